/- Printed by a program of ours: Lean functions that do what the Go functions do, and the contracts. -/
import Derived.Test.YtlbofhoehollfaaDoorMl0
import Derived.Test.YtlbofhoehollfaaDoorTypes
import Derived.Test.YtlbofhoehollfaaDoorMsTree
import Derived.Test.YtlbofhoehollfaaDoorDkErase
import Derived.Test.YtlbofhoehollfaaDoorDlTree
import Derived.Test.YtlbofhoehollfaaDoorMhTree
-- packed
namespace Go.Am.YtlbofhoehollfaaDoor
open Go Go.Am

def w_FnExactErase (n : Nat) (x1 : T) : Option Bool :=
 (w_szTree n x1 1048576).bind fun r2 =>
 if r2 < 0 then
  some true
 else
  (w_toTree n x1).bind fun r10 =>
  (s_Erase n r10).bind fun r17 =>
  (w_toTree n x1).bind fun r30 =>
  (i_Erase n r30).bind fun r37 =>
  (w_eqTree n r37.1 r17.1).bind fun r50 =>
  if (!r50) = true then
   some false
  else
   if (r37.2 != r17.2) = true then
    some false
   else
    (w_toTree n x1).bind fun r59 =>
    (w_eqTree n r30 r59).bind fun r66 =>
    if (!r66) = true then
     some false
    else
     (w_markTree r30 1).bind fun r74 =>
     if r74.2 < 0 then
      some false
     else
      (w_eqTree n r37.1 r17.1).bind fun r84 =>
      if (!r84) = true then
       some false
      else
       if (r37.2 != r17.2) = true then
        some false
       else
        (w_markTree r37.1 1).bind fun r93 =>
        (w_heldTree n (T.mk r37.1.kind r37.1.n r37.1.name r93.1) 1).bind fun r102 =>
        if r102 < 0 then
         some false
        else
         if (r102 != r93.2) = true then
          some false
         else
          (w_toTree n x1).bind fun r111 =>
          (i_Erase n r111).bind fun r118 =>
          (w_eqTree n r118.1 r17.1).bind fun r131 =>
          if (!r131) = true then
           some false
          else
           if (r118.2 != r17.2) = true then
            some false
           else
            (w_heldTree n (T.mk r37.1.kind r37.1.n r37.1.name r93.1) 1).bind fun r140 =>
            if r140 < 0 then
             some false
            else
             if (r140 != r93.2) = true then
              some false
             else
              some true

set_option maxHeartbeats 2000000 in
set_option maxRecDepth 100000 in
theorem w_FnExactErase_ok (n : Nat) : ∀ (k1 : Int) (n1 : Int) (s1 : ByteArray) (q1 : Nat) (f1 : Bool) (ks1 : List LT) {r : Bool}, w_FnExactErase n (T.mk k1 n1 s1 (ers ks1)) = some r → (∀ x ∈ tstoks q1 ks1, x = 0) → ∀ (O : Heap) (tk : Nat), O = (fun _ => none) → 2 ≤ tk → ACalls Go.Proofs.Tryd.prog 12 [.agg [.int .i64 k1, .int .i64 n1, .str s1, .imm q1 4 f1 (cellss ks1)]] O tk (RetX O tk (fun v tk' => v = .bool r)) := by
 intro k1 n1 s1 q1 f1 ks1 r hM ho0 O tk hOn h2tk
 unfold w_FnExactErase at hM
 refine acalls_of_run Go.Proofs.Tryd.func12 rfl rfl [] [] (Bor.nil _) [(0, .agg [.int .i64 k1, .int .i64 n1, .str s1, .imm q1 4 f1 (cellss ks1)])] (.cons (.agg _) (.nil _)) (leb rfl) (fun _ h => by cases h) (fun S0 hO htk hfz => ?_)
 refine run_sr ?_
 refine run_op rfl (box_step (d := 1) rfl rfl rfl rfl rfl) rfl (ltb rfl) ?_
 refine mvR rfl rfl rfl rfl (ltb rfl) ?_
 refine run_ops_nil ?_
 refine run_sr ?_
 refine mvR rfl rfl rfl rfl (ltb rfl) ?_
 refine run_ops_nil ?_
 refine run_sr ?_
 refine run_ld hG rfl rfl rfl rfl rfl (ltb rfl) ?_
 refine mvL rfl rfl rfl rfl (ltb rfl) ?_
 obtain ⟨r2, hg3, hM⟩ := bind_t hM
 refine run_call rfl rfl rfl (ltb rfl) rfl rfl rfl (fun _ h => absurd h List.not_mem_nil) (w_szTree_ok n k1 n1 s1 q1 f1 ks1 1048576 hg3 _ _) (callK_retX (fun v tk4 (hle5 : tk ≤ tk4) h6 => ?_))
 subst h6
 refine mvR rfl rfl rfl rfl (ltb rfl) ?_
 refine run_ops_nil ?_
 refine run_seq ?_
 refine run_sr ?_
 refine mvL rfl rfl rfl rfl (ltb rfl) ?_
 refine run_bin rfl rfl rfl rfl rfl rfl rfl (ltb rfl) ?_
 refine run_ops_nil ?_
 refine run_ifd rfl rfl (fun hb9 => ?_) (fun hb9 => ?_)
 ·replace hM := ite_t hb9 hM
  refine run_sr ?_
  refine mvR rfl rfl rfl rfl (ltb rfl) ?_
  refine run_ops_nil ?_
  refine run_ret_to ?_
  obtain rfl := some_t hM
  refine fin_x hG rfl rfl rfl (v' := .bool true) (by rfl) ⟨rfl, (show tk ≤ tk4 by omega), _, rfl, rfl⟩
 ·replace hM := ite_f hb9 hM
  refine run_skip ?_
  refine run_sr ?_
  refine run_ld hG rfl rfl rfl rfl rfl (ltb rfl) ?_
  obtain ⟨r10, hg11, hM⟩ := bind_t hM
  refine run_call rfl rfl rfl (ltb rfl) rfl rfl rfl (fun _ h => absurd h List.not_mem_nil) (w_toTree_ok n k1 n1 s1 q1 f1 ks1 hg11 _ _) (callK_retX (fun v tk12 (hle13 : tk4 ≤ tk12) h14 => ?_))
  obtain ⟨k15, n15, s15, q15, f15, ks15, rfl, rfl, hf16⟩ := h14
  obtain ⟨r17, hg18, hM⟩ := bind_t hM
  refine run_call rfl rfl rfl (ltb rfl) rfl rfl rfl (fun _ h => absurd h List.not_mem_nil) (s_Erase_ok n k15 n15 s15 q15 f15 ks15 hg18 _ _) (callK_retX (fun v tk19 (hle20 : tk12 ≤ tk19) h21 => ?_))
  obtain ⟨ra26, ra27, va28, va29, rfl, rfl, ⟨k22, n22, s22, q22, f22, ks22, rfl, rfl, hf23⟩, rfl⟩ := h21
  refine mvL rfl rfl rfl rfl (ltb rfl) ?_
  refine run_pu rfl (extract_step rfl rfl rfl) rfl (ltb rfl) ?_
  refine run_pu rfl (extract_step rfl rfl rfl) rfl (ltb rfl) ?_
  refine run_op rfl (alloc_step (d := 4) hG rfl rfl rfl) rfl (ltb rfl) ?_
  refine run_op0 rfl (store_step hG rfl rfl rfl rfl rfl rfl rfl rfl) rfl ?_
  refine mvR rfl rfl rfl rfl (ltb rfl) ?_
  refine run_ops_nil ?_
  refine run_sub_code (σ' := ⟨[(1, .optr (.loc 1) 0 0), (2, .bool false), (4, .optr (.loc 4) 0 0), (5, .int .i64 ra27)], [(4, ⟨33, 4, true, [[.int .i64 k22, .int .i64 n22, .str s22, .imm q22 4 f22 (cellss ks22)]]⟩), (1, ⟨28, 4, true, [[.int .i64 k1, .int .i64 n1, .str s1, .imm q1 4 f1 (cellss ks1)]]⟩)], [], O, tk19⟩) (Sub.env _ ⟨rfl, rfl, rfl, rfl, trivial⟩) ?_
  refine run_sr ?_
  refine run_ld hG rfl rfl rfl rfl rfl (ltb rfl) ?_
  obtain ⟨r30, hg31, hM⟩ := bind_t hM
  refine run_call rfl rfl rfl (ltb rfl) rfl rfl rfl (fun _ h => absurd h List.not_mem_nil) (w_toTree_ok n k1 n1 s1 q1 f1 ks1 hg31 _ _) (callK_retX (fun v tk32 (hle33 : tk19 ≤ tk32) h34 => ?_))
  obtain ⟨k35, n35, s35, q35, f35, ks35, rfl, rfl, hf36⟩ := h34
  refine run_op rfl (alloc_step (d := 6) hG rfl rfl rfl) rfl (ltb rfl) ?_
  refine run_op0 rfl (store_step hG rfl rfl rfl rfl rfl rfl rfl rfl) rfl ?_
  refine run_ops_nil ?_
  refine run_sr ?_
  refine run_ld hG rfl rfl rfl rfl rfl (ltb rfl) ?_
  obtain ⟨r37, hg38, hM⟩ := bind_t hM
  refine run_call rfl rfl rfl (ltb rfl) rfl rfl rfl (fun _ h => absurd h List.not_mem_nil) (i_Erase_ok n k35 n35 s35 q35 f35 ks35 hg38 _ _) (callK_retX (fun v tk39 (hle40 : tk32 ≤ tk39) h41 => ?_))
  obtain ⟨ra46, ra47, va48, va49, rfl, rfl, ⟨k42, n42, s42, q42, f42, ks42, rfl, rfl, hf43⟩, rfl⟩ := h41
  refine mvL rfl rfl rfl rfl (ltb rfl) ?_
  refine run_pu rfl (extract_step rfl rfl rfl) rfl (ltb rfl) ?_
  refine run_pu rfl (extract_step rfl rfl rfl) rfl (ltb rfl) ?_
  refine run_op rfl (alloc_step (d := 7) hG rfl rfl rfl) rfl (ltb rfl) ?_
  refine run_op0 rfl (store_step hG rfl rfl rfl rfl rfl rfl rfl rfl) rfl ?_
  refine mvR rfl rfl rfl rfl (ltb rfl) ?_
  refine run_ops_nil ?_
  refine run_seq ?_
  refine run_sr ?_
  refine run_ld hG rfl rfl rfl rfl rfl (ltb rfl) ?_
  refine run_ld hG rfl rfl rfl rfl rfl (ltb rfl) ?_
  obtain ⟨r50, hg51, hM⟩ := bind_t hM
  refine run_call rfl rfl rfl (ltb rfl) rfl rfl rfl (fun _ h => absurd h List.not_mem_nil) (w_eqTree_ok n k42 n42 s42 q42 f42 ks42 k22 n22 s22 q22 f22 ks22 hg51 _ _) (callK_retX (fun v tk52 (hle53 : tk39 ≤ tk52) h54 => ?_))
  subst h54
  refine run_pu rfl (aun_step rfl rfl rfl) rfl (ltb rfl) ?_
  refine mvL rfl rfl rfl rfl (ltb rfl) ?_
  refine run_splitb (i := 36) rfl (fun hb57 => ?_) (fun hb57 => ?_)
  ·replace hM := ite_t hb57 hM
   refine run_off (on_of rfl rfl rfl rfl) rfl (ltb rfl) ?_
   refine run_off (on_of rfl rfl rfl rfl) rfl (ltb rfl) ?_
   refine run_off (on_of rfl rfl rfl rfl) rfl (ltb rfl) ?_
   refine run_pu rfl (pick_step rfl rfl rfl) rfl (ltb rfl) ?_
   refine run_ops_nil ?_
   refine run_sub_code (σ' := ⟨[(1, .optr (.loc 1) 0 0), (2, .bool false), (4, .optr (.loc 4) 0 0), (5, .int .i64 ra27), (6, .optr (.loc 6) 0 0), (7, .optr (.loc 7) 0 0), (8, .int .i64 ra47), (40, .bool true)], [(7, ⟨33, 4, true, [[.int .i64 k42, .int .i64 n42, .str s42, .imm q42 4 f42 (cellss ks42)]]⟩), (6, ⟨33, 4, true, [[.int .i64 k35, .int .i64 n35, .str s35, .imm q35 4 f35 (cellss ks35)]]⟩), (4, ⟨33, 4, true, [[.int .i64 k22, .int .i64 n22, .str s22, .imm q22 4 f22 (cellss ks22)]]⟩), (1, ⟨28, 4, true, [[.int .i64 k1, .int .i64 n1, .str s1, .imm q1 4 f1 (cellss ks1)]]⟩)], [], O, tk52⟩) (Sub.env _ ⟨rfl, rfl, rfl, rfl, rfl, rfl, rfl, rfl, trivial⟩) ?_
   refine run_if rfl rfl (fun _ => ?_) (fun h => by cases h)
   refine run_sr ?_
   refine mvR rfl rfl rfl rfl (ltb rfl) ?_
   refine run_ops_nil ?_
   refine run_ret_to ?_
   obtain rfl := some_t hM
   refine fin_x hG rfl rfl rfl (v' := .bool false) (by rfl) ⟨rfl, (show tk ≤ tk52 by omega), _, rfl, rfl⟩
  ·replace hM := ite_f hb57 hM
   refine run_puG (on_of rfl rfl rfl rfl) (move_step (.inl rfl) rfl) rfl (ltb rfl) ?_
   refine run_puG (on_of rfl rfl rfl rfl) (move_step (.inl rfl) rfl) rfl (ltb rfl) ?_
   refine run_puG (on_of rfl rfl rfl rfl) (abin_step rfl rfl rfl rfl (fun _ h => by cases h)) rfl (ltb rfl) ?_
   refine run_pu rfl (pick_step rfl rfl rfl) rfl (ltb rfl) ?_
   refine run_ops_nil ?_
   refine run_sub_code (σ' := ⟨[(1, .optr (.loc 1) 0 0), (2, .bool false), (4, .optr (.loc 4) 0 0), (5, .int .i64 ra27), (6, .optr (.loc 6) 0 0), (7, .optr (.loc 7) 0 0), (8, .int .i64 ra47), (40, .bool (ra47 != ra27))], [(7, ⟨33, 4, true, [[.int .i64 k42, .int .i64 n42, .str s42, .imm q42 4 f42 (cellss ks42)]]⟩), (6, ⟨33, 4, true, [[.int .i64 k35, .int .i64 n35, .str s35, .imm q35 4 f35 (cellss ks35)]]⟩), (4, ⟨33, 4, true, [[.int .i64 k22, .int .i64 n22, .str s22, .imm q22 4 f22 (cellss ks22)]]⟩), (1, ⟨28, 4, true, [[.int .i64 k1, .int .i64 n1, .str s1, .imm q1 4 f1 (cellss ks1)]]⟩)], [], O, tk52⟩) (Sub.env _ ⟨rfl, rfl, rfl, rfl, rfl, rfl, rfl, rfl, trivial⟩) ?_
   refine run_ifb rfl rfl (fun hb58 => ?_) (fun hb58 => ?_)
   ·replace hM := ite_t hb58 hM
    refine run_sr ?_
    refine mvR rfl rfl rfl rfl (ltb rfl) ?_
    refine run_ops_nil ?_
    refine run_ret_to ?_
    obtain rfl := some_t hM
    refine fin_x hG rfl rfl rfl (v' := .bool false) (by rfl) ⟨rfl, (show tk ≤ tk52 by omega), _, rfl, rfl⟩
   ·replace hM := ite_f hb58 hM
    refine run_skip ?_
    refine run_seq ?_
    refine run_seq ?_
    refine run_draw [] (n := 5) mixed rfl (fun _ h => absurd h List.not_mem_nil) ?_
    refine AAny.take (i := 0) rfl (by kernel_rfl) (by kernel_rfl) (by kernel_rfl) rfl rfl (ltb rfl) (aload_rd hG rfl rfl rfl (by first | (simp [ldok]; done) | exact List.not_mem_nil | trivial)) ?_
    refine AAny.take (i := 1) rfl (by kernel_rfl) (by kernel_rfl) (by kernel_rfl) rfl rfl (ltb rfl) (aload_rd hG rfl rfl rfl (by first | (simp [ldok]; done) | exact List.not_mem_nil | trivial)) ?_
    obtain ⟨r59, hg60, hM⟩ := bind_t hM
    refine AAny.one (i := 2) (by kernel_rfl) (AOp.call rfl rfl rfl rfl (ltb rfl) rfl rfl rfl (fun _ h => absurd h List.not_mem_nil) (fun _ h => absurd h List.not_mem_nil) (w_toTree_ok n k1 n1 s1 q1 f1 ks1 hg60 _ _) (callK_retX (fun v tk61 (hle62 : tk52 ≤ tk61) h63 => ?_)))
    obtain ⟨k64, n64, s64, q64, f64, ks64, rfl, rfl, hf65⟩ := h63
    obtain ⟨r66, hg67, hM⟩ := bind_t hM
    refine AAny.one (i := 3) (by kernel_rfl) (AOp.call rfl rfl rfl rfl (ltb rfl) rfl rfl rfl (fun _ h => absurd h List.not_mem_nil) (fun _ h => absurd h List.not_mem_nil) (w_eqTree_ok n k35 n35 s35 q35 f35 ks35 k64 n64 s64 q64 f64 ks64 hg67 _ _) (callK_retX (fun v tk68 (hle69 : tk61 ≤ tk68) h70 => ?_)))
    subst h70
    refine AAny.take (i := 4) rfl (by kernel_rfl) (by kernel_rfl) (by kernel_rfl) rfl rfl (ltb rfl) ((aun_step rfl rfl rfl).rd _) ?_
    refine AAny.done (by kernel_rfl) ?_
    refine run_ifb rfl rfl (fun hb73 => ?_) (fun hb73 => ?_)
    ·replace hM := ite_t hb73 hM
     refine run_sr ?_
     refine mvR rfl rfl rfl rfl (ltb rfl) ?_
     refine run_ops_nil ?_
     refine run_ret_to ?_
     obtain rfl := some_t hM
     refine fin_x hG rfl rfl rfl (v' := .bool false) (by rfl) ⟨rfl, (show tk ≤ tk68 by omega), _, rfl, rfl⟩
    ·replace hM := ite_f hb73 hM
     refine run_skip ?_
     refine run_sr ?_
     refine mvR rfl rfl rfl rfl (ltb rfl) ?_
     refine run_ops_nil ?_
     refine run_sr ?_
     refine run_ld hG rfl rfl rfl rfl rfl (ltb rfl) ?_
     refine mvL rfl rfl rfl rfl (ltb rfl) ?_
     obtain ⟨r74, hg75, hM⟩ := bind_t hM
     refine run_callT rfl rfl rfl (ltb rfl) rfl rfl rfl rfl rfl hOn (fun x hx => by have := ((show Fr tk19 tk32 _ from (show Fr tk19 tk32 _ from hf36 rfl))).2 x hx; show S0.tk ≤ x; omega) (w_markTree_m k35 n35 s35 q35 f35 ks35 1 _ (Fr.ge (show Fr tk19 tk32 _ from (show Fr tk19 tk32 _ from hf36 rfl)) (by omega)) ((show Fr tk19 tk32 _ from (show Fr tk19 tk32 _ from hf36 rfl))).1 hg75) (fun out S' hR (hle77 : tk68 ≤ S'.tk) => ?_)
     obtain ⟨ks78, k79, rfl, rfl, _, hst80, hln81, hu82⟩ := hR
     generalize S'.tk = tk76 at hle77 ⊢
     refine ⟨_, rfl, rfl, GT q35 f35 ks35 ks78, GT.turned (Fr.ge (show Fr tk19 tk32 _ from (show Fr tk19 tk32 _ from hf36 rfl)) (by omega)) hst80 hln81 hu82, [(1, .optr (.loc 1) 0 0), (2, .bool false), (4, .optr (.loc 4) 0 0), (5, .int .i64 ra27), (6, .optr (.loc 6) 0 0), (7, .optr (.loc 7) 0 0), (8, .int .i64 ra47), (40, .bool (ra47 != ra27)), (41, .agg [.int .i64 k35, .int .i64 n35, .str s35, .imm q35 4 f35 (cellss ks78)]), (42, .agg [.int .i64 k1, .int .i64 n1, .str s1, .imm q1 4 f1 (cellss ks1)]), (43, .agg [.int .i64 k64, .int .i64 n64, .str s64, .imm q64 4 f64 (cellss ks64)]), (44, .bool r66), (45, .bool (!r66)), (9, .int .i64 1), (46, .agg [.int .i64 k35, .int .i64 n35, .str s35, .imm q35 4 f35 (cellss ks78)]), (47, .int .i64 1)], [(7, ⟨33, 4, true, [[.int .i64 k42, .int .i64 n42, .str s42, .imm q42 4 f42 (cellss ks42)]]⟩), (6, ⟨33, 4, true, [[.int .i64 k35, .int .i64 n35, .str s35, .imm q35 4 f35 (cellss ks78)]]⟩), (4, ⟨33, 4, true, [[.int .i64 k22, .int .i64 n22, .str s22, .imm q22 4 f22 (cellss ks22)]]⟩), (1, ⟨28, 4, true, [[.int .i64 k1, .int .i64 n1, .str s1, .imm q1 4 f1 (cellss ks1)]]⟩)], (.cons _ _ _ _ rfl (.optr _ _ _) (.cons _ _ _ _ rfl (Tn.av (.bool _)) (.cons _ _ _ _ rfl (.optr _ _ _) (.cons _ _ _ _ rfl (Tn.av (.int _ _)) (.cons _ _ _ _ rfl (.optr _ _ _) (.cons _ _ _ _ rfl (.optr _ _ _) (.cons _ _ _ _ rfl (Tn.av (.int _ _)) (.cons _ _ _ _ rfl (Tn.av (.bool _)) (.cons _ _ _ _ rfl (TnCs.agg (.cons _ _ _ _ (Tn.av (.int _ _)) (.cons _ _ _ _ (Tn.av (.int _ _)) (.cons _ _ _ _ (Tn.av (.str _)) (.cons _ _ _ _ (GT.tn hln81) .nil)))) rfl) (.cons _ _ _ _ rfl (TnCs.agg (.cons _ _ _ _ (Tn.av (.int _ _)) (.cons _ _ _ _ (Tn.av (.int _ _)) (.cons _ _ _ _ (Tn.av (.str _)) (.cons _ _ _ _ (Tn.av (ts_av (old_av ho0))) .nil)))) rfl) (.cons _ _ _ _ rfl (TnCs.agg (.cons _ _ _ _ (Tn.av (.int _ _)) (.cons _ _ _ _ (Tn.av (.int _ _)) (.cons _ _ _ _ (Tn.av (.str _)) (.cons _ _ _ _ (Tn.av (ts_av (fr_av (show Fr tk52 tk61 _ from (show Fr tk52 tk61 _ from hf65 rfl)) (show Fr tk19 tk32 _ from (show Fr tk19 tk32 _ from hf36 rfl)) (by omega) (by omega)))) .nil)))) rfl) (.cons _ _ _ _ rfl (Tn.av (.bool _)) (.cons _ _ _ _ rfl (Tn.av (.bool _)) (.cons _ _ _ _ rfl (Tn.av (.int _ _)) (.cons _ _ _ _ rfl (TnCs.agg (.cons _ _ _ _ (Tn.av (.int _ _)) (.cons _ _ _ _ (Tn.av (.int _ _)) (.cons _ _ _ _ (Tn.av (.str _)) (.cons _ _ _ _ (GT.tn hln81) .nil)))) rfl) (.cons _ _ _ _ rfl (Tn.av (.int _ _)) .nil)))))))))))))))), (.cons _ _ _ _ _ (TnCs.box (.cons _ _ _ _ (Tn.av (.int _ _)) (.cons _ _ _ _ (Tn.av (.int _ _)) (.cons _ _ _ _ (Tn.av (.str _)) (.cons _ _ _ _ (Tn.av (ts_av (fr_av (show Fr tk32 tk39 _ from (show Fr tk32 tk39 _ from hf43 rfl)) (show Fr tk19 tk32 _ from (show Fr tk19 tk32 _ from hf36 rfl)) (by omega) (by omega)))) .nil)))) rfl) (.cons _ _ _ _ _ (TnCs.box (.cons _ _ _ _ (Tn.av (.int _ _)) (.cons _ _ _ _ (Tn.av (.int _ _)) (.cons _ _ _ _ (Tn.av (.str _)) (.cons _ _ _ _ (GT.tn hln81) .nil)))) rfl) (.cons _ _ _ _ _ (TnCs.box (.cons _ _ _ _ (Tn.av (.int _ _)) (.cons _ _ _ _ (Tn.av (.int _ _)) (.cons _ _ _ _ (Tn.av (.str _)) (.cons _ _ _ _ (Tn.av (ts_av (fr_av (show Fr tk12 tk19 _ from (show Fr tk12 tk19 _ from hf23 rfl)) (show Fr tk19 tk32 _ from (show Fr tk19 tk32 _ from hf36 rfl)) (by omega) (by omega)))) .nil)))) rfl) (.cons _ _ _ _ _ (TnCs.box (.cons _ _ _ _ (Tn.av (.int _ _)) (.cons _ _ _ _ (Tn.av (.int _ _)) (.cons _ _ _ _ (Tn.av (.str _)) (.cons _ _ _ _ (Tn.av (ts_av (old_av ho0))) .nil)))) rfl) .nil)))), ?_⟩
     refine mvR rfl rfl rfl rfl (ltb rfl) ?_
     refine run_ops_nil ?_
     refine run_seq ?_
     refine run_sr ?_
     refine mvL rfl rfl rfl rfl (ltb rfl) ?_
     refine run_bin rfl rfl rfl rfl rfl rfl rfl (ltb rfl) ?_
     refine mvL rfl rfl rfl rfl (ltb rfl) ?_
     refine run_splitd (i := 51) rfl (fun hb83 => ?_) (fun hb83 => ?_)
     ·replace hM := ite_t hb83 hM
      refine run_off (on_of rfl rfl rfl rfl) rfl (ltb rfl) ?_
      refine run_off (on_of rfl rfl rfl rfl) rfl (ltb rfl) ?_
      refine run_off (on_of rfl rfl rfl rfl) rfl (ltb rfl) ?_
      refine run_off (on_of rfl rfl rfl rfl) rfl (ltb rfl) ?_
      refine run_pu rfl (pick_step rfl rfl rfl) rfl (ltb rfl) ?_
      refine mvL rfl rfl rfl rfl (ltb rfl) ?_
      refine run_off (on_of rfl rfl rfl rfl) rfl (ltb rfl) ?_
      refine run_off (on_of rfl rfl rfl rfl) rfl (ltb rfl) ?_
      refine run_off (on_of rfl rfl rfl rfl) rfl (ltb rfl) ?_
      refine run_pu rfl (pick_step rfl rfl rfl) rfl (ltb rfl) ?_
      refine run_ops_nil ?_
      refine run_sub_code (σ' := ⟨[(1, .optr (.loc 1) 0 0), (2, .bool false), (4, .optr (.loc 4) 0 0), (5, .int .i64 ra27), (7, .optr (.loc 7) 0 0), (61, .bool true)], [(7, ⟨33, 4, true, [[.int .i64 k42, .int .i64 n42, .str s42, .imm q42 4 f42 (cellss ks42)]]⟩), (4, ⟨33, 4, true, [[.int .i64 k22, .int .i64 n22, .str s22, .imm q22 4 f22 (cellss ks22)]]⟩), (1, ⟨28, 4, true, [[.int .i64 k1, .int .i64 n1, .str s1, .imm q1 4 f1 (cellss ks1)]]⟩)], [], O, tk76⟩) (Sub.trans (Sub.drop (k := 6) rfl) (Sub.env _ ⟨rfl, rfl, rfl, rfl, rfl, rfl, trivial⟩)) ?_
      refine run_if rfl rfl (fun _ => ?_) (fun h => by cases h)
      refine run_sr ?_
      refine mvR rfl rfl rfl rfl (ltb rfl) ?_
      refine run_ops_nil ?_
      refine run_ret_to ?_
      obtain rfl := some_t hM
      refine fin_x hG rfl rfl rfl (v' := .bool false) (by rfl) ⟨rfl, (show tk ≤ tk76 by omega), _, rfl, rfl⟩
     ·replace hM := ite_f hb83 hM
      refine run_rdG (on_of rfl rfl rfl rfl) (aload_rd hG rfl rfl rfl (by first | (simp [ldok]; done) | exact List.not_mem_nil | trivial)) rfl (ltb rfl) ?_
      refine run_rdG (on_of rfl rfl rfl rfl) (aload_rd hG rfl rfl rfl (by first | (simp [ldok]; done) | exact List.not_mem_nil | trivial)) rfl (ltb rfl) ?_
      obtain ⟨r84, hg85, hM⟩ := bind_t hM
      refine run_callG (on_of rfl rfl rfl rfl) rfl rfl (ltb rfl) rfl rfl rfl (fun _ h => absurd h List.not_mem_nil) (w_eqTree_ok n k42 n42 s42 q42 f42 ks42 k22 n22 s22 q22 f22 ks22 hg85 _ _) (callK_retX (fun v tk86 (hle87 : tk76 ≤ tk86) h88 => ?_))
      subst h88
      refine run_puG (on_of rfl rfl rfl rfl) (aun_step rfl rfl rfl) rfl (ltb rfl) ?_
      refine run_pu rfl (pick_step rfl rfl rfl) rfl (ltb rfl) ?_
      refine mvL rfl rfl rfl rfl (ltb rfl) ?_
      refine run_splitb (i := 57) rfl (fun hb91 => ?_) (fun hb91 => ?_)
      ·replace hM := ite_t hb91 hM
       refine run_off (on_of rfl rfl rfl rfl) rfl (ltb rfl) ?_
       refine run_off (on_of rfl rfl rfl rfl) rfl (ltb rfl) ?_
       refine run_off (on_of rfl rfl rfl rfl) rfl (ltb rfl) ?_
       refine run_pu rfl (pick_step rfl rfl rfl) rfl (ltb rfl) ?_
       refine run_ops_nil ?_
       refine run_sub_code (σ' := ⟨[(1, .optr (.loc 1) 0 0), (2, .bool false), (4, .optr (.loc 4) 0 0), (5, .int .i64 ra27), (7, .optr (.loc 7) 0 0), (61, .bool true)], [(7, ⟨33, 4, true, [[.int .i64 k42, .int .i64 n42, .str s42, .imm q42 4 f42 (cellss ks42)]]⟩), (4, ⟨33, 4, true, [[.int .i64 k22, .int .i64 n22, .str s22, .imm q22 4 f22 (cellss ks22)]]⟩), (1, ⟨28, 4, true, [[.int .i64 k1, .int .i64 n1, .str s1, .imm q1 4 f1 (cellss ks1)]]⟩)], [], O, tk86⟩) (Sub.trans (Sub.drop (k := 6) rfl) (Sub.env _ ⟨rfl, rfl, rfl, rfl, rfl, rfl, trivial⟩)) ?_
       refine run_if rfl rfl (fun _ => ?_) (fun h => by cases h)
       refine run_sr ?_
       refine mvR rfl rfl rfl rfl (ltb rfl) ?_
       refine run_ops_nil ?_
       refine run_ret_to ?_
       obtain rfl := some_t hM
       refine fin_x hG rfl rfl rfl (v' := .bool false) (by rfl) ⟨rfl, (show tk ≤ tk86 by omega), _, rfl, rfl⟩
      ·replace hM := ite_f hb91 hM
       refine run_puG (on_of rfl rfl rfl rfl) (move_step (.inl rfl) rfl) rfl (ltb rfl) ?_
       refine run_puG (on_of rfl rfl rfl rfl) (move_step (.inl rfl) rfl) rfl (ltb rfl) ?_
       refine run_puG (on_of rfl rfl rfl rfl) (abin_step rfl rfl rfl rfl (fun _ h => by cases h)) rfl (ltb rfl) ?_
       refine run_pu rfl (pick_step rfl rfl rfl) rfl (ltb rfl) ?_
       refine run_ops_nil ?_
       refine run_sub_code (σ' := ⟨[(1, .optr (.loc 1) 0 0), (2, .bool false), (4, .optr (.loc 4) 0 0), (5, .int .i64 ra27), (7, .optr (.loc 7) 0 0), (61, .bool (ra47 != ra27))], [(7, ⟨33, 4, true, [[.int .i64 k42, .int .i64 n42, .str s42, .imm q42 4 f42 (cellss ks42)]]⟩), (4, ⟨33, 4, true, [[.int .i64 k22, .int .i64 n22, .str s22, .imm q22 4 f22 (cellss ks22)]]⟩), (1, ⟨28, 4, true, [[.int .i64 k1, .int .i64 n1, .str s1, .imm q1 4 f1 (cellss ks1)]]⟩)], [], O, tk86⟩) (Sub.trans (Sub.drop (k := 6) rfl) (Sub.env _ ⟨rfl, rfl, rfl, rfl, rfl, rfl, trivial⟩)) ?_
       refine run_ifb rfl rfl (fun hb92 => ?_) (fun hb92 => ?_)
       ·replace hM := ite_t hb92 hM
        refine run_sr ?_
        refine mvR rfl rfl rfl rfl (ltb rfl) ?_
        refine run_ops_nil ?_
        refine run_ret_to ?_
        obtain rfl := some_t hM
        refine fin_x hG rfl rfl rfl (v' := .bool false) (by rfl) ⟨rfl, (show tk ≤ tk86 by omega), _, rfl, rfl⟩
       ·replace hM := ite_f hb92 hM
        refine run_skip ?_
        refine run_sr ?_
        refine mvR rfl rfl rfl rfl (ltb rfl) ?_
        refine run_ops_nil ?_
        refine run_sr ?_
        refine run_ld hG rfl rfl rfl rfl rfl (ltb rfl) ?_
        refine mvL rfl rfl rfl rfl (ltb rfl) ?_
        obtain ⟨r93, hg94, hM⟩ := bind_t hM
        refine run_callT rfl rfl rfl (ltb rfl) rfl rfl rfl rfl rfl hOn (fun x hx => by have := ((show Fr tk32 tk39 _ from (show Fr tk32 tk39 _ from hf43 rfl))).2 x hx; show S0.tk ≤ x; omega) (w_markTree_m k42 n42 s42 q42 f42 ks42 1 _ (Fr.ge (show Fr tk32 tk39 _ from (show Fr tk32 tk39 _ from hf43 rfl)) (by omega)) ((show Fr tk32 tk39 _ from (show Fr tk32 tk39 _ from hf43 rfl))).1 hg94) (fun out S' hR (hle96 : tk86 ≤ S'.tk) => ?_)
        obtain ⟨ks97, k98, rfl, rfl, _, hst99, hln100, hu101⟩ := hR
        generalize S'.tk = tk95 at hle96 ⊢
        refine ⟨_, rfl, rfl, GT q42 f42 ks42 ks97, GT.turned (Fr.ge (show Fr tk32 tk39 _ from (show Fr tk32 tk39 _ from hf43 rfl)) (by omega)) hst99 hln100 hu101, [(1, .optr (.loc 1) 0 0), (2, .bool false), (4, .optr (.loc 4) 0 0), (5, .int .i64 ra27), (7, .optr (.loc 7) 0 0), (61, .bool (ra47 != ra27)), (10, .int .i64 1), (62, .agg [.int .i64 k42, .int .i64 n42, .str s42, .imm q42 4 f42 (cellss ks97)]), (63, .int .i64 1)], [(7, ⟨33, 4, true, [[.int .i64 k42, .int .i64 n42, .str s42, .imm q42 4 f42 (cellss ks97)]]⟩), (4, ⟨33, 4, true, [[.int .i64 k22, .int .i64 n22, .str s22, .imm q22 4 f22 (cellss ks22)]]⟩), (1, ⟨28, 4, true, [[.int .i64 k1, .int .i64 n1, .str s1, .imm q1 4 f1 (cellss ks1)]]⟩)], (.cons _ _ _ _ rfl (.optr _ _ _) (.cons _ _ _ _ rfl (Tn.av (.bool _)) (.cons _ _ _ _ rfl (.optr _ _ _) (.cons _ _ _ _ rfl (Tn.av (.int _ _)) (.cons _ _ _ _ rfl (.optr _ _ _) (.cons _ _ _ _ rfl (Tn.av (.bool _)) (.cons _ _ _ _ rfl (Tn.av (.int _ _)) (.cons _ _ _ _ rfl (TnCs.agg (.cons _ _ _ _ (Tn.av (.int _ _)) (.cons _ _ _ _ (Tn.av (.int _ _)) (.cons _ _ _ _ (Tn.av (.str _)) (.cons _ _ _ _ (GT.tn hln100) .nil)))) rfl) (.cons _ _ _ _ rfl (Tn.av (.int _ _)) .nil))))))))), (.cons _ _ _ _ _ (TnCs.box (.cons _ _ _ _ (Tn.av (.int _ _)) (.cons _ _ _ _ (Tn.av (.int _ _)) (.cons _ _ _ _ (Tn.av (.str _)) (.cons _ _ _ _ (GT.tn hln100) .nil)))) rfl) (.cons _ _ _ _ _ (TnCs.box (.cons _ _ _ _ (Tn.av (.int _ _)) (.cons _ _ _ _ (Tn.av (.int _ _)) (.cons _ _ _ _ (Tn.av (.str _)) (.cons _ _ _ _ (Tn.av (ts_av (fr_av (show Fr tk12 tk19 _ from (show Fr tk12 tk19 _ from hf23 rfl)) (show Fr tk32 tk39 _ from (show Fr tk32 tk39 _ from hf43 rfl)) (by omega) (by omega)))) .nil)))) rfl) (.cons _ _ _ _ _ (TnCs.box (.cons _ _ _ _ (Tn.av (.int _ _)) (.cons _ _ _ _ (Tn.av (.int _ _)) (.cons _ _ _ _ (Tn.av (.str _)) (.cons _ _ _ _ (Tn.av (ts_av (old_av ho0))) .nil)))) rfl) .nil))), ?_⟩
        refine mvR rfl rfl rfl rfl (ltb rfl) ?_
        refine run_ops_nil ?_
        refine run_sr ?_
        refine mvR rfl rfl rfl rfl (ltb rfl) ?_
        refine run_ops_nil ?_
        refine run_sr ?_
        refine run_ld hG rfl rfl rfl rfl rfl (ltb rfl) ?_
        refine mvL rfl rfl rfl rfl (ltb rfl) ?_
        obtain ⟨r102, hg103, hM⟩ := bind_t hM
        refine run_call rfl rfl rfl (ltb rfl) rfl rfl rfl (fun _ h => absurd h List.not_mem_nil) (w_heldTree_ok n k42 n42 s42 q42 f42 ks97 1 hg103 _ _) (callK_retX (fun v tk104 (hle105 : tk95 ≤ tk104) h106 => ?_))
        subst h106
        refine mvR rfl rfl rfl rfl (ltb rfl) ?_
        refine run_ops_nil ?_
        refine run_seq ?_
        refine run_sr ?_
        refine mvL rfl rfl rfl rfl (ltb rfl) ?_
        refine run_bin rfl rfl rfl rfl rfl rfl rfl (ltb rfl) ?_
        refine run_ops_nil ?_
        refine run_ifd rfl rfl (fun hb109 => ?_) (fun hb109 => ?_)
        ·replace hM := ite_t hb109 hM
         refine run_sr ?_
         refine mvR rfl rfl rfl rfl (ltb rfl) ?_
         refine run_ops_nil ?_
         refine run_ret_to ?_
         obtain rfl := some_t hM
         refine fin_x hG rfl rfl rfl (v' := .bool false) (by rfl) ⟨rfl, (show tk ≤ tk104 by omega), _, rfl, rfl⟩
        ·replace hM := ite_f hb109 hM
         refine run_skip ?_
         refine run_seq ?_
         refine run_sr ?_
         refine mvL rfl rfl rfl rfl (ltb rfl) ?_
         refine mvL rfl rfl rfl rfl (ltb rfl) ?_
         refine run_bin rfl rfl rfl rfl rfl rfl rfl (ltb rfl) ?_
         refine run_ops_nil ?_
         refine run_sub_code (σ' := ⟨[(1, .optr (.loc 1) 0 0), (2, .bool false), (4, .optr (.loc 4) 0 0), (5, .int .i64 ra27), (7, .optr (.loc 7) 0 0), (10, .int .i64 k98), (11, .int .i64 r102), (72, .bool (r102 != k98))], [(7, ⟨33, 4, true, [[.int .i64 k42, .int .i64 n42, .str s42, .imm q42 4 f42 (cellss ks97)]]⟩), (4, ⟨33, 4, true, [[.int .i64 k22, .int .i64 n22, .str s22, .imm q22 4 f22 (cellss ks22)]]⟩), (1, ⟨28, 4, true, [[.int .i64 k1, .int .i64 n1, .str s1, .imm q1 4 f1 (cellss ks1)]]⟩)], [], O, tk104⟩) (Sub.env _ ⟨rfl, rfl, rfl, rfl, rfl, rfl, rfl, rfl, trivial⟩) ?_
         refine run_ifb rfl rfl (fun hb110 => ?_) (fun hb110 => ?_)
         ·replace hM := ite_t hb110 hM
          refine run_sr ?_
          refine mvR rfl rfl rfl rfl (ltb rfl) ?_
          refine run_ops_nil ?_
          refine run_ret_to ?_
          obtain rfl := some_t hM
          refine fin_x hG rfl rfl rfl (v' := .bool false) (by rfl) ⟨rfl, (show tk ≤ tk104 by omega), _, rfl, rfl⟩
         ·replace hM := ite_f hb110 hM
          refine run_skip ?_
          refine run_sr ?_
          refine run_ld hG rfl rfl rfl rfl rfl (ltb rfl) ?_
          obtain ⟨r111, hg112, hM⟩ := bind_t hM
          refine run_call rfl rfl rfl (ltb rfl) rfl rfl rfl (fun _ h => absurd h List.not_mem_nil) (w_toTree_ok n k1 n1 s1 q1 f1 ks1 hg112 _ _) (callK_retX (fun v tk113 (hle114 : tk104 ≤ tk113) h115 => ?_))
          obtain ⟨k116, n116, s116, q116, f116, ks116, rfl, rfl, hf117⟩ := h115
          obtain ⟨r118, hg119, hM⟩ := bind_t hM
          refine run_call rfl rfl rfl (ltb rfl) rfl rfl rfl (fun _ h => absurd h List.not_mem_nil) (i_Erase_ok n k116 n116 s116 q116 f116 ks116 hg119 _ _) (callK_retX (fun v tk120 (hle121 : tk113 ≤ tk120) h122 => ?_))
          obtain ⟨ra127, ra128, va129, va130, rfl, rfl, ⟨k123, n123, s123, q123, f123, ks123, rfl, rfl, hf124⟩, rfl⟩ := h122
          refine mvL rfl rfl rfl rfl (ltb rfl) ?_
          refine run_pu rfl (extract_step rfl rfl rfl) rfl (ltb rfl) ?_
          refine run_pu rfl (extract_step rfl rfl rfl) rfl (ltb rfl) ?_
          refine run_op rfl (alloc_step (d := 12) hG rfl rfl rfl) rfl (ltb rfl) ?_
          refine run_op0 rfl (store_step hG rfl rfl rfl rfl rfl rfl rfl rfl) rfl ?_
          refine mvR rfl rfl rfl rfl (ltb rfl) ?_
          refine run_ops_nil ?_
          refine run_seq ?_
          refine run_sr ?_
          refine run_ld hG rfl rfl rfl rfl rfl (ltb rfl) ?_
          refine run_ld hG rfl rfl rfl rfl rfl (ltb rfl) ?_
          obtain ⟨r131, hg132, hM⟩ := bind_t hM
          refine run_call rfl rfl rfl (ltb rfl) rfl rfl rfl (fun _ h => absurd h List.not_mem_nil) (w_eqTree_ok n k123 n123 s123 q123 f123 ks123 k22 n22 s22 q22 f22 ks22 hg132 _ _) (callK_retX (fun v tk133 (hle134 : tk120 ≤ tk133) h135 => ?_))
          subst h135
          refine run_pu rfl (aun_step rfl rfl rfl) rfl (ltb rfl) ?_
          refine mvL rfl rfl rfl rfl (ltb rfl) ?_
          refine run_splitb (i := 83) rfl (fun hb138 => ?_) (fun hb138 => ?_)
          ·replace hM := ite_t hb138 hM
           refine run_off (on_of rfl rfl rfl rfl) rfl (ltb rfl) ?_
           refine run_off (on_of rfl rfl rfl rfl) rfl (ltb rfl) ?_
           refine run_off (on_of rfl rfl rfl rfl) rfl (ltb rfl) ?_
           refine run_pu rfl (pick_step rfl rfl rfl) rfl (ltb rfl) ?_
           refine run_ops_nil ?_
           refine run_sub_code (σ' := ⟨[(2, .bool false), (7, .optr (.loc 7) 0 0), (10, .int .i64 k98), (11, .int .i64 r102), (87, .bool true)], [(7, ⟨33, 4, true, [[.int .i64 k42, .int .i64 n42, .str s42, .imm q42 4 f42 (cellss ks97)]]⟩)], [], O, tk133⟩) (Sub.trans (Sub.drop (k := 12) rfl) (Sub.trans (Sub.drop (k := 4) rfl) (Sub.trans (Sub.drop (k := 1) rfl) (Sub.env _ ⟨rfl, rfl, rfl, rfl, rfl, trivial⟩)))) ?_
           refine run_if rfl rfl (fun _ => ?_) (fun h => by cases h)
           refine run_sr ?_
           refine mvR rfl rfl rfl rfl (ltb rfl) ?_
           refine run_ops_nil ?_
           refine run_ret_to ?_
           obtain rfl := some_t hM
           refine fin_x hG rfl rfl rfl (v' := .bool false) (by rfl) ⟨rfl, (show tk ≤ tk133 by omega), _, rfl, rfl⟩
          ·replace hM := ite_f hb138 hM
           refine run_puG (on_of rfl rfl rfl rfl) (move_step (.inl rfl) rfl) rfl (ltb rfl) ?_
           refine run_puG (on_of rfl rfl rfl rfl) (move_step (.inl rfl) rfl) rfl (ltb rfl) ?_
           refine run_puG (on_of rfl rfl rfl rfl) (abin_step rfl rfl rfl rfl (fun _ h => by cases h)) rfl (ltb rfl) ?_
           refine run_pu rfl (pick_step rfl rfl rfl) rfl (ltb rfl) ?_
           refine run_ops_nil ?_
           refine run_sub_code (σ' := ⟨[(2, .bool false), (7, .optr (.loc 7) 0 0), (10, .int .i64 k98), (11, .int .i64 r102), (87, .bool (ra128 != ra27))], [(7, ⟨33, 4, true, [[.int .i64 k42, .int .i64 n42, .str s42, .imm q42 4 f42 (cellss ks97)]]⟩)], [], O, tk133⟩) (Sub.trans (Sub.drop (k := 12) rfl) (Sub.trans (Sub.drop (k := 4) rfl) (Sub.trans (Sub.drop (k := 1) rfl) (Sub.env _ ⟨rfl, rfl, rfl, rfl, rfl, trivial⟩)))) ?_
           refine run_ifb rfl rfl (fun hb139 => ?_) (fun hb139 => ?_)
           ·replace hM := ite_t hb139 hM
            refine run_sr ?_
            refine mvR rfl rfl rfl rfl (ltb rfl) ?_
            refine run_ops_nil ?_
            refine run_ret_to ?_
            obtain rfl := some_t hM
            refine fin_x hG rfl rfl rfl (v' := .bool false) (by rfl) ⟨rfl, (show tk ≤ tk133 by omega), _, rfl, rfl⟩
           ·replace hM := ite_f hb139 hM
            refine run_skip ?_
            refine run_sr ?_
            refine mvR rfl rfl rfl rfl (ltb rfl) ?_
            refine run_ops_nil ?_
            refine run_sr ?_
            refine run_ld hG rfl rfl rfl rfl rfl (ltb rfl) ?_
            refine mvL rfl rfl rfl rfl (ltb rfl) ?_
            obtain ⟨r140, hg141, hM⟩ := bind_t hM
            refine run_call rfl rfl rfl (ltb rfl) rfl rfl rfl (fun _ h => absurd h List.not_mem_nil) (w_heldTree_ok n k42 n42 s42 q42 f42 ks97 1 hg141 _ _) (callK_retX (fun v tk142 (hle143 : tk133 ≤ tk142) h144 => ?_))
            subst h144
            refine mvR rfl rfl rfl rfl (ltb rfl) ?_
            refine run_ops_nil ?_
            refine run_seq ?_
            refine run_sr ?_
            refine mvL rfl rfl rfl rfl (ltb rfl) ?_
            refine run_bin rfl rfl rfl rfl rfl rfl rfl (ltb rfl) ?_
            refine run_ops_nil ?_
            refine run_ifd rfl rfl (fun hb147 => ?_) (fun hb147 => ?_)
            ·replace hM := ite_t hb147 hM
             refine run_sr ?_
             refine mvR rfl rfl rfl rfl (ltb rfl) ?_
             refine run_ops_nil ?_
             refine run_ret_to ?_
             obtain rfl := some_t hM
             refine fin_x hG rfl rfl rfl (v' := .bool false) (by rfl) ⟨rfl, (show tk ≤ tk142 by omega), _, rfl, rfl⟩
            ·replace hM := ite_f hb147 hM
             refine run_skip ?_
             refine run_seq ?_
             refine run_sr ?_
             refine mvL rfl rfl rfl rfl (ltb rfl) ?_
             refine mvL rfl rfl rfl rfl (ltb rfl) ?_
             refine run_bin rfl rfl rfl rfl rfl rfl rfl (ltb rfl) ?_
             refine run_ops_nil ?_
             refine run_ifb rfl rfl (fun hb148 => ?_) (fun hb148 => ?_)
             ·replace hM := ite_t hb148 hM
              refine run_sr ?_
              refine mvR rfl rfl rfl rfl (ltb rfl) ?_
              refine run_ops_nil ?_
              refine run_ret_to ?_
              obtain rfl := some_t hM
              refine fin_x hG rfl rfl rfl (v' := .bool false) (by rfl) ⟨rfl, (show tk ≤ tk142 by omega), _, rfl, rfl⟩
             ·replace hM := ite_f hb148 hM
              refine run_skip ?_
              refine run_sr ?_
              refine mvR rfl rfl rfl rfl (ltb rfl) ?_
              refine run_ops_nil ?_
              refine run_ret_to ?_
              obtain rfl := some_t hM
              refine fin_x hG rfl rfl rfl (v' := .bool true) (by rfl) ⟨rfl, (show tk ≤ tk142 by omega), _, rfl, rfl⟩

end Go.Am.YtlbofhoehollfaaDoor
