/- Printed by a program of ours: Lean functions that do what the Go functions do, and the contracts. -/
import Derived.Test.YtiobknkpdkkikaaDoorMl0
import Derived.Test.YtiobknkpdkkikaaDoorTypes
import Derived.Test.YtiobknkpdkkikaaDoorMsTree
import Derived.Test.YtiobknkpdkkikaaDoorEkLong
import Derived.Test.YtiobknkpdkkikaaDoorDlTree
import Derived.Test.YtiobknkpdkkikaaDoorMhTree
-- packed
namespace Go.Am.YtiobknkpdkkikaaDoor
open Go Go.Am

def w_FnExactLong (n : Nat) (i1 : Int) (x2 : T) : Option Bool :=
 (w_szTree n x2 1048576).bind fun r3 =>
 if r3 < 0 then
  some true
 else
  (w_toTree n x2).bind fun r11 =>
  (s_Long n i1 r11).bind fun r18 =>
  (w_toTree n x2).bind fun r31 =>
  (i_Long n i1 r31).bind fun r38 =>
  (w_eqTree n r38.1 r18.1).bind fun r51 =>
  if (!r51) = true then
   some false
  else
   if (r38.2 != r18.2) = true then
    some false
   else
    (w_toTree n x2).bind fun r60 =>
    (w_eqTree n r31 r60).bind fun r67 =>
    if (!r67) = true then
     some false
    else
     (w_markTree r31 1).bind fun r75 =>
     if r75.2 < 0 then
      some false
     else
      (w_eqTree n r38.1 r18.1).bind fun r85 =>
      if (!r85) = true then
       some false
      else
       if (r38.2 != r18.2) = true then
        some false
       else
        (w_markTree r38.1 1).bind fun r94 =>
        (w_heldTree n (T.mk r38.1.kind r38.1.n r38.1.name r94.1) 1).bind fun r103 =>
        if r103 < 0 then
         some false
        else
         if (r103 != r94.2) = true then
          some false
         else
          (w_toTree n x2).bind fun r112 =>
          (i_Long n i1 r112).bind fun r119 =>
          (w_eqTree n r119.1 r18.1).bind fun r132 =>
          if (!r132) = true then
           some false
          else
           if (r119.2 != r18.2) = true then
            some false
           else
            (w_heldTree n (T.mk r38.1.kind r38.1.n r38.1.name r94.1) 1).bind fun r141 =>
            if r141 < 0 then
             some false
            else
             if (r141 != r94.2) = true then
              some false
             else
              some true

set_option maxHeartbeats 2000000 in
set_option maxRecDepth 100000 in
theorem w_FnExactLong_ok (n : Nat) : ∀ (i1 : Int) (k2 : Int) (n2 : Int) (s2 : ByteArray) (q2 : Nat) (f2 : Bool) (ks2 : List LT) {r : Bool}, w_FnExactLong n i1 (T.mk k2 n2 s2 (ers ks2)) = some r → (∀ x ∈ tstoks q2 ks2, x = 0) → ∀ (O : Heap) (tk : Nat), O = (fun _ => none) → 2 ≤ tk → ACalls Go.Proofs.Tryd.prog 6 [.int .i64 i1, .agg [.int .i64 k2, .int .i64 n2, .str s2, .imm q2 4 f2 (cellss ks2)]] O tk (RetX O tk (fun v tk' => v = .bool r)) := by
 intro i1 k2 n2 s2 q2 f2 ks2 r hM ho0 O tk hOn h2tk
 unfold w_FnExactLong at hM
 refine acalls_of_run Go.Proofs.Tryd.func6 rfl rfl [] [] (Bor.nil _) [(0, .int .i64 i1), (1, .agg [.int .i64 k2, .int .i64 n2, .str s2, .imm q2 4 f2 (cellss ks2)])] (.cons (entS rfl) (.cons (.agg _) (.nil _))) (leb rfl) (fun _ h => by cases h) (fun S0 hO htk hfz => ?_)
 refine run_sr ?_
 refine run_op rfl (box_step (d := 3) rfl rfl rfl rfl rfl) rfl (ltb rfl) ?_
 refine mvR rfl rfl rfl rfl (ltb rfl) ?_
 refine run_ops_nil ?_
 refine run_sr ?_
 refine mvR rfl rfl rfl rfl (ltb rfl) ?_
 refine run_ops_nil ?_
 refine run_sr ?_
 refine run_ld hG rfl rfl rfl rfl rfl (ltb rfl) ?_
 refine mvL rfl rfl rfl rfl (ltb rfl) ?_
 obtain ⟨r3, hg4, hM⟩ := bind_t hM
 refine run_call rfl rfl rfl (ltb rfl) rfl rfl rfl (fun _ h => absurd h List.not_mem_nil) (w_szTree_ok n k2 n2 s2 q2 f2 ks2 1048576 hg4 _ _) (callK_retX (fun v tk5 (hle6 : tk ≤ tk5) h7 => ?_))
 subst h7
 refine mvR rfl rfl rfl rfl (ltb rfl) ?_
 refine run_ops_nil ?_
 refine run_seq ?_
 refine run_sr ?_
 refine mvL rfl rfl rfl rfl (ltb rfl) ?_
 refine run_bin rfl rfl rfl rfl rfl rfl rfl (ltb rfl) ?_
 refine run_ops_nil ?_
 refine run_ifd rfl rfl (fun hb10 => ?_) (fun hb10 => ?_)
 ·replace hM := ite_t hb10 hM
  refine run_sr ?_
  refine mvR rfl rfl rfl rfl (ltb rfl) ?_
  refine run_ops_nil ?_
  refine run_ret_to ?_
  obtain rfl := some_t hM
  refine fin_x hG rfl rfl rfl (v' := .bool true) (by rfl) ⟨rfl, (show tk ≤ tk5 by omega), _, rfl, rfl⟩
 ·replace hM := ite_f hb10 hM
  refine run_skip ?_
  refine run_sr ?_
  refine mvL rfl rfl rfl rfl (ltb rfl) ?_
  refine run_ld hG rfl rfl rfl rfl rfl (ltb rfl) ?_
  obtain ⟨r11, hg12, hM⟩ := bind_t hM
  refine run_call rfl rfl rfl (ltb rfl) rfl rfl rfl (fun _ h => absurd h List.not_mem_nil) (w_toTree_ok n k2 n2 s2 q2 f2 ks2 hg12 _ _) (callK_retX (fun v tk13 (hle14 : tk5 ≤ tk13) h15 => ?_))
  obtain ⟨k16, n16, s16, q16, f16, ks16, rfl, rfl, hf17⟩ := h15
  obtain ⟨r18, hg19, hM⟩ := bind_t hM
  refine run_call rfl rfl rfl (ltb rfl) rfl rfl rfl (fun _ h => absurd h List.not_mem_nil) (s_Long_ok n i1 k16 n16 s16 q16 f16 ks16 hg19 _ _) (callK_retX (fun v tk20 (hle21 : tk13 ≤ tk20) h22 => ?_))
  obtain ⟨ra27, ra28, va29, va30, rfl, rfl, ⟨k23, n23, s23, q23, f23, ks23, rfl, rfl, hf24⟩, rfl⟩ := h22
  refine mvL rfl rfl rfl rfl (ltb rfl) ?_
  refine run_pu rfl (extract_step rfl rfl rfl) rfl (ltb rfl) ?_
  refine run_pu rfl (extract_step rfl rfl rfl) rfl (ltb rfl) ?_
  refine run_op rfl (alloc_step (d := 6) hG rfl rfl rfl) rfl (ltb rfl) ?_
  refine run_op0 rfl (store_step hG rfl rfl rfl rfl rfl rfl rfl rfl) rfl ?_
  refine mvR rfl rfl rfl rfl (ltb rfl) ?_
  refine run_ops_nil ?_
  refine run_sub_code (σ' := ⟨[(0, .int .i64 i1), (3, .optr (.loc 3) 0 0), (4, .bool false), (6, .optr (.loc 6) 0 0), (7, .int .i64 ra28)], [(6, ⟨34, 4, true, [[.int .i64 k23, .int .i64 n23, .str s23, .imm q23 4 f23 (cellss ks23)]]⟩), (3, ⟨24, 4, true, [[.int .i64 k2, .int .i64 n2, .str s2, .imm q2 4 f2 (cellss ks2)]]⟩)], [], O, tk20⟩) (Sub.env _ ⟨rfl, rfl, rfl, rfl, rfl, trivial⟩) ?_
  refine run_sr ?_
  refine run_ld hG rfl rfl rfl rfl rfl (ltb rfl) ?_
  obtain ⟨r31, hg32, hM⟩ := bind_t hM
  refine run_call rfl rfl rfl (ltb rfl) rfl rfl rfl (fun _ h => absurd h List.not_mem_nil) (w_toTree_ok n k2 n2 s2 q2 f2 ks2 hg32 _ _) (callK_retX (fun v tk33 (hle34 : tk20 ≤ tk33) h35 => ?_))
  obtain ⟨k36, n36, s36, q36, f36, ks36, rfl, rfl, hf37⟩ := h35
  refine run_op rfl (alloc_step (d := 8) hG rfl rfl rfl) rfl (ltb rfl) ?_
  refine run_op0 rfl (store_step hG rfl rfl rfl rfl rfl rfl rfl rfl) rfl ?_
  refine run_ops_nil ?_
  refine run_sr ?_
  refine mvL rfl rfl rfl rfl (ltb rfl) ?_
  refine run_ld hG rfl rfl rfl rfl rfl (ltb rfl) ?_
  obtain ⟨r38, hg39, hM⟩ := bind_t hM
  refine run_call rfl rfl rfl (ltb rfl) rfl rfl rfl (fun _ h => absurd h List.not_mem_nil) (i_Long_ok n i1 k36 n36 s36 q36 f36 ks36 hg39 _ _) (callK_retX (fun v tk40 (hle41 : tk33 ≤ tk40) h42 => ?_))
  obtain ⟨ra47, ra48, va49, va50, rfl, rfl, ⟨k43, n43, s43, q43, f43, ks43, rfl, rfl, hf44⟩, rfl⟩ := h42
  refine mvL rfl rfl rfl rfl (ltb rfl) ?_
  refine run_pu rfl (extract_step rfl rfl rfl) rfl (ltb rfl) ?_
  refine run_pu rfl (extract_step rfl rfl rfl) rfl (ltb rfl) ?_
  refine run_op rfl (alloc_step (d := 9) hG rfl rfl rfl) rfl (ltb rfl) ?_
  refine run_op0 rfl (store_step hG rfl rfl rfl rfl rfl rfl rfl rfl) rfl ?_
  refine mvR rfl rfl rfl rfl (ltb rfl) ?_
  refine run_ops_nil ?_
  refine run_seq ?_
  refine run_sr ?_
  refine run_ld hG rfl rfl rfl rfl rfl (ltb rfl) ?_
  refine run_ld hG rfl rfl rfl rfl rfl (ltb rfl) ?_
  obtain ⟨r51, hg52, hM⟩ := bind_t hM
  refine run_call rfl rfl rfl (ltb rfl) rfl rfl rfl (fun _ h => absurd h List.not_mem_nil) (w_eqTree_ok n k43 n43 s43 q43 f43 ks43 k23 n23 s23 q23 f23 ks23 hg52 _ _) (callK_retX (fun v tk53 (hle54 : tk40 ≤ tk53) h55 => ?_))
  subst h55
  refine run_pu rfl (aun_step rfl rfl rfl) rfl (ltb rfl) ?_
  refine mvL rfl rfl rfl rfl (ltb rfl) ?_
  refine run_splitb (i := 40) rfl (fun hb58 => ?_) (fun hb58 => ?_)
  ·replace hM := ite_t hb58 hM
   refine run_off (on_of rfl rfl rfl rfl) rfl (ltb rfl) ?_
   refine run_off (on_of rfl rfl rfl rfl) rfl (ltb rfl) ?_
   refine run_off (on_of rfl rfl rfl rfl) rfl (ltb rfl) ?_
   refine run_pu rfl (pick_step rfl rfl rfl) rfl (ltb rfl) ?_
   refine run_ops_nil ?_
   refine run_sub_code (σ' := ⟨[(0, .int .i64 i1), (3, .optr (.loc 3) 0 0), (4, .bool false), (6, .optr (.loc 6) 0 0), (7, .int .i64 ra28), (8, .optr (.loc 8) 0 0), (9, .optr (.loc 9) 0 0), (10, .int .i64 ra48), (44, .bool true)], [(9, ⟨34, 4, true, [[.int .i64 k43, .int .i64 n43, .str s43, .imm q43 4 f43 (cellss ks43)]]⟩), (8, ⟨34, 4, true, [[.int .i64 k36, .int .i64 n36, .str s36, .imm q36 4 f36 (cellss ks36)]]⟩), (6, ⟨34, 4, true, [[.int .i64 k23, .int .i64 n23, .str s23, .imm q23 4 f23 (cellss ks23)]]⟩), (3, ⟨24, 4, true, [[.int .i64 k2, .int .i64 n2, .str s2, .imm q2 4 f2 (cellss ks2)]]⟩)], [], O, tk53⟩) (Sub.env _ ⟨rfl, rfl, rfl, rfl, rfl, rfl, rfl, rfl, rfl, trivial⟩) ?_
   refine run_if rfl rfl (fun _ => ?_) (fun h => by cases h)
   refine run_sr ?_
   refine mvR rfl rfl rfl rfl (ltb rfl) ?_
   refine run_ops_nil ?_
   refine run_ret_to ?_
   obtain rfl := some_t hM
   refine fin_x hG rfl rfl rfl (v' := .bool false) (by rfl) ⟨rfl, (show tk ≤ tk53 by omega), _, rfl, rfl⟩
  ·replace hM := ite_f hb58 hM
   refine run_puG (on_of rfl rfl rfl rfl) (move_step (.inl rfl) rfl) rfl (ltb rfl) ?_
   refine run_puG (on_of rfl rfl rfl rfl) (move_step (.inl rfl) rfl) rfl (ltb rfl) ?_
   refine run_puG (on_of rfl rfl rfl rfl) (abin_step rfl rfl rfl rfl (fun _ h => by cases h)) rfl (ltb rfl) ?_
   refine run_pu rfl (pick_step rfl rfl rfl) rfl (ltb rfl) ?_
   refine run_ops_nil ?_
   refine run_sub_code (σ' := ⟨[(0, .int .i64 i1), (3, .optr (.loc 3) 0 0), (4, .bool false), (6, .optr (.loc 6) 0 0), (7, .int .i64 ra28), (8, .optr (.loc 8) 0 0), (9, .optr (.loc 9) 0 0), (10, .int .i64 ra48), (44, .bool (ra48 != ra28))], [(9, ⟨34, 4, true, [[.int .i64 k43, .int .i64 n43, .str s43, .imm q43 4 f43 (cellss ks43)]]⟩), (8, ⟨34, 4, true, [[.int .i64 k36, .int .i64 n36, .str s36, .imm q36 4 f36 (cellss ks36)]]⟩), (6, ⟨34, 4, true, [[.int .i64 k23, .int .i64 n23, .str s23, .imm q23 4 f23 (cellss ks23)]]⟩), (3, ⟨24, 4, true, [[.int .i64 k2, .int .i64 n2, .str s2, .imm q2 4 f2 (cellss ks2)]]⟩)], [], O, tk53⟩) (Sub.env _ ⟨rfl, rfl, rfl, rfl, rfl, rfl, rfl, rfl, rfl, trivial⟩) ?_
   refine run_ifb rfl rfl (fun hb59 => ?_) (fun hb59 => ?_)
   ·replace hM := ite_t hb59 hM
    refine run_sr ?_
    refine mvR rfl rfl rfl rfl (ltb rfl) ?_
    refine run_ops_nil ?_
    refine run_ret_to ?_
    obtain rfl := some_t hM
    refine fin_x hG rfl rfl rfl (v' := .bool false) (by rfl) ⟨rfl, (show tk ≤ tk53 by omega), _, rfl, rfl⟩
   ·replace hM := ite_f hb59 hM
    refine run_skip ?_
    refine run_seq ?_
    refine run_seq ?_
    refine run_draw [] (n := 5) mixed rfl (fun _ h => absurd h List.not_mem_nil) ?_
    refine AAny.take (i := 0) rfl (by kernel_rfl) (by kernel_rfl) (by kernel_rfl) rfl rfl (ltb rfl) (aload_rd hG rfl rfl rfl (by first | (simp [ldok]; done) | exact List.not_mem_nil | trivial)) ?_
    refine AAny.take (i := 1) rfl (by kernel_rfl) (by kernel_rfl) (by kernel_rfl) rfl rfl (ltb rfl) (aload_rd hG rfl rfl rfl (by first | (simp [ldok]; done) | exact List.not_mem_nil | trivial)) ?_
    obtain ⟨r60, hg61, hM⟩ := bind_t hM
    refine AAny.one (i := 2) (by kernel_rfl) (AOp.call rfl rfl rfl rfl (ltb rfl) rfl rfl rfl (fun _ h => absurd h List.not_mem_nil) (fun _ h => absurd h List.not_mem_nil) (w_toTree_ok n k2 n2 s2 q2 f2 ks2 hg61 _ _) (callK_retX (fun v tk62 (hle63 : tk53 ≤ tk62) h64 => ?_)))
    obtain ⟨k65, n65, s65, q65, f65, ks65, rfl, rfl, hf66⟩ := h64
    obtain ⟨r67, hg68, hM⟩ := bind_t hM
    refine AAny.one (i := 3) (by kernel_rfl) (AOp.call rfl rfl rfl rfl (ltb rfl) rfl rfl rfl (fun _ h => absurd h List.not_mem_nil) (fun _ h => absurd h List.not_mem_nil) (w_eqTree_ok n k36 n36 s36 q36 f36 ks36 k65 n65 s65 q65 f65 ks65 hg68 _ _) (callK_retX (fun v tk69 (hle70 : tk62 ≤ tk69) h71 => ?_)))
    subst h71
    refine AAny.take (i := 4) rfl (by kernel_rfl) (by kernel_rfl) (by kernel_rfl) rfl rfl (ltb rfl) ((aun_step rfl rfl rfl).rd _) ?_
    refine AAny.done (by kernel_rfl) ?_
    refine run_ifb rfl rfl (fun hb74 => ?_) (fun hb74 => ?_)
    ·replace hM := ite_t hb74 hM
     refine run_sr ?_
     refine mvR rfl rfl rfl rfl (ltb rfl) ?_
     refine run_ops_nil ?_
     refine run_ret_to ?_
     obtain rfl := some_t hM
     refine fin_x hG rfl rfl rfl (v' := .bool false) (by rfl) ⟨rfl, (show tk ≤ tk69 by omega), _, rfl, rfl⟩
    ·replace hM := ite_f hb74 hM
     refine run_skip ?_
     refine run_sr ?_
     refine mvR rfl rfl rfl rfl (ltb rfl) ?_
     refine run_ops_nil ?_
     refine run_sr ?_
     refine run_ld hG rfl rfl rfl rfl rfl (ltb rfl) ?_
     refine mvL rfl rfl rfl rfl (ltb rfl) ?_
     obtain ⟨r75, hg76, hM⟩ := bind_t hM
     refine run_callT rfl rfl rfl (ltb rfl) rfl rfl rfl rfl rfl hOn (fun x hx => by have := ((show Fr tk20 tk33 _ from (show Fr tk20 tk33 _ from hf37 rfl))).2 x hx; show S0.tk ≤ x; omega) (w_markTree_m k36 n36 s36 q36 f36 ks36 1 _ (Fr.ge (show Fr tk20 tk33 _ from (show Fr tk20 tk33 _ from hf37 rfl)) (by omega)) ((show Fr tk20 tk33 _ from (show Fr tk20 tk33 _ from hf37 rfl))).1 hg76) (fun out S' hR (hle78 : tk69 ≤ S'.tk) => ?_)
     obtain ⟨ks79, k80, rfl, rfl, _, hst81, hln82, hu83⟩ := hR
     generalize S'.tk = tk77 at hle78 ⊢
     refine ⟨_, rfl, rfl, GT q36 f36 ks36 ks79, GT.turned (Fr.ge (show Fr tk20 tk33 _ from (show Fr tk20 tk33 _ from hf37 rfl)) (by omega)) hst81 hln82 hu83, [(0, .int .i64 i1), (3, .optr (.loc 3) 0 0), (4, .bool false), (6, .optr (.loc 6) 0 0), (7, .int .i64 ra28), (8, .optr (.loc 8) 0 0), (9, .optr (.loc 9) 0 0), (10, .int .i64 ra48), (44, .bool (ra48 != ra28)), (45, .agg [.int .i64 k36, .int .i64 n36, .str s36, .imm q36 4 f36 (cellss ks79)]), (46, .agg [.int .i64 k2, .int .i64 n2, .str s2, .imm q2 4 f2 (cellss ks2)]), (47, .agg [.int .i64 k65, .int .i64 n65, .str s65, .imm q65 4 f65 (cellss ks65)]), (48, .bool r67), (49, .bool (!r67)), (11, .int .i64 1), (50, .agg [.int .i64 k36, .int .i64 n36, .str s36, .imm q36 4 f36 (cellss ks79)]), (51, .int .i64 1)], [(9, ⟨34, 4, true, [[.int .i64 k43, .int .i64 n43, .str s43, .imm q43 4 f43 (cellss ks43)]]⟩), (8, ⟨34, 4, true, [[.int .i64 k36, .int .i64 n36, .str s36, .imm q36 4 f36 (cellss ks79)]]⟩), (6, ⟨34, 4, true, [[.int .i64 k23, .int .i64 n23, .str s23, .imm q23 4 f23 (cellss ks23)]]⟩), (3, ⟨24, 4, true, [[.int .i64 k2, .int .i64 n2, .str s2, .imm q2 4 f2 (cellss ks2)]]⟩)], (.cons _ _ _ _ rfl (Tn.av (.int _ _)) (.cons _ _ _ _ rfl (.optr _ _ _) (.cons _ _ _ _ rfl (Tn.av (.bool _)) (.cons _ _ _ _ rfl (.optr _ _ _) (.cons _ _ _ _ rfl (Tn.av (.int _ _)) (.cons _ _ _ _ rfl (.optr _ _ _) (.cons _ _ _ _ rfl (.optr _ _ _) (.cons _ _ _ _ rfl (Tn.av (.int _ _)) (.cons _ _ _ _ rfl (Tn.av (.bool _)) (.cons _ _ _ _ rfl (TnCs.agg (.cons _ _ _ _ (Tn.av (.int _ _)) (.cons _ _ _ _ (Tn.av (.int _ _)) (.cons _ _ _ _ (Tn.av (.str _)) (.cons _ _ _ _ (GT.tn hln82) .nil)))) rfl) (.cons _ _ _ _ rfl (TnCs.agg (.cons _ _ _ _ (Tn.av (.int _ _)) (.cons _ _ _ _ (Tn.av (.int _ _)) (.cons _ _ _ _ (Tn.av (.str _)) (.cons _ _ _ _ (Tn.av (ts_av (old_av ho0))) .nil)))) rfl) (.cons _ _ _ _ rfl (TnCs.agg (.cons _ _ _ _ (Tn.av (.int _ _)) (.cons _ _ _ _ (Tn.av (.int _ _)) (.cons _ _ _ _ (Tn.av (.str _)) (.cons _ _ _ _ (Tn.av (ts_av (fr_av (show Fr tk53 tk62 _ from (show Fr tk53 tk62 _ from hf66 rfl)) (show Fr tk20 tk33 _ from (show Fr tk20 tk33 _ from hf37 rfl)) (by omega) (by omega)))) .nil)))) rfl) (.cons _ _ _ _ rfl (Tn.av (.bool _)) (.cons _ _ _ _ rfl (Tn.av (.bool _)) (.cons _ _ _ _ rfl (Tn.av (.int _ _)) (.cons _ _ _ _ rfl (TnCs.agg (.cons _ _ _ _ (Tn.av (.int _ _)) (.cons _ _ _ _ (Tn.av (.int _ _)) (.cons _ _ _ _ (Tn.av (.str _)) (.cons _ _ _ _ (GT.tn hln82) .nil)))) rfl) (.cons _ _ _ _ rfl (Tn.av (.int _ _)) .nil))))))))))))))))), (.cons _ _ _ _ _ (TnCs.box (.cons _ _ _ _ (Tn.av (.int _ _)) (.cons _ _ _ _ (Tn.av (.int _ _)) (.cons _ _ _ _ (Tn.av (.str _)) (.cons _ _ _ _ (Tn.av (ts_av (fr_av (show Fr tk33 tk40 _ from (show Fr tk33 tk40 _ from hf44 rfl)) (show Fr tk20 tk33 _ from (show Fr tk20 tk33 _ from hf37 rfl)) (by omega) (by omega)))) .nil)))) rfl) (.cons _ _ _ _ _ (TnCs.box (.cons _ _ _ _ (Tn.av (.int _ _)) (.cons _ _ _ _ (Tn.av (.int _ _)) (.cons _ _ _ _ (Tn.av (.str _)) (.cons _ _ _ _ (GT.tn hln82) .nil)))) rfl) (.cons _ _ _ _ _ (TnCs.box (.cons _ _ _ _ (Tn.av (.int _ _)) (.cons _ _ _ _ (Tn.av (.int _ _)) (.cons _ _ _ _ (Tn.av (.str _)) (.cons _ _ _ _ (Tn.av (ts_av (fr_av (show Fr tk13 tk20 _ from (show Fr tk13 tk20 _ from hf24 rfl)) (show Fr tk20 tk33 _ from (show Fr tk20 tk33 _ from hf37 rfl)) (by omega) (by omega)))) .nil)))) rfl) (.cons _ _ _ _ _ (TnCs.box (.cons _ _ _ _ (Tn.av (.int _ _)) (.cons _ _ _ _ (Tn.av (.int _ _)) (.cons _ _ _ _ (Tn.av (.str _)) (.cons _ _ _ _ (Tn.av (ts_av (old_av ho0))) .nil)))) rfl) .nil)))), ?_⟩
     refine mvR rfl rfl rfl rfl (ltb rfl) ?_
     refine run_ops_nil ?_
     refine run_seq ?_
     refine run_sr ?_
     refine mvL rfl rfl rfl rfl (ltb rfl) ?_
     refine run_bin rfl rfl rfl rfl rfl rfl rfl (ltb rfl) ?_
     refine mvL rfl rfl rfl rfl (ltb rfl) ?_
     refine run_splitd (i := 55) rfl (fun hb84 => ?_) (fun hb84 => ?_)
     ·replace hM := ite_t hb84 hM
      refine run_off (on_of rfl rfl rfl rfl) rfl (ltb rfl) ?_
      refine run_off (on_of rfl rfl rfl rfl) rfl (ltb rfl) ?_
      refine run_off (on_of rfl rfl rfl rfl) rfl (ltb rfl) ?_
      refine run_off (on_of rfl rfl rfl rfl) rfl (ltb rfl) ?_
      refine run_pu rfl (pick_step rfl rfl rfl) rfl (ltb rfl) ?_
      refine mvL rfl rfl rfl rfl (ltb rfl) ?_
      refine run_off (on_of rfl rfl rfl rfl) rfl (ltb rfl) ?_
      refine run_off (on_of rfl rfl rfl rfl) rfl (ltb rfl) ?_
      refine run_off (on_of rfl rfl rfl rfl) rfl (ltb rfl) ?_
      refine run_pu rfl (pick_step rfl rfl rfl) rfl (ltb rfl) ?_
      refine run_ops_nil ?_
      refine run_sub_code (σ' := ⟨[(0, .int .i64 i1), (3, .optr (.loc 3) 0 0), (4, .bool false), (6, .optr (.loc 6) 0 0), (7, .int .i64 ra28), (9, .optr (.loc 9) 0 0), (65, .bool true)], [(9, ⟨34, 4, true, [[.int .i64 k43, .int .i64 n43, .str s43, .imm q43 4 f43 (cellss ks43)]]⟩), (6, ⟨34, 4, true, [[.int .i64 k23, .int .i64 n23, .str s23, .imm q23 4 f23 (cellss ks23)]]⟩), (3, ⟨24, 4, true, [[.int .i64 k2, .int .i64 n2, .str s2, .imm q2 4 f2 (cellss ks2)]]⟩)], [], O, tk77⟩) (Sub.trans (Sub.drop (k := 8) rfl) (Sub.env _ ⟨rfl, rfl, rfl, rfl, rfl, rfl, rfl, trivial⟩)) ?_
      refine run_if rfl rfl (fun _ => ?_) (fun h => by cases h)
      refine run_sr ?_
      refine mvR rfl rfl rfl rfl (ltb rfl) ?_
      refine run_ops_nil ?_
      refine run_ret_to ?_
      obtain rfl := some_t hM
      refine fin_x hG rfl rfl rfl (v' := .bool false) (by rfl) ⟨rfl, (show tk ≤ tk77 by omega), _, rfl, rfl⟩
     ·replace hM := ite_f hb84 hM
      refine run_rdG (on_of rfl rfl rfl rfl) (aload_rd hG rfl rfl rfl (by first | (simp [ldok]; done) | exact List.not_mem_nil | trivial)) rfl (ltb rfl) ?_
      refine run_rdG (on_of rfl rfl rfl rfl) (aload_rd hG rfl rfl rfl (by first | (simp [ldok]; done) | exact List.not_mem_nil | trivial)) rfl (ltb rfl) ?_
      obtain ⟨r85, hg86, hM⟩ := bind_t hM
      refine run_callG (on_of rfl rfl rfl rfl) rfl rfl (ltb rfl) rfl rfl rfl (fun _ h => absurd h List.not_mem_nil) (w_eqTree_ok n k43 n43 s43 q43 f43 ks43 k23 n23 s23 q23 f23 ks23 hg86 _ _) (callK_retX (fun v tk87 (hle88 : tk77 ≤ tk87) h89 => ?_))
      subst h89
      refine run_puG (on_of rfl rfl rfl rfl) (aun_step rfl rfl rfl) rfl (ltb rfl) ?_
      refine run_pu rfl (pick_step rfl rfl rfl) rfl (ltb rfl) ?_
      refine mvL rfl rfl rfl rfl (ltb rfl) ?_
      refine run_splitb (i := 61) rfl (fun hb92 => ?_) (fun hb92 => ?_)
      ·replace hM := ite_t hb92 hM
       refine run_off (on_of rfl rfl rfl rfl) rfl (ltb rfl) ?_
       refine run_off (on_of rfl rfl rfl rfl) rfl (ltb rfl) ?_
       refine run_off (on_of rfl rfl rfl rfl) rfl (ltb rfl) ?_
       refine run_pu rfl (pick_step rfl rfl rfl) rfl (ltb rfl) ?_
       refine run_ops_nil ?_
       refine run_sub_code (σ' := ⟨[(0, .int .i64 i1), (3, .optr (.loc 3) 0 0), (4, .bool false), (6, .optr (.loc 6) 0 0), (7, .int .i64 ra28), (9, .optr (.loc 9) 0 0), (65, .bool true)], [(9, ⟨34, 4, true, [[.int .i64 k43, .int .i64 n43, .str s43, .imm q43 4 f43 (cellss ks43)]]⟩), (6, ⟨34, 4, true, [[.int .i64 k23, .int .i64 n23, .str s23, .imm q23 4 f23 (cellss ks23)]]⟩), (3, ⟨24, 4, true, [[.int .i64 k2, .int .i64 n2, .str s2, .imm q2 4 f2 (cellss ks2)]]⟩)], [], O, tk87⟩) (Sub.trans (Sub.drop (k := 8) rfl) (Sub.env _ ⟨rfl, rfl, rfl, rfl, rfl, rfl, rfl, trivial⟩)) ?_
       refine run_if rfl rfl (fun _ => ?_) (fun h => by cases h)
       refine run_sr ?_
       refine mvR rfl rfl rfl rfl (ltb rfl) ?_
       refine run_ops_nil ?_
       refine run_ret_to ?_
       obtain rfl := some_t hM
       refine fin_x hG rfl rfl rfl (v' := .bool false) (by rfl) ⟨rfl, (show tk ≤ tk87 by omega), _, rfl, rfl⟩
      ·replace hM := ite_f hb92 hM
       refine run_puG (on_of rfl rfl rfl rfl) (move_step (.inl rfl) rfl) rfl (ltb rfl) ?_
       refine run_puG (on_of rfl rfl rfl rfl) (move_step (.inl rfl) rfl) rfl (ltb rfl) ?_
       refine run_puG (on_of rfl rfl rfl rfl) (abin_step rfl rfl rfl rfl (fun _ h => by cases h)) rfl (ltb rfl) ?_
       refine run_pu rfl (pick_step rfl rfl rfl) rfl (ltb rfl) ?_
       refine run_ops_nil ?_
       refine run_sub_code (σ' := ⟨[(0, .int .i64 i1), (3, .optr (.loc 3) 0 0), (4, .bool false), (6, .optr (.loc 6) 0 0), (7, .int .i64 ra28), (9, .optr (.loc 9) 0 0), (65, .bool (ra48 != ra28))], [(9, ⟨34, 4, true, [[.int .i64 k43, .int .i64 n43, .str s43, .imm q43 4 f43 (cellss ks43)]]⟩), (6, ⟨34, 4, true, [[.int .i64 k23, .int .i64 n23, .str s23, .imm q23 4 f23 (cellss ks23)]]⟩), (3, ⟨24, 4, true, [[.int .i64 k2, .int .i64 n2, .str s2, .imm q2 4 f2 (cellss ks2)]]⟩)], [], O, tk87⟩) (Sub.trans (Sub.drop (k := 8) rfl) (Sub.env _ ⟨rfl, rfl, rfl, rfl, rfl, rfl, rfl, trivial⟩)) ?_
       refine run_ifb rfl rfl (fun hb93 => ?_) (fun hb93 => ?_)
       ·replace hM := ite_t hb93 hM
        refine run_sr ?_
        refine mvR rfl rfl rfl rfl (ltb rfl) ?_
        refine run_ops_nil ?_
        refine run_ret_to ?_
        obtain rfl := some_t hM
        refine fin_x hG rfl rfl rfl (v' := .bool false) (by rfl) ⟨rfl, (show tk ≤ tk87 by omega), _, rfl, rfl⟩
       ·replace hM := ite_f hb93 hM
        refine run_skip ?_
        refine run_sr ?_
        refine mvR rfl rfl rfl rfl (ltb rfl) ?_
        refine run_ops_nil ?_
        refine run_sr ?_
        refine run_ld hG rfl rfl rfl rfl rfl (ltb rfl) ?_
        refine mvL rfl rfl rfl rfl (ltb rfl) ?_
        obtain ⟨r94, hg95, hM⟩ := bind_t hM
        refine run_callT rfl rfl rfl (ltb rfl) rfl rfl rfl rfl rfl hOn (fun x hx => by have := ((show Fr tk33 tk40 _ from (show Fr tk33 tk40 _ from hf44 rfl))).2 x hx; show S0.tk ≤ x; omega) (w_markTree_m k43 n43 s43 q43 f43 ks43 1 _ (Fr.ge (show Fr tk33 tk40 _ from (show Fr tk33 tk40 _ from hf44 rfl)) (by omega)) ((show Fr tk33 tk40 _ from (show Fr tk33 tk40 _ from hf44 rfl))).1 hg95) (fun out S' hR (hle97 : tk87 ≤ S'.tk) => ?_)
        obtain ⟨ks98, k99, rfl, rfl, _, hst100, hln101, hu102⟩ := hR
        generalize S'.tk = tk96 at hle97 ⊢
        refine ⟨_, rfl, rfl, GT q43 f43 ks43 ks98, GT.turned (Fr.ge (show Fr tk33 tk40 _ from (show Fr tk33 tk40 _ from hf44 rfl)) (by omega)) hst100 hln101 hu102, [(0, .int .i64 i1), (3, .optr (.loc 3) 0 0), (4, .bool false), (6, .optr (.loc 6) 0 0), (7, .int .i64 ra28), (9, .optr (.loc 9) 0 0), (65, .bool (ra48 != ra28)), (12, .int .i64 1), (66, .agg [.int .i64 k43, .int .i64 n43, .str s43, .imm q43 4 f43 (cellss ks98)]), (67, .int .i64 1)], [(9, ⟨34, 4, true, [[.int .i64 k43, .int .i64 n43, .str s43, .imm q43 4 f43 (cellss ks98)]]⟩), (6, ⟨34, 4, true, [[.int .i64 k23, .int .i64 n23, .str s23, .imm q23 4 f23 (cellss ks23)]]⟩), (3, ⟨24, 4, true, [[.int .i64 k2, .int .i64 n2, .str s2, .imm q2 4 f2 (cellss ks2)]]⟩)], (.cons _ _ _ _ rfl (Tn.av (.int _ _)) (.cons _ _ _ _ rfl (.optr _ _ _) (.cons _ _ _ _ rfl (Tn.av (.bool _)) (.cons _ _ _ _ rfl (.optr _ _ _) (.cons _ _ _ _ rfl (Tn.av (.int _ _)) (.cons _ _ _ _ rfl (.optr _ _ _) (.cons _ _ _ _ rfl (Tn.av (.bool _)) (.cons _ _ _ _ rfl (Tn.av (.int _ _)) (.cons _ _ _ _ rfl (TnCs.agg (.cons _ _ _ _ (Tn.av (.int _ _)) (.cons _ _ _ _ (Tn.av (.int _ _)) (.cons _ _ _ _ (Tn.av (.str _)) (.cons _ _ _ _ (GT.tn hln101) .nil)))) rfl) (.cons _ _ _ _ rfl (Tn.av (.int _ _)) .nil)))))))))), (.cons _ _ _ _ _ (TnCs.box (.cons _ _ _ _ (Tn.av (.int _ _)) (.cons _ _ _ _ (Tn.av (.int _ _)) (.cons _ _ _ _ (Tn.av (.str _)) (.cons _ _ _ _ (GT.tn hln101) .nil)))) rfl) (.cons _ _ _ _ _ (TnCs.box (.cons _ _ _ _ (Tn.av (.int _ _)) (.cons _ _ _ _ (Tn.av (.int _ _)) (.cons _ _ _ _ (Tn.av (.str _)) (.cons _ _ _ _ (Tn.av (ts_av (fr_av (show Fr tk13 tk20 _ from (show Fr tk13 tk20 _ from hf24 rfl)) (show Fr tk33 tk40 _ from (show Fr tk33 tk40 _ from hf44 rfl)) (by omega) (by omega)))) .nil)))) rfl) (.cons _ _ _ _ _ (TnCs.box (.cons _ _ _ _ (Tn.av (.int _ _)) (.cons _ _ _ _ (Tn.av (.int _ _)) (.cons _ _ _ _ (Tn.av (.str _)) (.cons _ _ _ _ (Tn.av (ts_av (old_av ho0))) .nil)))) rfl) .nil))), ?_⟩
        refine mvR rfl rfl rfl rfl (ltb rfl) ?_
        refine run_ops_nil ?_
        refine run_sr ?_
        refine mvR rfl rfl rfl rfl (ltb rfl) ?_
        refine run_ops_nil ?_
        refine run_sr ?_
        refine run_ld hG rfl rfl rfl rfl rfl (ltb rfl) ?_
        refine mvL rfl rfl rfl rfl (ltb rfl) ?_
        obtain ⟨r103, hg104, hM⟩ := bind_t hM
        refine run_call rfl rfl rfl (ltb rfl) rfl rfl rfl (fun _ h => absurd h List.not_mem_nil) (w_heldTree_ok n k43 n43 s43 q43 f43 ks98 1 hg104 _ _) (callK_retX (fun v tk105 (hle106 : tk96 ≤ tk105) h107 => ?_))
        subst h107
        refine mvR rfl rfl rfl rfl (ltb rfl) ?_
        refine run_ops_nil ?_
        refine run_seq ?_
        refine run_sr ?_
        refine mvL rfl rfl rfl rfl (ltb rfl) ?_
        refine run_bin rfl rfl rfl rfl rfl rfl rfl (ltb rfl) ?_
        refine run_ops_nil ?_
        refine run_ifd rfl rfl (fun hb110 => ?_) (fun hb110 => ?_)
        ·replace hM := ite_t hb110 hM
         refine run_sr ?_
         refine mvR rfl rfl rfl rfl (ltb rfl) ?_
         refine run_ops_nil ?_
         refine run_ret_to ?_
         obtain rfl := some_t hM
         refine fin_x hG rfl rfl rfl (v' := .bool false) (by rfl) ⟨rfl, (show tk ≤ tk105 by omega), _, rfl, rfl⟩
        ·replace hM := ite_f hb110 hM
         refine run_skip ?_
         refine run_seq ?_
         refine run_sr ?_
         refine mvL rfl rfl rfl rfl (ltb rfl) ?_
         refine mvL rfl rfl rfl rfl (ltb rfl) ?_
         refine run_bin rfl rfl rfl rfl rfl rfl rfl (ltb rfl) ?_
         refine run_ops_nil ?_
         refine run_sub_code (σ' := ⟨[(0, .int .i64 i1), (3, .optr (.loc 3) 0 0), (4, .bool false), (6, .optr (.loc 6) 0 0), (7, .int .i64 ra28), (9, .optr (.loc 9) 0 0), (12, .int .i64 k99), (13, .int .i64 r103), (76, .bool (r103 != k99))], [(9, ⟨34, 4, true, [[.int .i64 k43, .int .i64 n43, .str s43, .imm q43 4 f43 (cellss ks98)]]⟩), (6, ⟨34, 4, true, [[.int .i64 k23, .int .i64 n23, .str s23, .imm q23 4 f23 (cellss ks23)]]⟩), (3, ⟨24, 4, true, [[.int .i64 k2, .int .i64 n2, .str s2, .imm q2 4 f2 (cellss ks2)]]⟩)], [], O, tk105⟩) (Sub.env _ ⟨rfl, rfl, rfl, rfl, rfl, rfl, rfl, rfl, rfl, trivial⟩) ?_
         refine run_ifb rfl rfl (fun hb111 => ?_) (fun hb111 => ?_)
         ·replace hM := ite_t hb111 hM
          refine run_sr ?_
          refine mvR rfl rfl rfl rfl (ltb rfl) ?_
          refine run_ops_nil ?_
          refine run_ret_to ?_
          obtain rfl := some_t hM
          refine fin_x hG rfl rfl rfl (v' := .bool false) (by rfl) ⟨rfl, (show tk ≤ tk105 by omega), _, rfl, rfl⟩
         ·replace hM := ite_f hb111 hM
          refine run_skip ?_
          refine run_sr ?_
          refine mvL rfl rfl rfl rfl (ltb rfl) ?_
          refine run_ld hG rfl rfl rfl rfl rfl (ltb rfl) ?_
          obtain ⟨r112, hg113, hM⟩ := bind_t hM
          refine run_call rfl rfl rfl (ltb rfl) rfl rfl rfl (fun _ h => absurd h List.not_mem_nil) (w_toTree_ok n k2 n2 s2 q2 f2 ks2 hg113 _ _) (callK_retX (fun v tk114 (hle115 : tk105 ≤ tk114) h116 => ?_))
          obtain ⟨k117, n117, s117, q117, f117, ks117, rfl, rfl, hf118⟩ := h116
          obtain ⟨r119, hg120, hM⟩ := bind_t hM
          refine run_call rfl rfl rfl (ltb rfl) rfl rfl rfl (fun _ h => absurd h List.not_mem_nil) (i_Long_ok n i1 k117 n117 s117 q117 f117 ks117 hg120 _ _) (callK_retX (fun v tk121 (hle122 : tk114 ≤ tk121) h123 => ?_))
          obtain ⟨ra128, ra129, va130, va131, rfl, rfl, ⟨k124, n124, s124, q124, f124, ks124, rfl, rfl, hf125⟩, rfl⟩ := h123
          refine mvL rfl rfl rfl rfl (ltb rfl) ?_
          refine run_pu rfl (extract_step rfl rfl rfl) rfl (ltb rfl) ?_
          refine run_pu rfl (extract_step rfl rfl rfl) rfl (ltb rfl) ?_
          refine run_op rfl (alloc_step (d := 14) hG rfl rfl rfl) rfl (ltb rfl) ?_
          refine run_op0 rfl (store_step hG rfl rfl rfl rfl rfl rfl rfl rfl) rfl ?_
          refine mvR rfl rfl rfl rfl (ltb rfl) ?_
          refine run_ops_nil ?_
          refine run_seq ?_
          refine run_sr ?_
          refine run_ld hG rfl rfl rfl rfl rfl (ltb rfl) ?_
          refine run_ld hG rfl rfl rfl rfl rfl (ltb rfl) ?_
          obtain ⟨r132, hg133, hM⟩ := bind_t hM
          refine run_call rfl rfl rfl (ltb rfl) rfl rfl rfl (fun _ h => absurd h List.not_mem_nil) (w_eqTree_ok n k124 n124 s124 q124 f124 ks124 k23 n23 s23 q23 f23 ks23 hg133 _ _) (callK_retX (fun v tk134 (hle135 : tk121 ≤ tk134) h136 => ?_))
          subst h136
          refine run_pu rfl (aun_step rfl rfl rfl) rfl (ltb rfl) ?_
          refine mvL rfl rfl rfl rfl (ltb rfl) ?_
          refine run_splitb (i := 88) rfl (fun hb139 => ?_) (fun hb139 => ?_)
          ·replace hM := ite_t hb139 hM
           refine run_off (on_of rfl rfl rfl rfl) rfl (ltb rfl) ?_
           refine run_off (on_of rfl rfl rfl rfl) rfl (ltb rfl) ?_
           refine run_off (on_of rfl rfl rfl rfl) rfl (ltb rfl) ?_
           refine run_pu rfl (pick_step rfl rfl rfl) rfl (ltb rfl) ?_
           refine run_ops_nil ?_
           refine run_sub_code (σ' := ⟨[(4, .bool false), (9, .optr (.loc 9) 0 0), (12, .int .i64 k99), (13, .int .i64 r103), (92, .bool true)], [(9, ⟨34, 4, true, [[.int .i64 k43, .int .i64 n43, .str s43, .imm q43 4 f43 (cellss ks98)]]⟩)], [], O, tk134⟩) (Sub.trans (Sub.drop (k := 14) rfl) (Sub.trans (Sub.drop (k := 6) rfl) (Sub.trans (Sub.drop (k := 3) rfl) (Sub.env _ ⟨rfl, rfl, rfl, rfl, rfl, trivial⟩)))) ?_
           refine run_if rfl rfl (fun _ => ?_) (fun h => by cases h)
           refine run_sr ?_
           refine mvR rfl rfl rfl rfl (ltb rfl) ?_
           refine run_ops_nil ?_
           refine run_ret_to ?_
           obtain rfl := some_t hM
           refine fin_x hG rfl rfl rfl (v' := .bool false) (by rfl) ⟨rfl, (show tk ≤ tk134 by omega), _, rfl, rfl⟩
          ·replace hM := ite_f hb139 hM
           refine run_puG (on_of rfl rfl rfl rfl) (move_step (.inl rfl) rfl) rfl (ltb rfl) ?_
           refine run_puG (on_of rfl rfl rfl rfl) (move_step (.inl rfl) rfl) rfl (ltb rfl) ?_
           refine run_puG (on_of rfl rfl rfl rfl) (abin_step rfl rfl rfl rfl (fun _ h => by cases h)) rfl (ltb rfl) ?_
           refine run_pu rfl (pick_step rfl rfl rfl) rfl (ltb rfl) ?_
           refine run_ops_nil ?_
           refine run_sub_code (σ' := ⟨[(4, .bool false), (9, .optr (.loc 9) 0 0), (12, .int .i64 k99), (13, .int .i64 r103), (92, .bool (ra129 != ra28))], [(9, ⟨34, 4, true, [[.int .i64 k43, .int .i64 n43, .str s43, .imm q43 4 f43 (cellss ks98)]]⟩)], [], O, tk134⟩) (Sub.trans (Sub.drop (k := 14) rfl) (Sub.trans (Sub.drop (k := 6) rfl) (Sub.trans (Sub.drop (k := 3) rfl) (Sub.env _ ⟨rfl, rfl, rfl, rfl, rfl, trivial⟩)))) ?_
           refine run_ifb rfl rfl (fun hb140 => ?_) (fun hb140 => ?_)
           ·replace hM := ite_t hb140 hM
            refine run_sr ?_
            refine mvR rfl rfl rfl rfl (ltb rfl) ?_
            refine run_ops_nil ?_
            refine run_ret_to ?_
            obtain rfl := some_t hM
            refine fin_x hG rfl rfl rfl (v' := .bool false) (by rfl) ⟨rfl, (show tk ≤ tk134 by omega), _, rfl, rfl⟩
           ·replace hM := ite_f hb140 hM
            refine run_skip ?_
            refine run_sr ?_
            refine mvR rfl rfl rfl rfl (ltb rfl) ?_
            refine run_ops_nil ?_
            refine run_sr ?_
            refine run_ld hG rfl rfl rfl rfl rfl (ltb rfl) ?_
            refine mvL rfl rfl rfl rfl (ltb rfl) ?_
            obtain ⟨r141, hg142, hM⟩ := bind_t hM
            refine run_call rfl rfl rfl (ltb rfl) rfl rfl rfl (fun _ h => absurd h List.not_mem_nil) (w_heldTree_ok n k43 n43 s43 q43 f43 ks98 1 hg142 _ _) (callK_retX (fun v tk143 (hle144 : tk134 ≤ tk143) h145 => ?_))
            subst h145
            refine mvR rfl rfl rfl rfl (ltb rfl) ?_
            refine run_ops_nil ?_
            refine run_seq ?_
            refine run_sr ?_
            refine mvL rfl rfl rfl rfl (ltb rfl) ?_
            refine run_bin rfl rfl rfl rfl rfl rfl rfl (ltb rfl) ?_
            refine run_ops_nil ?_
            refine run_ifd rfl rfl (fun hb148 => ?_) (fun hb148 => ?_)
            ·replace hM := ite_t hb148 hM
             refine run_sr ?_
             refine mvR rfl rfl rfl rfl (ltb rfl) ?_
             refine run_ops_nil ?_
             refine run_ret_to ?_
             obtain rfl := some_t hM
             refine fin_x hG rfl rfl rfl (v' := .bool false) (by rfl) ⟨rfl, (show tk ≤ tk143 by omega), _, rfl, rfl⟩
            ·replace hM := ite_f hb148 hM
             refine run_skip ?_
             refine run_seq ?_
             refine run_sr ?_
             refine mvL rfl rfl rfl rfl (ltb rfl) ?_
             refine mvL rfl rfl rfl rfl (ltb rfl) ?_
             refine run_bin rfl rfl rfl rfl rfl rfl rfl (ltb rfl) ?_
             refine run_ops_nil ?_
             refine run_ifb rfl rfl (fun hb149 => ?_) (fun hb149 => ?_)
             ·replace hM := ite_t hb149 hM
              refine run_sr ?_
              refine mvR rfl rfl rfl rfl (ltb rfl) ?_
              refine run_ops_nil ?_
              refine run_ret_to ?_
              obtain rfl := some_t hM
              refine fin_x hG rfl rfl rfl (v' := .bool false) (by rfl) ⟨rfl, (show tk ≤ tk143 by omega), _, rfl, rfl⟩
             ·replace hM := ite_f hb149 hM
              refine run_skip ?_
              refine run_sr ?_
              refine mvR rfl rfl rfl rfl (ltb rfl) ?_
              refine run_ops_nil ?_
              refine run_ret_to ?_
              obtain rfl := some_t hM
              refine fin_x hG rfl rfl rfl (v' := .bool true) (by rfl) ⟨rfl, (show tk ≤ tk143 by omega), _, rfl, rfl⟩

end Go.Am.YtiobknkpdkkikaaDoor
