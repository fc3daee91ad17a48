/- Printed by a program of ours: Lean functions that do what the Go functions do, and the contracts. -/
import Derived.Test.YtlbofhoehollfaaDoorMl0
import Derived.Test.YtlbofhoehollfaaDoorTypes
import Derived.Test.YtlbofhoehollfaaDoorMsTree
import Derived.Test.YtlbofhoehollfaaDoorDkLift
import Derived.Test.YtlbofhoehollfaaDoorDlTree
import Derived.Test.YtlbofhoehollfaaDoorMhTree
-- packed
namespace Go.Am.YtlbofhoehollfaaDoor
open Go Go.Am

def w_FnExactLift (n : Nat) (x1 : T) (i2 : Int) (i3 : Int) : Option Bool :=
 (w_szTree n x1 1048576).bind fun r4 =>
 if r4 < 0 then
  some true
 else
  (w_toTree n x1).bind fun r12 =>
  (s_Lift n r12 i2 i3).bind fun r19 =>
  (w_toTree n x1).bind fun r32 =>
  (i_Lift n r32 i2 i3).bind fun r39 =>
  (w_eqTree n r39.1 r19.1).bind fun r52 =>
  if (!r52) = true then
   some false
  else
   if (r39.2 != r19.2) = true then
    some false
   else
    (w_toTree n x1).bind fun r61 =>
    (w_eqTree n r32 r61).bind fun r68 =>
    if (!r68) = true then
     some false
    else
     (w_markTree r32 1).bind fun r76 =>
     if r76.2 < 0 then
      some false
     else
      (w_eqTree n r39.1 r19.1).bind fun r86 =>
      if (!r86) = true then
       some false
      else
       if (r39.2 != r19.2) = true then
        some false
       else
        (w_markTree r39.1 1).bind fun r95 =>
        (w_heldTree n (T.mk r39.1.kind r39.1.n r39.1.name r95.1) 1).bind fun r104 =>
        if r104 < 0 then
         some false
        else
         if (r104 != r95.2) = true then
          some false
         else
          (w_toTree n x1).bind fun r113 =>
          (i_Lift n r113 i2 i3).bind fun r120 =>
          (w_eqTree n r120.1 r19.1).bind fun r133 =>
          if (!r133) = true then
           some false
          else
           if (r120.2 != r19.2) = true then
            some false
           else
            (w_heldTree n (T.mk r39.1.kind r39.1.n r39.1.name r95.1) 1).bind fun r142 =>
            if r142 < 0 then
             some false
            else
             if (r142 != r95.2) = true then
              some false
             else
              some true

set_option maxHeartbeats 2000000 in
set_option maxRecDepth 100000 in
theorem w_FnExactLift_ok (n : Nat) : ∀ (k1 : Int) (n1 : Int) (s1 : ByteArray) (q1 : Nat) (f1 : Bool) (ks1 : List LT) (i2 : Int) (i3 : Int) {r : Bool}, w_FnExactLift n (T.mk k1 n1 s1 (ers ks1)) i2 i3 = some r → (∀ x ∈ tstoks q1 ks1, x = 0) → ∀ (O : Heap) (tk : Nat), O = (fun _ => none) → 2 ≤ tk → ACalls Go.Proofs.Tryd.prog 13 [.agg [.int .i64 k1, .int .i64 n1, .str s1, .imm q1 4 f1 (cellss ks1)], .int .i64 i2, .int .i64 i3] O tk (RetX O tk (fun v tk' => v = .bool r)) := by
 intro k1 n1 s1 q1 f1 ks1 i2 i3 r hM ho0 O tk hOn h2tk
 unfold w_FnExactLift at hM
 refine acalls_of_run Go.Proofs.Tryd.func13 rfl rfl [] [] (Bor.nil _) [(0, .agg [.int .i64 k1, .int .i64 n1, .str s1, .imm q1 4 f1 (cellss ks1)]), (1, .int .i64 i2), (2, .int .i64 i3)] (.cons (.agg _) (.cons (entS rfl) (.cons (entS rfl) (.nil _)))) (leb rfl) (fun _ h => by cases h) (fun S0 hO htk hfz => ?_)
 refine run_sr ?_
 refine run_op rfl (box_step (d := 3) rfl rfl rfl rfl rfl) rfl (ltb rfl) ?_
 refine mvR rfl rfl rfl rfl (ltb rfl) ?_
 refine run_ops_nil ?_
 refine run_sr ?_
 refine mvR rfl rfl rfl rfl (ltb rfl) ?_
 refine run_ops_nil ?_
 refine run_sr ?_
 refine run_ld hG rfl rfl rfl rfl rfl (ltb rfl) ?_
 refine mvL rfl rfl rfl rfl (ltb rfl) ?_
 obtain ⟨r4, hg5, hM⟩ := bind_t hM
 refine run_call rfl rfl rfl (ltb rfl) rfl rfl rfl (fun _ h => absurd h List.not_mem_nil) (w_szTree_ok n k1 n1 s1 q1 f1 ks1 1048576 hg5 _ _) (callK_retX (fun v tk6 (hle7 : tk ≤ tk6) h8 => ?_))
 subst h8
 refine mvR rfl rfl rfl rfl (ltb rfl) ?_
 refine run_ops_nil ?_
 refine run_seq ?_
 refine run_sr ?_
 refine mvL rfl rfl rfl rfl (ltb rfl) ?_
 refine run_bin rfl rfl rfl rfl rfl rfl rfl (ltb rfl) ?_
 refine run_ops_nil ?_
 refine run_ifd rfl rfl (fun hb11 => ?_) (fun hb11 => ?_)
 ·replace hM := ite_t hb11 hM
  refine run_sr ?_
  refine mvR rfl rfl rfl rfl (ltb rfl) ?_
  refine run_ops_nil ?_
  refine run_ret_to ?_
  obtain rfl := some_t hM
  refine fin_x hG rfl rfl rfl (v' := .bool true) (by rfl) ⟨rfl, (show tk ≤ tk6 by omega), _, rfl, rfl⟩
 ·replace hM := ite_f hb11 hM
  refine run_skip ?_
  refine run_sr ?_
  refine run_ld hG rfl rfl rfl rfl rfl (ltb rfl) ?_
  obtain ⟨r12, hg13, hM⟩ := bind_t hM
  refine run_call rfl rfl rfl (ltb rfl) rfl rfl rfl (fun _ h => absurd h List.not_mem_nil) (w_toTree_ok n k1 n1 s1 q1 f1 ks1 hg13 _ _) (callK_retX (fun v tk14 (hle15 : tk6 ≤ tk14) h16 => ?_))
  obtain ⟨k17, n17, s17, q17, f17, ks17, rfl, rfl, hf18⟩ := h16
  refine mvL rfl rfl rfl rfl (ltb rfl) ?_
  refine mvL rfl rfl rfl rfl (ltb rfl) ?_
  obtain ⟨r19, hg20, hM⟩ := bind_t hM
  refine run_call rfl rfl rfl (ltb rfl) rfl rfl rfl (fun _ h => absurd h List.not_mem_nil) (s_Lift_ok n k17 n17 s17 q17 f17 ks17 i2 i3 hg20 _ _) (callK_retX (fun v tk21 (hle22 : tk14 ≤ tk21) h23 => ?_))
  obtain ⟨ra28, ra29, va30, va31, rfl, rfl, ⟨k24, n24, s24, q24, f24, ks24, rfl, rfl, hf25⟩, rfl⟩ := h23
  refine mvL rfl rfl rfl rfl (ltb rfl) ?_
  refine run_pu rfl (extract_step rfl rfl rfl) rfl (ltb rfl) ?_
  refine run_pu rfl (extract_step rfl rfl rfl) rfl (ltb rfl) ?_
  refine run_op rfl (alloc_step (d := 8) hG rfl rfl rfl) rfl (ltb rfl) ?_
  refine run_op0 rfl (store_step hG rfl rfl rfl rfl rfl rfl rfl rfl) rfl ?_
  refine mvR rfl rfl rfl rfl (ltb rfl) ?_
  refine run_ops_nil ?_
  refine run_sub_code (σ' := ⟨[(1, .int .i64 i2), (2, .int .i64 i3), (3, .optr (.loc 3) 0 0), (6, .bool false), (8, .optr (.loc 8) 0 0), (9, .int .i64 ra29)], [(8, ⟨33, 4, true, [[.int .i64 k24, .int .i64 n24, .str s24, .imm q24 4 f24 (cellss ks24)]]⟩), (3, ⟨28, 4, true, [[.int .i64 k1, .int .i64 n1, .str s1, .imm q1 4 f1 (cellss ks1)]]⟩)], [], O, tk21⟩) (Sub.env _ ⟨rfl, rfl, rfl, rfl, rfl, rfl, trivial⟩) ?_
  refine run_sr ?_
  refine run_ld hG rfl rfl rfl rfl rfl (ltb rfl) ?_
  obtain ⟨r32, hg33, hM⟩ := bind_t hM
  refine run_call rfl rfl rfl (ltb rfl) rfl rfl rfl (fun _ h => absurd h List.not_mem_nil) (w_toTree_ok n k1 n1 s1 q1 f1 ks1 hg33 _ _) (callK_retX (fun v tk34 (hle35 : tk21 ≤ tk34) h36 => ?_))
  obtain ⟨k37, n37, s37, q37, f37, ks37, rfl, rfl, hf38⟩ := h36
  refine run_op rfl (alloc_step (d := 10) hG rfl rfl rfl) rfl (ltb rfl) ?_
  refine run_op0 rfl (store_step hG rfl rfl rfl rfl rfl rfl rfl rfl) rfl ?_
  refine run_ops_nil ?_
  refine run_sr ?_
  refine run_ld hG rfl rfl rfl rfl rfl (ltb rfl) ?_
  refine mvL rfl rfl rfl rfl (ltb rfl) ?_
  refine mvL rfl rfl rfl rfl (ltb rfl) ?_
  obtain ⟨r39, hg40, hM⟩ := bind_t hM
  refine run_call rfl rfl rfl (ltb rfl) rfl rfl rfl (fun _ h => absurd h List.not_mem_nil) (i_Lift_ok n k37 n37 s37 q37 f37 ks37 i2 i3 hg40 _ _) (callK_retX (fun v tk41 (hle42 : tk34 ≤ tk41) h43 => ?_))
  obtain ⟨ra48, ra49, va50, va51, rfl, rfl, ⟨k44, n44, s44, q44, f44, ks44, rfl, rfl, hf45⟩, rfl⟩ := h43
  refine mvL rfl rfl rfl rfl (ltb rfl) ?_
  refine run_pu rfl (extract_step rfl rfl rfl) rfl (ltb rfl) ?_
  refine run_pu rfl (extract_step rfl rfl rfl) rfl (ltb rfl) ?_
  refine run_op rfl (alloc_step (d := 11) hG rfl rfl rfl) rfl (ltb rfl) ?_
  refine run_op0 rfl (store_step hG rfl rfl rfl rfl rfl rfl rfl rfl) rfl ?_
  refine mvR rfl rfl rfl rfl (ltb rfl) ?_
  refine run_ops_nil ?_
  refine run_sub_code (σ' := ⟨[(1, .int .i64 i2), (2, .int .i64 i3), (3, .optr (.loc 3) 0 0), (6, .bool false), (8, .optr (.loc 8) 0 0), (9, .int .i64 ra29), (10, .optr (.loc 10) 0 0), (11, .optr (.loc 11) 0 0), (12, .int .i64 ra49)], [(11, ⟨33, 4, true, [[.int .i64 k44, .int .i64 n44, .str s44, .imm q44 4 f44 (cellss ks44)]]⟩), (10, ⟨33, 4, true, [[.int .i64 k37, .int .i64 n37, .str s37, .imm q37 4 f37 (cellss ks37)]]⟩), (8, ⟨33, 4, true, [[.int .i64 k24, .int .i64 n24, .str s24, .imm q24 4 f24 (cellss ks24)]]⟩), (3, ⟨28, 4, true, [[.int .i64 k1, .int .i64 n1, .str s1, .imm q1 4 f1 (cellss ks1)]]⟩)], [], O, tk41⟩) (Sub.env _ ⟨rfl, rfl, rfl, rfl, rfl, rfl, rfl, rfl, rfl, trivial⟩) ?_
  refine run_seq ?_
  refine run_sr ?_
  refine run_ld hG rfl rfl rfl rfl rfl (ltb rfl) ?_
  refine run_ld hG rfl rfl rfl rfl rfl (ltb rfl) ?_
  obtain ⟨r52, hg53, hM⟩ := bind_t hM
  refine run_call rfl rfl rfl (ltb rfl) rfl rfl rfl (fun _ h => absurd h List.not_mem_nil) (w_eqTree_ok n k44 n44 s44 q44 f44 ks44 k24 n24 s24 q24 f24 ks24 hg53 _ _) (callK_retX (fun v tk54 (hle55 : tk41 ≤ tk54) h56 => ?_))
  subst h56
  refine run_pu rfl (aun_step rfl rfl rfl) rfl (ltb rfl) ?_
  refine mvL rfl rfl rfl rfl (ltb rfl) ?_
  refine run_splitb (i := 44) rfl (fun hb59 => ?_) (fun hb59 => ?_)
  ·replace hM := ite_t hb59 hM
   refine run_off (on_of rfl rfl rfl rfl) rfl (ltb rfl) ?_
   refine run_off (on_of rfl rfl rfl rfl) rfl (ltb rfl) ?_
   refine run_off (on_of rfl rfl rfl rfl) rfl (ltb rfl) ?_
   refine run_pu rfl (pick_step rfl rfl rfl) rfl (ltb rfl) ?_
   refine run_ops_nil ?_
   refine run_if rfl rfl (fun _ => ?_) (fun h => by cases h)
   refine run_sr ?_
   refine mvR rfl rfl rfl rfl (ltb rfl) ?_
   refine run_ops_nil ?_
   refine run_ret_to ?_
   obtain rfl := some_t hM
   refine fin_x hG rfl rfl rfl (v' := .bool false) (by rfl) ⟨rfl, (show tk ≤ tk54 by omega), _, rfl, rfl⟩
  ·replace hM := ite_f hb59 hM
   refine run_puG (on_of rfl rfl rfl rfl) (move_step (.inl rfl) rfl) rfl (ltb rfl) ?_
   refine run_puG (on_of rfl rfl rfl rfl) (move_step (.inl rfl) rfl) rfl (ltb rfl) ?_
   refine run_puG (on_of rfl rfl rfl rfl) (abin_step rfl rfl rfl rfl (fun _ h => by cases h)) rfl (ltb rfl) ?_
   refine run_pu rfl (pick_step rfl rfl rfl) rfl (ltb rfl) ?_
   refine run_ops_nil ?_
   refine run_ifb rfl rfl (fun hb60 => ?_) (fun hb60 => ?_)
   ·replace hM := ite_t hb60 hM
    refine run_sr ?_
    refine mvR rfl rfl rfl rfl (ltb rfl) ?_
    refine run_ops_nil ?_
    refine run_ret_to ?_
    obtain rfl := some_t hM
    refine fin_x hG rfl rfl rfl (v' := .bool false) (by rfl) ⟨rfl, (show tk ≤ tk54 by omega), _, rfl, rfl⟩
   ·replace hM := ite_f hb60 hM
    refine run_skip ?_
    refine run_seq ?_
    refine run_seq ?_
    refine run_draw [] (n := 5) mixed rfl (fun _ h => absurd h List.not_mem_nil) ?_
    refine AAny.take (i := 0) rfl (by kernel_rfl) (by kernel_rfl) (by kernel_rfl) rfl rfl (ltb rfl) (aload_rd hG rfl rfl rfl (by first | (simp [ldok]; done) | exact List.not_mem_nil | trivial)) ?_
    refine AAny.take (i := 1) rfl (by kernel_rfl) (by kernel_rfl) (by kernel_rfl) rfl rfl (ltb rfl) (aload_rd hG rfl rfl rfl (by first | (simp [ldok]; done) | exact List.not_mem_nil | trivial)) ?_
    obtain ⟨r61, hg62, hM⟩ := bind_t hM
    refine AAny.one (i := 2) (by kernel_rfl) (AOp.call rfl rfl rfl rfl (ltb rfl) rfl rfl rfl (fun _ h => absurd h List.not_mem_nil) (fun _ h => absurd h List.not_mem_nil) (w_toTree_ok n k1 n1 s1 q1 f1 ks1 hg62 _ _) (callK_retX (fun v tk63 (hle64 : tk54 ≤ tk63) h65 => ?_)))
    obtain ⟨k66, n66, s66, q66, f66, ks66, rfl, rfl, hf67⟩ := h65
    obtain ⟨r68, hg69, hM⟩ := bind_t hM
    refine AAny.one (i := 3) (by kernel_rfl) (AOp.call rfl rfl rfl rfl (ltb rfl) rfl rfl rfl (fun _ h => absurd h List.not_mem_nil) (fun _ h => absurd h List.not_mem_nil) (w_eqTree_ok n k37 n37 s37 q37 f37 ks37 k66 n66 s66 q66 f66 ks66 hg69 _ _) (callK_retX (fun v tk70 (hle71 : tk63 ≤ tk70) h72 => ?_)))
    subst h72
    refine AAny.take (i := 4) rfl (by kernel_rfl) (by kernel_rfl) (by kernel_rfl) rfl rfl (ltb rfl) ((aun_step rfl rfl rfl).rd _) ?_
    refine AAny.done (by kernel_rfl) ?_
    refine run_sub_code (σ' := ⟨[(1, .int .i64 i2), (2, .int .i64 i3), (3, .optr (.loc 3) 0 0), (6, .bool false), (8, .optr (.loc 8) 0 0), (9, .int .i64 ra29), (10, .optr (.loc 10) 0 0), (11, .optr (.loc 11) 0 0), (12, .int .i64 ra49), (53, .bool (!r68))], [(11, ⟨33, 4, true, [[.int .i64 k44, .int .i64 n44, .str s44, .imm q44 4 f44 (cellss ks44)]]⟩), (10, ⟨33, 4, true, [[.int .i64 k37, .int .i64 n37, .str s37, .imm q37 4 f37 (cellss ks37)]]⟩), (8, ⟨33, 4, true, [[.int .i64 k24, .int .i64 n24, .str s24, .imm q24 4 f24 (cellss ks24)]]⟩), (3, ⟨28, 4, true, [[.int .i64 k1, .int .i64 n1, .str s1, .imm q1 4 f1 (cellss ks1)]]⟩)], [], O, tk70⟩) (Sub.env _ ⟨rfl, rfl, rfl, rfl, rfl, rfl, rfl, rfl, rfl, rfl, trivial⟩) ?_
    refine run_ifb rfl rfl (fun hb75 => ?_) (fun hb75 => ?_)
    ·replace hM := ite_t hb75 hM
     refine run_sr ?_
     refine mvR rfl rfl rfl rfl (ltb rfl) ?_
     refine run_ops_nil ?_
     refine run_ret_to ?_
     obtain rfl := some_t hM
     refine fin_x hG rfl rfl rfl (v' := .bool false) (by rfl) ⟨rfl, (show tk ≤ tk70 by omega), _, rfl, rfl⟩
    ·replace hM := ite_f hb75 hM
     refine run_skip ?_
     refine run_sr ?_
     refine mvR rfl rfl rfl rfl (ltb rfl) ?_
     refine run_ops_nil ?_
     refine run_sr ?_
     refine run_ld hG rfl rfl rfl rfl rfl (ltb rfl) ?_
     refine mvL rfl rfl rfl rfl (ltb rfl) ?_
     obtain ⟨r76, hg77, hM⟩ := bind_t hM
     refine run_callT rfl rfl rfl (ltb rfl) rfl rfl rfl rfl rfl hOn (fun x hx => by have := ((show Fr tk21 tk34 _ from (show Fr tk21 tk34 _ from hf38 rfl))).2 x hx; show S0.tk ≤ x; omega) (w_markTree_m k37 n37 s37 q37 f37 ks37 1 _ (Fr.ge (show Fr tk21 tk34 _ from (show Fr tk21 tk34 _ from hf38 rfl)) (by omega)) ((show Fr tk21 tk34 _ from (show Fr tk21 tk34 _ from hf38 rfl))).1 hg77) (fun out S' hR (hle79 : tk70 ≤ S'.tk) => ?_)
     obtain ⟨ks80, k81, rfl, rfl, _, hst82, hln83, hu84⟩ := hR
     generalize S'.tk = tk78 at hle79 ⊢
     refine ⟨_, rfl, rfl, GT q37 f37 ks37 ks80, GT.turned (Fr.ge (show Fr tk21 tk34 _ from (show Fr tk21 tk34 _ from hf38 rfl)) (by omega)) hst82 hln83 hu84, [(1, .int .i64 i2), (2, .int .i64 i3), (3, .optr (.loc 3) 0 0), (6, .bool false), (8, .optr (.loc 8) 0 0), (9, .int .i64 ra29), (10, .optr (.loc 10) 0 0), (11, .optr (.loc 11) 0 0), (12, .int .i64 ra49), (53, .bool (!r68)), (13, .int .i64 1), (54, .agg [.int .i64 k37, .int .i64 n37, .str s37, .imm q37 4 f37 (cellss ks80)]), (55, .int .i64 1)], [(11, ⟨33, 4, true, [[.int .i64 k44, .int .i64 n44, .str s44, .imm q44 4 f44 (cellss ks44)]]⟩), (10, ⟨33, 4, true, [[.int .i64 k37, .int .i64 n37, .str s37, .imm q37 4 f37 (cellss ks80)]]⟩), (8, ⟨33, 4, true, [[.int .i64 k24, .int .i64 n24, .str s24, .imm q24 4 f24 (cellss ks24)]]⟩), (3, ⟨28, 4, true, [[.int .i64 k1, .int .i64 n1, .str s1, .imm q1 4 f1 (cellss ks1)]]⟩)], (.cons _ _ _ _ rfl (Tn.av (.int _ _)) (.cons _ _ _ _ rfl (Tn.av (.int _ _)) (.cons _ _ _ _ rfl (.optr _ _ _) (.cons _ _ _ _ rfl (Tn.av (.bool _)) (.cons _ _ _ _ rfl (.optr _ _ _) (.cons _ _ _ _ rfl (Tn.av (.int _ _)) (.cons _ _ _ _ rfl (.optr _ _ _) (.cons _ _ _ _ rfl (.optr _ _ _) (.cons _ _ _ _ rfl (Tn.av (.int _ _)) (.cons _ _ _ _ rfl (Tn.av (.bool _)) (.cons _ _ _ _ rfl (Tn.av (.int _ _)) (.cons _ _ _ _ rfl (TnCs.agg (.cons _ _ _ _ (Tn.av (.int _ _)) (.cons _ _ _ _ (Tn.av (.int _ _)) (.cons _ _ _ _ (Tn.av (.str _)) (.cons _ _ _ _ (GT.tn hln83) .nil)))) rfl) (.cons _ _ _ _ rfl (Tn.av (.int _ _)) .nil))))))))))))), (.cons _ _ _ _ _ (TnCs.box (.cons _ _ _ _ (Tn.av (.int _ _)) (.cons _ _ _ _ (Tn.av (.int _ _)) (.cons _ _ _ _ (Tn.av (.str _)) (.cons _ _ _ _ (Tn.av (ts_av (fr_av (show Fr tk34 tk41 _ from (show Fr tk34 tk41 _ from hf45 rfl)) (show Fr tk21 tk34 _ from (show Fr tk21 tk34 _ from hf38 rfl)) (by omega) (by omega)))) .nil)))) rfl) (.cons _ _ _ _ _ (TnCs.box (.cons _ _ _ _ (Tn.av (.int _ _)) (.cons _ _ _ _ (Tn.av (.int _ _)) (.cons _ _ _ _ (Tn.av (.str _)) (.cons _ _ _ _ (GT.tn hln83) .nil)))) rfl) (.cons _ _ _ _ _ (TnCs.box (.cons _ _ _ _ (Tn.av (.int _ _)) (.cons _ _ _ _ (Tn.av (.int _ _)) (.cons _ _ _ _ (Tn.av (.str _)) (.cons _ _ _ _ (Tn.av (ts_av (fr_av (show Fr tk14 tk21 _ from (show Fr tk14 tk21 _ from hf25 rfl)) (show Fr tk21 tk34 _ from (show Fr tk21 tk34 _ from hf38 rfl)) (by omega) (by omega)))) .nil)))) rfl) (.cons _ _ _ _ _ (TnCs.box (.cons _ _ _ _ (Tn.av (.int _ _)) (.cons _ _ _ _ (Tn.av (.int _ _)) (.cons _ _ _ _ (Tn.av (.str _)) (.cons _ _ _ _ (Tn.av (ts_av (old_av ho0))) .nil)))) rfl) .nil)))), ?_⟩
     refine mvR rfl rfl rfl rfl (ltb rfl) ?_
     refine run_ops_nil ?_
     refine run_seq ?_
     refine run_sr ?_
     refine mvL rfl rfl rfl rfl (ltb rfl) ?_
     refine run_bin rfl rfl rfl rfl rfl rfl rfl (ltb rfl) ?_
     refine mvL rfl rfl rfl rfl (ltb rfl) ?_
     refine run_splitd (i := 59) rfl (fun hb85 => ?_) (fun hb85 => ?_)
     ·replace hM := ite_t hb85 hM
      refine run_off (on_of rfl rfl rfl rfl) rfl (ltb rfl) ?_
      refine run_off (on_of rfl rfl rfl rfl) rfl (ltb rfl) ?_
      refine run_off (on_of rfl rfl rfl rfl) rfl (ltb rfl) ?_
      refine run_off (on_of rfl rfl rfl rfl) rfl (ltb rfl) ?_
      refine run_pu rfl (pick_step rfl rfl rfl) rfl (ltb rfl) ?_
      refine mvL rfl rfl rfl rfl (ltb rfl) ?_
      refine run_off (on_of rfl rfl rfl rfl) rfl (ltb rfl) ?_
      refine run_off (on_of rfl rfl rfl rfl) rfl (ltb rfl) ?_
      refine run_off (on_of rfl rfl rfl rfl) rfl (ltb rfl) ?_
      refine run_pu rfl (pick_step rfl rfl rfl) rfl (ltb rfl) ?_
      refine run_ops_nil ?_
      refine run_if rfl rfl (fun _ => ?_) (fun h => by cases h)
      refine run_sr ?_
      refine mvR rfl rfl rfl rfl (ltb rfl) ?_
      refine run_ops_nil ?_
      refine run_ret_to ?_
      obtain rfl := some_t hM
      refine fin_x hG rfl rfl rfl (v' := .bool false) (by rfl) ⟨rfl, (show tk ≤ tk78 by omega), _, rfl, rfl⟩
     ·replace hM := ite_f hb85 hM
      refine run_rdG (on_of rfl rfl rfl rfl) (aload_rd hG rfl rfl rfl (by first | (simp [ldok]; done) | exact List.not_mem_nil | trivial)) rfl (ltb rfl) ?_
      refine run_rdG (on_of rfl rfl rfl rfl) (aload_rd hG rfl rfl rfl (by first | (simp [ldok]; done) | exact List.not_mem_nil | trivial)) rfl (ltb rfl) ?_
      obtain ⟨r86, hg87, hM⟩ := bind_t hM
      refine run_callG (on_of rfl rfl rfl rfl) rfl rfl (ltb rfl) rfl rfl rfl (fun _ h => absurd h List.not_mem_nil) (w_eqTree_ok n k44 n44 s44 q44 f44 ks44 k24 n24 s24 q24 f24 ks24 hg87 _ _) (callK_retX (fun v tk88 (hle89 : tk78 ≤ tk88) h90 => ?_))
      subst h90
      refine run_puG (on_of rfl rfl rfl rfl) (aun_step rfl rfl rfl) rfl (ltb rfl) ?_
      refine run_pu rfl (pick_step rfl rfl rfl) rfl (ltb rfl) ?_
      refine mvL rfl rfl rfl rfl (ltb rfl) ?_
      refine run_splitb (i := 65) rfl (fun hb93 => ?_) (fun hb93 => ?_)
      ·replace hM := ite_t hb93 hM
       refine run_off (on_of rfl rfl rfl rfl) rfl (ltb rfl) ?_
       refine run_off (on_of rfl rfl rfl rfl) rfl (ltb rfl) ?_
       refine run_off (on_of rfl rfl rfl rfl) rfl (ltb rfl) ?_
       refine run_pu rfl (pick_step rfl rfl rfl) rfl (ltb rfl) ?_
       refine run_ops_nil ?_
       refine run_sub_code (σ' := ⟨[(1, .int .i64 i2), (2, .int .i64 i3), (3, .optr (.loc 3) 0 0), (6, .bool false), (8, .optr (.loc 8) 0 0), (9, .int .i64 ra29), (11, .optr (.loc 11) 0 0), (69, .bool true)], [(11, ⟨33, 4, true, [[.int .i64 k44, .int .i64 n44, .str s44, .imm q44 4 f44 (cellss ks44)]]⟩), (8, ⟨33, 4, true, [[.int .i64 k24, .int .i64 n24, .str s24, .imm q24 4 f24 (cellss ks24)]]⟩), (3, ⟨28, 4, true, [[.int .i64 k1, .int .i64 n1, .str s1, .imm q1 4 f1 (cellss ks1)]]⟩)], [], O, tk88⟩) (Sub.trans (Sub.drop (k := 10) rfl) (Sub.env _ ⟨rfl, rfl, rfl, rfl, rfl, rfl, rfl, rfl, trivial⟩)) ?_
       refine run_if rfl rfl (fun _ => ?_) (fun h => by cases h)
       refine run_sr ?_
       refine mvR rfl rfl rfl rfl (ltb rfl) ?_
       refine run_ops_nil ?_
       refine run_ret_to ?_
       obtain rfl := some_t hM
       refine fin_x hG rfl rfl rfl (v' := .bool false) (by rfl) ⟨rfl, (show tk ≤ tk88 by omega), _, rfl, rfl⟩
      ·replace hM := ite_f hb93 hM
       refine run_puG (on_of rfl rfl rfl rfl) (move_step (.inl rfl) rfl) rfl (ltb rfl) ?_
       refine run_puG (on_of rfl rfl rfl rfl) (move_step (.inl rfl) rfl) rfl (ltb rfl) ?_
       refine run_puG (on_of rfl rfl rfl rfl) (abin_step rfl rfl rfl rfl (fun _ h => by cases h)) rfl (ltb rfl) ?_
       refine run_pu rfl (pick_step rfl rfl rfl) rfl (ltb rfl) ?_
       refine run_ops_nil ?_
       refine run_sub_code (σ' := ⟨[(1, .int .i64 i2), (2, .int .i64 i3), (3, .optr (.loc 3) 0 0), (6, .bool false), (8, .optr (.loc 8) 0 0), (9, .int .i64 ra29), (11, .optr (.loc 11) 0 0), (69, .bool (ra49 != ra29))], [(11, ⟨33, 4, true, [[.int .i64 k44, .int .i64 n44, .str s44, .imm q44 4 f44 (cellss ks44)]]⟩), (8, ⟨33, 4, true, [[.int .i64 k24, .int .i64 n24, .str s24, .imm q24 4 f24 (cellss ks24)]]⟩), (3, ⟨28, 4, true, [[.int .i64 k1, .int .i64 n1, .str s1, .imm q1 4 f1 (cellss ks1)]]⟩)], [], O, tk88⟩) (Sub.trans (Sub.drop (k := 10) rfl) (Sub.env _ ⟨rfl, rfl, rfl, rfl, rfl, rfl, rfl, rfl, trivial⟩)) ?_
       refine run_ifb rfl rfl (fun hb94 => ?_) (fun hb94 => ?_)
       ·replace hM := ite_t hb94 hM
        refine run_sr ?_
        refine mvR rfl rfl rfl rfl (ltb rfl) ?_
        refine run_ops_nil ?_
        refine run_ret_to ?_
        obtain rfl := some_t hM
        refine fin_x hG rfl rfl rfl (v' := .bool false) (by rfl) ⟨rfl, (show tk ≤ tk88 by omega), _, rfl, rfl⟩
       ·replace hM := ite_f hb94 hM
        refine run_skip ?_
        refine run_sr ?_
        refine mvR rfl rfl rfl rfl (ltb rfl) ?_
        refine run_ops_nil ?_
        refine run_sr ?_
        refine run_ld hG rfl rfl rfl rfl rfl (ltb rfl) ?_
        refine mvL rfl rfl rfl rfl (ltb rfl) ?_
        obtain ⟨r95, hg96, hM⟩ := bind_t hM
        refine run_callT rfl rfl rfl (ltb rfl) rfl rfl rfl rfl rfl hOn (fun x hx => by have := ((show Fr tk34 tk41 _ from (show Fr tk34 tk41 _ from hf45 rfl))).2 x hx; show S0.tk ≤ x; omega) (w_markTree_m k44 n44 s44 q44 f44 ks44 1 _ (Fr.ge (show Fr tk34 tk41 _ from (show Fr tk34 tk41 _ from hf45 rfl)) (by omega)) ((show Fr tk34 tk41 _ from (show Fr tk34 tk41 _ from hf45 rfl))).1 hg96) (fun out S' hR (hle98 : tk88 ≤ S'.tk) => ?_)
        obtain ⟨ks99, k100, rfl, rfl, _, hst101, hln102, hu103⟩ := hR
        generalize S'.tk = tk97 at hle98 ⊢
        refine ⟨_, rfl, rfl, GT q44 f44 ks44 ks99, GT.turned (Fr.ge (show Fr tk34 tk41 _ from (show Fr tk34 tk41 _ from hf45 rfl)) (by omega)) hst101 hln102 hu103, [(1, .int .i64 i2), (2, .int .i64 i3), (3, .optr (.loc 3) 0 0), (6, .bool false), (8, .optr (.loc 8) 0 0), (9, .int .i64 ra29), (11, .optr (.loc 11) 0 0), (69, .bool (ra49 != ra29)), (14, .int .i64 1), (70, .agg [.int .i64 k44, .int .i64 n44, .str s44, .imm q44 4 f44 (cellss ks99)]), (71, .int .i64 1)], [(11, ⟨33, 4, true, [[.int .i64 k44, .int .i64 n44, .str s44, .imm q44 4 f44 (cellss ks99)]]⟩), (8, ⟨33, 4, true, [[.int .i64 k24, .int .i64 n24, .str s24, .imm q24 4 f24 (cellss ks24)]]⟩), (3, ⟨28, 4, true, [[.int .i64 k1, .int .i64 n1, .str s1, .imm q1 4 f1 (cellss ks1)]]⟩)], (.cons _ _ _ _ rfl (Tn.av (.int _ _)) (.cons _ _ _ _ rfl (Tn.av (.int _ _)) (.cons _ _ _ _ rfl (.optr _ _ _) (.cons _ _ _ _ rfl (Tn.av (.bool _)) (.cons _ _ _ _ rfl (.optr _ _ _) (.cons _ _ _ _ rfl (Tn.av (.int _ _)) (.cons _ _ _ _ rfl (.optr _ _ _) (.cons _ _ _ _ rfl (Tn.av (.bool _)) (.cons _ _ _ _ rfl (Tn.av (.int _ _)) (.cons _ _ _ _ rfl (TnCs.agg (.cons _ _ _ _ (Tn.av (.int _ _)) (.cons _ _ _ _ (Tn.av (.int _ _)) (.cons _ _ _ _ (Tn.av (.str _)) (.cons _ _ _ _ (GT.tn hln102) .nil)))) rfl) (.cons _ _ _ _ rfl (Tn.av (.int _ _)) .nil))))))))))), (.cons _ _ _ _ _ (TnCs.box (.cons _ _ _ _ (Tn.av (.int _ _)) (.cons _ _ _ _ (Tn.av (.int _ _)) (.cons _ _ _ _ (Tn.av (.str _)) (.cons _ _ _ _ (GT.tn hln102) .nil)))) rfl) (.cons _ _ _ _ _ (TnCs.box (.cons _ _ _ _ (Tn.av (.int _ _)) (.cons _ _ _ _ (Tn.av (.int _ _)) (.cons _ _ _ _ (Tn.av (.str _)) (.cons _ _ _ _ (Tn.av (ts_av (fr_av (show Fr tk14 tk21 _ from (show Fr tk14 tk21 _ from hf25 rfl)) (show Fr tk34 tk41 _ from (show Fr tk34 tk41 _ from hf45 rfl)) (by omega) (by omega)))) .nil)))) rfl) (.cons _ _ _ _ _ (TnCs.box (.cons _ _ _ _ (Tn.av (.int _ _)) (.cons _ _ _ _ (Tn.av (.int _ _)) (.cons _ _ _ _ (Tn.av (.str _)) (.cons _ _ _ _ (Tn.av (ts_av (old_av ho0))) .nil)))) rfl) .nil))), ?_⟩
        refine mvR rfl rfl rfl rfl (ltb rfl) ?_
        refine run_ops_nil ?_
        refine run_sr ?_
        refine mvR rfl rfl rfl rfl (ltb rfl) ?_
        refine run_ops_nil ?_
        refine run_sr ?_
        refine run_ld hG rfl rfl rfl rfl rfl (ltb rfl) ?_
        refine mvL rfl rfl rfl rfl (ltb rfl) ?_
        obtain ⟨r104, hg105, hM⟩ := bind_t hM
        refine run_call rfl rfl rfl (ltb rfl) rfl rfl rfl (fun _ h => absurd h List.not_mem_nil) (w_heldTree_ok n k44 n44 s44 q44 f44 ks99 1 hg105 _ _) (callK_retX (fun v tk106 (hle107 : tk97 ≤ tk106) h108 => ?_))
        subst h108
        refine mvR rfl rfl rfl rfl (ltb rfl) ?_
        refine run_ops_nil ?_
        refine run_seq ?_
        refine run_sr ?_
        refine mvL rfl rfl rfl rfl (ltb rfl) ?_
        refine run_bin rfl rfl rfl rfl rfl rfl rfl (ltb rfl) ?_
        refine run_ops_nil ?_
        refine run_ifd rfl rfl (fun hb111 => ?_) (fun hb111 => ?_)
        ·replace hM := ite_t hb111 hM
         refine run_sr ?_
         refine mvR rfl rfl rfl rfl (ltb rfl) ?_
         refine run_ops_nil ?_
         refine run_ret_to ?_
         obtain rfl := some_t hM
         refine fin_x hG rfl rfl rfl (v' := .bool false) (by rfl) ⟨rfl, (show tk ≤ tk106 by omega), _, rfl, rfl⟩
        ·replace hM := ite_f hb111 hM
         refine run_skip ?_
         refine run_seq ?_
         refine run_sr ?_
         refine mvL rfl rfl rfl rfl (ltb rfl) ?_
         refine mvL rfl rfl rfl rfl (ltb rfl) ?_
         refine run_bin rfl rfl rfl rfl rfl rfl rfl (ltb rfl) ?_
         refine run_ops_nil ?_
         refine run_sub_code (σ' := ⟨[(1, .int .i64 i2), (2, .int .i64 i3), (3, .optr (.loc 3) 0 0), (6, .bool false), (8, .optr (.loc 8) 0 0), (9, .int .i64 ra29), (11, .optr (.loc 11) 0 0), (14, .int .i64 k100), (15, .int .i64 r104), (80, .bool (r104 != k100))], [(11, ⟨33, 4, true, [[.int .i64 k44, .int .i64 n44, .str s44, .imm q44 4 f44 (cellss ks99)]]⟩), (8, ⟨33, 4, true, [[.int .i64 k24, .int .i64 n24, .str s24, .imm q24 4 f24 (cellss ks24)]]⟩), (3, ⟨28, 4, true, [[.int .i64 k1, .int .i64 n1, .str s1, .imm q1 4 f1 (cellss ks1)]]⟩)], [], O, tk106⟩) (Sub.env _ ⟨rfl, rfl, rfl, rfl, rfl, rfl, rfl, rfl, rfl, rfl, trivial⟩) ?_
         refine run_ifb rfl rfl (fun hb112 => ?_) (fun hb112 => ?_)
         ·replace hM := ite_t hb112 hM
          refine run_sr ?_
          refine mvR rfl rfl rfl rfl (ltb rfl) ?_
          refine run_ops_nil ?_
          refine run_ret_to ?_
          obtain rfl := some_t hM
          refine fin_x hG rfl rfl rfl (v' := .bool false) (by rfl) ⟨rfl, (show tk ≤ tk106 by omega), _, rfl, rfl⟩
         ·replace hM := ite_f hb112 hM
          refine run_skip ?_
          refine run_sr ?_
          refine run_ld hG rfl rfl rfl rfl rfl (ltb rfl) ?_
          obtain ⟨r113, hg114, hM⟩ := bind_t hM
          refine run_call rfl rfl rfl (ltb rfl) rfl rfl rfl (fun _ h => absurd h List.not_mem_nil) (w_toTree_ok n k1 n1 s1 q1 f1 ks1 hg114 _ _) (callK_retX (fun v tk115 (hle116 : tk106 ≤ tk115) h117 => ?_))
          obtain ⟨k118, n118, s118, q118, f118, ks118, rfl, rfl, hf119⟩ := h117
          refine mvL rfl rfl rfl rfl (ltb rfl) ?_
          refine mvL rfl rfl rfl rfl (ltb rfl) ?_
          obtain ⟨r120, hg121, hM⟩ := bind_t hM
          refine run_call rfl rfl rfl (ltb rfl) rfl rfl rfl (fun _ h => absurd h List.not_mem_nil) (i_Lift_ok n k118 n118 s118 q118 f118 ks118 i2 i3 hg121 _ _) (callK_retX (fun v tk122 (hle123 : tk115 ≤ tk122) h124 => ?_))
          obtain ⟨ra129, ra130, va131, va132, rfl, rfl, ⟨k125, n125, s125, q125, f125, ks125, rfl, rfl, hf126⟩, rfl⟩ := h124
          refine mvL rfl rfl rfl rfl (ltb rfl) ?_
          refine run_pu rfl (extract_step rfl rfl rfl) rfl (ltb rfl) ?_
          refine run_pu rfl (extract_step rfl rfl rfl) rfl (ltb rfl) ?_
          refine run_op rfl (alloc_step (d := 16) hG rfl rfl rfl) rfl (ltb rfl) ?_
          refine run_op0 rfl (store_step hG rfl rfl rfl rfl rfl rfl rfl rfl) rfl ?_
          refine mvR rfl rfl rfl rfl (ltb rfl) ?_
          refine run_ops_nil ?_
          refine run_seq ?_
          refine run_sr ?_
          refine run_ld hG rfl rfl rfl rfl rfl (ltb rfl) ?_
          refine run_ld hG rfl rfl rfl rfl rfl (ltb rfl) ?_
          obtain ⟨r133, hg134, hM⟩ := bind_t hM
          refine run_call rfl rfl rfl (ltb rfl) rfl rfl rfl (fun _ h => absurd h List.not_mem_nil) (w_eqTree_ok n k125 n125 s125 q125 f125 ks125 k24 n24 s24 q24 f24 ks24 hg134 _ _) (callK_retX (fun v tk135 (hle136 : tk122 ≤ tk135) h137 => ?_))
          subst h137
          refine run_pu rfl (aun_step rfl rfl rfl) rfl (ltb rfl) ?_
          refine mvL rfl rfl rfl rfl (ltb rfl) ?_
          refine run_splitb (i := 93) rfl (fun hb140 => ?_) (fun hb140 => ?_)
          ·replace hM := ite_t hb140 hM
           refine run_off (on_of rfl rfl rfl rfl) rfl (ltb rfl) ?_
           refine run_off (on_of rfl rfl rfl rfl) rfl (ltb rfl) ?_
           refine run_off (on_of rfl rfl rfl rfl) rfl (ltb rfl) ?_
           refine run_pu rfl (pick_step rfl rfl rfl) rfl (ltb rfl) ?_
           refine run_ops_nil ?_
           refine run_sub_code (σ' := ⟨[(6, .bool false), (11, .optr (.loc 11) 0 0), (14, .int .i64 k100), (15, .int .i64 r104), (97, .bool true)], [(11, ⟨33, 4, true, [[.int .i64 k44, .int .i64 n44, .str s44, .imm q44 4 f44 (cellss ks99)]]⟩)], [], O, tk135⟩) (Sub.trans (Sub.drop (k := 16) rfl) (Sub.trans (Sub.drop (k := 8) rfl) (Sub.trans (Sub.drop (k := 3) rfl) (Sub.env _ ⟨rfl, rfl, rfl, rfl, rfl, trivial⟩)))) ?_
           refine run_if rfl rfl (fun _ => ?_) (fun h => by cases h)
           refine run_sr ?_
           refine mvR rfl rfl rfl rfl (ltb rfl) ?_
           refine run_ops_nil ?_
           refine run_ret_to ?_
           obtain rfl := some_t hM
           refine fin_x hG rfl rfl rfl (v' := .bool false) (by rfl) ⟨rfl, (show tk ≤ tk135 by omega), _, rfl, rfl⟩
          ·replace hM := ite_f hb140 hM
           refine run_puG (on_of rfl rfl rfl rfl) (move_step (.inl rfl) rfl) rfl (ltb rfl) ?_
           refine run_puG (on_of rfl rfl rfl rfl) (move_step (.inl rfl) rfl) rfl (ltb rfl) ?_
           refine run_puG (on_of rfl rfl rfl rfl) (abin_step rfl rfl rfl rfl (fun _ h => by cases h)) rfl (ltb rfl) ?_
           refine run_pu rfl (pick_step rfl rfl rfl) rfl (ltb rfl) ?_
           refine run_ops_nil ?_
           refine run_sub_code (σ' := ⟨[(6, .bool false), (11, .optr (.loc 11) 0 0), (14, .int .i64 k100), (15, .int .i64 r104), (97, .bool (ra130 != ra29))], [(11, ⟨33, 4, true, [[.int .i64 k44, .int .i64 n44, .str s44, .imm q44 4 f44 (cellss ks99)]]⟩)], [], O, tk135⟩) (Sub.trans (Sub.drop (k := 16) rfl) (Sub.trans (Sub.drop (k := 8) rfl) (Sub.trans (Sub.drop (k := 3) rfl) (Sub.env _ ⟨rfl, rfl, rfl, rfl, rfl, trivial⟩)))) ?_
           refine run_ifb rfl rfl (fun hb141 => ?_) (fun hb141 => ?_)
           ·replace hM := ite_t hb141 hM
            refine run_sr ?_
            refine mvR rfl rfl rfl rfl (ltb rfl) ?_
            refine run_ops_nil ?_
            refine run_ret_to ?_
            obtain rfl := some_t hM
            refine fin_x hG rfl rfl rfl (v' := .bool false) (by rfl) ⟨rfl, (show tk ≤ tk135 by omega), _, rfl, rfl⟩
           ·replace hM := ite_f hb141 hM
            refine run_skip ?_
            refine run_sr ?_
            refine mvR rfl rfl rfl rfl (ltb rfl) ?_
            refine run_ops_nil ?_
            refine run_sr ?_
            refine run_ld hG rfl rfl rfl rfl rfl (ltb rfl) ?_
            refine mvL rfl rfl rfl rfl (ltb rfl) ?_
            obtain ⟨r142, hg143, hM⟩ := bind_t hM
            refine run_call rfl rfl rfl (ltb rfl) rfl rfl rfl (fun _ h => absurd h List.not_mem_nil) (w_heldTree_ok n k44 n44 s44 q44 f44 ks99 1 hg143 _ _) (callK_retX (fun v tk144 (hle145 : tk135 ≤ tk144) h146 => ?_))
            subst h146
            refine mvR rfl rfl rfl rfl (ltb rfl) ?_
            refine run_ops_nil ?_
            refine run_seq ?_
            refine run_sr ?_
            refine mvL rfl rfl rfl rfl (ltb rfl) ?_
            refine run_bin rfl rfl rfl rfl rfl rfl rfl (ltb rfl) ?_
            refine run_ops_nil ?_
            refine run_ifd rfl rfl (fun hb149 => ?_) (fun hb149 => ?_)
            ·replace hM := ite_t hb149 hM
             refine run_sr ?_
             refine mvR rfl rfl rfl rfl (ltb rfl) ?_
             refine run_ops_nil ?_
             refine run_ret_to ?_
             obtain rfl := some_t hM
             refine fin_x hG rfl rfl rfl (v' := .bool false) (by rfl) ⟨rfl, (show tk ≤ tk144 by omega), _, rfl, rfl⟩
            ·replace hM := ite_f hb149 hM
             refine run_skip ?_
             refine run_seq ?_
             refine run_sr ?_
             refine mvL rfl rfl rfl rfl (ltb rfl) ?_
             refine mvL rfl rfl rfl rfl (ltb rfl) ?_
             refine run_bin rfl rfl rfl rfl rfl rfl rfl (ltb rfl) ?_
             refine run_ops_nil ?_
             refine run_ifb rfl rfl (fun hb150 => ?_) (fun hb150 => ?_)
             ·replace hM := ite_t hb150 hM
              refine run_sr ?_
              refine mvR rfl rfl rfl rfl (ltb rfl) ?_
              refine run_ops_nil ?_
              refine run_ret_to ?_
              obtain rfl := some_t hM
              refine fin_x hG rfl rfl rfl (v' := .bool false) (by rfl) ⟨rfl, (show tk ≤ tk144 by omega), _, rfl, rfl⟩
             ·replace hM := ite_f hb150 hM
              refine run_skip ?_
              refine run_sr ?_
              refine mvR rfl rfl rfl rfl (ltb rfl) ?_
              refine run_ops_nil ?_
              refine run_ret_to ?_
              obtain rfl := some_t hM
              refine fin_x hG rfl rfl rfl (v' := .bool true) (by rfl) ⟨rfl, (show tk ≤ tk144 by omega), _, rfl, rfl⟩

end Go.Am.YtlbofhoehollfaaDoor
