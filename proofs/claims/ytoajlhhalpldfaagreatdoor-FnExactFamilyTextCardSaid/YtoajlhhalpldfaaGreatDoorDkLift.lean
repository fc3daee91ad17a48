/- Printed by a program of ours: Lean functions that do what the Go functions do, and the contracts. -/
import Derived.Test.YtoajlhhalpldfaaGreatDoorMl0
import Derived.Test.YtoajlhhalpldfaaGreatDoorMb1
import Derived.Test.YtoajlhhalpldfaaGreatDoorTypes
import Derived.Test.YtoajlhhalpldfaaGreatDoorDkBig
import Derived.Test.YtoajlhhalpldfaaGreatDoorMz
-- packed
namespace Go.Am.YtoajlhhalpldfaaGreatDoor
open Go Go.Am

def i_lift_c1 (x1 : T) (i2 : Int) (i3 : Int) (i4 : Int) : Option T :=
 if x1.n ≥ (IntKind.i64.wrap (i3 + i2)) then
  some (T.mk x1.kind (IntKind.i64.wrap (x1.n + i4)) x1.name x1.kids)
 else
  some x1

set_option maxRecDepth 100000 in
theorem i_lift_c1_ok : ∀ (k1 : Int) (n1 : Int) (s1 : ByteArray) (q1 : Nat) (f1 : Bool) (ks1 : List LT) (i2 : Int) (X0 : ID) (i3 : Int) (X1 : ID) (i4 : Int) {r : T}, i_lift_c1 (T.mk k1 n1 s1 (ers ks1)) i2 i3 i4 = some r → ∀ (O : Heap) (tk : Nat), O X0 = some ⟨3, 1, true, [[.int .i64 i3]]⟩ → O X1 = some ⟨3, 1, true, [[.int .i64 i4]]⟩ → X0 ≠ X1 → ∀ (lo : Nat), lo ≤ tk → Fr lo tk (tstoks q1 ks1) → ACalls Go.Proofs.Tryz.prog 98 [.agg [.int .i64 k1, .int .i64 n1, .str s1, .imm q1 4 f1 (cellss ks1)], .int .i64 i2, .optr X0 0 0, .optr X1 0 0] O tk (RetX O tk (fun v tk' => VT true lo tk' r v)) := by
 intro k1 n1 s1 q1 f1 ks1 i2 X0 i3 X1 i4 r hM O tk hX0 hX1 hN01 lo hlo hpass
 unfold i_lift_c1 at hM
 refine acalls_of_run Go.Proofs.Tryz.func98 rfl rfl [X0, X1] [⟨3, 1, true, [[.int .i64 i3]]⟩, ⟨3, 1, true, [[.int .i64 i4]]⟩] (Bor.two hX0 rfl hX1 rfl hN01) [(0, .agg [.int .i64 k1, .int .i64 n1, .str s1, .imm q1 4 f1 (cellss ks1)]), (1, .int .i64 i2), (2, .optr (.bor 0) 0 0), (3, .optr (.bor 1) 0 0)] (.cons (.agg _) (.cons (entS rfl) (.cons (.bor 0 _ _ _ rfl) (.cons (.bor 1 _ _ _ rfl) (.nil _))))) (leb rfl) (by intro y h; simp only [List.mem_cons, List.not_mem_nil, or_false] at h; rcases h with rfl | rfl <;> simp [tch, tch0]) (fun S0 hO htk hfz => ?_)
 refine run_sr ?_
 refine run_op rfl (box_step (d := 4) rfl rfl rfl rfl rfl) rfl (ltb rfl) ?_
 refine run_op rfl (alloc_step (d := 6) hG rfl rfl rfl) rfl (ltb rfl) ?_
 refine yN ?_
 refine run_seq ?_
 refine run_sr ?_
 refine yF hG rfl ?_
 refine yD hG rfl ?_
 refine yD hG rfl ?_
 refine yL rfl ?_
 refine yB rfl ?_
 refine yB rfl ?_
 refine yN ?_
 refine run_ifd rfl rfl (fun hb5 => ?_) (fun hb5 => ?_)
 ·replace hM := ite_t hb5 hM
  refine run_region ?_
  refine yF hG rfl ?_
  refine yD hG rfl ?_
  refine yD hG rfl ?_
  refine yB rfl ?_
  refine yF hG rfl ?_
  refine yS hG rfl ?_
  refine yN ?_
  refine run_sub_code (σ' := ⟨[(4, .optr (.loc 4) 0 0), (6, .optr (.loc 6) 0 0)], [(6, ⟨27, 4, true, [[.int .i64 0, .int .i64 0, .str ⟨#[]⟩, .imm 0 4 true []]]⟩), (4, ⟨27, 4, true, [[.int .i64 k1, .int .i64 (IntKind.i64.wrap (n1 + i4)), .str s1, .imm q1 4 f1 (cellss ks1)]]⟩)], [⟨3, 1, true, [[.int .i64 i3]]⟩, ⟨3, 1, true, [[.int .i64 i4]]⟩], O, tk⟩) (Sub.env _ ⟨rfl, rfl, trivial⟩) ?_
  refine run_sr ?_
  refine yD hG rfl ?_
  refine yS hG rfl ?_
  refine yN ?_
  refine run_ret_to ?_
  replace hM := some_t hM
  subst hM
  refine fin_x hG rfl rfl rfl (v' := .agg [.int .i64 k1, .int .i64 (IntKind.i64.wrap (n1 + i4)), .str s1, .imm q1 4 f1 (cellss ks1)]) (by rfl) ⟨out_same (Bor.two hX0 rfl hX1 rfl hN01), (show tk ≤ tk by omega), _, rfl, ⟨k1, (IntKind.i64.wrap (n1 + i4)), s1, q1, f1, ks1, rfl, rfl, fun _ => (show Fr lo tk _ from (hpass).mono (by omega) (by omega))⟩⟩
 replace hM := ite_f hb5 hM
 refine run_skip ?_
 refine run_sr ?_
 refine yD hG rfl ?_
 refine yS hG rfl ?_
 refine yN ?_
 refine run_ret_to ?_
 replace hM := some_t hM
 subst hM
 refine fin_x hG rfl rfl rfl (v' := .agg [.int .i64 k1, .int .i64 n1, .str s1, .imm q1 4 f1 (cellss ks1)]) (by rfl) ⟨out_same (Bor.two hX0 rfl hX1 rfl hN01), (show tk ≤ tk by omega), _, rfl, ⟨k1, n1, s1, q1, f1, ks1, rfl, rfl, fun _ => (show Fr lo tk _ from (hpass).mono (by omega) (by omega))⟩⟩

def i_turned__fn_i_lift_c1vv_L1 (rec_i_turned__fn_i_lift_c1vv : T → Int → Int → Int → Option T) (x1 : T) (i2 : Int) (i3 : Int) (i4 : Int) : Nat → Int → List T → Option T
 | 0, _, _ => none
 | m + 1, i5, l6 =>
  if i5 < ((x1.kids).length : Int) then
   (idx x1.kids i5).bind fun y8 =>
   (i_Tree_under x1 i5).bind fun r13 =>
   (rec_i_turned__fn_i_lift_c1vv y8 (IntKind.i64.wrap (i2 + r13)) i3 i4).bind fun r20 =>
   chk ((l6).length + ([r20]).length ≤ 1099511627776) <|
   i_turned__fn_i_lift_c1vv_L1 rec_i_turned__fn_i_lift_c1vv x1 i2 i3 i4 m (IntKind.i64.wrap (i5 + 1)) (l6 ++ [r20])
  else
   if x1.kind = 5 then
    (i_lift_c1 (T.mk x1.kind x1.n x1.name l6) i2 i3 i4).bind fun r29 =>
    some r29
   else
    some (T.mk x1.kind x1.n x1.name l6)

def i_turned__fn_i_lift_c1vv : Nat → T → Int → Int → Int → Option T
 | 0, _, _, _, _ => none
 | n + 1, x1, i2, i3, i4 =>
  i_turned__fn_i_lift_c1vv_L1 (i_turned__fn_i_lift_c1vv n) x1 i2 i3 i4 n 0 ([])

def i_turned__fn_i_lift_c1vv_P (n : Nat) : Prop := ∀ (k1 : Int) (n1 : Int) (s1 : ByteArray) (q1 : Nat) (f1 : Bool) (ks1 : List LT) (i2 : Int) (X0 : ID) (i3 : Int) (X1 : ID) (i4 : Int) {r : T}, i_turned__fn_i_lift_c1vv n (T.mk k1 n1 s1 (ers ks1)) i2 i3 i4 = some r → ∀ (O : Heap) (tk : Nat), O X0 = some ⟨3, 1, true, [[.int .i64 i3]]⟩ → O X1 = some ⟨3, 1, true, [[.int .i64 i4]]⟩ → X0 ≠ X1 → ACalls Go.Proofs.Tryz.prog 97 [.agg [.int .i64 k1, .int .i64 n1, .str s1, .imm q1 4 f1 (cellss ks1)], .int .i64 i2, .fn (.func 98) [] [.optr X0 0 0, .optr X1 0 0]] O tk (RetX O tk (fun v tk' => VT true tk tk' r v))

set_option maxHeartbeats 20000000 in
set_option maxHeartbeats 20000000 in
set_option maxRecDepth 100000 in
theorem i_turned__fn_i_lift_c1vv_st (n : Nat) (ih_i_turned__fn_i_lift_c1vv : i_turned__fn_i_lift_c1vv_P n) : i_turned__fn_i_lift_c1vv_P (n + 1) := by
 intro k1 n1 s1 q1 f1 ks1 i2 X0 i3 X1 i4 r hM O tk hX0 hX1 hN01
 rw [i_turned__fn_i_lift_c1vv] at hM
 refine acalls_of_run Go.Proofs.Tryz.func97 rfl rfl [X0, X1] [⟨3, 1, true, [[.int .i64 i3]]⟩, ⟨3, 1, true, [[.int .i64 i4]]⟩] (Bor.two hX0 rfl hX1 rfl hN01) [(0, .agg [.int .i64 k1, .int .i64 n1, .str s1, .imm q1 4 f1 (cellss ks1)]), (1, .int .i64 i2), (2, .fn (.func 98) [] [.optr (.bor 0) 0 0, .optr (.bor 1) 0 0])] (.cons (.agg _) (.cons (entS rfl) (.cons (ent_fn2 (.bor 0 _ _ _ rfl) (.bor 1 _ _ _ rfl)) (.nil _)))) (leb rfl) (by intro y h; simp only [List.mem_cons, List.not_mem_nil, or_false] at h; rcases h with rfl | rfl <;> simp [tch, tch0]) (fun S0 hO htk hfz => ?_)
 refine run_sr ?_
 refine run_op rfl (box_step (d := 3) rfl rfl rfl rfl rfl) rfl (ltb rfl) ?_
 refine run_op rfl (alloc_step (d := 6) hG rfl rfl rfl) rfl (ltb rfl) ?_
 refine yN ?_
 refine run_sr ?_
 refine run_op rfl (buildSlice_step (d := 10) hG rfl rfl rfl rfl rfl (by rfl) (by rfl) (by rfl) (by decide)) rfl (ltb rfl) ?_
 refine yR rfl ?_
 refine yN ?_
 refine run_seq ?_
 refine run_sr ?_
 refine yF hG rfl ?_
 refine yD hG rfl ?_
 refine run_pu rfl (lenImm_step hG rfl rfl rfl rfl (tlen _)) rfl (ltb rfl) ?_
 refine yL rfl ?_
 refine yN ?_
 refine run_block ?_
 refine run_rounds (fun m σ => ∃ (i5 : Int) (ks6 : List LT) (tki_turned__fn_i_lift_c1vv_L1 : Nat), tk ≤ tki_turned__fn_i_lift_c1vv_L1 ∧ Fr tk tki_turned__fn_i_lift_c1vv_L1 (ttoks ks6) ∧ i_turned__fn_i_lift_c1vv_L1 (i_turned__fn_i_lift_c1vv n) (T.mk k1 n1 s1 (ers ks1)) i2 i3 i4 m i5 (ers ks6) = some r ∧ σ = ⟨[(1, .int .i64 i2), (2, .fn (.func 98) [] [.optr (.bor 0) 0 0, .optr (.bor 1) 0 0]), (3, .optr (.loc 3) 0 0), (6, .optr (.loc 6) 0 0), (7, .osl (.loc 10)), (12, .imm q1 4 f1 (cellss ks1)), (13, .int .i64 (((ers ks1)).length : Int)), (14, .int .i64 i5)], [(10, ⟨27, 4, false, cellss ks6⟩), (6, ⟨27, 4, true, [[.int .i64 0, .int .i64 0, .str ⟨#[]⟩, .imm 0 4 true []]]⟩), (3, ⟨27, 4, true, [[.int .i64 k1, .int .i64 n1, .str s1, .imm q1 4 f1 (cellss ks1)]]⟩)], [⟨3, 1, true, [[.int .i64 i3]]⟩, ⟨3, 1, true, [[.int .i64 i4]]⟩], O, tki_turned__fn_i_lift_c1vv_L1⟩) n (Sub.pk [1, 2, 3, 6, 7, 12, 13, 14] rfl) ⟨0, [], tk, Nat.le_refl _, Fr.nil _ _, hM, rfl⟩ (fun m σ hI => ?_)
 clear hM
 obtain ⟨i5, ks6, tki_turned__fn_i_lift_c1vv_L1, hle36, hfr6, hM, rfl⟩ := hI
 obtain _ | m := m
 ·exact absurd hM (by rw [i_turned__fn_i_lift_c1vv_L1]; exact fun h => by cases h)
 rw [i_turned__fn_i_lift_c1vv_L1] at hM
 refine run_sr ?_
 refine yB rfl ?_
 refine yN ?_
 refine run_seq ?_
 refine run_ifd rfl rfl (fun hb7 => ?_) (fun hb7 => ?_)
 ·replace hM := ite_t hb7 hM
  refine run_skip ?_
  refine run_seq ?_
  refine run_block ?_
  refine run_sr ?_
  refine yL rfl ?_
  obtain ⟨y8, hy9, hM⟩ := bind_t hM
  obtain ⟨k10, n10, s10, q10, f10, ks10, rfl, hc11, hi12⟩ := tidx (ks := ks1) hy9
  refine run_pu rfl (indexImm_step hG rfl rfl rfl hi12 rfl rfl rfl rfl hc11) rfl (ltb rfl) ?_
  refine yD hG rfl ?_
  refine run_op rfl (alloc_step (d := 9) hG rfl rfl rfl) rfl (ltb rfl) ?_
  refine yR rfl ?_
  refine yS hG rfl ?_
  refine yN ?_
  refine run_draw [.loc 3, .bor 0, .bor 1, .loc 10] (n := 11) mixed rfl (by intro x hx; simp only [List.mem_cons, List.not_mem_nil, or_false] at hx; rcases hx with rfl | rfl | rfl | rfl <;> rfl) ?_
  refine yTV 0 (by kernel_rfl) rfl ?_
  refine yTL hG 1 (by kernel_rfl) rfl ?_
  refine yTV 2 (by kernel_rfl) rfl ?_
  refine yTV 3 (by kernel_rfl) rfl ?_
  refine yTV 6 (by kernel_rfl) rfl ?_
  obtain ⟨r13, hg14, hM⟩ := bind_t hM
  refine AAny.one (i := 4) (by kernel_rfl) (AOp.call rfl rfl rfl rfl (ltb rfl) rfl rfl rfl yE (by intro x hx; have hx : x ∈ [ID.loc 3] := hx; simp only [List.mem_cons, List.not_mem_nil, or_false] at hx; subst hx; simp) (i_Tree_under_ok (.loc 3) k1 n1 s1 q1 f1 ks1 i5 hg14 _ _ rfl) (callK_retX (fun v tk15 (hle16 : tki_turned__fn_i_lift_c1vv_L1 ≤ tk15) h17 => ?_)))
  subst h17
  refine yT 5 (by kernel_rfl) rfl rfl rfl (ltb rfl) ((abin_step rfl rfl rfl rfl (fun _ h => by cases h)).rd _) ?_
  obtain ⟨r20, hg21, hM⟩ := bind_t hM
  refine AAny.one (i := 7) (by kernel_rfl) (AOp.call rfl rfl rfl rfl (ltb rfl) rfl rfl rfl yE (by intro x hx; have hx : x ∈ [ID.bor 0, ID.bor 1] := hx; simp only [List.mem_cons, List.not_mem_nil, or_false] at hx; rcases hx with rfl | rfl <;> simp) (ih_i_turned__fn_i_lift_c1vv k10 n10 s10 q10 f10 ks10 (IntKind.i64.wrap (i2 + r13)) (.bor 0) i3 (.bor 1) i4 hg21 _ _ rfl rfl (by decide)) (callK_retX (fun v tk22 (hle23 : tk15 ≤ tk22) h24 => ?_)))
  obtain ⟨k25, n25, s25, q25, f25, ks25, rfl, rfl, hf26⟩ := h24
  refine AAny.one (i := 8) (by kernel_rfl) (AOp.step rfl rfl rfl (ltb rfl) (buildSlice_step (d := 27) hG rfl rfl rfl rfl rfl (by rfl) (by rfl) (by rfl) (by decide)) yE ?_)
  obtain ⟨hc27, hM⟩ := chk_t hM
  try rw [show ((ers ks6) ++ [(T.mk k25 n25 s25 (ers ks25))] : List T) = (ers (ks6 ++ [LT.mk k25 n25 s25 q25 f25 ks25])) from ers_app ks6 [LT.mk k25 n25 s25 q25 f25 ks25]] at hM
  refine AAny.one (i := 9) (by kernel_rfl) (AOp.step rfl rfl rfl (ltb rfl) (appendM_step hG rfl rfl rfl rfl rfl rfl rfl rfl rfl rfl rfl (cellss_sz ([LT.mk k25 n25 s25 q25 f25 ks25])) (tlen ks6) (tlen ([LT.mk k25 n25 s25 q25 f25 ks25])) hc27 (by decide) (cellss_app _ _)) (by intro x hx; simp only [List.mem_cons, List.not_mem_nil, or_false] at hx; subst hx; simp) ?_)
  refine yTW 10 (by kernel_rfl) rfl ?_
  refine AAny.done (by kernel_rfl) ?_
  refine run_blk ?_
  refine run_sub_code (σ' := ⟨[(1, .int .i64 i2), (2, .fn (.func 98) [] [.optr (.bor 0) 0 0, .optr (.bor 1) 0 0]), (3, .optr (.loc 3) 0 0), (6, .optr (.loc 6) 0 0), (7, .osl (.loc 10)), (12, .imm q1 4 f1 (cellss ks1)), (13, .int .i64 (((ers ks1)).length : Int)), (14, .int .i64 i5)], [(10, ⟨27, 4, false, cellss (ks6 ++ [LT.mk k25 n25 s25 q25 f25 ks25])⟩), (6, ⟨27, 4, true, [[.int .i64 0, .int .i64 0, .str ⟨#[]⟩, .imm 0 4 true []]]⟩), (3, ⟨27, 4, true, [[.int .i64 k1, .int .i64 n1, .str s1, .imm q1 4 f1 (cellss ks1)]]⟩)], [⟨3, 1, true, [[.int .i64 i3]]⟩, ⟨3, 1, true, [[.int .i64 i4]]⟩], O, tk22⟩) (Sub.trans (Sub.drop (k := 27) rfl) (Sub.trans (Sub.drop (k := 9) rfl) (Sub.env _ ⟨rfl, rfl, rfl, rfl, rfl, rfl, rfl, rfl, trivial⟩))) ?_
  refine run_region ?_
  refine yB rfl ?_
  refine yL rfl ?_
  refine yN ?_
  exact run_loop_end ⟨m, _, Nat.lt_succ_self _, ⟨(IntKind.i64.wrap (i5 + 1)), (ks6 ++ [LT.mk k25 n25 s25 q25 f25 ks25]), tk22, (show tk ≤ tk22 by omega), (show Fr tk tk22 _ from (Fr.tsnoc (show Fr tk tk15 _ from (hfr6).mono (by omega) (by omega)) ((show Fr tk15 tk22 _ from hf26 rfl)) (by omega) (by omega)).mono (by omega) (by omega)), hM, rfl⟩, Sub.pk [1, 2, 3, 6, 7, 12, 13, 14] rfl⟩
 replace hM := ite_f hb7 hM
 refine run_exit_to rfl ?_
 refine run_sr ?_
 refine yL rfl ?_
 refine yF hG rfl ?_
 refine yS hG rfl ?_
 refine yN ?_
 refine run_seq ?_
 refine run_sr ?_
 refine yF hG rfl ?_
 refine yD hG rfl ?_
 refine yB rfl ?_
 refine yN ?_
 refine run_ifd rfl rfl (fun hb28 => ?_) (fun hb28 => ?_)
 ·replace hM := ite_t hb28 hM
  refine run_sr ?_
  refine yL rfl ?_
  refine yD hG rfl ?_
  refine yL rfl ?_
  refine run_sub_ops (Sub.freeze (k := 10) rfl rfl) ?_
  obtain ⟨r29, hg30, hM⟩ := bind_t hM
  refine yK rfl (i_lift_c1_ok k1 n1 s1 tki_turned__fn_i_lift_c1vv_L1 false ks6 i2 (.bor 0) i3 (.bor 1) i4 hg30 _ _ rfl rfl (by decide) tk (show tk ≤ (tki_turned__fn_i_lift_c1vv_L1 + 1) by omega) (show Fr tk (tki_turned__fn_i_lift_c1vv_L1 + 1) _ from (show Fr tk (tki_turned__fn_i_lift_c1vv_L1 + 1) _ from Fr.tstop (show Fr tk tki_turned__fn_i_lift_c1vv_L1 _ from (hfr6).mono (by omega) (by omega)) (by omega) (by omega)).mono (by omega) (by omega))) (callK_retX (fun v tk31 (hle32 : (tki_turned__fn_i_lift_c1vv_L1 + 1) ≤ tk31) h33 => ?_))
  obtain ⟨k34, n34, s34, q34, f34, ks34, rfl, rfl, hf35⟩ := h33
  refine yS hG rfl ?_
  refine yN ?_
  refine run_ret_to ?_
  replace hM := some_t hM
  subst hM
  refine fin_x hG rfl rfl rfl (v' := .agg [.int .i64 k34, .int .i64 n34, .str s34, .imm q34 4 f34 (cellss ks34)]) (by rfl) ⟨out_same (Bor.two hX0 rfl hX1 rfl hN01), (show tk ≤ tk31 by omega), _, rfl, ⟨k34, n34, s34, q34, f34, ks34, rfl, rfl, fun _ => (show Fr tk tk31 _ from ((show Fr tk tk31 _ from hf35 rfl)).mono (by omega) (by omega))⟩⟩
 replace hM := ite_f hb28 hM
 refine run_skip ?_
 refine run_sr ?_
 refine yD hG rfl ?_
 refine yS hG rfl ?_
 refine yN ?_
 refine run_ret_to ?_
 refine fin_sub (Sub.freeze (k := 10) rfl rfl) ?_
 replace hM := some_t hM
 subst hM
 refine fin_x hG rfl rfl rfl (v' := .agg [.int .i64 k1, .int .i64 n1, .str s1, .imm tki_turned__fn_i_lift_c1vv_L1 4 false (cellss ks6)]) (by rfl) ⟨out_same (Bor.two hX0 rfl hX1 rfl hN01), (show tk ≤ (tki_turned__fn_i_lift_c1vv_L1 + 1) by omega), _, rfl, ⟨k1, n1, s1, tki_turned__fn_i_lift_c1vv_L1, false, ks6, rfl, rfl, fun _ => (show Fr tk (tki_turned__fn_i_lift_c1vv_L1 + 1) _ from (show Fr tk (tki_turned__fn_i_lift_c1vv_L1 + 1) _ from Fr.tstop (show Fr tk tki_turned__fn_i_lift_c1vv_L1 _ from (hfr6).mono (by omega) (by omega)) (by omega) (by omega)).mono (by omega) (by omega))⟩⟩

theorem i_turned__fn_i_lift_c1vv_all : ∀ (n : Nat), (i_turned__fn_i_lift_c1vv_P n)
 | 0 => by intro k1 n1 s1 q1 f1 ks1 i2 X0 i3 X1 i4 r hM; rw [i_turned__fn_i_lift_c1vv] at hM; cases hM
 | n + 1 => have ih := i_turned__fn_i_lift_c1vv_all n; i_turned__fn_i_lift_c1vv_st n (ih)

theorem i_turned__fn_i_lift_c1vv_ok (n : Nat) : i_turned__fn_i_lift_c1vv_P n := i_turned__fn_i_lift_c1vv_all n

def i_lift (n : Nat) (x1 : T) (i2 : Int) (i3 : Int) : Option T :=
 (i_turned__fn_i_lift_c1vv n x1 0 i2 i3).bind fun r4 =>
 some r4

set_option maxRecDepth 100000 in
theorem i_lift_ok (n : Nat) : ∀ (k1 : Int) (n1 : Int) (s1 : ByteArray) (q1 : Nat) (f1 : Bool) (ks1 : List LT) (i2 : Int) (i3 : Int) {r : T}, i_lift n (T.mk k1 n1 s1 (ers ks1)) i2 i3 = some r → ∀ (O : Heap) (tk : Nat), ACalls Go.Proofs.Tryz.prog 65 [.agg [.int .i64 k1, .int .i64 n1, .str s1, .imm q1 4 f1 (cellss ks1)], .int .i64 i2, .int .i64 i3] O tk (RetX O tk (fun v tk' => VT true tk tk' r v)) := by
 intro k1 n1 s1 q1 f1 ks1 i2 i3 r hM O tk
 unfold i_lift at hM
 refine acalls_of_run Go.Proofs.Tryz.func65 rfl rfl [] [] (Bor.nil _) [(0, .agg [.int .i64 k1, .int .i64 n1, .str s1, .imm q1 4 f1 (cellss ks1)]), (1, .int .i64 i2), (2, .int .i64 i3)] (.cons (.agg _) (.cons (entS rfl) (.cons (entS rfl) (.nil _)))) (leb rfl) (fun _ h => by cases h) (fun S0 hO htk hfz => ?_)
 refine run_sr ?_
 refine run_op rfl (box_step (d := 3) rfl rfl rfl rfl rfl) rfl (ltb rfl) ?_
 refine run_op rfl (box_step (d := 4) rfl rfl rfl rfl rfl) rfl (ltb rfl) ?_
 refine run_op rfl (box_step (d := 5) rfl rfl rfl rfl rfl) rfl (ltb rfl) ?_
 refine run_op rfl (alloc_step (d := 6) hG rfl rfl rfl) rfl (ltb rfl) ?_
 refine yN ?_
 refine run_sr ?_
 refine yD hG rfl ?_
 refine run_pu rfl (makeFunc_step (first := []) (cap := [.tmp 4, .tmp 5]) rfl rfl rfl) rfl (ltb rfl) ?_
 obtain ⟨r4, hg5, hM⟩ := bind_t hM
 refine yK rfl (i_turned__fn_i_lift_c1vv_ok n k1 n1 s1 q1 f1 ks1 0 (.loc 4) i2 (.loc 5) i3 hg5 _ _ rfl rfl (by decide)) (callK_retX (fun v tk6 (hle7 : tk ≤ tk6) h8 => ?_))
 obtain ⟨k9, n9, s9, q9, f9, ks9, rfl, rfl, hf10⟩ := h8
 refine yS hG rfl ?_
 refine yN ?_
 refine run_ret_to ?_
 replace hM := some_t hM
 subst hM
 refine fin_x hG rfl rfl rfl (v' := .agg [.int .i64 k9, .int .i64 n9, .str s9, .imm q9 4 f9 (cellss ks9)]) (by rfl) ⟨rfl, (show tk ≤ tk6 by omega), _, rfl, ⟨k9, n9, s9, q9, f9, ks9, rfl, rfl, fun _ => (show Fr tk tk6 _ from ((show Fr tk tk6 _ from hf10 rfl)).mono (by omega) (by omega))⟩⟩

def i_lower (n : Nat) (x1 : T) (i2 : Int) : Option T :=
 (i_lift n x1 i2 (-1)).bind fun r3 =>
 some r3

set_option maxRecDepth 100000 in
theorem i_lower_ok (n : Nat) : ∀ (k1 : Int) (n1 : Int) (s1 : ByteArray) (q1 : Nat) (f1 : Bool) (ks1 : List LT) (i2 : Int) {r : T}, i_lower n (T.mk k1 n1 s1 (ers ks1)) i2 = some r → ∀ (O : Heap) (tk : Nat), ACalls Go.Proofs.Tryz.prog 81 [.agg [.int .i64 k1, .int .i64 n1, .str s1, .imm q1 4 f1 (cellss ks1)], .int .i64 i2] O tk (RetX O tk (fun v tk' => VT true tk tk' r v)) := by
 intro k1 n1 s1 q1 f1 ks1 i2 r hM O tk
 unfold i_lower at hM
 refine acalls_of_run Go.Proofs.Tryz.func81 rfl rfl [] [] (Bor.nil _) [(0, .agg [.int .i64 k1, .int .i64 n1, .str s1, .imm q1 4 f1 (cellss ks1)]), (1, .int .i64 i2)] (.cons (.agg _) (.cons (entS rfl) (.nil _))) (leb rfl) (fun _ h => by cases h) (fun S0 hO htk hfz => ?_)
 refine run_sr ?_
 refine run_op rfl (box_step (d := 2) rfl rfl rfl rfl rfl) rfl (ltb rfl) ?_
 refine run_op rfl (alloc_step (d := 4) hG rfl rfl rfl) rfl (ltb rfl) ?_
 refine yN ?_
 refine run_sr ?_
 refine yD hG rfl ?_
 refine yL rfl ?_
 obtain ⟨r3, hg4, hM⟩ := bind_t hM
 refine yK rfl (i_lift_ok n k1 n1 s1 q1 f1 ks1 i2 (-1) hg4 _ _) (callK_retX (fun v tk5 (hle6 : tk ≤ tk5) h7 => ?_))
 obtain ⟨k8, n8, s8, q8, f8, ks8, rfl, rfl, hf9⟩ := h7
 refine yS hG rfl ?_
 refine yN ?_
 refine run_ret_to ?_
 replace hM := some_t hM
 subst hM
 refine fin_x hG rfl rfl rfl (v' := .agg [.int .i64 k8, .int .i64 n8, .str s8, .imm q8 4 f8 (cellss ks8)]) (by rfl) ⟨rfl, (show tk ≤ tk5 by omega), _, rfl, ⟨k8, n8, s8, q8, f8, ks8, rfl, rfl, fun _ => (show Fr tk tk5 _ from ((show Fr tk tk5 _ from hf9 rfl)).mono (by omega) (by omega))⟩⟩

set_option maxRecDepth 100000 in
theorem s_l01With_ex (k1 : Int) (n1 : Int) (s1 : ByteArray) (q1 : Nat) (f1 : Bool) (ks1 : List LT) (q2 : Nat) (f2 : Bool) (ks2 : List LT) (O : Heap) (tk : Nat) : ACalls Go.Proofs.Tryz.prog 105 [.agg [.int .i64 k1, .int .i64 n1, .str s1, .imm q1 4 f1 (cellss ks1)], .imm q2 4 f2 (cellss ks2)] O tk (RetN O (.agg [.int .i64 k1, .int .i64 n1, .str s1, .imm q2 4 f2 (cellss ks2)]) tk) := by
 refine acalls_of_run Go.Proofs.Tryz.func105 rfl rfl [] [] (Bor.nil _) [(0, .agg [.int .i64 k1, .int .i64 n1, .str s1, .imm q1 4 f1 (cellss ks1)]), (1, .imm q2 4 f2 (cellss ks2))] (.cons (.agg _) (.cons (entS rfl) (.nil _))) (leb rfl) (fun _ h => by cases h) (fun S0 hO htk hfz => ?_)
 refine run_sr ?_
 refine run_op rfl (box_step (d := 2) rfl rfl rfl rfl rfl) rfl (ltb rfl) ?_
 refine run_op rfl (alloc_step (d := 4) hG rfl rfl rfl) rfl (ltb rfl) ?_
 refine yN ?_
 refine run_sr ?_
 refine yF hG rfl ?_
 refine yD hG rfl ?_
 refine yF hG rfl ?_
 refine yD hG rfl ?_
 refine yF hG rfl ?_
 refine yD hG rfl ?_
 refine yL rfl ?_
 refine run_pu rfl (build_step hG rfl (by rfl) rfl (fun h => by cases h) (by rfl)) rfl (ltb rfl) ?_
 refine yS hG rfl ?_
 refine yN ?_
 refine run_ret_to ?_
 refine fin_x hG rfl rfl rfl (v' := .agg [.int .i64 k1, .int .i64 n1, .str s1, .imm q2 4 f2 (cellss ks2)]) (by rfl) ⟨rfl, rfl, rfl⟩

def s_l01Lift_L1 (rec_s_l01Lift : T → Int → Int → Option T) (x1 : T) (i2 : Int) (i3 : Int) : Nat → Int → List T → Option T
 | 0, _, _ => none
 | m + 1, i4, l5 =>
  if i4 < ((x1.kids).length : Int) then
   (idx x1.kids i4).bind fun y7 =>
   (s_l01Under x1 i4).bind fun r12 =>
   (rec_s_l01Lift y7 (IntKind.i64.wrap (i2 + r12)) i3).bind fun r19 =>
   chk ((l5).length + ([r19]).length ≤ 1099511627776) <|
   s_l01Lift_L1 rec_s_l01Lift x1 i2 i3 m (IntKind.i64.wrap (i4 + 1)) (l5 ++ [r19])
  else
   if x1.kind = 5 then
    if x1.n ≥ i2 then
     some (T.mk x1.kind (IntKind.i64.wrap (x1.n + i3)) x1.name l5)
    else
     some (T.mk x1.kind x1.n x1.name l5)
   else
    some (T.mk x1.kind x1.n x1.name l5)

def s_l01Lift : Nat → T → Int → Int → Option T
 | 0, _, _, _ => none
 | n + 1, x1, i2, i3 =>
  s_l01Lift_L1 (s_l01Lift n) x1 i2 i3 n 0 ([])

def s_l01Lift_P (n : Nat) : Prop := ∀ (k1 : Int) (n1 : Int) (s1 : ByteArray) (q1 : Nat) (f1 : Bool) (ks1 : List LT) (i2 : Int) (i3 : Int) {r : T}, s_l01Lift n (T.mk k1 n1 s1 (ers ks1)) i2 i3 = some r → ∀ (O : Heap) (tk : Nat), ACalls Go.Proofs.Tryz.prog 74 [.agg [.int .i64 k1, .int .i64 n1, .str s1, .imm q1 4 f1 (cellss ks1)], .int .i64 i2, .int .i64 i3] O tk (RetX O tk (fun v tk' => VT true tk tk' r v))

set_option maxHeartbeats 20000000 in
set_option maxHeartbeats 20000000 in
set_option maxRecDepth 100000 in
theorem s_l01Lift_st (n : Nat) (ih_s_l01Lift : s_l01Lift_P n) : s_l01Lift_P (n + 1) := by
 intro k1 n1 s1 q1 f1 ks1 i2 i3 r hM O tk
 rw [s_l01Lift] at hM
 refine acalls_of_run Go.Proofs.Tryz.func74 rfl rfl [] [] (Bor.nil _) [(0, .agg [.int .i64 k1, .int .i64 n1, .str s1, .imm q1 4 f1 (cellss ks1)]), (1, .int .i64 i2), (2, .int .i64 i3)] (.cons (.agg _) (.cons (entS rfl) (.cons (entS rfl) (.nil _)))) (leb rfl) (fun _ h => by cases h) (fun S0 hO htk hfz => ?_)
 refine run_sr ?_
 refine run_op rfl (box_step (d := 3) rfl rfl rfl rfl rfl) rfl (ltb rfl) ?_
 refine run_op rfl (alloc_step (d := 6) hG rfl rfl rfl) rfl (ltb rfl) ?_
 refine yN ?_
 refine run_sr ?_
 refine run_op rfl (buildSlice_step (d := 10) hG rfl rfl rfl rfl rfl (by rfl) (by rfl) (by rfl) (by decide)) rfl (ltb rfl) ?_
 refine yR rfl ?_
 refine yN ?_
 refine run_seq ?_
 refine run_sr ?_
 refine yR rfl ?_
 refine yN ?_
 refine run_block ?_
 refine run_rounds (fun m σ => ∃ (i4 : Int) (ks5 : List LT) (tks_l01Lift_L1 : Nat), tk ≤ tks_l01Lift_L1 ∧ Fr tk tks_l01Lift_L1 (ttoks ks5) ∧ s_l01Lift_L1 (s_l01Lift n) (T.mk k1 n1 s1 (ers ks1)) i2 i3 m i4 (ers ks5) = some r ∧ σ = ⟨[(1, .int .i64 i2), (2, .int .i64 i3), (3, .optr (.loc 3) 0 0), (6, .optr (.loc 6) 0 0), (7, .osl (.loc 10)), (8, .int .i64 i4)], [(10, ⟨27, 4, false, cellss ks5⟩), (6, ⟨27, 4, true, [[.int .i64 0, .int .i64 0, .str ⟨#[]⟩, .imm 0 4 true []]]⟩), (3, ⟨27, 4, true, [[.int .i64 k1, .int .i64 n1, .str s1, .imm q1 4 f1 (cellss ks1)]]⟩)], [], O, tks_l01Lift_L1⟩) n (Sub.pk [1, 2, 3, 6, 7, 8] rfl) ⟨0, [], tk, Nat.le_refl _, Fr.nil _ _, hM, rfl⟩ (fun m σ hI => ?_)
 clear hM
 obtain ⟨i4, ks5, tks_l01Lift_L1, hle29, hfr5, hM, rfl⟩ := hI
 obtain _ | m := m
 ·exact absurd hM (by rw [s_l01Lift_L1]; exact fun h => by cases h)
 rw [s_l01Lift_L1] at hM
 refine run_seq ?_
 refine run_sr ?_
 refine yL rfl ?_
 refine yF hG rfl ?_
 refine yD hG rfl ?_
 refine run_pu rfl (lenImm_step hG rfl rfl rfl rfl (tlen _)) rfl (ltb rfl) ?_
 refine yB rfl ?_
 refine yN ?_
 refine run_ifd rfl rfl (fun hb6 => ?_) (fun hb6 => ?_)
 ·replace hM := ite_t hb6 hM
  refine run_skip ?_
  refine run_seq ?_
  refine run_block ?_
  refine run_draw [.loc 10] (n := 16) mixed rfl (by intro x hx; simp only [List.mem_cons, List.not_mem_nil, or_false] at hx; rcases hx with rfl <;> rfl) ?_
  refine yTV 0 (by kernel_rfl) rfl ?_
  refine yTF hG 1 (by kernel_rfl) rfl ?_
  refine yTL hG 2 (by kernel_rfl) rfl ?_
  refine yTV 3 (by kernel_rfl) rfl ?_
  obtain ⟨y7, hy8, hM⟩ := bind_t hM
  obtain ⟨k9, n9, s9, q9, f9, ks9, rfl, hc10, hi11⟩ := tidx (ks := ks1) hy8
  refine yT 4 (by kernel_rfl) rfl rfl rfl (ltb rfl) ((indexImm_step hG rfl rfl rfl hi11 rfl rfl rfl rfl hc10).rd _) ?_
  refine yTL hG 5 (by kernel_rfl) rfl ?_
  refine yTV 6 (by kernel_rfl) rfl ?_
  refine yTL hG 7 (by kernel_rfl) rfl ?_
  refine yTV 8 (by kernel_rfl) rfl ?_
  refine yTV 11 (by kernel_rfl) rfl ?_
  obtain ⟨r12, hg13, hM⟩ := bind_t hM
  refine yC 9 (by kernel_rfl) rfl rfl (s_l01Under_ok k1 n1 s1 q1 f1 ks1 i4 hg13 _ _) (callK_retX (fun v tk14 (hle15 : tks_l01Lift_L1 ≤ tk14) h16 => ?_))
  subst h16
  refine yT 10 (by kernel_rfl) rfl rfl rfl (ltb rfl) ((abin_step rfl rfl rfl rfl (fun _ h => by cases h)).rd _) ?_
  obtain ⟨r19, hg20, hM⟩ := bind_t hM
  refine yC 12 (by kernel_rfl) rfl rfl (ih_s_l01Lift k9 n9 s9 q9 f9 ks9 (IntKind.i64.wrap (i2 + r12)) i3 hg20 _ _) (callK_retX (fun v tk21 (hle22 : tk14 ≤ tk21) h23 => ?_))
  obtain ⟨k24, n24, s24, q24, f24, ks24, rfl, rfl, hf25⟩ := h23
  refine AAny.one (i := 13) (by kernel_rfl) (AOp.step rfl rfl rfl (ltb rfl) (buildSlice_step (d := 31) hG rfl rfl rfl rfl rfl (by rfl) (by rfl) (by rfl) (by decide)) yE ?_)
  obtain ⟨hc26, hM⟩ := chk_t hM
  try rw [show ((ers ks5) ++ [(T.mk k24 n24 s24 (ers ks24))] : List T) = (ers (ks5 ++ [LT.mk k24 n24 s24 q24 f24 ks24])) from ers_app ks5 [LT.mk k24 n24 s24 q24 f24 ks24]] at hM
  refine AAny.one (i := 14) (by kernel_rfl) (AOp.step rfl rfl rfl (ltb rfl) (appendM_step hG rfl rfl rfl rfl rfl rfl rfl rfl rfl rfl rfl (cellss_sz ([LT.mk k24 n24 s24 q24 f24 ks24])) (tlen ks5) (tlen ([LT.mk k24 n24 s24 q24 f24 ks24])) hc26 (by decide) (cellss_app _ _)) (by intro x hx; simp only [List.mem_cons, List.not_mem_nil, or_false] at hx; subst hx; simp) ?_)
  refine yTW 15 (by kernel_rfl) rfl ?_
  refine AAny.done (by kernel_rfl) ?_
  refine run_blk ?_
  refine run_sub_code (σ' := ⟨[(1, .int .i64 i2), (2, .int .i64 i3), (3, .optr (.loc 3) 0 0), (6, .optr (.loc 6) 0 0), (7, .osl (.loc 10)), (8, .int .i64 i4)], [(10, ⟨27, 4, false, cellss (ks5 ++ [LT.mk k24 n24 s24 q24 f24 ks24])⟩), (6, ⟨27, 4, true, [[.int .i64 0, .int .i64 0, .str ⟨#[]⟩, .imm 0 4 true []]]⟩), (3, ⟨27, 4, true, [[.int .i64 k1, .int .i64 n1, .str s1, .imm q1 4 f1 (cellss ks1)]]⟩)], [], O, tk21⟩) (Sub.trans (Sub.drop (k := 31) rfl) (Sub.env _ ⟨rfl, rfl, rfl, rfl, rfl, rfl, trivial⟩)) ?_
  refine run_region ?_
  refine yL rfl ?_
  refine yB rfl ?_
  refine yR rfl ?_
  refine yN ?_
  exact run_loop_end ⟨m, _, Nat.lt_succ_self _, ⟨(IntKind.i64.wrap (i4 + 1)), (ks5 ++ [LT.mk k24 n24 s24 q24 f24 ks24]), tk21, (show tk ≤ tk21 by omega), (show Fr tk tk21 _ from (Fr.tsnoc (show Fr tk tk14 _ from (hfr5).mono (by omega) (by omega)) ((show Fr tk14 tk21 _ from hf25 rfl)) (by omega) (by omega)).mono (by omega) (by omega)), hM, rfl⟩, Sub.pk [1, 2, 3, 6, 7, 8] rfl⟩
 replace hM := ite_f hb6 hM
 refine run_exit_to rfl ?_
 refine run_sr ?_
 refine yD hG rfl ?_
 refine yL rfl ?_
 refine run_sub_ops (Sub.freeze (k := 10) rfl rfl) ?_
 refine yK rfl (s_l01With_ex k1 n1 s1 q1 f1 ks1 tks_l01Lift_L1 false ks5 _ _) (callK_retN ?_)
 skip
 refine run_op rfl (alloc_step (d := 9) hG rfl rfl rfl) rfl (ltb rfl) ?_
 refine yS hG rfl ?_
 refine yN ?_
 refine run_seq ?_
 refine run_sr ?_
 refine yF hG rfl ?_
 refine yD hG rfl ?_
 refine yB rfl ?_
 refine yL rfl ?_
 refine run_splitd (i := 39) rfl (fun hb27 => ?_) (fun hb27 => ?_)
 ·replace hM := ite_t hb27 hM
  refine run_puG (on_of rfl rfl rfl rfl) (fieldAddr_step hG rfl rfl rfl rfl rfl) rfl (ltb rfl) ?_
  refine run_rdG (on_of rfl rfl rfl rfl) (aload_rd hG rfl rfl rfl (by first | (simp [ldok]; done) | exact List.not_mem_nil | trivial)) rfl (ltb rfl) ?_
  refine run_puG (on_of rfl rfl rfl rfl) (move_step (.inl rfl) rfl) rfl (ltb rfl) ?_
  refine run_puG (on_of rfl rfl rfl rfl) (abin_step rfl rfl rfl rfl (fun _ h => by cases h)) rfl (ltb rfl) ?_
  refine yP rfl ?_
  refine yN ?_
  refine run_sub_code (σ' := ⟨[(2, .int .i64 i3), (6, .optr (.loc 6) 0 0), (9, .optr (.loc 9) 0 0), (44, .bool (decide (n1 ≥ i2)))], [(9, ⟨27, 4, true, [[.int .i64 k1, .int .i64 n1, .str s1, .imm tks_l01Lift_L1 4 false (cellss ks5)]]⟩), (6, ⟨27, 4, true, [[.int .i64 0, .int .i64 0, .str ⟨#[]⟩, .imm 0 4 true []]]⟩)], [], O, (tks_l01Lift_L1 + 1)⟩) (Sub.trans (Sub.drop (k := 3) rfl) (Sub.env _ ⟨rfl, rfl, rfl, rfl, trivial⟩)) ?_
  refine run_ifd rfl rfl (fun hb28 => ?_) (fun hb28 => ?_)
  ·replace hM := ite_t hb28 hM
   refine run_region ?_
   refine yF hG rfl ?_
   refine yD hG rfl ?_
   refine yL rfl ?_
   refine yB rfl ?_
   refine yF hG rfl ?_
   refine yS hG rfl ?_
   refine yN ?_
   refine run_sr ?_
   refine yD hG rfl ?_
   refine yS hG rfl ?_
   refine yN ?_
   refine run_ret_to ?_
   replace hM := some_t hM
   subst hM
   refine fin_x hG rfl rfl rfl (v' := .agg [.int .i64 k1, .int .i64 (IntKind.i64.wrap (n1 + i3)), .str s1, .imm tks_l01Lift_L1 4 false (cellss ks5)]) (by rfl) ⟨rfl, (show tk ≤ (tks_l01Lift_L1 + 1) by omega), _, rfl, ⟨k1, (IntKind.i64.wrap (n1 + i3)), s1, tks_l01Lift_L1, false, ks5, rfl, rfl, fun _ => (show Fr tk (tks_l01Lift_L1 + 1) _ from (show Fr tk (tks_l01Lift_L1 + 1) _ from Fr.tstop (show Fr tk tks_l01Lift_L1 _ from (hfr5).mono (by omega) (by omega)) (by omega) (by omega)).mono (by omega) (by omega))⟩⟩
  replace hM := ite_f hb28 hM
  refine run_skip ?_
  refine run_sr ?_
  refine yD hG rfl ?_
  refine yS hG rfl ?_
  refine yN ?_
  refine run_ret_to ?_
  replace hM := some_t hM
  subst hM
  refine fin_x hG rfl rfl rfl (v' := .agg [.int .i64 k1, .int .i64 n1, .str s1, .imm tks_l01Lift_L1 4 false (cellss ks5)]) (by rfl) ⟨rfl, (show tk ≤ (tks_l01Lift_L1 + 1) by omega), _, rfl, ⟨k1, n1, s1, tks_l01Lift_L1, false, ks5, rfl, rfl, fun _ => (show Fr tk (tks_l01Lift_L1 + 1) _ from (show Fr tk (tks_l01Lift_L1 + 1) _ from Fr.tstop (show Fr tk tks_l01Lift_L1 _ from (hfr5).mono (by omega) (by omega)) (by omega) (by omega)).mono (by omega) (by omega))⟩⟩
 replace hM := ite_f hb27 hM
 refine yO rfl ?_
 refine yO rfl ?_
 refine yO rfl ?_
 refine yO rfl ?_
 refine yP rfl ?_
 refine yN ?_
 refine run_sub_code (σ' := ⟨[(2, .int .i64 i3), (6, .optr (.loc 6) 0 0), (9, .optr (.loc 9) 0 0), (44, .bool false)], [(9, ⟨27, 4, true, [[.int .i64 k1, .int .i64 n1, .str s1, .imm tks_l01Lift_L1 4 false (cellss ks5)]]⟩), (6, ⟨27, 4, true, [[.int .i64 0, .int .i64 0, .str ⟨#[]⟩, .imm 0 4 true []]]⟩)], [], O, (tks_l01Lift_L1 + 1)⟩) (Sub.trans (Sub.drop (k := 3) rfl) (Sub.env _ ⟨rfl, rfl, rfl, rfl, trivial⟩)) ?_
 refine run_if rfl rfl (fun h => by cases h) (fun _ => ?_)
 refine run_skip ?_
 refine run_sr ?_
 refine yD hG rfl ?_
 refine yS hG rfl ?_
 refine yN ?_
 refine run_ret_to ?_
 replace hM := some_t hM
 subst hM
 refine fin_x hG rfl rfl rfl (v' := .agg [.int .i64 k1, .int .i64 n1, .str s1, .imm tks_l01Lift_L1 4 false (cellss ks5)]) (by rfl) ⟨rfl, (show tk ≤ (tks_l01Lift_L1 + 1) by omega), _, rfl, ⟨k1, n1, s1, tks_l01Lift_L1, false, ks5, rfl, rfl, fun _ => (show Fr tk (tks_l01Lift_L1 + 1) _ from (show Fr tk (tks_l01Lift_L1 + 1) _ from Fr.tstop (show Fr tk tks_l01Lift_L1 _ from (hfr5).mono (by omega) (by omega)) (by omega) (by omega)).mono (by omega) (by omega))⟩⟩

theorem s_l01Lift_all : ∀ (n : Nat), (s_l01Lift_P n)
 | 0 => by intro k1 n1 s1 q1 f1 ks1 i2 i3 r hM; rw [s_l01Lift] at hM; cases hM
 | n + 1 => have ih := s_l01Lift_all n; s_l01Lift_st n (ih)

theorem s_l01Lift_ok (n : Nat) : s_l01Lift_P n := s_l01Lift_all n

end Go.Am.YtoajlhhalpldfaaGreatDoor
