/- Printed by a program of ours: Lean functions that do what the Go functions do, and the contracts. -/
import Derived.Test.YtaedacibojpfkaaDoorMl0
import Derived.Test.YtaedacibojpfkaaDoorMb1
import Derived.Test.YtaedacibojpfkaaDoorTypes
import Derived.Test.YtaedacibojpfkaaDoorDkBig
-- packed
namespace Go.Am.YtaedacibojpfkaaDoor
open Go Go.Am

def i_lift_c1 (x1 : T) (i2 : Int) (i3 : Int) (i4 : Int) : Option T :=
 if x1.n ≥ (IntKind.i64.wrap (i3 + i2)) then
  some (T.mk x1.kind (IntKind.i64.wrap (x1.n + i4)) x1.name x1.kids)
 else
  some x1

set_option maxRecDepth 100000 in
theorem i_lift_c1_ok : ∀ (k1 : Int) (n1 : Int) (s1 : ByteArray) (q1 : Nat) (f1 : Bool) (ks1 : List LT) (i2 : Int) (X0 : ID) (i3 : Int) (X1 : ID) (i4 : Int) {r : T}, i_lift_c1 (T.mk k1 n1 s1 (ers ks1)) i2 i3 i4 = some r → ∀ (O : Heap) (tk : Nat), O X0 = some ⟨3, 1, true, [[.int .i64 i3]]⟩ → O X1 = some ⟨3, 1, true, [[.int .i64 i4]]⟩ → X0 ≠ X1 → ∀ (lo : Nat), lo ≤ tk → Fr lo tk (tstoks q1 ks1) → ACalls Go.Proofs.Tryd.prog 91 [.agg [.int .i64 k1, .int .i64 n1, .str s1, .imm q1 4 f1 (cellss ks1)], .int .i64 i2, .optr X0 0 0, .optr X1 0 0] O tk (RetX O tk (fun v tk' => VT true lo tk' r v)) := by
 intro k1 n1 s1 q1 f1 ks1 i2 X0 i3 X1 i4 r hM O tk hX0 hX1 hN01 lo hlo hpass
 unfold i_lift_c1 at hM
 refine acalls_of_run Go.Proofs.Tryd.func91 rfl rfl [X0, X1] [⟨3, 1, true, [[.int .i64 i3]]⟩, ⟨3, 1, true, [[.int .i64 i4]]⟩] (Bor.two hX0 rfl hX1 rfl hN01) [(0, .agg [.int .i64 k1, .int .i64 n1, .str s1, .imm q1 4 f1 (cellss ks1)]), (1, .int .i64 i2), (2, .optr (.bor 0) 0 0), (3, .optr (.bor 1) 0 0)] (.cons (.agg _) (.cons (entS rfl) (.cons (.bor 0 _ _ _ rfl) (.cons (.bor 1 _ _ _ rfl) (.nil _))))) (leb rfl) (by intro y h; simp only [List.mem_cons, List.not_mem_nil, or_false] at h; rcases h with rfl | rfl <;> simp [tch, tch0]) (fun S0 hO htk hfz => ?_)
 refine run_sr ?_
 refine run_op rfl (box_step (d := 4) rfl rfl rfl rfl rfl) rfl (ltb rfl) ?_
 refine run_op rfl (alloc_step (d := 6) hG rfl rfl rfl) rfl (ltb rfl) ?_
 refine run_ops_nil ?_
 refine run_seq ?_
 refine run_sr ?_
 refine run_pu rfl (fieldAddr_step hG rfl rfl rfl rfl rfl) rfl (ltb rfl) ?_
 refine run_ld hG rfl rfl rfl rfl rfl (ltb rfl) ?_
 refine run_ld hG rfl rfl rfl rfl rfl (ltb rfl) ?_
 refine mvL rfl rfl rfl rfl (ltb rfl) ?_
 refine run_bin rfl rfl rfl rfl rfl rfl rfl (ltb rfl) ?_
 refine run_bin rfl rfl rfl rfl rfl rfl rfl (ltb rfl) ?_
 refine run_ops_nil ?_
 refine run_ifd rfl rfl (fun hb5 => ?_) (fun hb5 => ?_)
 ·replace hM := ite_t hb5 hM
  refine run_region ?_
  refine run_pu rfl (fieldAddr_step hG rfl rfl rfl rfl rfl) rfl (ltb rfl) ?_
  refine run_ld hG rfl rfl rfl rfl rfl (ltb rfl) ?_
  refine run_ld hG rfl rfl rfl rfl rfl (ltb rfl) ?_
  refine run_bin rfl rfl rfl rfl rfl rfl rfl (ltb rfl) ?_
  refine run_pu rfl (fieldAddr_step hG rfl rfl rfl rfl rfl) rfl (ltb rfl) ?_
  refine run_op0 rfl (store_step hG rfl rfl rfl rfl rfl rfl rfl rfl) rfl ?_
  refine run_ops_nil ?_
  refine run_sub_code (σ' := ⟨[(4, .optr (.loc 4) 0 0), (6, .optr (.loc 6) 0 0)], [(6, ⟨25, 4, true, [[.int .i64 0, .int .i64 0, .str ⟨#[]⟩, .imm 0 4 true []]]⟩), (4, ⟨25, 4, true, [[.int .i64 k1, .int .i64 (IntKind.i64.wrap (n1 + i4)), .str s1, .imm q1 4 f1 (cellss ks1)]]⟩)], [⟨3, 1, true, [[.int .i64 i3]]⟩, ⟨3, 1, true, [[.int .i64 i4]]⟩], O, tk⟩) (Sub.env _ ⟨rfl, rfl, trivial⟩) ?_
  refine run_sr ?_
  refine run_ld hG rfl rfl rfl rfl rfl (ltb rfl) ?_
  refine run_op0 rfl (store_step hG rfl rfl rfl rfl rfl rfl rfl rfl) rfl ?_
  refine run_ops_nil ?_
  refine run_ret_to ?_
  obtain rfl := some_t hM
  refine fin_x hG rfl rfl rfl (v' := .agg [.int .i64 k1, .int .i64 (IntKind.i64.wrap (n1 + i4)), .str s1, .imm q1 4 f1 (cellss ks1)]) (by rfl) ⟨out_same (Bor.two hX0 rfl hX1 rfl hN01), (show tk ≤ tk by omega), _, rfl, ⟨k1, (IntKind.i64.wrap (n1 + i4)), s1, q1, f1, ks1, rfl, rfl, fun _ => (show Fr lo tk _ from (hpass).mono (by omega) (by omega))⟩⟩
 ·replace hM := ite_f hb5 hM
  refine run_skip ?_
  refine run_sr ?_
  refine run_ld hG rfl rfl rfl rfl rfl (ltb rfl) ?_
  refine run_op0 rfl (store_step hG rfl rfl rfl rfl rfl rfl rfl rfl) rfl ?_
  refine run_ops_nil ?_
  refine run_ret_to ?_
  obtain rfl := some_t hM
  refine fin_x hG rfl rfl rfl (v' := .agg [.int .i64 k1, .int .i64 n1, .str s1, .imm q1 4 f1 (cellss ks1)]) (by rfl) ⟨out_same (Bor.two hX0 rfl hX1 rfl hN01), (show tk ≤ tk by omega), _, rfl, ⟨k1, n1, s1, q1, f1, ks1, rfl, rfl, fun _ => (show Fr lo tk _ from (hpass).mono (by omega) (by omega))⟩⟩

def i_turned__fn_i_lift_c1vv_L1 (rec_i_turned__fn_i_lift_c1vv : T → Int → Int → Int → Option T) (x1 : T) (i2 : Int) (i3 : Int) (i4 : Int) : Nat → Int → List T → Option T
 | 0, _, _ => none
 | m + 1, i5, l6 =>
  if i5 < ((x1.kids).length : Int) then
   (idx x1.kids i5).bind fun y8 =>
   (i_Tree_under x1 i5).bind fun r13 =>
   (rec_i_turned__fn_i_lift_c1vv y8 (IntKind.i64.wrap (i2 + r13)) i3 i4).bind fun r20 =>
   chk ((l6).length + ([r20]).length ≤ 1099511627776) <|
   i_turned__fn_i_lift_c1vv_L1 rec_i_turned__fn_i_lift_c1vv x1 i2 i3 i4 m (IntKind.i64.wrap (i5 + 1)) (l6 ++ [r20])
  else
   if x1.kind = 5 then
    (i_lift_c1 (T.mk x1.kind x1.n x1.name l6) i2 i3 i4).bind fun r29 =>
    some r29
   else
    some (T.mk x1.kind x1.n x1.name l6)

def i_turned__fn_i_lift_c1vv : Nat → T → Int → Int → Int → Option T
 | 0, _, _, _, _ => none
 | n + 1, x1, i2, i3, i4 =>
  i_turned__fn_i_lift_c1vv_L1 (i_turned__fn_i_lift_c1vv n) x1 i2 i3 i4 n 0 ([])

set_option maxRecDepth 100000 in
theorem i_turned__fn_i_lift_c1vv_st (n : Nat) (ih_i_turned__fn_i_lift_c1vv : ∀ (k1 : Int) (n1 : Int) (s1 : ByteArray) (q1 : Nat) (f1 : Bool) (ks1 : List LT) (i2 : Int) (X0 : ID) (i3 : Int) (X1 : ID) (i4 : Int) {r : T}, i_turned__fn_i_lift_c1vv n (T.mk k1 n1 s1 (ers ks1)) i2 i3 i4 = some r → ∀ (O : Heap) (tk : Nat), O X0 = some ⟨3, 1, true, [[.int .i64 i3]]⟩ → O X1 = some ⟨3, 1, true, [[.int .i64 i4]]⟩ → X0 ≠ X1 → ACalls Go.Proofs.Tryd.prog 90 [.agg [.int .i64 k1, .int .i64 n1, .str s1, .imm q1 4 f1 (cellss ks1)], .int .i64 i2, .fn (.func 91) [] [.optr X0 0 0, .optr X1 0 0]] O tk (RetX O tk (fun v tk' => VT true tk tk' r v))) : ∀ (k1 : Int) (n1 : Int) (s1 : ByteArray) (q1 : Nat) (f1 : Bool) (ks1 : List LT) (i2 : Int) (X0 : ID) (i3 : Int) (X1 : ID) (i4 : Int) {r : T}, i_turned__fn_i_lift_c1vv (n + 1) (T.mk k1 n1 s1 (ers ks1)) i2 i3 i4 = some r → ∀ (O : Heap) (tk : Nat), O X0 = some ⟨3, 1, true, [[.int .i64 i3]]⟩ → O X1 = some ⟨3, 1, true, [[.int .i64 i4]]⟩ → X0 ≠ X1 → ACalls Go.Proofs.Tryd.prog 90 [.agg [.int .i64 k1, .int .i64 n1, .str s1, .imm q1 4 f1 (cellss ks1)], .int .i64 i2, .fn (.func 91) [] [.optr X0 0 0, .optr X1 0 0]] O tk (RetX O tk (fun v tk' => VT true tk tk' r v)) := by
 intro k1 n1 s1 q1 f1 ks1 i2 X0 i3 X1 i4 r hM O tk hX0 hX1 hN01
 rw [i_turned__fn_i_lift_c1vv] at hM
 refine acalls_of_run Go.Proofs.Tryd.func90 rfl rfl [X0, X1] [⟨3, 1, true, [[.int .i64 i3]]⟩, ⟨3, 1, true, [[.int .i64 i4]]⟩] (Bor.two hX0 rfl hX1 rfl hN01) [(0, .agg [.int .i64 k1, .int .i64 n1, .str s1, .imm q1 4 f1 (cellss ks1)]), (1, .int .i64 i2), (2, .fn (.func 91) [] [.optr (.bor 0) 0 0, .optr (.bor 1) 0 0])] (.cons (.agg _) (.cons (entS rfl) (.cons (ent_fn2 (.bor 0 _ _ _ rfl) (.bor 1 _ _ _ rfl)) (.nil _)))) (leb rfl) (by intro y h; simp only [List.mem_cons, List.not_mem_nil, or_false] at h; rcases h with rfl | rfl <;> simp [tch, tch0]) (fun S0 hO htk hfz => ?_)
 refine run_sr ?_
 refine run_op rfl (box_step (d := 3) rfl rfl rfl rfl rfl) rfl (ltb rfl) ?_
 refine run_op rfl (alloc_step (d := 6) hG rfl rfl rfl) rfl (ltb rfl) ?_
 refine run_ops_nil ?_
 refine run_sr ?_
 refine run_op rfl (buildSlice_step (d := 10) hG rfl rfl rfl rfl rfl (by rfl) (by rfl) (by rfl) (by decide)) rfl (ltb rfl) ?_
 refine mvR rfl rfl rfl rfl (ltb rfl) ?_
 refine run_ops_nil ?_
 refine run_seq ?_
 refine run_sr ?_
 refine run_pu rfl (fieldAddr_step hG rfl rfl rfl rfl rfl) rfl (ltb rfl) ?_
 refine run_ld hG rfl rfl rfl rfl rfl (ltb rfl) ?_
 refine run_pu rfl (lenImm_step hG rfl rfl rfl rfl (tlen _)) rfl (ltb rfl) ?_
 refine mvL rfl rfl rfl rfl (ltb rfl) ?_
 refine run_ops_nil ?_
 refine run_block ?_
 refine run_rounds (fun m σ => ∃ (i5 : Int) (ks6 : List LT) (tki_turned__fn_i_lift_c1vv_L1 : Nat), tk ≤ tki_turned__fn_i_lift_c1vv_L1 ∧ Fr tk tki_turned__fn_i_lift_c1vv_L1 (ttoks ks6) ∧ i_turned__fn_i_lift_c1vv_L1 (i_turned__fn_i_lift_c1vv n) (T.mk k1 n1 s1 (ers ks1)) i2 i3 i4 m i5 (ers ks6) = some r ∧ σ = ⟨[(1, .int .i64 i2), (2, .fn (.func 91) [] [.optr (.bor 0) 0 0, .optr (.bor 1) 0 0]), (3, .optr (.loc 3) 0 0), (6, .optr (.loc 6) 0 0), (7, .osl (.loc 10)), (12, .imm q1 4 f1 (cellss ks1)), (13, .int .i64 (((ers ks1)).length : Int)), (14, .int .i64 i5)], [(10, ⟨25, 4, false, cellss ks6⟩), (6, ⟨25, 4, true, [[.int .i64 0, .int .i64 0, .str ⟨#[]⟩, .imm 0 4 true []]]⟩), (3, ⟨25, 4, true, [[.int .i64 k1, .int .i64 n1, .str s1, .imm q1 4 f1 (cellss ks1)]]⟩)], [⟨3, 1, true, [[.int .i64 i3]]⟩, ⟨3, 1, true, [[.int .i64 i4]]⟩], O, tki_turned__fn_i_lift_c1vv_L1⟩) n (Sub.env [(1, .int .i64 i2), (2, .fn (.func 91) [] [.optr (.bor 0) 0 0, .optr (.bor 1) 0 0]), (3, .optr (.loc 3) 0 0), (6, .optr (.loc 6) 0 0), (7, .osl (.loc 10)), (12, .imm q1 4 f1 (cellss ks1)), (13, .int .i64 (((ers ks1)).length : Int)), (14, .int .i64 0)] ⟨rfl, rfl, rfl, rfl, rfl, rfl, rfl, rfl, trivial⟩) ⟨0, [], tk, Nat.le_refl _, Fr.nil _ _, hM, rfl⟩ (fun m σ hI => ?_)
 clear hM
 obtain ⟨i5, ks6, tki_turned__fn_i_lift_c1vv_L1, hle36, hfr6, hM, rfl⟩ := hI
 obtain _ | m := m
 ·exact absurd hM (by rw [i_turned__fn_i_lift_c1vv_L1]; exact fun h => by cases h)
 rw [i_turned__fn_i_lift_c1vv_L1] at hM
 refine run_sr ?_
 refine run_bin rfl rfl rfl rfl rfl rfl rfl (ltb rfl) ?_
 refine run_ops_nil ?_
 refine run_seq ?_
 refine run_ifd rfl rfl (fun hb7 => ?_) (fun hb7 => ?_)
 ·replace hM := ite_t hb7 hM
  refine run_skip ?_
  refine run_seq ?_
  refine run_block ?_
  refine run_sr ?_
  refine mvL rfl rfl rfl rfl (ltb rfl) ?_
  obtain ⟨y8, hy9, hM⟩ := bind_t hM
  obtain ⟨k10, n10, s10, q10, f10, ks10, rfl, hc11, hi12⟩ := tidx (ks := ks1) hy9
  refine run_pu rfl (indexImm_step hG rfl rfl rfl hi12 rfl rfl rfl rfl hc11) rfl (ltb rfl) ?_
  refine run_ld hG rfl rfl rfl rfl rfl (ltb rfl) ?_
  refine run_op rfl (alloc_step (d := 9) hG rfl rfl rfl) rfl (ltb rfl) ?_
  refine mvR rfl rfl rfl rfl (ltb rfl) ?_
  refine run_op0 rfl (store_step hG rfl rfl rfl rfl rfl rfl rfl rfl) rfl ?_
  refine run_ops_nil ?_
  refine run_draw [.loc 3, .bor 0, .bor 1, .loc 10] (n := 11) mixed rfl (by intro x hx; simp only [List.mem_cons, List.not_mem_nil, or_false] at hx; rcases hx with rfl | rfl | rfl | rfl <;> rfl) ?_
  refine AAny.take (i := 0) rfl (by kernel_rfl) (by kernel_rfl) (by kernel_rfl) rfl rfl (ltb rfl) ((move_step (.inl rfl) rfl).rd _) ?_
  refine AAny.take (i := 1) rfl (by kernel_rfl) (by kernel_rfl) (by kernel_rfl) rfl rfl (ltb rfl) (aload_rd hG rfl rfl rfl (by first | (simp [ldok]; done) | exact List.not_mem_nil | trivial)) ?_
  refine AAny.take (i := 2) rfl (by kernel_rfl) (by kernel_rfl) (by kernel_rfl) rfl rfl (ltb rfl) ((move_step (.inl rfl) rfl).rd _) ?_
  refine AAny.take (i := 3) rfl (by kernel_rfl) (by kernel_rfl) (by kernel_rfl) rfl rfl (ltb rfl) ((move_step (.inl rfl) rfl).rd _) ?_
  refine AAny.take (i := 6) rfl (by kernel_rfl) (by kernel_rfl) (by kernel_rfl) rfl rfl (ltb rfl) ((move_step (.inl rfl) rfl).rd _) ?_
  obtain ⟨r13, hg14, hM⟩ := bind_t hM
  refine AAny.one (i := 4) (by kernel_rfl) (AOp.call rfl rfl rfl rfl (ltb rfl) rfl rfl rfl (fun _ h => absurd h List.not_mem_nil) (by intro x hx; simp only [tch, tch0, List.nil_append, List.append_nil, List.cons_append, List.mem_cons, List.not_mem_nil, or_false] at hx; first | (subst hx; simp; done) | (rcases hx with rfl | rfl <;> simp; done) | (rcases hx with rfl | rfl | rfl <;> simp; done) | (rcases hx with rfl | rfl | rfl | rfl <;> simp; done)) (i_Tree_under_ok (.loc 3) k1 n1 s1 q1 f1 ks1 i5 hg14 _ _ rfl) (callK_retX (fun v tk15 (hle16 : tki_turned__fn_i_lift_c1vv_L1 ≤ tk15) h17 => ?_)))
  subst h17
  refine AAny.take (i := 5) rfl (by kernel_rfl) (by kernel_rfl) (by kernel_rfl) rfl rfl (ltb rfl) ((abin_step rfl rfl rfl rfl (fun _ h => by cases h)).rd _) ?_
  obtain ⟨r20, hg21, hM⟩ := bind_t hM
  refine AAny.one (i := 7) (by kernel_rfl) (AOp.call rfl rfl rfl rfl (ltb rfl) rfl rfl rfl (fun _ h => absurd h List.not_mem_nil) (by intro x hx; simp only [tch, tch0, List.nil_append, List.append_nil, List.cons_append, List.mem_cons, List.not_mem_nil, or_false] at hx; first | (subst hx; simp; done) | (rcases hx with rfl | rfl <;> simp; done) | (rcases hx with rfl | rfl | rfl <;> simp; done) | (rcases hx with rfl | rfl | rfl | rfl <;> simp; done)) (ih_i_turned__fn_i_lift_c1vv k10 n10 s10 q10 f10 ks10 (IntKind.i64.wrap (i2 + r13)) (.bor 0) i3 (.bor 1) i4 hg21 _ _ rfl rfl (by decide)) (callK_retX (fun v tk22 (hle23 : tk15 ≤ tk22) h24 => ?_)))
  obtain ⟨k25, n25, s25, q25, f25, ks25, rfl, rfl, hf26⟩ := h24
  refine AAny.one (i := 8) (by kernel_rfl) (AOp.step rfl rfl rfl (ltb rfl) (buildSlice_step (d := 27) hG rfl rfl rfl rfl rfl (by rfl) (by rfl) (by rfl) (by decide)) (fun _ h => absurd h List.not_mem_nil) ?_)
  obtain ⟨hc27, hM⟩ := chk_t hM
  try rw [show ((ers ks6) ++ [(T.mk k25 n25 s25 (ers ks25))] : List T) = (ers (ks6 ++ [LT.mk k25 n25 s25 q25 f25 ks25])) from ers_app ks6 [LT.mk k25 n25 s25 q25 f25 ks25]] at hM
  refine AAny.one (i := 9) (by kernel_rfl) (AOp.step rfl rfl rfl (ltb rfl) (appendM_step hG rfl rfl rfl rfl rfl rfl rfl rfl rfl rfl rfl (cellss_sz ([LT.mk k25 n25 s25 q25 f25 ks25])) (tlen ks6) (tlen ([LT.mk k25 n25 s25 q25 f25 ks25])) hc27 (by decide) (cellss_app _ _)) (by intro x hx; simp only [List.mem_cons, List.not_mem_nil, or_false] at hx; subst hx; simp) ?_)
  refine AAny.take (i := 10) rfl (by kernel_rfl) (by kernel_rfl) (by kernel_rfl) rfl rfl (ltb rfl) ((move_step (.inr rfl) rfl).rd _) ?_
  refine AAny.done (by kernel_rfl) ?_
  refine run_blk ?_
  refine run_sub_code (σ' := ⟨[(1, .int .i64 i2), (2, .fn (.func 91) [] [.optr (.bor 0) 0 0, .optr (.bor 1) 0 0]), (3, .optr (.loc 3) 0 0), (6, .optr (.loc 6) 0 0), (7, .osl (.loc 10)), (12, .imm q1 4 f1 (cellss ks1)), (13, .int .i64 (((ers ks1)).length : Int)), (14, .int .i64 i5)], [(10, ⟨25, 4, false, cellss (ks6 ++ [LT.mk k25 n25 s25 q25 f25 ks25])⟩), (6, ⟨25, 4, true, [[.int .i64 0, .int .i64 0, .str ⟨#[]⟩, .imm 0 4 true []]]⟩), (3, ⟨25, 4, true, [[.int .i64 k1, .int .i64 n1, .str s1, .imm q1 4 f1 (cellss ks1)]]⟩)], [⟨3, 1, true, [[.int .i64 i3]]⟩, ⟨3, 1, true, [[.int .i64 i4]]⟩], O, tk22⟩) (Sub.trans (Sub.drop (k := 27) rfl) (Sub.trans (Sub.drop (k := 9) rfl) (Sub.env _ ⟨rfl, rfl, rfl, rfl, rfl, rfl, rfl, rfl, trivial⟩))) ?_
  refine run_region ?_
  refine run_bin rfl rfl rfl rfl rfl rfl rfl (ltb rfl) ?_
  refine mvL rfl rfl rfl rfl (ltb rfl) ?_
  refine run_ops_nil ?_
  exact run_loop_end ⟨m, _, Nat.lt_succ_self _, ⟨(IntKind.i64.wrap (i5 + 1)), (ks6 ++ [LT.mk k25 n25 s25 q25 f25 ks25]), tk22, (show tk ≤ tk22 by omega), (show Fr tk tk22 _ from (Fr.tsnoc (show Fr tk tk15 _ from (hfr6).mono (by omega) (by omega)) ((show Fr tk15 tk22 _ from hf26 rfl)) (by omega) (by omega)).mono (by omega) (by omega)), hM, rfl⟩, Sub.env [(1, .int .i64 i2), (2, .fn (.func 91) [] [.optr (.bor 0) 0 0, .optr (.bor 1) 0 0]), (3, .optr (.loc 3) 0 0), (6, .optr (.loc 6) 0 0), (7, .osl (.loc 10)), (12, .imm q1 4 f1 (cellss ks1)), (13, .int .i64 (((ers ks1)).length : Int)), (14, .int .i64 (IntKind.i64.wrap (i5 + 1)))] ⟨rfl, rfl, rfl, rfl, rfl, rfl, rfl, rfl, trivial⟩⟩
 ·replace hM := ite_f hb7 hM
  refine run_exit_to rfl ?_
  refine run_sr ?_
  refine mvL rfl rfl rfl rfl (ltb rfl) ?_
  refine run_pu rfl (fieldAddr_step hG rfl rfl rfl rfl rfl) rfl (ltb rfl) ?_
  refine run_op0 rfl (store_step hG rfl rfl rfl rfl rfl rfl rfl rfl) rfl ?_
  refine run_ops_nil ?_
  refine run_seq ?_
  refine run_sr ?_
  refine run_pu rfl (fieldAddr_step hG rfl rfl rfl rfl rfl) rfl (ltb rfl) ?_
  refine run_ld hG rfl rfl rfl rfl rfl (ltb rfl) ?_
  refine run_bin rfl rfl rfl rfl rfl rfl rfl (ltb rfl) ?_
  refine run_ops_nil ?_
  refine run_ifd rfl rfl (fun hb28 => ?_) (fun hb28 => ?_)
  ·replace hM := ite_t hb28 hM
   refine run_sr ?_
   refine mvL rfl rfl rfl rfl (ltb rfl) ?_
   refine run_ld hG rfl rfl rfl rfl rfl (ltb rfl) ?_
   refine mvL rfl rfl rfl rfl (ltb rfl) ?_
   refine run_sub_ops (Sub.freeze (k := 10) rfl rfl) ?_
   obtain ⟨r29, hg30, hM⟩ := bind_t hM
   refine run_call rfl rfl rfl (ltb rfl) rfl rfl rfl (fun _ h => absurd h List.not_mem_nil) (i_lift_c1_ok k1 n1 s1 tki_turned__fn_i_lift_c1vv_L1 false ks6 i2 (.bor 0) i3 (.bor 1) i4 hg30 _ _ rfl rfl (by decide) tk (show tk ≤ (tki_turned__fn_i_lift_c1vv_L1 + 1) by omega) (show Fr tk (tki_turned__fn_i_lift_c1vv_L1 + 1) _ from (show Fr tk (tki_turned__fn_i_lift_c1vv_L1 + 1) _ from Fr.tstop (show Fr tk tki_turned__fn_i_lift_c1vv_L1 _ from (hfr6).mono (by omega) (by omega)) (by omega) (by omega)).mono (by omega) (by omega))) (callK_retX (fun v tk31 (hle32 : (tki_turned__fn_i_lift_c1vv_L1 + 1) ≤ tk31) h33 => ?_))
   obtain ⟨k34, n34, s34, q34, f34, ks34, rfl, rfl, hf35⟩ := h33
   refine run_op0 rfl (store_step hG rfl rfl rfl rfl rfl rfl rfl rfl) rfl ?_
   refine run_ops_nil ?_
   refine run_ret_to ?_
   obtain rfl := some_t hM
   refine fin_x hG rfl rfl rfl (v' := .agg [.int .i64 k34, .int .i64 n34, .str s34, .imm q34 4 f34 (cellss ks34)]) (by rfl) ⟨out_same (Bor.two hX0 rfl hX1 rfl hN01), (show tk ≤ tk31 by omega), _, rfl, ⟨k34, n34, s34, q34, f34, ks34, rfl, rfl, fun _ => (show Fr tk tk31 _ from ((show Fr tk tk31 _ from hf35 rfl)).mono (by omega) (by omega))⟩⟩
  ·replace hM := ite_f hb28 hM
   refine run_skip ?_
   refine run_sr ?_
   refine run_ld hG rfl rfl rfl rfl rfl (ltb rfl) ?_
   refine run_op0 rfl (store_step hG rfl rfl rfl rfl rfl rfl rfl rfl) rfl ?_
   refine run_ops_nil ?_
   refine run_ret_to ?_
   refine fin_sub (Sub.freeze (k := 10) rfl rfl) ?_
   obtain rfl := some_t hM
   refine fin_x hG rfl rfl rfl (v' := .agg [.int .i64 k1, .int .i64 n1, .str s1, .imm tki_turned__fn_i_lift_c1vv_L1 4 false (cellss ks6)]) (by rfl) ⟨out_same (Bor.two hX0 rfl hX1 rfl hN01), (show tk ≤ (tki_turned__fn_i_lift_c1vv_L1 + 1) by omega), _, rfl, ⟨k1, n1, s1, tki_turned__fn_i_lift_c1vv_L1, false, ks6, rfl, rfl, fun _ => (show Fr tk (tki_turned__fn_i_lift_c1vv_L1 + 1) _ from (show Fr tk (tki_turned__fn_i_lift_c1vv_L1 + 1) _ from Fr.tstop (show Fr tk tki_turned__fn_i_lift_c1vv_L1 _ from (hfr6).mono (by omega) (by omega)) (by omega) (by omega)).mono (by omega) (by omega))⟩⟩

theorem i_turned__fn_i_lift_c1vv_all : ∀ (n : Nat), (∀ (k1 : Int) (n1 : Int) (s1 : ByteArray) (q1 : Nat) (f1 : Bool) (ks1 : List LT) (i2 : Int) (X0 : ID) (i3 : Int) (X1 : ID) (i4 : Int) {r : T}, i_turned__fn_i_lift_c1vv n (T.mk k1 n1 s1 (ers ks1)) i2 i3 i4 = some r → ∀ (O : Heap) (tk : Nat), O X0 = some ⟨3, 1, true, [[.int .i64 i3]]⟩ → O X1 = some ⟨3, 1, true, [[.int .i64 i4]]⟩ → X0 ≠ X1 → ACalls Go.Proofs.Tryd.prog 90 [.agg [.int .i64 k1, .int .i64 n1, .str s1, .imm q1 4 f1 (cellss ks1)], .int .i64 i2, .fn (.func 91) [] [.optr X0 0 0, .optr X1 0 0]] O tk (RetX O tk (fun v tk' => VT true tk tk' r v)))
 | 0 => by intro k1 n1 s1 q1 f1 ks1 i2 X0 i3 X1 i4 r hM; rw [i_turned__fn_i_lift_c1vv] at hM; cases hM
 | n + 1 => have ih := i_turned__fn_i_lift_c1vv_all n; i_turned__fn_i_lift_c1vv_st n (ih)

theorem i_turned__fn_i_lift_c1vv_ok (n : Nat) : ∀ (k1 : Int) (n1 : Int) (s1 : ByteArray) (q1 : Nat) (f1 : Bool) (ks1 : List LT) (i2 : Int) (X0 : ID) (i3 : Int) (X1 : ID) (i4 : Int) {r : T}, i_turned__fn_i_lift_c1vv n (T.mk k1 n1 s1 (ers ks1)) i2 i3 i4 = some r → ∀ (O : Heap) (tk : Nat), O X0 = some ⟨3, 1, true, [[.int .i64 i3]]⟩ → O X1 = some ⟨3, 1, true, [[.int .i64 i4]]⟩ → X0 ≠ X1 → ACalls Go.Proofs.Tryd.prog 90 [.agg [.int .i64 k1, .int .i64 n1, .str s1, .imm q1 4 f1 (cellss ks1)], .int .i64 i2, .fn (.func 91) [] [.optr X0 0 0, .optr X1 0 0]] O tk (RetX O tk (fun v tk' => VT true tk tk' r v)) := i_turned__fn_i_lift_c1vv_all n

def i_lift (n : Nat) (x1 : T) (i2 : Int) (i3 : Int) : Option T :=
 (i_turned__fn_i_lift_c1vv n x1 0 i2 i3).bind fun r4 =>
 some r4

set_option maxRecDepth 100000 in
theorem i_lift_ok (n : Nat) : ∀ (k1 : Int) (n1 : Int) (s1 : ByteArray) (q1 : Nat) (f1 : Bool) (ks1 : List LT) (i2 : Int) (i3 : Int) {r : T}, i_lift n (T.mk k1 n1 s1 (ers ks1)) i2 i3 = some r → ∀ (O : Heap) (tk : Nat), ACalls Go.Proofs.Tryd.prog 36 [.agg [.int .i64 k1, .int .i64 n1, .str s1, .imm q1 4 f1 (cellss ks1)], .int .i64 i2, .int .i64 i3] O tk (RetX O tk (fun v tk' => VT true tk tk' r v)) := by
 intro k1 n1 s1 q1 f1 ks1 i2 i3 r hM O tk
 unfold i_lift at hM
 refine acalls_of_run Go.Proofs.Tryd.func36 rfl rfl [] [] (Bor.nil _) [(0, .agg [.int .i64 k1, .int .i64 n1, .str s1, .imm q1 4 f1 (cellss ks1)]), (1, .int .i64 i2), (2, .int .i64 i3)] (.cons (.agg _) (.cons (entS rfl) (.cons (entS rfl) (.nil _)))) (leb rfl) (fun _ h => by cases h) (fun S0 hO htk hfz => ?_)
 refine run_sr ?_
 refine run_op rfl (box_step (d := 3) rfl rfl rfl rfl rfl) rfl (ltb rfl) ?_
 refine run_op rfl (box_step (d := 4) rfl rfl rfl rfl rfl) rfl (ltb rfl) ?_
 refine run_op rfl (box_step (d := 5) rfl rfl rfl rfl rfl) rfl (ltb rfl) ?_
 refine run_op rfl (alloc_step (d := 6) hG rfl rfl rfl) rfl (ltb rfl) ?_
 refine run_ops_nil ?_
 refine run_sr ?_
 refine run_ld hG rfl rfl rfl rfl rfl (ltb rfl) ?_
 refine run_pu rfl (makeFunc_step (first := []) (cap := [.tmp 4, .tmp 5]) rfl rfl rfl) rfl (ltb rfl) ?_
 obtain ⟨r4, hg5, hM⟩ := bind_t hM
 refine run_call rfl rfl rfl (ltb rfl) rfl rfl rfl (fun _ h => absurd h List.not_mem_nil) (i_turned__fn_i_lift_c1vv_ok n k1 n1 s1 q1 f1 ks1 0 (.loc 4) i2 (.loc 5) i3 hg5 _ _ rfl rfl (by decide)) (callK_retX (fun v tk6 (hle7 : tk ≤ tk6) h8 => ?_))
 obtain ⟨k9, n9, s9, q9, f9, ks9, rfl, rfl, hf10⟩ := h8
 refine run_op0 rfl (store_step hG rfl rfl rfl rfl rfl rfl rfl rfl) rfl ?_
 refine run_ops_nil ?_
 refine run_ret_to ?_
 obtain rfl := some_t hM
 refine fin_x hG rfl rfl rfl (v' := .agg [.int .i64 k9, .int .i64 n9, .str s9, .imm q9 4 f9 (cellss ks9)]) (by rfl) ⟨rfl, (show tk ≤ tk6 by omega), _, rfl, ⟨k9, n9, s9, q9, f9, ks9, rfl, rfl, fun _ => (show Fr tk tk6 _ from ((show Fr tk tk6 _ from hf10 rfl)).mono (by omega) (by omega))⟩⟩

def i_lower (n : Nat) (x1 : T) (i2 : Int) : Option T :=
 (i_lift n x1 i2 (-1)).bind fun r3 =>
 some r3

set_option maxRecDepth 100000 in
theorem i_lower_ok (n : Nat) : ∀ (k1 : Int) (n1 : Int) (s1 : ByteArray) (q1 : Nat) (f1 : Bool) (ks1 : List LT) (i2 : Int) {r : T}, i_lower n (T.mk k1 n1 s1 (ers ks1)) i2 = some r → ∀ (O : Heap) (tk : Nat), ACalls Go.Proofs.Tryd.prog 39 [.agg [.int .i64 k1, .int .i64 n1, .str s1, .imm q1 4 f1 (cellss ks1)], .int .i64 i2] O tk (RetX O tk (fun v tk' => VT true tk tk' r v)) := by
 intro k1 n1 s1 q1 f1 ks1 i2 r hM O tk
 unfold i_lower at hM
 refine acalls_of_run Go.Proofs.Tryd.func39 rfl rfl [] [] (Bor.nil _) [(0, .agg [.int .i64 k1, .int .i64 n1, .str s1, .imm q1 4 f1 (cellss ks1)]), (1, .int .i64 i2)] (.cons (.agg _) (.cons (entS rfl) (.nil _))) (leb rfl) (fun _ h => by cases h) (fun S0 hO htk hfz => ?_)
 refine run_sr ?_
 refine run_op rfl (box_step (d := 2) rfl rfl rfl rfl rfl) rfl (ltb rfl) ?_
 refine run_op rfl (alloc_step (d := 4) hG rfl rfl rfl) rfl (ltb rfl) ?_
 refine run_ops_nil ?_
 refine run_sr ?_
 refine run_ld hG rfl rfl rfl rfl rfl (ltb rfl) ?_
 refine mvL rfl rfl rfl rfl (ltb rfl) ?_
 obtain ⟨r3, hg4, hM⟩ := bind_t hM
 refine run_call rfl rfl rfl (ltb rfl) rfl rfl rfl (fun _ h => absurd h List.not_mem_nil) (i_lift_ok n k1 n1 s1 q1 f1 ks1 i2 (-1) hg4 _ _) (callK_retX (fun v tk5 (hle6 : tk ≤ tk5) h7 => ?_))
 obtain ⟨k8, n8, s8, q8, f8, ks8, rfl, rfl, hf9⟩ := h7
 refine run_op0 rfl (store_step hG rfl rfl rfl rfl rfl rfl rfl rfl) rfl ?_
 refine run_ops_nil ?_
 refine run_ret_to ?_
 obtain rfl := some_t hM
 refine fin_x hG rfl rfl rfl (v' := .agg [.int .i64 k8, .int .i64 n8, .str s8, .imm q8 4 f8 (cellss ks8)]) (by rfl) ⟨rfl, (show tk ≤ tk5 by omega), _, rfl, ⟨k8, n8, s8, q8, f8, ks8, rfl, rfl, fun _ => (show Fr tk tk5 _ from ((show Fr tk tk5 _ from hf9 rfl)).mono (by omega) (by omega))⟩⟩

def i_Lift (n : Nat) (x1 : T) (i2 : Int) (i3 : Int) : Option (T × Int) :=
 (i_treeFault n x1 ([i2, i3])).bind fun r4 =>
 if (r4 != 0) = true then
  some ((T.mk 0 0 ⟨#[]⟩ []), r4)
 else
  (i_lift n x1 i2 i3).bind fun r12 =>
  (i_tooBig n r12).bind fun r19 =>
  if r19 = true then
   some ((T.mk 0 0 ⟨#[]⟩ []), 11)
  else
   some (r12, 0)

set_option maxRecDepth 100000 in
theorem i_Lift_ok (n : Nat) : ∀ (k1 : Int) (n1 : Int) (s1 : ByteArray) (q1 : Nat) (f1 : Bool) (ks1 : List LT) (i2 : Int) (i3 : Int) {r : (T × Int)}, i_Lift n (T.mk k1 n1 s1 (ers ks1)) i2 i3 = some r → ∀ (O : Heap) (tk : Nat), ACalls Go.Proofs.Tryd.prog 10 [.agg [.int .i64 k1, .int .i64 n1, .str s1, .imm q1 4 f1 (cellss ks1)], .int .i64 i2, .int .i64 i3] O tk (RetX O tk (fun v tk' => ∃ r0' r1' v0' v1', r = (r0', r1') ∧ v = .tup [v0', v1'] ∧ VT true tk tk' r0' v0' ∧ v1' = .int .i64 r1')) := by
 intro k1 n1 s1 q1 f1 ks1 i2 i3 r hM O tk
 unfold i_Lift at hM
 refine acalls_of_run Go.Proofs.Tryd.func10 rfl rfl [] [] (Bor.nil _) [(0, .agg [.int .i64 k1, .int .i64 n1, .str s1, .imm q1 4 f1 (cellss ks1)]), (1, .int .i64 i2), (2, .int .i64 i3)] (.cons (.agg _) (.cons (entS rfl) (.cons (entS rfl) (.nil _)))) (leb rfl) (fun _ h => by cases h) (fun S0 hO htk hfz => ?_)
 refine run_sr ?_
 refine run_op rfl (box_step (d := 3) rfl rfl rfl rfl rfl) rfl (ltb rfl) ?_
 refine run_op rfl (alloc_step (d := 6) hG rfl rfl rfl) rfl (ltb rfl) ?_
 refine mvR rfl rfl rfl rfl (ltb rfl) ?_
 refine run_ops_nil ?_
 refine run_seq ?_
 refine run_sr ?_
 refine run_ld hG rfl rfl rfl rfl rfl (ltb rfl) ?_
 refine mvL rfl rfl rfl rfl (ltb rfl) ?_
 refine mvL rfl rfl rfl rfl (ltb rfl) ?_
 refine run_op rfl (buildSlice_step (d := 13) hG rfl rfl rfl rfl rfl (by rfl) (by rfl) (by rfl) (by decide)) rfl (ltb rfl) ?_
 refine run_sub_ops (Sub.freeze (k := 13) rfl rfl) ?_
 obtain ⟨r4, hg5, hM⟩ := bind_t hM
 refine run_call rfl rfl rfl (ltb rfl) rfl rfl rfl (fun _ h => absurd h List.not_mem_nil) (i_treeFault_ok n k1 n1 s1 q1 f1 ks1 tk false [i2, i3] hg5 _ _) (callK_retX (fun v tk6 (hle7 : (tk + 1) ≤ tk6) h8 => ?_))
 subst h8
 refine mvR rfl rfl rfl rfl (ltb rfl) ?_
 refine run_ops_nil ?_
 refine run_sr ?_
 refine mvL rfl rfl rfl rfl (ltb rfl) ?_
 refine run_bin rfl rfl rfl rfl rfl rfl rfl (ltb rfl) ?_
 refine run_ops_nil ?_
 refine run_ifb rfl rfl (fun hb11 => ?_) (fun hb11 => ?_)
 ·replace hM := ite_t hb11 hM
  refine run_sr ?_
  refine run_pu rfl (build_step hG rfl (by rfl) rfl (fun h => by cases h) (by rfl)) rfl (ltb rfl) ?_
  refine mvL rfl rfl rfl rfl (ltb rfl) ?_
  refine run_op0 rfl (store_step hG rfl rfl rfl rfl rfl rfl rfl rfl) rfl ?_
  refine mvR rfl rfl rfl rfl (ltb rfl) ?_
  refine run_ops_nil ?_
  refine run_ret_to ?_
  obtain rfl := some_t hM
  refine fin_x hG rfl rfl rfl (v' := .tup [.agg [.int .i64 0, .int .i64 0, .str ⟨#[]⟩, .imm 0 4 true (cellss [])], .int .i64 r4]) (by rfl) ⟨rfl, (show tk ≤ tk6 by omega), _, rfl, ⟨_, _, _, _, rfl, rfl, ⟨0, 0, ⟨#[]⟩, 0, true, [], rfl, rfl, fun _ => Fr.nil _ _⟩, rfl⟩⟩
 ·replace hM := ite_f hb11 hM
  refine run_skip ?_
  refine run_sr ?_
  refine run_ld hG rfl rfl rfl rfl rfl (ltb rfl) ?_
  refine mvL rfl rfl rfl rfl (ltb rfl) ?_
  refine mvL rfl rfl rfl rfl (ltb rfl) ?_
  obtain ⟨r12, hg13, hM⟩ := bind_t hM
  refine run_call rfl rfl rfl (ltb rfl) rfl rfl rfl (fun _ h => absurd h List.not_mem_nil) (i_lift_ok n k1 n1 s1 q1 f1 ks1 i2 i3 hg13 _ _) (callK_retX (fun v tk14 (hle15 : tk6 ≤ tk14) h16 => ?_))
  obtain ⟨k17, n17, s17, q17, f17, ks17, rfl, rfl, hf18⟩ := h16
  refine run_op rfl (alloc_step (d := 9) hG rfl rfl rfl) rfl (ltb rfl) ?_
  refine run_op0 rfl (store_step hG rfl rfl rfl rfl rfl rfl rfl rfl) rfl ?_
  refine run_ops_nil ?_
  refine run_sub_code (σ' := ⟨[(6, .optr (.loc 6) 0 0), (7, .int .i64 0), (9, .optr (.loc 9) 0 0)], [(9, ⟨25, 4, true, [[.int .i64 k17, .int .i64 n17, .str s17, .imm q17 4 f17 (cellss ks17)]]⟩), (6, ⟨25, 4, true, [[.int .i64 0, .int .i64 0, .str ⟨#[]⟩, .imm 0 4 true []]]⟩)], [], O, tk14⟩) (Sub.trans (Sub.drop (k := 3) rfl) (Sub.env _ ⟨rfl, rfl, rfl, trivial⟩)) ?_
  refine run_seq ?_
  refine run_sr ?_
  refine run_ld hG rfl rfl rfl rfl rfl (ltb rfl) ?_
  obtain ⟨r19, hg20, hM⟩ := bind_t hM
  refine run_call rfl rfl rfl (ltb rfl) rfl rfl rfl (fun _ h => absurd h List.not_mem_nil) (i_tooBig_ok n k17 n17 s17 q17 f17 ks17 hg20 _ _) (callK_retX (fun v tk21 (hle22 : tk14 ≤ tk21) h23 => ?_))
  subst h23
  refine run_ops_nil ?_
  refine run_ifb rfl rfl (fun hb26 => ?_) (fun hb26 => ?_)
  ·replace hM := ite_t hb26 hM
   refine run_sr ?_
   refine run_pu rfl (build_step hG rfl (by rfl) rfl (fun h => by cases h) (by rfl)) rfl (ltb rfl) ?_
   refine run_op0 rfl (store_step hG rfl rfl rfl rfl rfl rfl rfl rfl) rfl ?_
   refine mvR rfl rfl rfl rfl (ltb rfl) ?_
   refine run_ops_nil ?_
   refine run_ret_to ?_
   obtain rfl := some_t hM
   refine fin_x hG rfl rfl rfl (v' := .tup [.agg [.int .i64 0, .int .i64 0, .str ⟨#[]⟩, .imm 0 4 true (cellss [])], .int .i64 11]) (by rfl) ⟨rfl, (show tk ≤ tk21 by omega), _, rfl, ⟨_, _, _, _, rfl, rfl, ⟨0, 0, ⟨#[]⟩, 0, true, [], rfl, rfl, fun _ => Fr.nil _ _⟩, rfl⟩⟩
  ·replace hM := ite_f hb26 hM
   refine run_skip ?_
   refine run_sr ?_
   refine run_ld hG rfl rfl rfl rfl rfl (ltb rfl) ?_
   refine run_op0 rfl (store_step hG rfl rfl rfl rfl rfl rfl rfl rfl) rfl ?_
   refine mvR rfl rfl rfl rfl (ltb rfl) ?_
   refine run_ops_nil ?_
   refine run_ret_to ?_
   obtain rfl := some_t hM
   refine fin_x hG rfl rfl rfl (v' := .tup [.agg [.int .i64 k17, .int .i64 n17, .str s17, .imm q17 4 f17 (cellss ks17)], .int .i64 0]) (by rfl) ⟨rfl, (show tk ≤ tk21 by omega), _, rfl, ⟨_, _, _, _, rfl, rfl, ⟨k17, n17, s17, q17, f17, ks17, rfl, rfl, fun _ => (show Fr tk tk21 _ from ((show Fr tk6 tk14 _ from hf18 rfl)).mono (by omega) (by omega))⟩, rfl⟩⟩

def i_Lower (n : Nat) (x1 : T) (i2 : Int) : Option (T × Int) :=
 (i_treeFault n x1 ([i2])).bind fun r3 =>
 if (r3 != 0) = true then
  some ((T.mk 0 0 ⟨#[]⟩ []), r3)
 else
  (i_occurs n x1 i2).bind fun r11 =>
  if r11 = true then
   some ((T.mk 0 0 ⟨#[]⟩ []), 7)
  else
   (i_lower n x1 i2).bind fun r19 =>
   some (r19, 0)

set_option maxRecDepth 100000 in
theorem i_Lower_ok (n : Nat) : ∀ (k1 : Int) (n1 : Int) (s1 : ByteArray) (q1 : Nat) (f1 : Bool) (ks1 : List LT) (i2 : Int) {r : (T × Int)}, i_Lower n (T.mk k1 n1 s1 (ers ks1)) i2 = some r → ∀ (O : Heap) (tk : Nat), ACalls Go.Proofs.Tryd.prog 12 [.agg [.int .i64 k1, .int .i64 n1, .str s1, .imm q1 4 f1 (cellss ks1)], .int .i64 i2] O tk (RetX O tk (fun v tk' => ∃ r0' r1' v0' v1', r = (r0', r1') ∧ v = .tup [v0', v1'] ∧ VT true tk tk' r0' v0' ∧ v1' = .int .i64 r1')) := by
 intro k1 n1 s1 q1 f1 ks1 i2 r hM O tk
 unfold i_Lower at hM
 refine acalls_of_run Go.Proofs.Tryd.func12 rfl rfl [] [] (Bor.nil _) [(0, .agg [.int .i64 k1, .int .i64 n1, .str s1, .imm q1 4 f1 (cellss ks1)]), (1, .int .i64 i2)] (.cons (.agg _) (.cons (entS rfl) (.nil _))) (leb rfl) (fun _ h => by cases h) (fun S0 hO htk hfz => ?_)
 refine run_sr ?_
 refine run_op rfl (box_step (d := 2) rfl rfl rfl rfl rfl) rfl (ltb rfl) ?_
 refine run_op rfl (alloc_step (d := 4) hG rfl rfl rfl) rfl (ltb rfl) ?_
 refine mvR rfl rfl rfl rfl (ltb rfl) ?_
 refine run_ops_nil ?_
 refine run_seq ?_
 refine run_sr ?_
 refine run_ld hG rfl rfl rfl rfl rfl (ltb rfl) ?_
 refine mvL rfl rfl rfl rfl (ltb rfl) ?_
 refine run_op rfl (buildSlice_step (d := 9) hG rfl rfl rfl rfl rfl (by rfl) (by rfl) (by rfl) (by decide)) rfl (ltb rfl) ?_
 refine run_sub_ops (Sub.freeze (k := 9) rfl rfl) ?_
 obtain ⟨r3, hg4, hM⟩ := bind_t hM
 refine run_call rfl rfl rfl (ltb rfl) rfl rfl rfl (fun _ h => absurd h List.not_mem_nil) (i_treeFault_ok n k1 n1 s1 q1 f1 ks1 tk false [i2] hg4 _ _) (callK_retX (fun v tk5 (hle6 : (tk + 1) ≤ tk5) h7 => ?_))
 subst h7
 refine mvR rfl rfl rfl rfl (ltb rfl) ?_
 refine run_ops_nil ?_
 refine run_sr ?_
 refine mvL rfl rfl rfl rfl (ltb rfl) ?_
 refine run_bin rfl rfl rfl rfl rfl rfl rfl (ltb rfl) ?_
 refine run_ops_nil ?_
 refine run_ifb rfl rfl (fun hb10 => ?_) (fun hb10 => ?_)
 ·replace hM := ite_t hb10 hM
  refine run_sr ?_
  refine run_pu rfl (build_step hG rfl (by rfl) rfl (fun h => by cases h) (by rfl)) rfl (ltb rfl) ?_
  refine mvL rfl rfl rfl rfl (ltb rfl) ?_
  refine run_op0 rfl (store_step hG rfl rfl rfl rfl rfl rfl rfl rfl) rfl ?_
  refine mvR rfl rfl rfl rfl (ltb rfl) ?_
  refine run_ops_nil ?_
  refine run_ret_to ?_
  obtain rfl := some_t hM
  refine fin_x hG rfl rfl rfl (v' := .tup [.agg [.int .i64 0, .int .i64 0, .str ⟨#[]⟩, .imm 0 4 true (cellss [])], .int .i64 r3]) (by rfl) ⟨rfl, (show tk ≤ tk5 by omega), _, rfl, ⟨_, _, _, _, rfl, rfl, ⟨0, 0, ⟨#[]⟩, 0, true, [], rfl, rfl, fun _ => Fr.nil _ _⟩, rfl⟩⟩
 ·replace hM := ite_f hb10 hM
  refine run_skip ?_
  refine run_seq ?_
  refine run_sr ?_
  refine run_ld hG rfl rfl rfl rfl rfl (ltb rfl) ?_
  refine mvL rfl rfl rfl rfl (ltb rfl) ?_
  obtain ⟨r11, hg12, hM⟩ := bind_t hM
  refine run_call rfl rfl rfl (ltb rfl) rfl rfl rfl (fun _ h => absurd h List.not_mem_nil) (i_occurs_ok n k1 n1 s1 q1 f1 ks1 i2 hg12 _ _) (callK_retX (fun v tk13 (hle14 : tk5 ≤ tk13) h15 => ?_))
  subst h15
  refine run_ops_nil ?_
  refine run_ifb rfl rfl (fun hb18 => ?_) (fun hb18 => ?_)
  ·replace hM := ite_t hb18 hM
   refine run_sr ?_
   refine run_pu rfl (build_step hG rfl (by rfl) rfl (fun h => by cases h) (by rfl)) rfl (ltb rfl) ?_
   refine run_op0 rfl (store_step hG rfl rfl rfl rfl rfl rfl rfl rfl) rfl ?_
   refine mvR rfl rfl rfl rfl (ltb rfl) ?_
   refine run_ops_nil ?_
   refine run_ret_to ?_
   obtain rfl := some_t hM
   refine fin_x hG rfl rfl rfl (v' := .tup [.agg [.int .i64 0, .int .i64 0, .str ⟨#[]⟩, .imm 0 4 true (cellss [])], .int .i64 7]) (by rfl) ⟨rfl, (show tk ≤ tk13 by omega), _, rfl, ⟨_, _, _, _, rfl, rfl, ⟨0, 0, ⟨#[]⟩, 0, true, [], rfl, rfl, fun _ => Fr.nil _ _⟩, rfl⟩⟩
  ·replace hM := ite_f hb18 hM
   refine run_skip ?_
   refine run_sr ?_
   refine run_ld hG rfl rfl rfl rfl rfl (ltb rfl) ?_
   refine mvL rfl rfl rfl rfl (ltb rfl) ?_
   obtain ⟨r19, hg20, hM⟩ := bind_t hM
   refine run_call rfl rfl rfl (ltb rfl) rfl rfl rfl (fun _ h => absurd h List.not_mem_nil) (i_lower_ok n k1 n1 s1 q1 f1 ks1 i2 hg20 _ _) (callK_retX (fun v tk21 (hle22 : tk13 ≤ tk21) h23 => ?_))
   obtain ⟨k24, n24, s24, q24, f24, ks24, rfl, rfl, hf25⟩ := h23
   refine run_op0 rfl (store_step hG rfl rfl rfl rfl rfl rfl rfl rfl) rfl ?_
   refine mvR rfl rfl rfl rfl (ltb rfl) ?_
   refine run_ops_nil ?_
   refine run_ret_to ?_
   obtain rfl := some_t hM
   refine fin_x hG rfl rfl rfl (v' := .tup [.agg [.int .i64 k24, .int .i64 n24, .str s24, .imm q24 4 f24 (cellss ks24)], .int .i64 0]) (by rfl) ⟨rfl, (show tk ≤ tk21 by omega), _, rfl, ⟨_, _, _, _, rfl, rfl, ⟨k24, n24, s24, q24, f24, ks24, rfl, rfl, fun _ => (show Fr tk tk21 _ from ((show Fr tk13 tk21 _ from hf25 rfl)).mono (by omega) (by omega))⟩, rfl⟩⟩

end Go.Am.YtaedacibojpfkaaDoor
