/- Printed by a program of ours: Lean functions that do what the Go functions do, and the contracts. -/
import Derived.Test.YtaedacibojpfkaaDoorMl0
import Derived.Test.YtaedacibojpfkaaDoorMb1
import Derived.Test.YtaedacibojpfkaaDoorMb3
import Derived.Test.YtaedacibojpfkaaDoorTypes
import Derived.Test.YtaedacibojpfkaaDoorMi4
import Derived.Test.YtaedacibojpfkaaDoorMc1
import Derived.Test.YtaedacibojpfkaaDoorEkBig
-- packed
namespace Go.Am.YtaedacibojpfkaaDoor
open Go Go.Am

set_option maxRecDepth 100000 in
theorem s_l01With_ex (k1 : Int) (n1 : Int) (s1 : ByteArray) (q1 : Nat) (f1 : Bool) (ks1 : List LT) (q2 : Nat) (f2 : Bool) (ks2 : List LT) (O : Heap) (tk : Nat) : ACalls Go.Proofs.Tryd.prog 109 [.agg [.int .i64 k1, .int .i64 n1, .str s1, .imm q1 4 f1 (cellss ks1)], .imm q2 4 f2 (cellss ks2)] O tk (RetN O (.agg [.int .i64 k1, .int .i64 n1, .str s1, .imm q2 4 f2 (cellss ks2)]) tk) := by
 refine acalls_of_run Go.Proofs.Tryd.func109 rfl rfl [] [] (Bor.nil _) [(0, .agg [.int .i64 k1, .int .i64 n1, .str s1, .imm q1 4 f1 (cellss ks1)]), (1, .imm q2 4 f2 (cellss ks2))] (.cons (.agg _) (.cons (entS rfl) (.nil _))) (leb rfl) (fun _ h => by cases h) (fun S0 hO htk hfz => ?_)
 refine run_sr ?_
 refine run_op rfl (box_step (d := 2) rfl rfl rfl rfl rfl) rfl (ltb rfl) ?_
 refine run_op rfl (alloc_step (d := 4) hG rfl rfl rfl) rfl (ltb rfl) ?_
 refine run_ops_nil ?_
 refine run_sr ?_
 refine run_pu rfl (fieldAddr_step hG rfl rfl rfl rfl rfl) rfl (ltb rfl) ?_
 refine run_ld hG rfl rfl rfl rfl rfl (ltb rfl) ?_
 refine run_pu rfl (fieldAddr_step hG rfl rfl rfl rfl rfl) rfl (ltb rfl) ?_
 refine run_ld hG rfl rfl rfl rfl rfl (ltb rfl) ?_
 refine run_pu rfl (fieldAddr_step hG rfl rfl rfl rfl rfl) rfl (ltb rfl) ?_
 refine run_ld hG rfl rfl rfl rfl rfl (ltb rfl) ?_
 refine mvL rfl rfl rfl rfl (ltb rfl) ?_
 refine run_pu rfl (build_step hG rfl (by rfl) rfl (fun h => by cases h) (by rfl)) rfl (ltb rfl) ?_
 refine run_op0 rfl (store_step hG rfl rfl rfl rfl rfl rfl rfl rfl) rfl ?_
 refine run_ops_nil ?_
 refine run_ret_to ?_
 refine fin_x hG rfl rfl rfl (v' := .agg [.int .i64 k1, .int .i64 n1, .str s1, .imm q2 4 f2 (cellss ks2)]) (by rfl) ⟨rfl, rfl, rfl⟩

def s_l01Lift_L1 (rec_s_l01Lift : T → Int → Int → Option T) (x1 : T) (i2 : Int) (i3 : Int) : Nat → Int → List T → Option T
 | 0, _, _ => none
 | m + 1, i4, l5 =>
  if i4 < ((x1.kids).length : Int) then
   (idx x1.kids i4).bind fun y7 =>
   (s_l01Under x1 i4).bind fun r12 =>
   (rec_s_l01Lift y7 (IntKind.i64.wrap (i2 + r12)) i3).bind fun r19 =>
   chk ((l5).length + ([r19]).length ≤ 1099511627776) <|
   s_l01Lift_L1 rec_s_l01Lift x1 i2 i3 m (IntKind.i64.wrap (i4 + 1)) (l5 ++ [r19])
  else
   if x1.kind = 5 then
    if x1.n ≥ i2 then
     some (T.mk x1.kind (IntKind.i64.wrap (x1.n + i3)) x1.name l5)
    else
     some (T.mk x1.kind x1.n x1.name l5)
   else
    some (T.mk x1.kind x1.n x1.name l5)

def s_l01Lift : Nat → T → Int → Int → Option T
 | 0, _, _, _ => none
 | n + 1, x1, i2, i3 =>
  s_l01Lift_L1 (s_l01Lift n) x1 i2 i3 n 0 ([])

set_option maxRecDepth 100000 in
theorem s_l01Lift_st (n : Nat) (ih_s_l01Lift : ∀ (k1 : Int) (n1 : Int) (s1 : ByteArray) (q1 : Nat) (f1 : Bool) (ks1 : List LT) (i2 : Int) (i3 : Int) {r : T}, s_l01Lift n (T.mk k1 n1 s1 (ers ks1)) i2 i3 = some r → ∀ (O : Heap) (tk : Nat), ACalls Go.Proofs.Tryd.prog 108 [.agg [.int .i64 k1, .int .i64 n1, .str s1, .imm q1 4 f1 (cellss ks1)], .int .i64 i2, .int .i64 i3] O tk (RetX O tk (fun v tk' => VT true tk tk' r v))) : ∀ (k1 : Int) (n1 : Int) (s1 : ByteArray) (q1 : Nat) (f1 : Bool) (ks1 : List LT) (i2 : Int) (i3 : Int) {r : T}, s_l01Lift (n + 1) (T.mk k1 n1 s1 (ers ks1)) i2 i3 = some r → ∀ (O : Heap) (tk : Nat), ACalls Go.Proofs.Tryd.prog 108 [.agg [.int .i64 k1, .int .i64 n1, .str s1, .imm q1 4 f1 (cellss ks1)], .int .i64 i2, .int .i64 i3] O tk (RetX O tk (fun v tk' => VT true tk tk' r v)) := by
 intro k1 n1 s1 q1 f1 ks1 i2 i3 r hM O tk
 rw [s_l01Lift] at hM
 refine acalls_of_run Go.Proofs.Tryd.func108 rfl rfl [] [] (Bor.nil _) [(0, .agg [.int .i64 k1, .int .i64 n1, .str s1, .imm q1 4 f1 (cellss ks1)]), (1, .int .i64 i2), (2, .int .i64 i3)] (.cons (.agg _) (.cons (entS rfl) (.cons (entS rfl) (.nil _)))) (leb rfl) (fun _ h => by cases h) (fun S0 hO htk hfz => ?_)
 refine run_sr ?_
 refine run_op rfl (box_step (d := 3) rfl rfl rfl rfl rfl) rfl (ltb rfl) ?_
 refine run_op rfl (alloc_step (d := 6) hG rfl rfl rfl) rfl (ltb rfl) ?_
 refine run_ops_nil ?_
 refine run_sr ?_
 refine run_op rfl (buildSlice_step (d := 10) hG rfl rfl rfl rfl rfl (by rfl) (by rfl) (by rfl) (by decide)) rfl (ltb rfl) ?_
 refine mvR rfl rfl rfl rfl (ltb rfl) ?_
 refine run_ops_nil ?_
 refine run_seq ?_
 refine run_sr ?_
 refine mvR rfl rfl rfl rfl (ltb rfl) ?_
 refine run_ops_nil ?_
 refine run_block ?_
 refine run_rounds (fun m σ => ∃ (i4 : Int) (ks5 : List LT) (tks_l01Lift_L1 : Nat), tk ≤ tks_l01Lift_L1 ∧ Fr tk tks_l01Lift_L1 (ttoks ks5) ∧ s_l01Lift_L1 (s_l01Lift n) (T.mk k1 n1 s1 (ers ks1)) i2 i3 m i4 (ers ks5) = some r ∧ σ = ⟨[(1, .int .i64 i2), (2, .int .i64 i3), (3, .optr (.loc 3) 0 0), (6, .optr (.loc 6) 0 0), (7, .osl (.loc 10)), (8, .int .i64 i4)], [(10, ⟨25, 4, false, cellss ks5⟩), (6, ⟨25, 4, true, [[.int .i64 0, .int .i64 0, .str ⟨#[]⟩, .imm 0 4 true []]]⟩), (3, ⟨25, 4, true, [[.int .i64 k1, .int .i64 n1, .str s1, .imm q1 4 f1 (cellss ks1)]]⟩)], [], O, tks_l01Lift_L1⟩) n (Sub.env [(1, .int .i64 i2), (2, .int .i64 i3), (3, .optr (.loc 3) 0 0), (6, .optr (.loc 6) 0 0), (7, .osl (.loc 10)), (8, .int .i64 0)] ⟨rfl, rfl, rfl, rfl, rfl, rfl, trivial⟩) ⟨0, [], tk, Nat.le_refl _, Fr.nil _ _, hM, rfl⟩ (fun m σ hI => ?_)
 clear hM
 obtain ⟨i4, ks5, tks_l01Lift_L1, hle29, hfr5, hM, rfl⟩ := hI
 obtain _ | m := m
 ·exact absurd hM (by rw [s_l01Lift_L1]; exact fun h => by cases h)
 rw [s_l01Lift_L1] at hM
 refine run_seq ?_
 refine run_sr ?_
 refine mvL rfl rfl rfl rfl (ltb rfl) ?_
 refine run_pu rfl (fieldAddr_step hG rfl rfl rfl rfl rfl) rfl (ltb rfl) ?_
 refine run_ld hG rfl rfl rfl rfl rfl (ltb rfl) ?_
 refine run_pu rfl (lenImm_step hG rfl rfl rfl rfl (tlen _)) rfl (ltb rfl) ?_
 refine run_bin rfl rfl rfl rfl rfl rfl rfl (ltb rfl) ?_
 refine run_ops_nil ?_
 refine run_ifd rfl rfl (fun hb6 => ?_) (fun hb6 => ?_)
 ·replace hM := ite_t hb6 hM
  refine run_skip ?_
  refine run_seq ?_
  refine run_block ?_
  refine run_draw [.loc 10] (n := 16) mixed rfl (by intro x hx; simp only [List.mem_cons, List.not_mem_nil, or_false] at hx; rcases hx with rfl <;> rfl) ?_
  refine AAny.take (i := 0) rfl (by kernel_rfl) (by kernel_rfl) (by kernel_rfl) rfl rfl (ltb rfl) ((move_step (.inl rfl) rfl).rd _) ?_
  refine AAny.take (i := 1) rfl (by kernel_rfl) (by kernel_rfl) (by kernel_rfl) rfl rfl (ltb rfl) ((fieldAddr_step hG rfl rfl rfl rfl rfl).rd _) ?_
  refine AAny.take (i := 2) rfl (by kernel_rfl) (by kernel_rfl) (by kernel_rfl) rfl rfl (ltb rfl) (aload_rd hG rfl rfl rfl (by first | (simp [ldok]; done) | exact List.not_mem_nil | trivial)) ?_
  refine AAny.take (i := 3) rfl (by kernel_rfl) (by kernel_rfl) (by kernel_rfl) rfl rfl (ltb rfl) ((move_step (.inl rfl) rfl).rd _) ?_
  obtain ⟨y7, hy8, hM⟩ := bind_t hM
  obtain ⟨k9, n9, s9, q9, f9, ks9, rfl, hc10, hi11⟩ := tidx (ks := ks1) hy8
  refine AAny.take (i := 4) rfl (by kernel_rfl) (by kernel_rfl) (by kernel_rfl) rfl rfl (ltb rfl) ((indexImm_step hG rfl rfl rfl hi11 rfl rfl rfl rfl hc10).rd _) ?_
  refine AAny.take (i := 5) rfl (by kernel_rfl) (by kernel_rfl) (by kernel_rfl) rfl rfl (ltb rfl) (aload_rd hG rfl rfl rfl (by first | (simp [ldok]; done) | exact List.not_mem_nil | trivial)) ?_
  refine AAny.take (i := 6) rfl (by kernel_rfl) (by kernel_rfl) (by kernel_rfl) rfl rfl (ltb rfl) ((move_step (.inl rfl) rfl).rd _) ?_
  refine AAny.take (i := 7) rfl (by kernel_rfl) (by kernel_rfl) (by kernel_rfl) rfl rfl (ltb rfl) (aload_rd hG rfl rfl rfl (by first | (simp [ldok]; done) | exact List.not_mem_nil | trivial)) ?_
  refine AAny.take (i := 8) rfl (by kernel_rfl) (by kernel_rfl) (by kernel_rfl) rfl rfl (ltb rfl) ((move_step (.inl rfl) rfl).rd _) ?_
  refine AAny.take (i := 11) rfl (by kernel_rfl) (by kernel_rfl) (by kernel_rfl) rfl rfl (ltb rfl) ((move_step (.inl rfl) rfl).rd _) ?_
  obtain ⟨r12, hg13, hM⟩ := bind_t hM
  refine AAny.one (i := 9) (by kernel_rfl) (AOp.call rfl rfl rfl rfl (ltb rfl) rfl rfl rfl (fun _ h => absurd h List.not_mem_nil) (fun _ h => absurd h List.not_mem_nil) (s_l01Under_ok k1 n1 s1 q1 f1 ks1 i4 hg13 _ _) (callK_retX (fun v tk14 (hle15 : tks_l01Lift_L1 ≤ tk14) h16 => ?_)))
  subst h16
  refine AAny.take (i := 10) rfl (by kernel_rfl) (by kernel_rfl) (by kernel_rfl) rfl rfl (ltb rfl) ((abin_step rfl rfl rfl rfl (fun _ h => by cases h)).rd _) ?_
  obtain ⟨r19, hg20, hM⟩ := bind_t hM
  refine AAny.one (i := 12) (by kernel_rfl) (AOp.call rfl rfl rfl rfl (ltb rfl) rfl rfl rfl (fun _ h => absurd h List.not_mem_nil) (fun _ h => absurd h List.not_mem_nil) (ih_s_l01Lift k9 n9 s9 q9 f9 ks9 (IntKind.i64.wrap (i2 + r12)) i3 hg20 _ _) (callK_retX (fun v tk21 (hle22 : tk14 ≤ tk21) h23 => ?_)))
  obtain ⟨k24, n24, s24, q24, f24, ks24, rfl, rfl, hf25⟩ := h23
  refine AAny.one (i := 13) (by kernel_rfl) (AOp.step rfl rfl rfl (ltb rfl) (buildSlice_step (d := 31) hG rfl rfl rfl rfl rfl (by rfl) (by rfl) (by rfl) (by decide)) (fun _ h => absurd h List.not_mem_nil) ?_)
  obtain ⟨hc26, hM⟩ := chk_t hM
  try rw [show ((ers ks5) ++ [(T.mk k24 n24 s24 (ers ks24))] : List T) = (ers (ks5 ++ [LT.mk k24 n24 s24 q24 f24 ks24])) from ers_app ks5 [LT.mk k24 n24 s24 q24 f24 ks24]] at hM
  refine AAny.one (i := 14) (by kernel_rfl) (AOp.step rfl rfl rfl (ltb rfl) (appendM_step hG rfl rfl rfl rfl rfl rfl rfl rfl rfl rfl rfl (cellss_sz ([LT.mk k24 n24 s24 q24 f24 ks24])) (tlen ks5) (tlen ([LT.mk k24 n24 s24 q24 f24 ks24])) hc26 (by decide) (cellss_app _ _)) (by intro x hx; simp only [List.mem_cons, List.not_mem_nil, or_false] at hx; subst hx; simp) ?_)
  refine AAny.take (i := 15) rfl (by kernel_rfl) (by kernel_rfl) (by kernel_rfl) rfl rfl (ltb rfl) ((move_step (.inr rfl) rfl).rd _) ?_
  refine AAny.done (by kernel_rfl) ?_
  refine run_blk ?_
  refine run_sub_code (σ' := ⟨[(1, .int .i64 i2), (2, .int .i64 i3), (3, .optr (.loc 3) 0 0), (6, .optr (.loc 6) 0 0), (7, .osl (.loc 10)), (8, .int .i64 i4)], [(10, ⟨25, 4, false, cellss (ks5 ++ [LT.mk k24 n24 s24 q24 f24 ks24])⟩), (6, ⟨25, 4, true, [[.int .i64 0, .int .i64 0, .str ⟨#[]⟩, .imm 0 4 true []]]⟩), (3, ⟨25, 4, true, [[.int .i64 k1, .int .i64 n1, .str s1, .imm q1 4 f1 (cellss ks1)]]⟩)], [], O, tk21⟩) (Sub.trans (Sub.drop (k := 31) rfl) (Sub.env _ ⟨rfl, rfl, rfl, rfl, rfl, rfl, trivial⟩)) ?_
  refine run_region ?_
  refine mvL rfl rfl rfl rfl (ltb rfl) ?_
  refine run_bin rfl rfl rfl rfl rfl rfl rfl (ltb rfl) ?_
  refine mvR rfl rfl rfl rfl (ltb rfl) ?_
  refine run_ops_nil ?_
  exact run_loop_end ⟨m, _, Nat.lt_succ_self _, ⟨(IntKind.i64.wrap (i4 + 1)), (ks5 ++ [LT.mk k24 n24 s24 q24 f24 ks24]), tk21, (show tk ≤ tk21 by omega), (show Fr tk tk21 _ from (Fr.tsnoc (show Fr tk tk14 _ from (hfr5).mono (by omega) (by omega)) ((show Fr tk14 tk21 _ from hf25 rfl)) (by omega) (by omega)).mono (by omega) (by omega)), hM, rfl⟩, Sub.env [(1, .int .i64 i2), (2, .int .i64 i3), (3, .optr (.loc 3) 0 0), (6, .optr (.loc 6) 0 0), (7, .osl (.loc 10)), (8, .int .i64 (IntKind.i64.wrap (i4 + 1)))] ⟨rfl, rfl, rfl, rfl, rfl, rfl, trivial⟩⟩
 ·replace hM := ite_f hb6 hM
  refine run_exit_to rfl ?_
  refine run_sr ?_
  refine run_ld hG rfl rfl rfl rfl rfl (ltb rfl) ?_
  refine mvL rfl rfl rfl rfl (ltb rfl) ?_
  refine run_sub_ops (Sub.freeze (k := 10) rfl rfl) ?_
  refine run_call rfl rfl rfl (ltb rfl) rfl rfl rfl (fun _ h => absurd h List.not_mem_nil) (s_l01With_ex k1 n1 s1 q1 f1 ks1 tks_l01Lift_L1 false ks5 _ _) (callK_retN ?_)
  skip
  refine run_op rfl (alloc_step (d := 9) hG rfl rfl rfl) rfl (ltb rfl) ?_
  refine run_op0 rfl (store_step hG rfl rfl rfl rfl rfl rfl rfl rfl) rfl ?_
  refine run_ops_nil ?_
  refine run_seq ?_
  refine run_sr ?_
  refine run_pu rfl (fieldAddr_step hG rfl rfl rfl rfl rfl) rfl (ltb rfl) ?_
  refine run_ld hG rfl rfl rfl rfl rfl (ltb rfl) ?_
  refine run_bin rfl rfl rfl rfl rfl rfl rfl (ltb rfl) ?_
  refine mvL rfl rfl rfl rfl (ltb rfl) ?_
  refine run_splitd (i := 39) rfl (fun hb27 => ?_) (fun hb27 => ?_)
  ·replace hM := ite_t hb27 hM
   refine run_puG (on_of rfl rfl rfl rfl) (fieldAddr_step hG rfl rfl rfl rfl rfl) rfl (ltb rfl) ?_
   refine run_rdG (on_of rfl rfl rfl rfl) (aload_rd hG rfl rfl rfl (by first | (simp [ldok]; done) | exact List.not_mem_nil | trivial)) rfl (ltb rfl) ?_
   refine run_puG (on_of rfl rfl rfl rfl) (move_step (.inl rfl) rfl) rfl (ltb rfl) ?_
   refine run_puG (on_of rfl rfl rfl rfl) (abin_step rfl rfl rfl rfl (fun _ h => by cases h)) rfl (ltb rfl) ?_
   refine run_pu rfl (pick_step rfl rfl rfl) rfl (ltb rfl) ?_
   refine run_ops_nil ?_
   refine run_sub_code (σ' := ⟨[(2, .int .i64 i3), (6, .optr (.loc 6) 0 0), (9, .optr (.loc 9) 0 0), (44, .bool (decide (n1 ≥ i2)))], [(9, ⟨25, 4, true, [[.int .i64 k1, .int .i64 n1, .str s1, .imm tks_l01Lift_L1 4 false (cellss ks5)]]⟩), (6, ⟨25, 4, true, [[.int .i64 0, .int .i64 0, .str ⟨#[]⟩, .imm 0 4 true []]]⟩)], [], O, (tks_l01Lift_L1 + 1)⟩) (Sub.trans (Sub.drop (k := 3) rfl) (Sub.env _ ⟨rfl, rfl, rfl, rfl, trivial⟩)) ?_
   refine run_ifd rfl rfl (fun hb28 => ?_) (fun hb28 => ?_)
   ·replace hM := ite_t hb28 hM
    refine run_region ?_
    refine run_pu rfl (fieldAddr_step hG rfl rfl rfl rfl rfl) rfl (ltb rfl) ?_
    refine run_ld hG rfl rfl rfl rfl rfl (ltb rfl) ?_
    refine mvL rfl rfl rfl rfl (ltb rfl) ?_
    refine run_bin rfl rfl rfl rfl rfl rfl rfl (ltb rfl) ?_
    refine run_pu rfl (fieldAddr_step hG rfl rfl rfl rfl rfl) rfl (ltb rfl) ?_
    refine run_op0 rfl (store_step hG rfl rfl rfl rfl rfl rfl rfl rfl) rfl ?_
    refine run_ops_nil ?_
    refine run_sr ?_
    refine run_ld hG rfl rfl rfl rfl rfl (ltb rfl) ?_
    refine run_op0 rfl (store_step hG rfl rfl rfl rfl rfl rfl rfl rfl) rfl ?_
    refine run_ops_nil ?_
    refine run_ret_to ?_
    obtain rfl := some_t hM
    refine fin_x hG rfl rfl rfl (v' := .agg [.int .i64 k1, .int .i64 (IntKind.i64.wrap (n1 + i3)), .str s1, .imm tks_l01Lift_L1 4 false (cellss ks5)]) (by rfl) ⟨rfl, (show tk ≤ (tks_l01Lift_L1 + 1) by omega), _, rfl, ⟨k1, (IntKind.i64.wrap (n1 + i3)), s1, tks_l01Lift_L1, false, ks5, rfl, rfl, fun _ => (show Fr tk (tks_l01Lift_L1 + 1) _ from (show Fr tk (tks_l01Lift_L1 + 1) _ from Fr.tstop (show Fr tk tks_l01Lift_L1 _ from (hfr5).mono (by omega) (by omega)) (by omega) (by omega)).mono (by omega) (by omega))⟩⟩
   ·replace hM := ite_f hb28 hM
    refine run_skip ?_
    refine run_sr ?_
    refine run_ld hG rfl rfl rfl rfl rfl (ltb rfl) ?_
    refine run_op0 rfl (store_step hG rfl rfl rfl rfl rfl rfl rfl rfl) rfl ?_
    refine run_ops_nil ?_
    refine run_ret_to ?_
    obtain rfl := some_t hM
    refine fin_x hG rfl rfl rfl (v' := .agg [.int .i64 k1, .int .i64 n1, .str s1, .imm tks_l01Lift_L1 4 false (cellss ks5)]) (by rfl) ⟨rfl, (show tk ≤ (tks_l01Lift_L1 + 1) by omega), _, rfl, ⟨k1, n1, s1, tks_l01Lift_L1, false, ks5, rfl, rfl, fun _ => (show Fr tk (tks_l01Lift_L1 + 1) _ from (show Fr tk (tks_l01Lift_L1 + 1) _ from Fr.tstop (show Fr tk tks_l01Lift_L1 _ from (hfr5).mono (by omega) (by omega)) (by omega) (by omega)).mono (by omega) (by omega))⟩⟩
  ·replace hM := ite_f hb27 hM
   refine run_off (on_of rfl rfl rfl rfl) rfl (ltb rfl) ?_
   refine run_off (on_of rfl rfl rfl rfl) rfl (ltb rfl) ?_
   refine run_off (on_of rfl rfl rfl rfl) rfl (ltb rfl) ?_
   refine run_off (on_of rfl rfl rfl rfl) rfl (ltb rfl) ?_
   refine run_pu rfl (pick_step rfl rfl rfl) rfl (ltb rfl) ?_
   refine run_ops_nil ?_
   refine run_sub_code (σ' := ⟨[(2, .int .i64 i3), (6, .optr (.loc 6) 0 0), (9, .optr (.loc 9) 0 0), (44, .bool false)], [(9, ⟨25, 4, true, [[.int .i64 k1, .int .i64 n1, .str s1, .imm tks_l01Lift_L1 4 false (cellss ks5)]]⟩), (6, ⟨25, 4, true, [[.int .i64 0, .int .i64 0, .str ⟨#[]⟩, .imm 0 4 true []]]⟩)], [], O, (tks_l01Lift_L1 + 1)⟩) (Sub.trans (Sub.drop (k := 3) rfl) (Sub.env _ ⟨rfl, rfl, rfl, rfl, trivial⟩)) ?_
   refine run_if rfl rfl (fun h => by cases h) (fun _ => ?_)
   refine run_skip ?_
   refine run_sr ?_
   refine run_ld hG rfl rfl rfl rfl rfl (ltb rfl) ?_
   refine run_op0 rfl (store_step hG rfl rfl rfl rfl rfl rfl rfl rfl) rfl ?_
   refine run_ops_nil ?_
   refine run_ret_to ?_
   obtain rfl := some_t hM
   refine fin_x hG rfl rfl rfl (v' := .agg [.int .i64 k1, .int .i64 n1, .str s1, .imm tks_l01Lift_L1 4 false (cellss ks5)]) (by rfl) ⟨rfl, (show tk ≤ (tks_l01Lift_L1 + 1) by omega), _, rfl, ⟨k1, n1, s1, tks_l01Lift_L1, false, ks5, rfl, rfl, fun _ => (show Fr tk (tks_l01Lift_L1 + 1) _ from (show Fr tk (tks_l01Lift_L1 + 1) _ from Fr.tstop (show Fr tk tks_l01Lift_L1 _ from (hfr5).mono (by omega) (by omega)) (by omega) (by omega)).mono (by omega) (by omega))⟩⟩

theorem s_l01Lift_all : ∀ (n : Nat), (∀ (k1 : Int) (n1 : Int) (s1 : ByteArray) (q1 : Nat) (f1 : Bool) (ks1 : List LT) (i2 : Int) (i3 : Int) {r : T}, s_l01Lift n (T.mk k1 n1 s1 (ers ks1)) i2 i3 = some r → ∀ (O : Heap) (tk : Nat), ACalls Go.Proofs.Tryd.prog 108 [.agg [.int .i64 k1, .int .i64 n1, .str s1, .imm q1 4 f1 (cellss ks1)], .int .i64 i2, .int .i64 i3] O tk (RetX O tk (fun v tk' => VT true tk tk' r v)))
 | 0 => by intro k1 n1 s1 q1 f1 ks1 i2 i3 r hM; rw [s_l01Lift] at hM; cases hM
 | n + 1 => have ih := s_l01Lift_all n; s_l01Lift_st n (ih)

theorem s_l01Lift_ok (n : Nat) : ∀ (k1 : Int) (n1 : Int) (s1 : ByteArray) (q1 : Nat) (f1 : Bool) (ks1 : List LT) (i2 : Int) (i3 : Int) {r : T}, s_l01Lift n (T.mk k1 n1 s1 (ers ks1)) i2 i3 = some r → ∀ (O : Heap) (tk : Nat), ACalls Go.Proofs.Tryd.prog 108 [.agg [.int .i64 k1, .int .i64 n1, .str s1, .imm q1 4 f1 (cellss ks1)], .int .i64 i2, .int .i64 i3] O tk (RetX O tk (fun v tk' => VT true tk tk' r v)) := s_l01Lift_all n

end Go.Am.YtaedacibojpfkaaDoor
