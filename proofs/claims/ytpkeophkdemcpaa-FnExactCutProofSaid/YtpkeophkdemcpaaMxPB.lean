/- Printed by a program of ours: Lean functions that do what the Go functions do, and the contracts. -/
import Derived.Test.YtpkeophkdemcpaaMi4
import Derived.Test.YtpkeophkdemcpaaTypes
import Derived.Test.YtpkeophkdemcpaaMc1
import Derived.Test.YtpkeophkdemcpaaMkProof
import Derived.Test.YtpkeophkdemcpaaMxPA
import Derived.Test.YtpkeophkdemcpaaMz
-- packed
namespace Go.Am.Ytpkeophkdemcpaa
open Go Go.Am

def i_Proof_size__c_L1 (rec_i_Proof_size__c : Pf → Option Int) (x1 : Pf) : Nat → Int → Int → Option Int
 | 0, _, _ => none
 | m + 1, i2, i3 =>
  if i3 < ((x1.kids).length : Int) then
   (idx x1.kids i3).bind fun y5 =>
   (rec_i_Proof_size__c y5).bind fun r10 =>
   i_Proof_size__c_L1 rec_i_Proof_size__c x1 m (IntKind.i64.wrap (i2 + r10)) (IntKind.i64.wrap (i3 + 1))
  else
   some i2

def i_Proof_size__c : Nat → Pf → Option Int
 | 0, _ => none
 | n + 1, x1 =>
  i_Proof_size__c_L1 (i_Proof_size__c n) x1 n 1 0

def i_Proof_size__c_P (n : Nat) : Prop := ∀ (k1 : Int) (n1 : Int) (p1 : Nat) (e1 : Bool) (fs1 : List LF) (q1 : Nat) (f1 : Bool) (ks1 : List LP) {r : Int}, i_Proof_size__c n (Pf.mk k1 n1 (fers fs1) (pers ks1)) = some r → ∀ (O : Heap) (tk : Nat), ACalls Go.Proofs.Try.prog 135 [.cptr [.int .i64 k1, .int .i64 n1, .imm p1 3 e1 (fcellss fs1), .imm q1 4 f1 (pcellss ks1)]] O tk (RetX O tk (fun v tk' => v = .int .i64 r))

set_option maxRecDepth 100000 in
theorem i_Proof_size__c_st (n : Nat) (ih_i_Proof_size__c : i_Proof_size__c_P n) : i_Proof_size__c_P (n + 1) := by
 intro k1 n1 p1 e1 fs1 q1 f1 ks1 r hM O tk
 rw [i_Proof_size__c] at hM
 refine acalls_of_run Go.Proofs.Try.func135 rfl rfl [] [] (Bor.nil _) [(0, .cptr [.int .i64 k1, .int .i64 n1, .imm p1 3 e1 (fcellss fs1), .imm q1 4 f1 (pcellss ks1)])] (.cons (.cptr _) (.nil _)) (leb rfl) (fun _ h => by cases h) (fun S0 hO htk hfz => ?_)
 refine run_sr ?_
 refine yR rfl ?_
 refine yN ?_
 refine run_sr ?_
 refine yR rfl ?_
 refine yN ?_
 refine run_seq ?_
 refine run_sr ?_
 refine yL rfl ?_
 refine run_pu rfl (nilCheck_step rfl rfl ⟨_, rfl⟩) rfl (ltb rfl) ?_
 refine yF hG rfl ?_
 refine yD hG rfl ?_
 refine run_pu rfl (lenImm_step hG rfl rfl rfl rfl (plen _)) rfl (ltb rfl) ?_
 refine yL rfl ?_
 refine yN ?_
 refine run_block ?_
 refine run_rounds (fun m σ => ∃ (i2 : Int) (i3 : Int) (tki_Proof_size__c_L1 : Nat), tk ≤ tki_Proof_size__c_L1 ∧ i_Proof_size__c_L1 (i_Proof_size__c n) (Pf.mk k1 n1 (fers fs1) (pers ks1)) m i2 i3 = some r ∧ σ = ⟨[(0, .cptr [.int .i64 k1, .int .i64 n1, .imm p1 3 e1 (fcellss fs1), .imm q1 4 f1 (pcellss ks1)]), (2, .int .i64 0), (3, .int .i64 i2), (9, .int .i64 (((pers ks1)).length : Int)), (10, .int .i64 i3)], [], [], O, tki_Proof_size__c_L1⟩) n (Sub.pk [0, 2, 3, 9, 10] rfl) ⟨1, 0, tk, Nat.le_refl _, hM, rfl⟩ (fun m σ hI => ?_)
 clear hM
 obtain ⟨i2, i3, tki_Proof_size__c_L1, hle17, hM, rfl⟩ := hI
 obtain _ | m := m
 ·exact absurd hM (by rw [i_Proof_size__c_L1]; exact fun h => by cases h)
 rw [i_Proof_size__c_L1] at hM
 refine run_sr ?_
 refine yB rfl ?_
 refine yN ?_
 refine run_seq ?_
 refine run_ifd rfl rfl (fun hb4 => ?_) (fun hb4 => ?_)
 ·replace hM := ite_t hb4 hM
  refine run_skip ?_
  refine run_seq ?_
  refine run_block ?_
  refine run_sr ?_
  refine yL rfl ?_
  refine yR rfl ?_
  refine yN ?_
  refine run_region ?_
  refine yL rfl ?_
  refine yL rfl ?_
  refine run_pu rfl (nilCheck_step rfl rfl ⟨_, rfl⟩) rfl (ltb rfl) ?_
  refine yF hG rfl ?_
  refine yD hG rfl ?_
  refine yL rfl ?_
  obtain ⟨y5, hy6, hM⟩ := bind_t hM
  obtain ⟨k7, n7, p7, e7, fs7, q7, f7, ks7, rfl, hc8, hi9⟩ := pidx (ks := ks1) hy6
  refine run_pu rfl (indexImm_step hG rfl rfl rfl hi9 rfl rfl rfl rfl hc8) rfl (ltb rfl) ?_
  obtain ⟨r10, hg11, hM⟩ := bind_t hM
  refine yK rfl (ih_i_Proof_size__c k7 n7 p7 e7 fs7 q7 f7 ks7 hg11 _ _) (callK_retX (fun v tk12 (hle13 : tki_Proof_size__c_L1 ≤ tk12) h14 => ?_))
  subst h14
  refine yB rfl ?_
  refine yR rfl ?_
  refine yN ?_
  refine run_blk ?_
  refine run_region ?_
  refine yB rfl ?_
  refine yL rfl ?_
  refine yN ?_
  exact run_loop_end ⟨m, _, Nat.lt_succ_self _, ⟨(IntKind.i64.wrap (i2 + r10)), (IntKind.i64.wrap (i3 + 1)), tk12, (show tk ≤ tk12 by omega), hM, rfl⟩, Sub.pk [0, 2, 3, 9, 10] rfl⟩
 replace hM := ite_f hb4 hM
 refine run_exit_to rfl ?_
 refine run_sr ?_
 refine yL rfl ?_
 refine yR rfl ?_
 refine yN ?_
 refine run_ret_to ?_
 obtain rfl := some_t hM
 refine fin_x hG rfl rfl rfl (v' := .int .i64 i2) (by rfl) ⟨rfl, (show tk ≤ tki_Proof_size__c_L1 by omega), _, rfl, rfl⟩

theorem i_Proof_size__c_all : ∀ (n : Nat), (i_Proof_size__c_P n)
 | 0 => by intro k1 n1 p1 e1 fs1 q1 f1 ks1 r hM; rw [i_Proof_size__c] at hM; cases hM
 | n + 1 => have ih := i_Proof_size__c_all n; i_Proof_size__c_st n (ih)

theorem i_Proof_size__c_ok (n : Nat) : i_Proof_size__c_P n := i_Proof_size__c_all n

def s_l08Size_L1 (rec_s_l08Size : Pf → Option Int) (x1 : Pf) : Nat → Int → Int → Option Int
 | 0, _, _ => none
 | m + 1, i2, i3 =>
  if i3 < ((x1.kids).length : Int) then
   (idx x1.kids i3).bind fun y5 =>
   (rec_s_l08Size y5).bind fun r10 =>
   s_l08Size_L1 rec_s_l08Size x1 m (IntKind.i64.wrap (i2 + r10)) (IntKind.i64.wrap (i3 + 1))
  else
   some i2

def s_l08Size : Nat → Pf → Option Int
 | 0, _ => none
 | n + 1, x1 =>
  s_l08Size_L1 (s_l08Size n) x1 n 1 0

def s_l08Size_P (n : Nat) : Prop := ∀ (k1 : Int) (n1 : Int) (p1 : Nat) (e1 : Bool) (fs1 : List LF) (q1 : Nat) (f1 : Bool) (ks1 : List LP) {r : Int}, s_l08Size n (Pf.mk k1 n1 (fers fs1) (pers ks1)) = some r → ∀ (O : Heap) (tk : Nat), ACalls Go.Proofs.Try.prog 166 [.agg [.int .i64 k1, .int .i64 n1, .imm p1 3 e1 (fcellss fs1), .imm q1 4 f1 (pcellss ks1)]] O tk (RetX O tk (fun v tk' => v = .int .i64 r))

set_option maxRecDepth 100000 in
theorem s_l08Size_st (n : Nat) (ih_s_l08Size : s_l08Size_P n) : s_l08Size_P (n + 1) := by
 intro k1 n1 p1 e1 fs1 q1 f1 ks1 r hM O tk
 rw [s_l08Size] at hM
 refine acalls_of_run Go.Proofs.Try.func166 rfl rfl [] [] (Bor.nil _) [(0, .agg [.int .i64 k1, .int .i64 n1, .imm p1 3 e1 (fcellss fs1), .imm q1 4 f1 (pcellss ks1)])] (.cons (.agg _) (.nil _)) (leb rfl) (fun _ h => by cases h) (fun S0 hO htk hfz => ?_)
 refine run_sr ?_
 refine run_op rfl (box_step (d := 1) rfl rfl rfl rfl rfl) rfl (ltb rfl) ?_
 refine yR rfl ?_
 refine yN ?_
 refine run_sr ?_
 refine yR rfl ?_
 refine yN ?_
 refine run_seq ?_
 refine run_sr ?_
 refine yR rfl ?_
 refine yN ?_
 refine run_block ?_
 refine run_rounds (fun m σ => ∃ (i2 : Int) (i3 : Int) (tks_l08Size_L1 : Nat), tk ≤ tks_l08Size_L1 ∧ s_l08Size_L1 (s_l08Size n) (Pf.mk k1 n1 (fers fs1) (pers ks1)) m i2 i3 = some r ∧ σ = ⟨[(1, .optr (.loc 1) 0 0), (2, .int .i64 0), (3, .int .i64 i2), (4, .int .i64 i3)], [(1, ⟨26, 4, true, [[.int .i64 k1, .int .i64 n1, .imm p1 3 e1 (fcellss fs1), .imm q1 4 f1 (pcellss ks1)]]⟩)], [], O, tks_l08Size_L1⟩) n (Sub.pk [1, 2, 3, 4] rfl) ⟨1, 0, tk, Nat.le_refl _, hM, rfl⟩ (fun m σ hI => ?_)
 clear hM
 obtain ⟨i2, i3, tks_l08Size_L1, hle17, hM, rfl⟩ := hI
 obtain _ | m := m
 ·exact absurd hM (by rw [s_l08Size_L1]; exact fun h => by cases h)
 rw [s_l08Size_L1] at hM
 refine run_seq ?_
 refine run_sr ?_
 refine yL rfl ?_
 refine yF hG rfl ?_
 refine yD hG rfl ?_
 refine run_pu rfl (lenImm_step hG rfl rfl rfl rfl (plen _)) rfl (ltb rfl) ?_
 refine yB rfl ?_
 refine yN ?_
 refine run_ifd rfl rfl (fun hb4 => ?_) (fun hb4 => ?_)
 ·replace hM := ite_t hb4 hM
  refine run_skip ?_
  refine run_seq ?_
  refine run_block ?_
  refine run_region ?_
  refine yL rfl ?_
  refine yF hG rfl ?_
  refine yD hG rfl ?_
  refine yL rfl ?_
  obtain ⟨y5, hy6, hM⟩ := bind_t hM
  obtain ⟨k7, n7, p7, e7, fs7, q7, f7, ks7, rfl, hc8, hi9⟩ := pidx (ks := ks1) hy6
  refine run_pu rfl (indexImm_step hG rfl rfl rfl hi9 rfl rfl rfl rfl hc8) rfl (ltb rfl) ?_
  refine yD hG rfl ?_
  obtain ⟨r10, hg11, hM⟩ := bind_t hM
  refine yK rfl (ih_s_l08Size k7 n7 p7 e7 fs7 q7 f7 ks7 hg11 _ _) (callK_retX (fun v tk12 (hle13 : tks_l08Size_L1 ≤ tk12) h14 => ?_))
  subst h14
  refine yB rfl ?_
  refine yR rfl ?_
  refine yN ?_
  refine run_blk ?_
  refine run_sub_code (σ' := ⟨[(1, .optr (.loc 1) 0 0), (2, .int .i64 0), (3, .int .i64 (IntKind.i64.wrap (i2 + r10))), (4, .int .i64 i3)], [(1, ⟨26, 4, true, [[.int .i64 k1, .int .i64 n1, .imm p1 3 e1 (fcellss fs1), .imm q1 4 f1 (pcellss ks1)]]⟩)], [], O, tk12⟩) (Sub.env _ ⟨rfl, rfl, rfl, rfl, trivial⟩) ?_
  refine run_region ?_
  refine yL rfl ?_
  refine yB rfl ?_
  refine yR rfl ?_
  refine yN ?_
  exact run_loop_end ⟨m, _, Nat.lt_succ_self _, ⟨(IntKind.i64.wrap (i2 + r10)), (IntKind.i64.wrap (i3 + 1)), tk12, (show tk ≤ tk12 by omega), hM, rfl⟩, Sub.pk [1, 2, 3, 4] rfl⟩
 replace hM := ite_f hb4 hM
 refine run_exit_to rfl ?_
 refine run_sr ?_
 refine yL rfl ?_
 refine yR rfl ?_
 refine yN ?_
 refine run_ret_to ?_
 obtain rfl := some_t hM
 refine fin_x hG rfl rfl rfl (v' := .int .i64 i2) (by rfl) ⟨rfl, (show tk ≤ tks_l08Size_L1 by omega), _, rfl, rfl⟩

theorem s_l08Size_all : ∀ (n : Nat), (s_l08Size_P n)
 | 0 => by intro k1 n1 p1 e1 fs1 q1 f1 ks1 r hM; rw [s_l08Size] at hM; cases hM
 | n + 1 => have ih := s_l08Size_all n; s_l08Size_st n (ih)

theorem s_l08Size_ok (n : Nat) : s_l08Size_P n := s_l08Size_all n

set_option maxRecDepth 100000 in
theorem i_ruleOf_c4_ex (q1 : Nat) (f1 : Bool) (ks1 : List LF) (O : Heap) (tk : Nat) : ACalls Go.Proofs.Try.prog 189 [.imm q1 3 f1 (fcellss ks1)] O tk (RetN O (.imm q1 3 f1 (fcellss ks1)) tk) := by
 refine acalls_of_run Go.Proofs.Try.func189 rfl rfl [] [] (Bor.nil _) [(0, .imm q1 3 f1 (fcellss ks1))] (.cons (entS rfl) (.nil _)) (leb rfl) (fun _ h => by cases h) (fun S0 hO htk hfz => ?_)
 refine run_sr ?_
 refine yR rfl ?_
 refine yN ?_
 refine run_sr ?_
 refine yL rfl ?_
 refine yR rfl ?_
 refine yN ?_
 refine run_ret_to ?_
 refine fin_x hG rfl rfl rfl (v' := .imm q1 3 f1 (fcellss ks1)) (by rfl) ⟨rfl, rfl, rfl⟩

set_option maxRecDepth 100000 in
theorem g_Clip_Form_ex (q1 : Nat) (f1 : Bool) (ks1 : List LF) (O : Heap) (tk : Nat) : ACalls Go.Proofs.Try.prog 99 [.imm q1 3 f1 (fcellss ks1)] O tk (RetN O (.imm 1 3 true (fcellss ks1)) tk) := by
 refine acalls_of_run Go.Proofs.Try.func99 rfl rfl [] [] (Bor.nil _) [(0, .imm q1 3 f1 (fcellss ks1))] (.cons (entS rfl) (.nil _)) (leb rfl) (fun _ h => by cases h) (fun S0 hO htk hfz => ?_)
 refine run_sr ?_
 refine yR rfl ?_
 refine yN ?_
 refine run_sr ?_
 refine yL rfl ?_
 refine yL rfl ?_
 refine run_pu rfl (lenImm_step hG rfl rfl rfl rfl (flen _)) rfl (ltb rfl) ?_
 refine yL rfl ?_
 refine run_pu rfl (lenImm_step hG rfl rfl rfl rfl (flen _)) rfl (ltb rfl) ?_
 refine run_pu rfl (clip_step hG rfl rfl rfl rfl rfl rfl (flen _) rfl rfl) rfl (ltb rfl) ?_
 refine yR rfl ?_
 refine yN ?_
 refine run_ret_to ?_
 refine fin_x hG rfl rfl rfl (v' := .imm 1 3 true (fcellss ks1)) (by rfl) ⟨rfl, rfl, rfl⟩

set_option maxRecDepth 100000 in
theorem i_and_ex (k1 : Int) (n1 : Int) (q1 : Nat) (f1 : Bool) (ks1 : List LF) (k2 : Int) (n2 : Int) (q2 : Nat) (f2 : Bool) (ks2 : List LF) (O : Heap) (tk : Nat) : ACalls Go.Proofs.Try.prog 186 [.agg [.int .i64 k1, .int .i64 n1, .imm q1 3 f1 (fcellss ks1)], .agg [.int .i64 k2, .int .i64 n2, .imm q2 3 f2 (fcellss ks2)]] O tk (RetN O (.agg [.int .i64 2, .int .i64 0, .imm tk 3 false (fcellss [LF.mk k1 n1 q1 f1 ks1, LF.mk k2 n2 q2 f2 ks2])]) (tk + 1)) := by
 refine acalls_of_run Go.Proofs.Try.func186 rfl rfl [] [] (Bor.nil _) [(0, .agg [.int .i64 k1, .int .i64 n1, .imm q1 3 f1 (fcellss ks1)]), (1, .agg [.int .i64 k2, .int .i64 n2, .imm q2 3 f2 (fcellss ks2)])] (.cons (.agg _) (.cons (.agg _) (.nil _))) (leb rfl) (fun _ h => by cases h) (fun S0 hO htk hfz => ?_)
 refine run_sr ?_
 refine run_op rfl (box_step (d := 2) rfl rfl rfl rfl rfl) rfl (ltb rfl) ?_
 refine run_op rfl (box_step (d := 3) rfl rfl rfl rfl rfl) rfl (ltb rfl) ?_
 refine run_op rfl (alloc_step (d := 4) hG rfl rfl rfl) rfl (ltb rfl) ?_
 refine yN ?_
 refine run_sr ?_
 refine yD hG rfl ?_
 refine yD hG rfl ?_
 refine run_op rfl (buildSlice_step (d := 7) hG rfl rfl rfl rfl rfl (by rfl) (by rfl) (by rfl) (by decide)) rfl (ltb rfl) ?_
 refine run_pu rfl (build_step hG rfl (by rfl) rfl (fun h => by cases h) (by rfl)) rfl (ltb rfl) ?_
 refine yS hG rfl ?_
 refine yN ?_
 refine run_ret_to ?_
 refine fin_sub (Sub.freeze (k := 7) rfl rfl) ?_
 refine fin_x hG rfl rfl rfl (v' := .agg [.int .i64 2, .int .i64 0, .imm tk 3 false (fcellss [LF.mk k1 n1 q1 f1 ks1, LF.mk k2 n2 q2 f2 ks2])]) (by rfl) ⟨rfl, rfl, rfl⟩

def i_ruleOf_c5 (l1 : List F) : Option F :=
 (idx l1 0).bind fun y2 =>
 (idx l1 1).bind fun y7 =>
 some (F.mk 2 0 [y2, y7])

set_option maxRecDepth 100000 in
theorem i_ruleOf_c5_ok : ∀ (q1 : Nat) (f1 : Bool) (ks1 : List LF) {r : F}, i_ruleOf_c5 (fers ks1) = some r → ∀ (O : Heap) (tk : Nat), ACalls Go.Proofs.Try.prog 190 [.imm q1 3 f1 (fcellss ks1)] O tk (RetX O tk (fun v tk' => VF false tk tk' r v)) := by
 intro q1 f1 ks1 r hM O tk
 unfold i_ruleOf_c5 at hM
 refine acalls_of_run Go.Proofs.Try.func190 rfl rfl [] [] (Bor.nil _) [(0, .imm q1 3 f1 (fcellss ks1))] (.cons (entS rfl) (.nil _)) (leb rfl) (fun _ h => by cases h) (fun S0 hO htk hfz => ?_)
 refine run_sr ?_
 refine run_op rfl (alloc_step (d := 2) hG rfl rfl rfl) rfl (ltb rfl) ?_
 refine yN ?_
 refine run_seq ?_
 refine run_draw [.loc 2] (n := 8) mixed rfl (by intro x hx; simp only [List.mem_cons, List.not_mem_nil, or_false] at hx; rcases hx with rfl <;> rfl) ?_
 refine yTV 0 (by kernel_rfl) rfl ?_
 obtain ⟨y2, hy3, hM⟩ := bind_t hM
 obtain ⟨k4, n4, q4, f4, ks4, rfl, hc5, hi6⟩ := fidx (ks := ks1) hy3
 refine yT 1 (by kernel_rfl) rfl rfl rfl (ltb rfl) ((indexImm_step hG rfl rfl rfl hi6 rfl rfl rfl rfl hc5).rd _) ?_
 refine yTL hG 2 (by kernel_rfl) rfl ?_
 refine yTV 3 (by kernel_rfl) rfl ?_
 obtain ⟨y7, hy8, hM⟩ := bind_t hM
 obtain ⟨k9, n9, q9, f9, ks9, rfl, hc10, hi11⟩ := fidx (ks := ks1) hy8
 refine yT 4 (by kernel_rfl) rfl rfl rfl (ltb rfl) ((indexImm_step hG rfl rfl rfl hi11 rfl rfl rfl rfl hc10).rd _) ?_
 refine yTL hG 5 (by kernel_rfl) rfl ?_
 refine yC 6 (by kernel_rfl) rfl rfl (i_and_ex k4 n4 q4 f4 ks4 k9 n9 q9 f9 ks9 _ _) (callK_retN ?_)
 skip
 refine yW hG 7 (by kernel_rfl) rfl (by kernel_rfl) rfl ?_
 refine AAny.done (by kernel_rfl) ?_
 refine run_ret_to ?_
 obtain rfl := some_t hM
 refine fin_x hG rfl rfl rfl (v' := .agg [.int .i64 2, .int .i64 0, .imm tk 3 false (fcellss [LF.mk k4 n4 q4 f4 ks4, LF.mk k9 n9 q9 f9 ks9])]) (by rfl) ⟨rfl, (show tk ≤ (tk + 1) by omega), _, rfl, ⟨2, 0, tk, false, [LF.mk k4 n4 q4 f4 ks4, LF.mk k9 n9 q9 f9 ks9], rfl, rfl, fun h => by cases h⟩⟩

def i_ruleOf_c1 (l1 : List F) : Option (List F) :=
 (idx l1 0).bind fun y2 =>
 (idx l1 1).bind fun y7 =>
 some ([(F.mk 2 0 [y2, y7])])

set_option maxRecDepth 100000 in
theorem i_ruleOf_c1_ok : ∀ (q1 : Nat) (f1 : Bool) (ks1 : List LF) {r : (List F)}, i_ruleOf_c1 (fers ks1) = some r → ∀ (O : Heap) (tk : Nat), ACalls Go.Proofs.Try.prog 185 [.imm q1 3 f1 (fcellss ks1)] O tk (RetX O tk (fun v tk' => VFs false tk tk' r v)) := by
 intro q1 f1 ks1 r hM O tk
 unfold i_ruleOf_c1 at hM
 refine acalls_of_run Go.Proofs.Try.func185 rfl rfl [] [] (Bor.nil _) [(0, .imm q1 3 f1 (fcellss ks1))] (.cons (entS rfl) (.nil _)) (leb rfl) (fun _ h => by cases h) (fun S0 hO htk hfz => ?_)
 refine run_sr ?_
 refine yR rfl ?_
 refine yN ?_
 refine run_seq ?_
 refine run_draw [] (n := 9) mixed rfl yE ?_
 refine yTV 0 (by kernel_rfl) rfl ?_
 obtain ⟨y2, hy3, hM⟩ := bind_t hM
 obtain ⟨k4, n4, q4, f4, ks4, rfl, hc5, hi6⟩ := fidx (ks := ks1) hy3
 refine yT 1 (by kernel_rfl) rfl rfl rfl (ltb rfl) ((indexImm_step hG rfl rfl rfl hi6 rfl rfl rfl rfl hc5).rd _) ?_
 refine yTL hG 2 (by kernel_rfl) rfl ?_
 refine yTV 3 (by kernel_rfl) rfl ?_
 obtain ⟨y7, hy8, hM⟩ := bind_t hM
 obtain ⟨k9, n9, q9, f9, ks9, rfl, hc10, hi11⟩ := fidx (ks := ks1) hy8
 refine yT 4 (by kernel_rfl) rfl rfl rfl (ltb rfl) ((indexImm_step hG rfl rfl rfl hi11 rfl rfl rfl rfl hc10).rd _) ?_
 refine yTL hG 5 (by kernel_rfl) rfl ?_
 refine yC 6 (by kernel_rfl) rfl rfl (i_and_ex k4 n4 q4 f4 ks4 k9 n9 q9 f9 ks9 _ _) (callK_retN ?_)
 skip
 refine AAny.one (i := 7) (by kernel_rfl) (AOp.step rfl rfl rfl (ltb rfl) (buildSlice_step (d := 10) hG rfl rfl rfl rfl rfl (by rfl) (by rfl) (by rfl) (by decide)) yE ?_)
 refine yTW 8 (by kernel_rfl) rfl ?_
 refine AAny.done (by kernel_rfl) ?_
 refine run_ret_to ?_
 refine fin_sub (Sub.freeze (k := 10) rfl rfl) ?_
 obtain rfl := some_t hM
 refine fin_x hG rfl rfl rfl (v' := .imm (tk + 1) 3 false (fcellss [LF.mk 2 0 tk false [LF.mk k4 n4 q4 f4 ks4, LF.mk k9 n9 q9 f9 ks9]])) (by rfl) ⟨rfl, (show tk ≤ ((tk + 1) + 1) by omega), _, rfl, ⟨(tk + 1), false, [LF.mk 2 0 tk false [LF.mk k4 n4 q4 f4 ks4, LF.mk k9 n9 q9 f9 ks9]], rfl, rfl, fun h => by cases h⟩⟩

def i_ruleOf_c2 (l1 : List F) : Option F :=
 (idx l1 0).bind fun y2 =>
 some y2

set_option maxRecDepth 100000 in
theorem i_ruleOf_c2_ok : ∀ (q1 : Nat) (f1 : Bool) (ks1 : List LF) {r : F}, i_ruleOf_c2 (fers ks1) = some r → ∀ (O : Heap) (tk : Nat), ACalls Go.Proofs.Try.prog 187 [.imm q1 3 f1 (fcellss ks1)] O tk (RetX O tk (fun v tk' => VF false tk tk' r v)) := by
 intro q1 f1 ks1 r hM O tk
 unfold i_ruleOf_c2 at hM
 refine acalls_of_run Go.Proofs.Try.func187 rfl rfl [] [] (Bor.nil _) [(0, .imm q1 3 f1 (fcellss ks1))] (.cons (entS rfl) (.nil _)) (leb rfl) (fun _ h => by cases h) (fun S0 hO htk hfz => ?_)
 refine run_sr ?_
 refine run_op rfl (alloc_step (d := 2) hG rfl rfl rfl) rfl (ltb rfl) ?_
 refine yN ?_
 refine run_sr ?_
 refine yL rfl ?_
 obtain ⟨y2, hy3, hM⟩ := bind_t hM
 obtain ⟨k4, n4, q4, f4, ks4, rfl, hc5, hi6⟩ := fidx (ks := ks1) hy3
 refine run_pu rfl (indexImm_step hG rfl rfl rfl hi6 rfl rfl rfl rfl hc5) rfl (ltb rfl) ?_
 refine yD hG rfl ?_
 refine yS hG rfl ?_
 refine yN ?_
 refine run_ret_to ?_
 obtain rfl := some_t hM
 refine fin_x hG rfl rfl rfl (v' := .agg [.int .i64 k4, .int .i64 n4, .imm q4 3 f4 (fcellss ks4)]) (by rfl) ⟨rfl, (show tk ≤ tk by omega), _, rfl, ⟨k4, n4, q4, f4, ks4, rfl, rfl, fun h => by cases h⟩⟩

def i_ruleOf_c3 (l1 : List F) : Option F :=
 (idx l1 1).bind fun y2 =>
 some y2

set_option maxRecDepth 100000 in
theorem i_ruleOf_c3_ok : ∀ (q1 : Nat) (f1 : Bool) (ks1 : List LF) {r : F}, i_ruleOf_c3 (fers ks1) = some r → ∀ (O : Heap) (tk : Nat), ACalls Go.Proofs.Try.prog 188 [.imm q1 3 f1 (fcellss ks1)] O tk (RetX O tk (fun v tk' => VF false tk tk' r v)) := by
 intro q1 f1 ks1 r hM O tk
 unfold i_ruleOf_c3 at hM
 refine acalls_of_run Go.Proofs.Try.func188 rfl rfl [] [] (Bor.nil _) [(0, .imm q1 3 f1 (fcellss ks1))] (.cons (entS rfl) (.nil _)) (leb rfl) (fun _ h => by cases h) (fun S0 hO htk hfz => ?_)
 refine run_sr ?_
 refine run_op rfl (alloc_step (d := 2) hG rfl rfl rfl) rfl (ltb rfl) ?_
 refine yN ?_
 refine run_sr ?_
 refine yL rfl ?_
 obtain ⟨y2, hy3, hM⟩ := bind_t hM
 obtain ⟨k4, n4, q4, f4, ks4, rfl, hc5, hi6⟩ := fidx (ks := ks1) hy3
 refine run_pu rfl (indexImm_step hG rfl rfl rfl hi6 rfl rfl rfl rfl hc5) rfl (ltb rfl) ?_
 refine yD hG rfl ?_
 refine yS hG rfl ?_
 refine yN ?_
 refine run_ret_to ?_
 obtain rfl := some_t hM
 refine fin_x hG rfl rfl rfl (v' := .agg [.int .i64 k4, .int .i64 n4, .imm q4 3 f4 (fcellss ks4)]) (by rfl) ⟨rfl, (show tk ≤ tk by omega), _, rfl, ⟨k4, n4, q4, f4, ks4, rfl, rfl, fun h => by cases h⟩⟩

def i_ruleOf_c6 (l1 : List F) : Option (List F) :=
 chk ((0 : Int) ≤ 1 ∧ 1 ≤ ((l1).length : Int) ∧ ((l1).length : Int) ≤ ((l1).length : Int)) <|
 some (lsub l1 1 ((l1).length : Int))

set_option maxRecDepth 100000 in
theorem i_ruleOf_c6_ok : ∀ (q1 : Nat) (f1 : Bool) (ks1 : List LF) {r : (List F)}, i_ruleOf_c6 (fers ks1) = some r → ∀ (O : Heap) (tk : Nat), ACalls Go.Proofs.Try.prog 191 [.imm q1 3 f1 (fcellss ks1)] O tk (RetX O tk (fun v tk' => VFs false tk tk' r v)) := by
 intro q1 f1 ks1 r hM O tk
 unfold i_ruleOf_c6 at hM
 refine acalls_of_run Go.Proofs.Try.func191 rfl rfl [] [] (Bor.nil _) [(0, .imm q1 3 f1 (fcellss ks1))] (.cons (entS rfl) (.nil _)) (leb rfl) (fun _ h => by cases h) (fun S0 hO htk hfz => ?_)
 refine run_sr ?_
 refine yR rfl ?_
 refine yN ?_
 refine run_sr ?_
 refine yL rfl ?_
 obtain ⟨hc2, hM⟩ := chk_t hM
 try rw [show (lsub (fers ks1) 1 (((fers ks1)).length : Int) : List F) = (fers (lsub ks1 1 (((fers ks1)).length : Int))) from fers_sub _ _ _] at hM
 refine run_pu rfl (subImm_step hG rfl rfl rfl rfl rfl rfl (flen _) (bnd_some rfl) bnd_none hc2 (fcellss_sub _ _ _)) rfl (ltb rfl) ?_
 refine yR rfl ?_
 refine yN ?_
 refine run_ret_to ?_
 obtain rfl := some_t hM
 refine fin_x hG rfl rfl rfl (v' := .imm 1 3 false (fcellss (lsub ks1 1 (((fers ks1)).length : Int)))) (by rfl) ⟨rfl, (show tk ≤ tk by omega), _, rfl, ⟨1, false, (lsub ks1 1 (((fers ks1)).length : Int)), rfl, rfl, fun h => by cases h⟩⟩

set_option maxRecDepth 100000 in
theorem i_implies_ex (k1 : Int) (n1 : Int) (q1 : Nat) (f1 : Bool) (ks1 : List LF) (k2 : Int) (n2 : Int) (q2 : Nat) (f2 : Bool) (ks2 : List LF) (O : Heap) (tk : Nat) : ACalls Go.Proofs.Try.prog 193 [.agg [.int .i64 k1, .int .i64 n1, .imm q1 3 f1 (fcellss ks1)], .agg [.int .i64 k2, .int .i64 n2, .imm q2 3 f2 (fcellss ks2)]] O tk (RetN O (.agg [.int .i64 3, .int .i64 0, .imm tk 3 false (fcellss [LF.mk k1 n1 q1 f1 ks1, LF.mk k2 n2 q2 f2 ks2])]) (tk + 1)) := by
 refine acalls_of_run Go.Proofs.Try.func193 rfl rfl [] [] (Bor.nil _) [(0, .agg [.int .i64 k1, .int .i64 n1, .imm q1 3 f1 (fcellss ks1)]), (1, .agg [.int .i64 k2, .int .i64 n2, .imm q2 3 f2 (fcellss ks2)])] (.cons (.agg _) (.cons (.agg _) (.nil _))) (leb rfl) (fun _ h => by cases h) (fun S0 hO htk hfz => ?_)
 refine run_sr ?_
 refine run_op rfl (box_step (d := 2) rfl rfl rfl rfl rfl) rfl (ltb rfl) ?_
 refine run_op rfl (box_step (d := 3) rfl rfl rfl rfl rfl) rfl (ltb rfl) ?_
 refine run_op rfl (alloc_step (d := 4) hG rfl rfl rfl) rfl (ltb rfl) ?_
 refine yN ?_
 refine run_sr ?_
 refine yD hG rfl ?_
 refine yD hG rfl ?_
 refine run_op rfl (buildSlice_step (d := 7) hG rfl rfl rfl rfl rfl (by rfl) (by rfl) (by rfl) (by decide)) rfl (ltb rfl) ?_
 refine run_pu rfl (build_step hG rfl (by rfl) rfl (fun h => by cases h) (by rfl)) rfl (ltb rfl) ?_
 refine yS hG rfl ?_
 refine yN ?_
 refine run_ret_to ?_
 refine fin_sub (Sub.freeze (k := 7) rfl rfl) ?_
 refine fin_x hG rfl rfl rfl (v' := .agg [.int .i64 3, .int .i64 0, .imm tk 3 false (fcellss [LF.mk k1 n1 q1 f1 ks1, LF.mk k2 n2 q2 f2 ks2])]) (by rfl) ⟨rfl, rfl, rfl⟩

def i_ruleOf_c7 (l1 : List F) : Option F :=
 (idx l1 0).bind fun y2 =>
 (idx l1 1).bind fun y7 =>
 some (F.mk 3 0 [y2, y7])

set_option maxRecDepth 100000 in
theorem i_ruleOf_c7_ok : ∀ (q1 : Nat) (f1 : Bool) (ks1 : List LF) {r : F}, i_ruleOf_c7 (fers ks1) = some r → ∀ (O : Heap) (tk : Nat), ACalls Go.Proofs.Try.prog 192 [.imm q1 3 f1 (fcellss ks1)] O tk (RetX O tk (fun v tk' => VF false tk tk' r v)) := by
 intro q1 f1 ks1 r hM O tk
 unfold i_ruleOf_c7 at hM
 refine acalls_of_run Go.Proofs.Try.func192 rfl rfl [] [] (Bor.nil _) [(0, .imm q1 3 f1 (fcellss ks1))] (.cons (entS rfl) (.nil _)) (leb rfl) (fun _ h => by cases h) (fun S0 hO htk hfz => ?_)
 refine run_sr ?_
 refine run_op rfl (alloc_step (d := 2) hG rfl rfl rfl) rfl (ltb rfl) ?_
 refine yN ?_
 refine run_seq ?_
 refine run_draw [.loc 2] (n := 8) mixed rfl (by intro x hx; simp only [List.mem_cons, List.not_mem_nil, or_false] at hx; rcases hx with rfl <;> rfl) ?_
 refine yTV 0 (by kernel_rfl) rfl ?_
 obtain ⟨y2, hy3, hM⟩ := bind_t hM
 obtain ⟨k4, n4, q4, f4, ks4, rfl, hc5, hi6⟩ := fidx (ks := ks1) hy3
 refine yT 1 (by kernel_rfl) rfl rfl rfl (ltb rfl) ((indexImm_step hG rfl rfl rfl hi6 rfl rfl rfl rfl hc5).rd _) ?_
 refine yTL hG 2 (by kernel_rfl) rfl ?_
 refine yTV 3 (by kernel_rfl) rfl ?_
 obtain ⟨y7, hy8, hM⟩ := bind_t hM
 obtain ⟨k9, n9, q9, f9, ks9, rfl, hc10, hi11⟩ := fidx (ks := ks1) hy8
 refine yT 4 (by kernel_rfl) rfl rfl rfl (ltb rfl) ((indexImm_step hG rfl rfl rfl hi11 rfl rfl rfl rfl hc10).rd _) ?_
 refine yTL hG 5 (by kernel_rfl) rfl ?_
 refine yC 6 (by kernel_rfl) rfl rfl (i_implies_ex k4 n4 q4 f4 ks4 k9 n9 q9 f9 ks9 _ _) (callK_retN ?_)
 skip
 refine yW hG 7 (by kernel_rfl) rfl (by kernel_rfl) rfl ?_
 refine AAny.done (by kernel_rfl) ?_
 refine run_ret_to ?_
 obtain rfl := some_t hM
 refine fin_x hG rfl rfl rfl (v' := .agg [.int .i64 3, .int .i64 0, .imm tk 3 false (fcellss [LF.mk k4 n4 q4 f4 ks4, LF.mk k9 n9 q9 f9 ks9])]) (by rfl) ⟨rfl, (show tk ≤ (tk + 1) by omega), _, rfl, ⟨3, 0, tk, false, [LF.mk k4 n4 q4 f4 ks4, LF.mk k9 n9 q9 f9 ks9], rfl, rfl, fun h => by cases h⟩⟩

def i_ruleOf_c8 (l1 : List F) : Option (List F) :=
 (idx l1 0).bind fun y2 =>
 (idx l1 1).bind fun y7 =>
 (idx l1 0).bind fun y12 =>
 some ([(F.mk 3 0 [y2, y7]), y12])

set_option maxRecDepth 100000 in
theorem i_ruleOf_c8_ok : ∀ (q1 : Nat) (f1 : Bool) (ks1 : List LF) {r : (List F)}, i_ruleOf_c8 (fers ks1) = some r → ∀ (O : Heap) (tk : Nat), ACalls Go.Proofs.Try.prog 194 [.imm q1 3 f1 (fcellss ks1)] O tk (RetX O tk (fun v tk' => VFs false tk tk' r v)) := by
 intro q1 f1 ks1 r hM O tk
 unfold i_ruleOf_c8 at hM
 refine acalls_of_run Go.Proofs.Try.func194 rfl rfl [] [] (Bor.nil _) [(0, .imm q1 3 f1 (fcellss ks1))] (.cons (entS rfl) (.nil _)) (leb rfl) (fun _ h => by cases h) (fun S0 hO htk hfz => ?_)
 refine run_sr ?_
 refine yR rfl ?_
 refine yN ?_
 refine run_seq ?_
 refine run_draw [] (n := 12) mixed rfl yE ?_
 refine yTV 0 (by kernel_rfl) rfl ?_
 obtain ⟨y2, hy3, hM⟩ := bind_t hM
 obtain ⟨k4, n4, q4, f4, ks4, rfl, hc5, hi6⟩ := fidx (ks := ks1) hy3
 refine yT 1 (by kernel_rfl) rfl rfl rfl (ltb rfl) ((indexImm_step hG rfl rfl rfl hi6 rfl rfl rfl rfl hc5).rd _) ?_
 refine yTL hG 2 (by kernel_rfl) rfl ?_
 refine yTV 3 (by kernel_rfl) rfl ?_
 obtain ⟨y7, hy8, hM⟩ := bind_t hM
 obtain ⟨k9, n9, q9, f9, ks9, rfl, hc10, hi11⟩ := fidx (ks := ks1) hy8
 refine yT 4 (by kernel_rfl) rfl rfl rfl (ltb rfl) ((indexImm_step hG rfl rfl rfl hi11 rfl rfl rfl rfl hc10).rd _) ?_
 refine yTL hG 5 (by kernel_rfl) rfl ?_
 refine yTV 7 (by kernel_rfl) rfl ?_
 obtain ⟨y12, hy13, hM⟩ := bind_t hM
 obtain ⟨k14, n14, q14, f14, ks14, rfl, hc15, hi16⟩ := fidx (ks := ks1) hy13
 refine yT 8 (by kernel_rfl) rfl rfl rfl (ltb rfl) ((indexImm_step hG rfl rfl rfl hi16 rfl rfl rfl rfl hc15).rd _) ?_
 refine yTL hG 9 (by kernel_rfl) rfl ?_
 refine yC 6 (by kernel_rfl) rfl rfl (i_implies_ex k4 n4 q4 f4 ks4 k9 n9 q9 f9 ks9 _ _) (callK_retN ?_)
 skip
 refine AAny.one (i := 10) (by kernel_rfl) (AOp.step rfl rfl rfl (ltb rfl) (buildSlice_step (d := 13) hG rfl rfl rfl rfl rfl (by rfl) (by rfl) (by rfl) (by decide)) yE ?_)
 refine yTW 11 (by kernel_rfl) rfl ?_
 refine AAny.done (by kernel_rfl) ?_
 refine run_ret_to ?_
 refine fin_sub (Sub.freeze (k := 13) rfl rfl) ?_
 obtain rfl := some_t hM
 refine fin_x hG rfl rfl rfl (v' := .imm (tk + 1) 3 false (fcellss [LF.mk 3 0 tk false [LF.mk k4 n4 q4 f4 ks4, LF.mk k9 n9 q9 f9 ks9], LF.mk k14 n14 q14 f14 ks14])) (by rfl) ⟨rfl, (show tk ≤ ((tk + 1) + 1) by omega), _, rfl, ⟨(tk + 1), false, [LF.mk 3 0 tk false [LF.mk k4 n4 q4 f4 ks4, LF.mk k9 n9 q9 f9 ks9], LF.mk k14 n14 q14 f14 ks14], rfl, rfl, fun h => by cases h⟩⟩

set_option maxRecDepth 100000 in
theorem i_bottom_ex (O : Heap) (tk : Nat) : ACalls Go.Proofs.Try.prog 196 [] O tk (RetN O (.agg [.int .i64 4, .int .i64 0, .imm 0 3 true (fcellss [])]) tk) := by
 refine acalls_of_run Go.Proofs.Try.func196 rfl rfl [] [] (Bor.nil _) [] (.nil _) (leb rfl) (fun _ h => by cases h) (fun S0 hO htk hfz => ?_)
 refine run_sr ?_
 refine run_op rfl (alloc_step (d := 0) hG rfl rfl rfl) rfl (ltb rfl) ?_
 refine yN ?_
 refine run_sr ?_
 refine run_pu rfl (build_step hG rfl (by rfl) rfl (fun h => by cases h) (by rfl)) rfl (ltb rfl) ?_
 refine yS hG rfl ?_
 refine yN ?_
 refine run_ret_to ?_
 refine fin_x hG rfl rfl rfl (v' := .agg [.int .i64 4, .int .i64 0, .imm 0 3 true (fcellss [])]) (by rfl) ⟨rfl, rfl, rfl⟩

set_option maxRecDepth 100000 in
theorem i_ruleOf_c9_ex (q1 : Nat) (f1 : Bool) (ks1 : List LF) (O : Heap) (tk : Nat) : ACalls Go.Proofs.Try.prog 195 [.imm q1 3 f1 (fcellss ks1)] O tk (RetN O (.imm tk 3 false (fcellss [LF.mk 4 0 0 true []])) (tk + 1)) := by
 refine acalls_of_run Go.Proofs.Try.func195 rfl rfl [] [] (Bor.nil _) [(0, .imm q1 3 f1 (fcellss ks1))] (.cons (entS rfl) (.nil _)) (leb rfl) (fun _ h => by cases h) (fun S0 hO htk hfz => ?_)
 refine run_sr ?_
 refine yR rfl ?_
 refine yN ?_
 refine run_sr ?_
 refine yK rfl (i_bottom_ex  _ _) (callK_retN ?_)
 skip
 refine run_op rfl (buildSlice_step (d := 4) hG rfl rfl rfl rfl rfl (by rfl) (by rfl) (by rfl) (by decide)) rfl (ltb rfl) ?_
 refine yR rfl ?_
 refine yN ?_
 refine run_ret_to ?_
 refine fin_sub (Sub.freeze (k := 4) rfl rfl) ?_
 refine fin_x hG rfl rfl rfl (v' := .imm tk 3 false (fcellss [LF.mk 4 0 0 true []])) (by rfl) ⟨rfl, rfl, rfl⟩

def i_proves_L6 (rec_i_proves : List F → Pf → Int → Option (Rz F)) (n : Nat) (x2 : Pf) (l331 : List F) : Nat → Int → Int → Option (Rz F)
 | 0, _, _ => none
 | m + 1, i340, i341 =>
  if i341 < ((x2.kids).length : Int) then
   (idx x2.kids i341).bind fun y343 =>
   (idx ([(F.mk 4 0 [])]) i341).bind fun y348 =>
   zb (rec_i_proves l331 y343 i340) fun r353 =>
   (i_sameForm n r353 y348).bind fun r362 =>
   if (!r362) = true then
    some (.stop 19 i340)
   else
    (i_Proof_size__c n y343).bind fun r370 =>
    i_proves_L6 rec_i_proves n x2 l331 m (IntKind.i64.wrap (i340 + r370)) (IntKind.i64.wrap (i341 + 1))
  else
   (i_ruleOf_c2 x2.forms).bind fun r377 =>
   some (.ok r377)

def i_proves_L4 (rec_i_proves : List F → Pf → Int → Option (Rz F)) (n : Nat) (x2 : Pf) (r200 : List F) (l208 : List F) : Nat → Int → Int → Option (Rz F)
 | 0, _, _ => none
 | m + 1, i217, i218 =>
  if i218 < ((x2.kids).length : Int) then
   (idx x2.kids i218).bind fun y220 =>
   (idx r200 i218).bind fun y225 =>
   zb (rec_i_proves l208 y220 i217) fun r230 =>
   (i_sameForm n r230 y225).bind fun r239 =>
   if (!r239) = true then
    some (.stop 19 i217)
   else
    (i_Proof_size__c n y220).bind fun r247 =>
    i_proves_L4 rec_i_proves n x2 r200 l208 m (IntKind.i64.wrap (i217 + r247)) (IntKind.i64.wrap (i218 + 1))
  else
   (i_ruleOf_c7 x2.forms).bind fun r254 =>
   some (.ok r254)

def i_proves_L3 (rec_i_proves : List F → Pf → Int → Option (Rz F)) (n : Nat) (x2 : Pf) (r135 : List F) (l143 : List F) : Nat → Int → Int → Option (Rz F)
 | 0, _, _ => none
 | m + 1, i152, i153 =>
  if i153 < ((x2.kids).length : Int) then
   (idx x2.kids i153).bind fun y155 =>
   (idx r135 i153).bind fun y160 =>
   zb (rec_i_proves l143 y155 i152) fun r165 =>
   (i_sameForm n r165 y160).bind fun r174 =>
   if (!r174) = true then
    some (.stop 19 i152)
   else
    (i_Proof_size__c n y155).bind fun r182 =>
    i_proves_L3 rec_i_proves n x2 r135 l143 m (IntKind.i64.wrap (i152 + r182)) (IntKind.i64.wrap (i153 + 1))
  else
   (i_ruleOf_c3 x2.forms).bind fun r189 =>
   some (.ok r189)

def i_proves_L2 (rec_i_proves : List F → Pf → Int → Option (Rz F)) (n : Nat) (x2 : Pf) (r70 : List F) (l78 : List F) : Nat → Int → Int → Option (Rz F)
 | 0, _, _ => none
 | m + 1, i87, i88 =>
  if i88 < ((x2.kids).length : Int) then
   (idx x2.kids i88).bind fun y90 =>
   (idx r70 i88).bind fun y95 =>
   zb (rec_i_proves l78 y90 i87) fun r100 =>
   (i_sameForm n r100 y95).bind fun r109 =>
   if (!r109) = true then
    some (.stop 19 i87)
   else
    (i_Proof_size__c n y90).bind fun r117 =>
    i_proves_L2 rec_i_proves n x2 r70 l78 m (IntKind.i64.wrap (i87 + r117)) (IntKind.i64.wrap (i88 + 1))
  else
   (i_ruleOf_c2 x2.forms).bind fun r124 =>
   some (.ok r124)

def i_proves_L1 (rec_i_proves : List F → Pf → Int → Option (Rz F)) (n : Nat) (x2 : Pf) (l13 : List F) : Nat → Int → Int → Option (Rz F)
 | 0, _, _ => none
 | m + 1, i22, i23 =>
  if i23 < ((x2.kids).length : Int) then
   (idx x2.kids i23).bind fun y25 =>
   (idx x2.forms i23).bind fun y30 =>
   zb (rec_i_proves l13 y25 i22) fun r35 =>
   (i_sameForm n r35 y30).bind fun r44 =>
   if (!r44) = true then
    some (.stop 19 i22)
   else
    (i_Proof_size__c n y25).bind fun r52 =>
    i_proves_L1 rec_i_proves n x2 l13 m (IntKind.i64.wrap (i22 + r52)) (IntKind.i64.wrap (i23 + 1))
  else
   (i_ruleOf_c5 x2.forms).bind fun r59 =>
   some (.ok r59)

def i_proves : Nat → List F → Pf → Int → Option (Rz F)
 | 0, _, _, _ => none
 | n + 1, l1, x2, i3 =>
  if x2.kind = 1 then
   if x2.n ≥ ((l1).length : Int) then
    some (.stop 7 i3)
   else
    (idx l1 (IntKind.i64.wrap ((IntKind.i64.wrap (((l1).length : Int) - 1)) - x2.n))).bind fun y6 =>
    some (.ok y6)
  else
   if x2.kind = 2 then
    jn (fun (l13 : List F) =>
     i_proves_L1 (i_proves n) n x2 l13 n (IntKind.i64.wrap (i3 + 1)) 0) fun j12 =>
    if x2.kind = 5 then
     (idx x2.forms 0).bind fun y15 =>
     chk ((l1).length + ([y15]).length ≤ 1099511627776) <|
     j12 (l1 ++ [y15])
    else
     j12 l1
   else
    if x2.kind = 3 then
     (i_ruleOf_c1 x2.forms).bind fun r70 =>
     jn (fun (l78 : List F) =>
      i_proves_L2 (i_proves n) n x2 r70 l78 n (IntKind.i64.wrap (i3 + 1)) 0) fun j77 =>
     if x2.kind = 5 then
      (idx x2.forms 0).bind fun y80 =>
      chk ((l1).length + ([y80]).length ≤ 1099511627776) <|
      j77 (l1 ++ [y80])
     else
      j77 l1
    else
     if x2.kind = 4 then
      (i_ruleOf_c1 x2.forms).bind fun r135 =>
      jn (fun (l143 : List F) =>
       i_proves_L3 (i_proves n) n x2 r135 l143 n (IntKind.i64.wrap (i3 + 1)) 0) fun j142 =>
      if x2.kind = 5 then
       (idx x2.forms 0).bind fun y145 =>
       chk ((l1).length + ([y145]).length ≤ 1099511627776) <|
       j142 (l1 ++ [y145])
      else
       j142 l1
     else
      if x2.kind = 5 then
       (i_ruleOf_c6 x2.forms).bind fun r200 =>
       jn (fun (l208 : List F) =>
        i_proves_L4 (i_proves n) n x2 r200 l208 n (IntKind.i64.wrap (i3 + 1)) 0) fun j207 =>
       if x2.kind = 5 then
        (idx x2.forms 0).bind fun y210 =>
        chk ((l1).length + ([y210]).length ≤ 1099511627776) <|
        j207 (l1 ++ [y210])
       else
        j207 l1
      else
       if x2.kind = 6 then
        (i_ruleOf_c8 x2.forms).bind fun r265 =>
        jn (fun (l273 : List F) =>
         i_proves_L3 (i_proves n) n x2 r265 l273 n (IntKind.i64.wrap (i3 + 1)) 0) fun j272 =>
        if x2.kind = 5 then
         (idx x2.forms 0).bind fun y275 =>
         chk ((l1).length + ([y275]).length ≤ 1099511627776) <|
         j272 (l1 ++ [y275])
        else
         j272 l1
       else
        if x2.kind = 7 then
         jn (fun (l331 : List F) =>
          i_proves_L6 (i_proves n) n x2 l331 n (IntKind.i64.wrap (i3 + 1)) 0) fun j330 =>
         if x2.kind = 5 then
          (idx x2.forms 0).bind fun y333 =>
          chk ((l1).length + ([y333]).length ≤ 1099511627776) <|
          j330 (l1 ++ [y333])
         else
          j330 l1
        else
         none

def i_proves_P (n : Nat) : Prop := ∀ (q1 : Nat) (f1 : Bool) (ks1 : List LF) (k2 : Int) (n2 : Int) (p2 : Nat) (e2 : Bool) (fs2 : List LF) (q2 : Nat) (f2 : Bool) (ks2 : List LP) (i3 : Int) {r : (Rz F)}, i_proves n (fers ks1) (Pf.mk k2 n2 (fers fs2) (pers ks2)) i3 = some r → ∀ (O : Heap) (tk : Nat), ACalls Go.Proofs.Try.prog 60 [.imm q1 3 f1 (fcellss ks1), .agg [.int .i64 k2, .int .i64 n2, .imm p2 3 e2 (fcellss fs2), .imm q2 4 f2 (pcellss ks2)], .int .i64 i3] O tk (RetZ HT O tk r (fun r v tk' => VF false tk tk' r v))

set_option maxHeartbeats 20000000 in
set_option maxRecDepth 100000 in
theorem i_proves_st (n : Nat) (ih_i_proves : i_proves_P n) : i_proves_P (n + 1) := by
 intro q1 f1 ks1 k2 n2 p2 e2 fs2 q2 f2 ks2 i3 r hM O tk
 rw [i_proves] at hM
 refine acalls_of_run Go.Proofs.Try.func60 rfl rfl [] [] (Bor.nil _) [(0, .imm q1 3 f1 (fcellss ks1)), (1, .agg [.int .i64 k2, .int .i64 n2, .imm p2 3 e2 (fcellss fs2), .imm q2 4 f2 (pcellss ks2)]), (2, .int .i64 i3)] (.cons (entS rfl) (.cons (.agg _) (.cons (entS rfl) (.nil _)))) (leb rfl) (fun _ h => by cases h) (fun S0 hO htk hfz => ?_)
 refine run_sr ?_
 refine run_op rfl (box_step (d := 4) rfl rfl rfl rfl rfl) rfl (ltb rfl) ?_
 refine run_op rfl (alloc_step (d := 6) hG rfl rfl rfl) rfl (ltb rfl) ?_
 refine yN ?_
 refine run_seq ?_
 refine run_sr ?_
 refine yF hG rfl ?_
 refine yD hG rfl ?_
 refine yB rfl ?_
 refine yN ?_
 refine run_ifd rfl rfl (fun hb4 => ?_) (fun hb4 => ?_)
 ·replace hM := ite_t hb4 hM
  refine run_seq ?_
  refine run_sr ?_
  refine yF hG rfl ?_
  refine yD hG rfl ?_
  refine yL rfl ?_
  refine run_pu rfl (lenImm_step hG rfl rfl rfl rfl (flen _)) rfl (ltb rfl) ?_
  refine yB rfl ?_
  refine yN ?_
  refine run_ifd rfl rfl (fun hb5 => ?_) (fun hb5 => ?_)
  ·replace hM := ite_t hb5 hM
   refine run_region ?_
   refine yL rfl ?_
   obtain rfl := some_t hM
   exact run_call rfl rfl rfl (ltb rfl) rfl rfl rfl yE (i_stop_ok 7 i3 _ _) (callK_retS (run_pan_at (⟨rfl, (show tk ≤ tk by omega), rfl⟩)))
  replace hM := ite_f hb5 hM
  refine run_skip ?_
  refine run_sr ?_
  refine yL rfl ?_
  refine yL rfl ?_
  refine run_pu rfl (lenImm_step hG rfl rfl rfl rfl (flen _)) rfl (ltb rfl) ?_
  refine yB rfl ?_
  refine yF hG rfl ?_
  refine yD hG rfl ?_
  refine yB rfl ?_
  obtain ⟨y6, hy7, hM⟩ := bind_t hM
  obtain ⟨k8, n8, q8, f8, ks8, rfl, hc9, hi10⟩ := fidx (ks := ks1) hy7
  refine run_pu rfl (indexImm_step hG rfl rfl rfl hi10 rfl rfl rfl rfl hc9) rfl (ltb rfl) ?_
  refine yD hG rfl ?_
  refine yS hG rfl ?_
  refine yN ?_
  refine run_ret_to ?_
  obtain rfl := some_t hM
  refine fin_x hG rfl rfl rfl (v' := .agg [.int .i64 k8, .int .i64 n8, .imm q8 3 f8 (fcellss ks8)]) (by rfl) ⟨rfl, (show tk ≤ tk by omega), _, rfl, ⟨k8, n8, q8, f8, ks8, rfl, rfl, fun h => by cases h⟩⟩
 replace hM := ite_f hb4 hM
 refine run_skip ?_
 refine run_sr ?_
 refine yF hG rfl ?_
 refine yD hG rfl ?_
 by_cases hb11 : k2 = 2
 ·replace hM := ite_t hb11 hM
  refine yK rfl (i_ruleOf_ex0 k2 hb11 _ _) (callK_retN ?_)
  refine yL rfl ?_
  refine run_pu rfl (extract_step rfl rfl rfl) rfl (ltb rfl) ?_
  refine run_pu rfl (extract_step rfl rfl rfl) rfl (ltb rfl) ?_
  refine run_op rfl (alloc_step (d := 7) hG rfl rfl rfl) rfl (ltb rfl) ?_
  refine yS hG rfl ?_
  refine yR rfl ?_
  refine yN ?_
  refine run_sub_code (σ' := ⟨[(0, .imm q1 3 f1 (fcellss ks1)), (2, .int .i64 i3), (4, .optr (.loc 4) 0 0), (6, .optr (.loc 6) 0 0), (7, .optr (.loc 7) 0 0)], [(7, ⟨170, 5, true, [[.int .i64 2, .int .i64 2, .str ⟨#[97, 110, 100, 73]⟩, .fn (.func 189) [] [], .fn (.func 190) [] []]]⟩), (6, ⟨28, 3, true, [[.int .i64 0, .int .i64 0, .imm 0 3 true []]]⟩), (4, ⟨26, 4, true, [[.int .i64 k2, .int .i64 n2, .imm p2 3 e2 (fcellss fs2), .imm q2 4 f2 (pcellss ks2)]]⟩)], [], O, tk⟩) (Sub.env _ ⟨rfl, rfl, rfl, rfl, rfl, trivial⟩) ?_
  refine run_sr ?_
  refine yF hG rfl ?_
  refine yD hG rfl ?_
  refine yF hG rfl ?_
  refine yD hG rfl ?_
  refine yK rfl (i_ruleOf_c4_ex p2 e2 fs2 _ _) (callK_retN ?_)
  skip
  refine yL rfl ?_
  refine yB rfl ?_
  refine yR rfl ?_
  refine yR rfl ?_
  refine yN ?_
  refine run_seq ?_
  refine run_sr ?_
  refine yF hG rfl ?_
  refine yD hG rfl ?_
  refine yB rfl ?_
  refine yN ?_
  obtain ⟨j12, hj68, hM⟩ := jn_t hM
  refine run_cutL [.code _] (fun σ' => ∃ (q13 : Nat) (f13 : Bool) (ks13 : List LF) (tkj12 : Nat), tk ≤ tkj12 ∧ j12 (fers ks13) = some r ∧ Sub ⟨Go.Proofs.Try.prog, S0, Go.Proofs.Try.f60.ntmps, [], fun _ => False, []⟩ σ' ⟨[(0, .imm q13 3 f13 (fcellss ks13)), (4, .optr (.loc 4) 0 0), (6, .optr (.loc 6) 0 0), (7, .optr (.loc 7) 0 0), (9, .imm p2 3 e2 (fcellss fs2)), (10, .int .i64 (IntKind.i64.wrap (i3 + 1)))], [(7, ⟨170, 5, true, [[.int .i64 2, .int .i64 2, .str ⟨#[97, 110, 100, 73]⟩, .fn (.func 189) [] [], .fn (.func 190) [] []]]⟩), (6, ⟨28, 3, true, [[.int .i64 0, .int .i64 0, .imm 0 3 true []]]⟩), (4, ⟨26, 4, true, [[.int .i64 k2, .int .i64 n2, .imm p2 3 e2 (fcellss fs2), .imm q2 4 f2 (pcellss ks2)]]⟩)], [], O, tkj12⟩) rfl ?_ ?_
  ·refine run_ifd rfl rfl (fun hb14 => ?_) (fun hb14 => ?_)
   ·replace hM := ite_t hb14 hM
    refine run_draw [] (n := 9) mixed rfl yE ?_
    refine yTV 0 (by kernel_rfl) rfl ?_
    refine yTF hG 2 (by kernel_rfl) rfl ?_
    refine yTL hG 3 (by kernel_rfl) rfl ?_
    obtain ⟨y15, hy16, hM⟩ := bind_t hM
    obtain ⟨k17, n17, q17, f17, ks17, rfl, hc18, hi19⟩ := fidx (ks := fs2) hy16
    refine yT 4 (by kernel_rfl) rfl rfl rfl (ltb rfl) ((indexImm_step hG rfl rfl rfl hi19 rfl rfl rfl rfl hc18).rd _) ?_
    refine yTL hG 5 (by kernel_rfl) rfl ?_
    refine AAny.each (rs := [1, 6]) (by kernel_rfl) (fun h => by cases h) (fun i hi => ?_)
    simp only [List.mem_cons, List.not_mem_nil, or_false] at hi
    rcases hi with rfl | rfl
    ·refine yI rfl rfl (g_Clip_Form_ex q1 f1 ks1 _ _) (callK_retN ?_)
     skip
     refine AAny.one (i := 6) (by kernel_rfl) (AOp.step rfl rfl rfl (ltb rfl) (buildSlice_step (d := 54) hG rfl rfl rfl rfl rfl (by rfl) (by rfl) (by rfl) (by decide)) yE ?_)
     obtain ⟨hc20, hM⟩ := chk_t hM
     try rw [show ((fers ks1) ++ [(F.mk k17 n17 (fers ks17))] : List F) = (fers (ks1 ++ [LF.mk k17 n17 q17 f17 ks17])) from fers_app ks1 [LF.mk k17 n17 q17 f17 ks17]] at hM
     refine AAny.one (i := 7) (by kernel_rfl) (AOp.step rfl rfl rfl (ltb rfl) (appendFM_step (d := 55) hG rfl rfl rfl rfl rfl rfl rfl (fcellss_sz ks1) rfl (fcellss_sz ([LF.mk k17 n17 q17 f17 ks17])) (flen ks1) (flen ([LF.mk k17 n17 q17 f17 ks17])) (by simp [fers]) hc20 (by decide) (fcellss_app _ _)) yE ?_)
     refine yTW 8 (by kernel_rfl) rfl ?_
     refine AAny.done (by kernel_rfl) ?_
     exact ⟨tk, false, (ks1 ++ [LF.mk k17 n17 q17 f17 ks17]), (tk + 1), (show tk ≤ (tk + 1) by omega), hM, Sub.trans (Sub.freeze (k := 55) rfl rfl) (Sub.trans (Sub.drop (k := 54) rfl) (Sub.pk [0, 4, 6, 7, 9, 10] rfl))⟩
    refine AOp.step rfl rfl rfl (ltb rfl) (buildSlice_step (d := 54) hG rfl rfl rfl rfl rfl (by rfl) (by rfl) (by rfl) (by decide)) yE ?_
    refine yC 1 (by kernel_rfl) rfl rfl (g_Clip_Form_ex q1 f1 ks1 _ _) (callK_retN ?_)
    skip
    obtain ⟨hc21, hM⟩ := chk_t hM
    try rw [show ((fers ks1) ++ [(F.mk k17 n17 (fers ks17))] : List F) = (fers (ks1 ++ [LF.mk k17 n17 q17 f17 ks17])) from fers_app ks1 [LF.mk k17 n17 q17 f17 ks17]] at hM
    refine AAny.one (i := 7) (by kernel_rfl) (AOp.step rfl rfl rfl (ltb rfl) (appendFM_step (d := 55) hG rfl rfl rfl rfl rfl rfl rfl (fcellss_sz ks1) rfl (fcellss_sz ([LF.mk k17 n17 q17 f17 ks17])) (flen ks1) (flen ([LF.mk k17 n17 q17 f17 ks17])) (by simp [fers]) hc21 (by decide) (fcellss_app _ _)) yE ?_)
    refine yTW 8 (by kernel_rfl) rfl ?_
    refine AAny.done (by kernel_rfl) ?_
    exact ⟨tk, false, (ks1 ++ [LF.mk k17 n17 q17 f17 ks17]), (tk + 1), (show tk ≤ (tk + 1) by omega), hM, Sub.trans (Sub.freeze (k := 55) rfl rfl) (Sub.trans (Sub.drop (k := 54) rfl) (Sub.pk [0, 4, 6, 7, 9, 10] rfl))⟩
   replace hM := ite_f hb14 hM
   refine run_skip ?_
   exact ⟨q1, f1, ks1, tk, (show tk ≤ tk by omega), hM, Sub.pk [0, 4, 6, 7, 9, 10] rfl⟩
  clear hM
  rintro σ' ⟨q13, f13, ks13, tkj12, hle67, hM, hsub⟩
  rw [hj68] at hM
  clear hj68
  refine run_sub_code hsub ?_
  refine run_seq ?_
  refine run_sr ?_
  refine yF hG rfl ?_
  refine yD hG rfl ?_
  refine run_pu rfl (lenImm_step hG rfl rfl rfl rfl (plen _)) rfl (ltb rfl) ?_
  refine yL rfl ?_
  refine yN ?_
  refine run_block ?_
  refine run_rounds (fun m σ => ∃ (i22 : Int) (i23 : Int) (tki_proves_L1 : Nat), tkj12 ≤ tki_proves_L1 ∧ i_proves_L1 (i_proves n) n (Pf.mk k2 n2 (fers fs2) (pers ks2)) (fers ks13) m i22 i23 = some r ∧ σ = ⟨[(0, .imm q13 3 f13 (fcellss ks13)), (4, .optr (.loc 4) 0 0), (6, .optr (.loc 6) 0 0), (7, .optr (.loc 7) 0 0), (9, .imm p2 3 e2 (fcellss fs2)), (10, .int .i64 i22), (57, .imm q2 4 f2 (pcellss ks2)), (58, .int .i64 (((pers ks2)).length : Int)), (59, .int .i64 i23)], [(7, ⟨170, 5, true, [[.int .i64 2, .int .i64 2, .str ⟨#[97, 110, 100, 73]⟩, .fn (.func 189) [] [], .fn (.func 190) [] []]]⟩), (6, ⟨28, 3, true, [[.int .i64 0, .int .i64 0, .imm 0 3 true []]]⟩), (4, ⟨26, 4, true, [[.int .i64 k2, .int .i64 n2, .imm p2 3 e2 (fcellss fs2), .imm q2 4 f2 (pcellss ks2)]]⟩)], [], O, tki_proves_L1⟩) n (Sub.pk [0, 4, 6, 7, 9, 10, 57, 58, 59] rfl) ⟨(IntKind.i64.wrap (i3 + 1)), 0, tkj12, Nat.le_refl _, hM, rfl⟩ (fun m σ hI => ?_)
  clear hM
  obtain ⟨i22, i23, tki_proves_L1, hle66, hM, rfl⟩ := hI
  obtain _ | m := m
  ·exact absurd hM (by rw [i_proves_L1]; exact fun h => by cases h)
  rw [i_proves_L1] at hM
  refine run_sr ?_
  refine yB rfl ?_
  refine yN ?_
  refine run_seq ?_
  refine run_ifd rfl rfl (fun hb24 => ?_) (fun hb24 => ?_)
  ·replace hM := ite_t hb24 hM
   refine run_skip ?_
   refine run_seq ?_
   refine run_block ?_
   refine run_sr ?_
   refine yL rfl ?_
   obtain ⟨y25, hy26, hM⟩ := bind_t hM
   obtain ⟨k27, n27, p27, e27, fs27, q27, f27, ks27, rfl, hc28, hi29⟩ := pidx (ks := ks2) hy26
   refine run_pu rfl (indexImm_step hG rfl rfl rfl hi29 rfl rfl rfl rfl hc28) rfl (ltb rfl) ?_
   refine yD hG rfl ?_
   refine run_op rfl (alloc_step (d := 12) hG rfl rfl rfl) rfl (ltb rfl) ?_
   refine yR rfl ?_
   refine yS hG rfl ?_
   refine yN ?_
   refine run_seq ?_
   refine run_seq ?_
   refine run_draw [] (n := 10) mixed rfl yE ?_
   refine yTV 0 (by kernel_rfl) rfl ?_
   refine yTL hG 1 (by kernel_rfl) rfl ?_
   refine yTV 2 (by kernel_rfl) rfl ?_
   refine yTV 4 (by kernel_rfl) rfl ?_
   refine yTV 5 (by kernel_rfl) rfl ?_
   obtain ⟨y30, hy31, hM⟩ := bind_t hM
   obtain ⟨k32, n32, q32, f32, ks32, rfl, hc33, hi34⟩ := fidx (ks := fs2) hy31
   refine yT 6 (by kernel_rfl) rfl rfl rfl (ltb rfl) ((indexImm_step hG rfl rfl rfl hi34 rfl rfl rfl rfl hc33).rd _) ?_
   refine yTL hG 7 (by kernel_rfl) rfl ?_
   obtain ⟨z40, hg36, hM⟩ := zb_t hM
   refine yC 3 (by kernel_rfl) rfl rfl (ih_i_proves q13 f13 ks13 k27 n27 p27 e27 fs27 q27 f27 ks27 i22 hg36 _ _) (callK_retZ (fun r35 v tk37 hz43 (hle38 : tki_proves_L1 ≤ tk37) h39 => ?_) (fun c p tk37 hz (_ : tki_proves_L1 ≤ tk37) => by subst hz; obtain rfl := bd_stop hM; exact run_pan_at (⟨rfl, (show tk ≤ tk37 by omega), rfl⟩)))
   subst hz43
   replace hM := bd_ok hM
   obtain ⟨k41, n41, q41, f41, ks41, rfl, rfl, hf42⟩ := h39
   obtain ⟨r44, hg45, hM⟩ := bind_t hM
   refine yC 8 (by kernel_rfl) rfl rfl (i_sameForm_ok n k41 n41 q41 f41 ks41 k32 n32 q32 f32 ks32 hg45 _ _) (callK_retX (fun v tk46 (hle47 : tk37 ≤ tk46) h48 => ?_))
   subst h48
   refine yT 9 (by kernel_rfl) rfl rfl rfl (ltb rfl) ((aun_step rfl rfl rfl).rd _) ?_
   refine AAny.done (by kernel_rfl) ?_
   refine run_sub_code (σ' := ⟨[(0, .imm q13 3 f13 (fcellss ks13)), (4, .optr (.loc 4) 0 0), (6, .optr (.loc 6) 0 0), (7, .optr (.loc 7) 0 0), (9, .imm p2 3 e2 (fcellss fs2)), (10, .int .i64 i22), (57, .imm q2 4 f2 (pcellss ks2)), (58, .int .i64 (((pers ks2)).length : Int)), (59, .int .i64 i23), (12, .optr (.loc 12) 0 0), (73, .bool (!r44))], [(12, ⟨26, 4, true, [[.int .i64 k27, .int .i64 n27, .imm p27 3 e27 (fcellss fs27), .imm q27 4 f27 (pcellss ks27)]]⟩), (7, ⟨170, 5, true, [[.int .i64 2, .int .i64 2, .str ⟨#[97, 110, 100, 73]⟩, .fn (.func 189) [] [], .fn (.func 190) [] []]]⟩), (6, ⟨28, 3, true, [[.int .i64 0, .int .i64 0, .imm 0 3 true []]]⟩), (4, ⟨26, 4, true, [[.int .i64 k2, .int .i64 n2, .imm p2 3 e2 (fcellss fs2), .imm q2 4 f2 (pcellss ks2)]]⟩)], [], O, tk46⟩) (Sub.env _ ⟨rfl, rfl, rfl, rfl, rfl, rfl, rfl, rfl, rfl, rfl, rfl, trivial⟩) ?_
   refine run_ifb rfl rfl (fun hb51 => ?_) (fun hb51 => ?_)
   ·replace hM := ite_t hb51 hM
    refine run_region ?_
    refine yL rfl ?_
    obtain rfl := some_t hM
    exact run_call rfl rfl rfl (ltb rfl) rfl rfl rfl yE (i_stop_ok 19 i22 _ _) (callK_retS (run_pan_at (⟨rfl, (show tk ≤ tk46 by omega), rfl⟩)))
   replace hM := ite_f hb51 hM
   refine run_skip ?_
   refine run_region ?_
   refine yL rfl ?_
   refine run_sub_ops (Sub.frbox (k := 12) (env' := [(0, .imm q13 3 f13 (fcellss ks13)), (4, .optr (.loc 4) 0 0), (6, .optr (.loc 6) 0 0), (7, .optr (.loc 7) 0 0), (9, .imm p2 3 e2 (fcellss fs2)), (10, .int .i64 i22), (57, .imm q2 4 f2 (pcellss ks2)), (58, .int .i64 (((pers ks2)).length : Int)), (59, .int .i64 i23), (12, .cptr [.int .i64 k27, .int .i64 n27, .imm p27 3 e27 (fcellss fs27), .imm q27 4 f27 (pcellss ks27)]), (73, .bool (!r44)), (76, .int .i64 i22)]) rfl rfl (.keep 0 _ _ rfl (.keep 4 _ _ rfl (.keep 6 _ _ rfl (.keep 7 _ _ rfl (.keep 9 _ _ rfl (.keep 10 _ _ rfl (.keep 57 _ _ rfl (.keep 58 _ _ rfl (.keep 59 _ _ rfl (.ptr 12 0 _ rfl (.keep 73 _ _ rfl (.keep 76 _ _ rfl .nil))))))))))))) ?_
   obtain ⟨r52, hg53, hM⟩ := bind_t hM
   refine yK rfl (i_Proof_size__c_ok n k27 n27 p27 e27 fs27 q27 f27 ks27 hg53 _ _) (callK_retX (fun v tk54 (hle55 : tk46 ≤ tk54) h56 => ?_))
   subst h56
   refine yB rfl ?_
   refine yR rfl ?_
   refine yN ?_
   refine run_blk ?_
   refine run_region ?_
   refine yB rfl ?_
   refine yL rfl ?_
   refine yN ?_
   exact run_loop_end ⟨m, _, Nat.lt_succ_self _, ⟨(IntKind.i64.wrap (i22 + r52)), (IntKind.i64.wrap (i23 + 1)), tk54, (show tkj12 ≤ tk54 by omega), hM, rfl⟩, Sub.pk [0, 4, 6, 7, 9, 10, 57, 58, 59] rfl⟩
  replace hM := ite_f hb24 hM
  refine run_exit_to rfl ?_
  refine run_sr ?_
  refine yF hG rfl ?_
  refine yD hG rfl ?_
  refine yF hG rfl ?_
  refine yD hG rfl ?_
  obtain ⟨r59, hg60, hM⟩ := bind_t hM
  refine yK rfl (i_ruleOf_c5_ok p2 e2 fs2 hg60 _ _) (callK_retX (fun v tk61 (hle62 : tki_proves_L1 ≤ tk61) h63 => ?_))
  obtain ⟨k64, n64, q64, f64, ks64, rfl, rfl, hf65⟩ := h63
  refine yS hG rfl ?_
  refine yN ?_
  refine run_ret_to ?_
  obtain rfl := some_t hM
  refine fin_x hG rfl rfl rfl (v' := .agg [.int .i64 k64, .int .i64 n64, .imm q64 3 f64 (fcellss ks64)]) (by rfl) ⟨rfl, (show tk ≤ tk61 by omega), _, rfl, ⟨k64, n64, q64, f64, ks64, rfl, rfl, fun h => by cases h⟩⟩
 replace hM := ite_f hb11 hM
 by_cases hb69 : k2 = 3
 ·replace hM := ite_t hb69 hM
  refine yK rfl (i_ruleOf_ex1 k2 hb11 hb69 _ _) (callK_retN ?_)
  refine yL rfl ?_
  refine run_pu rfl (extract_step rfl rfl rfl) rfl (ltb rfl) ?_
  refine run_pu rfl (extract_step rfl rfl rfl) rfl (ltb rfl) ?_
  refine run_op rfl (alloc_step (d := 7) hG rfl rfl rfl) rfl (ltb rfl) ?_
  refine yS hG rfl ?_
  refine yR rfl ?_
  refine yN ?_
  refine run_sub_code (σ' := ⟨[(0, .imm q1 3 f1 (fcellss ks1)), (2, .int .i64 i3), (4, .optr (.loc 4) 0 0), (6, .optr (.loc 6) 0 0), (7, .optr (.loc 7) 0 0)], [(7, ⟨170, 5, true, [[.int .i64 2, .int .i64 1, .str ⟨#[102, 115, 116]⟩, .fn (.func 185) [] [], .fn (.func 187) [] []]]⟩), (6, ⟨28, 3, true, [[.int .i64 0, .int .i64 0, .imm 0 3 true []]]⟩), (4, ⟨26, 4, true, [[.int .i64 k2, .int .i64 n2, .imm p2 3 e2 (fcellss fs2), .imm q2 4 f2 (pcellss ks2)]]⟩)], [], O, tk⟩) (Sub.env _ ⟨rfl, rfl, rfl, rfl, rfl, trivial⟩) ?_
  refine run_sr ?_
  refine yF hG rfl ?_
  refine yD hG rfl ?_
  refine yF hG rfl ?_
  refine yD hG rfl ?_
  obtain ⟨r70, hg71, hM⟩ := bind_t hM
  refine yK rfl (i_ruleOf_c1_ok p2 e2 fs2 hg71 _ _) (callK_retX (fun v tk72 (hle73 : tk ≤ tk72) h74 => ?_))
  obtain ⟨q75, f75, ks75, rfl, rfl, hf76⟩ := h74
  refine yL rfl ?_
  refine yB rfl ?_
  refine yR rfl ?_
  refine yR rfl ?_
  refine yN ?_
  refine run_seq ?_
  refine run_sr ?_
  refine yF hG rfl ?_
  refine yD hG rfl ?_
  refine yB rfl ?_
  refine yN ?_
  obtain ⟨j77, hj133, hM⟩ := jn_t hM
  refine run_cutL [.code _] (fun σ' => ∃ (q78 : Nat) (f78 : Bool) (ks78 : List LF) (tkj77 : Nat), tk72 ≤ tkj77 ∧ j77 (fers ks78) = some r ∧ Sub ⟨Go.Proofs.Try.prog, S0, Go.Proofs.Try.f60.ntmps, [], fun _ => False, []⟩ σ' ⟨[(0, .imm q78 3 f78 (fcellss ks78)), (4, .optr (.loc 4) 0 0), (6, .optr (.loc 6) 0 0), (7, .optr (.loc 7) 0 0), (9, .imm q75 3 f75 (fcellss ks75)), (10, .int .i64 (IntKind.i64.wrap (i3 + 1)))], [(7, ⟨170, 5, true, [[.int .i64 2, .int .i64 1, .str ⟨#[102, 115, 116]⟩, .fn (.func 185) [] [], .fn (.func 187) [] []]]⟩), (6, ⟨28, 3, true, [[.int .i64 0, .int .i64 0, .imm 0 3 true []]]⟩), (4, ⟨26, 4, true, [[.int .i64 k2, .int .i64 n2, .imm p2 3 e2 (fcellss fs2), .imm q2 4 f2 (pcellss ks2)]]⟩)], [], O, tkj77⟩) rfl ?_ ?_
  ·refine run_ifd rfl rfl (fun hb79 => ?_) (fun hb79 => ?_)
   ·replace hM := ite_t hb79 hM
    refine run_draw [] (n := 9) mixed rfl yE ?_
    refine yTV 0 (by kernel_rfl) rfl ?_
    refine yTF hG 2 (by kernel_rfl) rfl ?_
    refine yTL hG 3 (by kernel_rfl) rfl ?_
    obtain ⟨y80, hy81, hM⟩ := bind_t hM
    obtain ⟨k82, n82, q82, f82, ks82, rfl, hc83, hi84⟩ := fidx (ks := fs2) hy81
    refine yT 4 (by kernel_rfl) rfl rfl rfl (ltb rfl) ((indexImm_step hG rfl rfl rfl hi84 rfl rfl rfl rfl hc83).rd _) ?_
    refine yTL hG 5 (by kernel_rfl) rfl ?_
    refine AAny.each (rs := [1, 6]) (by kernel_rfl) (fun h => by cases h) (fun i hi => ?_)
    simp only [List.mem_cons, List.not_mem_nil, or_false] at hi
    rcases hi with rfl | rfl
    ·refine yI rfl rfl (g_Clip_Form_ex q1 f1 ks1 _ _) (callK_retN ?_)
     skip
     refine AAny.one (i := 6) (by kernel_rfl) (AOp.step rfl rfl rfl (ltb rfl) (buildSlice_step (d := 54) hG rfl rfl rfl rfl rfl (by rfl) (by rfl) (by rfl) (by decide)) yE ?_)
     obtain ⟨hc85, hM⟩ := chk_t hM
     try rw [show ((fers ks1) ++ [(F.mk k82 n82 (fers ks82))] : List F) = (fers (ks1 ++ [LF.mk k82 n82 q82 f82 ks82])) from fers_app ks1 [LF.mk k82 n82 q82 f82 ks82]] at hM
     refine AAny.one (i := 7) (by kernel_rfl) (AOp.step rfl rfl rfl (ltb rfl) (appendFM_step (d := 55) hG rfl rfl rfl rfl rfl rfl rfl (fcellss_sz ks1) rfl (fcellss_sz ([LF.mk k82 n82 q82 f82 ks82])) (flen ks1) (flen ([LF.mk k82 n82 q82 f82 ks82])) (by simp [fers]) hc85 (by decide) (fcellss_app _ _)) yE ?_)
     refine yTW 8 (by kernel_rfl) rfl ?_
     refine AAny.done (by kernel_rfl) ?_
     exact ⟨tk72, false, (ks1 ++ [LF.mk k82 n82 q82 f82 ks82]), (tk72 + 1), (show tk72 ≤ (tk72 + 1) by omega), hM, Sub.trans (Sub.freeze (k := 55) rfl rfl) (Sub.trans (Sub.drop (k := 54) rfl) (Sub.pk [0, 4, 6, 7, 9, 10] rfl))⟩
    refine AOp.step rfl rfl rfl (ltb rfl) (buildSlice_step (d := 54) hG rfl rfl rfl rfl rfl (by rfl) (by rfl) (by rfl) (by decide)) yE ?_
    refine yC 1 (by kernel_rfl) rfl rfl (g_Clip_Form_ex q1 f1 ks1 _ _) (callK_retN ?_)
    skip
    obtain ⟨hc86, hM⟩ := chk_t hM
    try rw [show ((fers ks1) ++ [(F.mk k82 n82 (fers ks82))] : List F) = (fers (ks1 ++ [LF.mk k82 n82 q82 f82 ks82])) from fers_app ks1 [LF.mk k82 n82 q82 f82 ks82]] at hM
    refine AAny.one (i := 7) (by kernel_rfl) (AOp.step rfl rfl rfl (ltb rfl) (appendFM_step (d := 55) hG rfl rfl rfl rfl rfl rfl rfl (fcellss_sz ks1) rfl (fcellss_sz ([LF.mk k82 n82 q82 f82 ks82])) (flen ks1) (flen ([LF.mk k82 n82 q82 f82 ks82])) (by simp [fers]) hc86 (by decide) (fcellss_app _ _)) yE ?_)
    refine yTW 8 (by kernel_rfl) rfl ?_
    refine AAny.done (by kernel_rfl) ?_
    exact ⟨tk72, false, (ks1 ++ [LF.mk k82 n82 q82 f82 ks82]), (tk72 + 1), (show tk72 ≤ (tk72 + 1) by omega), hM, Sub.trans (Sub.freeze (k := 55) rfl rfl) (Sub.trans (Sub.drop (k := 54) rfl) (Sub.pk [0, 4, 6, 7, 9, 10] rfl))⟩
   replace hM := ite_f hb79 hM
   refine run_skip ?_
   exact ⟨q1, f1, ks1, tk72, (show tk72 ≤ tk72 by omega), hM, Sub.pk [0, 4, 6, 7, 9, 10] rfl⟩
  clear hM
  rintro σ' ⟨q78, f78, ks78, tkj77, hle132, hM, hsub⟩
  rw [hj133] at hM
  clear hj133
  refine run_sub_code hsub ?_
  refine run_seq ?_
  refine run_sr ?_
  refine yF hG rfl ?_
  refine yD hG rfl ?_
  refine run_pu rfl (lenImm_step hG rfl rfl rfl rfl (plen _)) rfl (ltb rfl) ?_
  refine yL rfl ?_
  refine yN ?_
  refine run_block ?_
  refine run_rounds (fun m σ => ∃ (i87 : Int) (i88 : Int) (tki_proves_L2 : Nat), tkj77 ≤ tki_proves_L2 ∧ i_proves_L2 (i_proves n) n (Pf.mk k2 n2 (fers fs2) (pers ks2)) (fers ks75) (fers ks78) m i87 i88 = some r ∧ σ = ⟨[(0, .imm q78 3 f78 (fcellss ks78)), (4, .optr (.loc 4) 0 0), (6, .optr (.loc 6) 0 0), (7, .optr (.loc 7) 0 0), (9, .imm q75 3 f75 (fcellss ks75)), (10, .int .i64 i87), (57, .imm q2 4 f2 (pcellss ks2)), (58, .int .i64 (((pers ks2)).length : Int)), (59, .int .i64 i88)], [(7, ⟨170, 5, true, [[.int .i64 2, .int .i64 1, .str ⟨#[102, 115, 116]⟩, .fn (.func 185) [] [], .fn (.func 187) [] []]]⟩), (6, ⟨28, 3, true, [[.int .i64 0, .int .i64 0, .imm 0 3 true []]]⟩), (4, ⟨26, 4, true, [[.int .i64 k2, .int .i64 n2, .imm p2 3 e2 (fcellss fs2), .imm q2 4 f2 (pcellss ks2)]]⟩)], [], O, tki_proves_L2⟩) n (Sub.pk [0, 4, 6, 7, 9, 10, 57, 58, 59] rfl) ⟨(IntKind.i64.wrap (i3 + 1)), 0, tkj77, Nat.le_refl _, hM, rfl⟩ (fun m σ hI => ?_)
  clear hM
  obtain ⟨i87, i88, tki_proves_L2, hle131, hM, rfl⟩ := hI
  obtain _ | m := m
  ·exact absurd hM (by rw [i_proves_L2]; exact fun h => by cases h)
  rw [i_proves_L2] at hM
  refine run_sr ?_
  refine yB rfl ?_
  refine yN ?_
  refine run_seq ?_
  refine run_ifd rfl rfl (fun hb89 => ?_) (fun hb89 => ?_)
  ·replace hM := ite_t hb89 hM
   refine run_skip ?_
   refine run_seq ?_
   refine run_block ?_
   refine run_sr ?_
   refine yL rfl ?_
   obtain ⟨y90, hy91, hM⟩ := bind_t hM
   obtain ⟨k92, n92, p92, e92, fs92, q92, f92, ks92, rfl, hc93, hi94⟩ := pidx (ks := ks2) hy91
   refine run_pu rfl (indexImm_step hG rfl rfl rfl hi94 rfl rfl rfl rfl hc93) rfl (ltb rfl) ?_
   refine yD hG rfl ?_
   refine run_op rfl (alloc_step (d := 12) hG rfl rfl rfl) rfl (ltb rfl) ?_
   refine yR rfl ?_
   refine yS hG rfl ?_
   refine yN ?_
   refine run_seq ?_
   refine run_seq ?_
   refine run_draw [] (n := 10) mixed rfl yE ?_
   refine yTV 0 (by kernel_rfl) rfl ?_
   refine yTL hG 1 (by kernel_rfl) rfl ?_
   refine yTV 2 (by kernel_rfl) rfl ?_
   refine yTV 4 (by kernel_rfl) rfl ?_
   refine yTV 5 (by kernel_rfl) rfl ?_
   obtain ⟨y95, hy96, hM⟩ := bind_t hM
   obtain ⟨k97, n97, q97, f97, ks97, rfl, hc98, hi99⟩ := fidx (ks := ks75) hy96
   refine yT 6 (by kernel_rfl) rfl rfl rfl (ltb rfl) ((indexImm_step hG rfl rfl rfl hi99 rfl rfl rfl rfl hc98).rd _) ?_
   refine yTL hG 7 (by kernel_rfl) rfl ?_
   obtain ⟨z105, hg101, hM⟩ := zb_t hM
   refine yC 3 (by kernel_rfl) rfl rfl (ih_i_proves q78 f78 ks78 k92 n92 p92 e92 fs92 q92 f92 ks92 i87 hg101 _ _) (callK_retZ (fun r100 v tk102 hz108 (hle103 : tki_proves_L2 ≤ tk102) h104 => ?_) (fun c p tk102 hz (_ : tki_proves_L2 ≤ tk102) => by subst hz; obtain rfl := bd_stop hM; exact run_pan_at (⟨rfl, (show tk ≤ tk102 by omega), rfl⟩)))
   subst hz108
   replace hM := bd_ok hM
   obtain ⟨k106, n106, q106, f106, ks106, rfl, rfl, hf107⟩ := h104
   obtain ⟨r109, hg110, hM⟩ := bind_t hM
   refine yC 8 (by kernel_rfl) rfl rfl (i_sameForm_ok n k106 n106 q106 f106 ks106 k97 n97 q97 f97 ks97 hg110 _ _) (callK_retX (fun v tk111 (hle112 : tk102 ≤ tk111) h113 => ?_))
   subst h113
   refine yT 9 (by kernel_rfl) rfl rfl rfl (ltb rfl) ((aun_step rfl rfl rfl).rd _) ?_
   refine AAny.done (by kernel_rfl) ?_
   refine run_sub_code (σ' := ⟨[(0, .imm q78 3 f78 (fcellss ks78)), (4, .optr (.loc 4) 0 0), (6, .optr (.loc 6) 0 0), (7, .optr (.loc 7) 0 0), (9, .imm q75 3 f75 (fcellss ks75)), (10, .int .i64 i87), (57, .imm q2 4 f2 (pcellss ks2)), (58, .int .i64 (((pers ks2)).length : Int)), (59, .int .i64 i88), (12, .optr (.loc 12) 0 0), (73, .bool (!r109))], [(12, ⟨26, 4, true, [[.int .i64 k92, .int .i64 n92, .imm p92 3 e92 (fcellss fs92), .imm q92 4 f92 (pcellss ks92)]]⟩), (7, ⟨170, 5, true, [[.int .i64 2, .int .i64 1, .str ⟨#[102, 115, 116]⟩, .fn (.func 185) [] [], .fn (.func 187) [] []]]⟩), (6, ⟨28, 3, true, [[.int .i64 0, .int .i64 0, .imm 0 3 true []]]⟩), (4, ⟨26, 4, true, [[.int .i64 k2, .int .i64 n2, .imm p2 3 e2 (fcellss fs2), .imm q2 4 f2 (pcellss ks2)]]⟩)], [], O, tk111⟩) (Sub.env _ ⟨rfl, rfl, rfl, rfl, rfl, rfl, rfl, rfl, rfl, rfl, rfl, trivial⟩) ?_
   refine run_ifb rfl rfl (fun hb116 => ?_) (fun hb116 => ?_)
   ·replace hM := ite_t hb116 hM
    refine run_region ?_
    refine yL rfl ?_
    obtain rfl := some_t hM
    exact run_call rfl rfl rfl (ltb rfl) rfl rfl rfl yE (i_stop_ok 19 i87 _ _) (callK_retS (run_pan_at (⟨rfl, (show tk ≤ tk111 by omega), rfl⟩)))
   replace hM := ite_f hb116 hM
   refine run_skip ?_
   refine run_region ?_
   refine yL rfl ?_
   refine run_sub_ops (Sub.frbox (k := 12) (env' := [(0, .imm q78 3 f78 (fcellss ks78)), (4, .optr (.loc 4) 0 0), (6, .optr (.loc 6) 0 0), (7, .optr (.loc 7) 0 0), (9, .imm q75 3 f75 (fcellss ks75)), (10, .int .i64 i87), (57, .imm q2 4 f2 (pcellss ks2)), (58, .int .i64 (((pers ks2)).length : Int)), (59, .int .i64 i88), (12, .cptr [.int .i64 k92, .int .i64 n92, .imm p92 3 e92 (fcellss fs92), .imm q92 4 f92 (pcellss ks92)]), (73, .bool (!r109)), (76, .int .i64 i87)]) rfl rfl (.keep 0 _ _ rfl (.keep 4 _ _ rfl (.keep 6 _ _ rfl (.keep 7 _ _ rfl (.keep 9 _ _ rfl (.keep 10 _ _ rfl (.keep 57 _ _ rfl (.keep 58 _ _ rfl (.keep 59 _ _ rfl (.ptr 12 0 _ rfl (.keep 73 _ _ rfl (.keep 76 _ _ rfl .nil))))))))))))) ?_
   obtain ⟨r117, hg118, hM⟩ := bind_t hM
   refine yK rfl (i_Proof_size__c_ok n k92 n92 p92 e92 fs92 q92 f92 ks92 hg118 _ _) (callK_retX (fun v tk119 (hle120 : tk111 ≤ tk119) h121 => ?_))
   subst h121
   refine yB rfl ?_
   refine yR rfl ?_
   refine yN ?_
   refine run_blk ?_
   refine run_region ?_
   refine yB rfl ?_
   refine yL rfl ?_
   refine yN ?_
   exact run_loop_end ⟨m, _, Nat.lt_succ_self _, ⟨(IntKind.i64.wrap (i87 + r117)), (IntKind.i64.wrap (i88 + 1)), tk119, (show tkj77 ≤ tk119 by omega), hM, rfl⟩, Sub.pk [0, 4, 6, 7, 9, 10, 57, 58, 59] rfl⟩
  replace hM := ite_f hb89 hM
  refine run_exit_to rfl ?_
  refine run_sr ?_
  refine yF hG rfl ?_
  refine yD hG rfl ?_
  refine yF hG rfl ?_
  refine yD hG rfl ?_
  obtain ⟨r124, hg125, hM⟩ := bind_t hM
  refine yK rfl (i_ruleOf_c2_ok p2 e2 fs2 hg125 _ _) (callK_retX (fun v tk126 (hle127 : tki_proves_L2 ≤ tk126) h128 => ?_))
  obtain ⟨k129, n129, q129, f129, ks129, rfl, rfl, hf130⟩ := h128
  refine yS hG rfl ?_
  refine yN ?_
  refine run_ret_to ?_
  obtain rfl := some_t hM
  refine fin_x hG rfl rfl rfl (v' := .agg [.int .i64 k129, .int .i64 n129, .imm q129 3 f129 (fcellss ks129)]) (by rfl) ⟨rfl, (show tk ≤ tk126 by omega), _, rfl, ⟨k129, n129, q129, f129, ks129, rfl, rfl, fun h => by cases h⟩⟩
 replace hM := ite_f hb69 hM
 by_cases hb134 : k2 = 4
 ·replace hM := ite_t hb134 hM
  refine yK rfl (i_ruleOf_ex2 k2 hb11 hb69 hb134 _ _) (callK_retN ?_)
  refine yL rfl ?_
  refine run_pu rfl (extract_step rfl rfl rfl) rfl (ltb rfl) ?_
  refine run_pu rfl (extract_step rfl rfl rfl) rfl (ltb rfl) ?_
  refine run_op rfl (alloc_step (d := 7) hG rfl rfl rfl) rfl (ltb rfl) ?_
  refine yS hG rfl ?_
  refine yR rfl ?_
  refine yN ?_
  refine run_sub_code (σ' := ⟨[(0, .imm q1 3 f1 (fcellss ks1)), (2, .int .i64 i3), (4, .optr (.loc 4) 0 0), (6, .optr (.loc 6) 0 0), (7, .optr (.loc 7) 0 0)], [(7, ⟨170, 5, true, [[.int .i64 2, .int .i64 1, .str ⟨#[115, 110, 100]⟩, .fn (.func 185) [] [], .fn (.func 188) [] []]]⟩), (6, ⟨28, 3, true, [[.int .i64 0, .int .i64 0, .imm 0 3 true []]]⟩), (4, ⟨26, 4, true, [[.int .i64 k2, .int .i64 n2, .imm p2 3 e2 (fcellss fs2), .imm q2 4 f2 (pcellss ks2)]]⟩)], [], O, tk⟩) (Sub.env _ ⟨rfl, rfl, rfl, rfl, rfl, trivial⟩) ?_
  refine run_sr ?_
  refine yF hG rfl ?_
  refine yD hG rfl ?_
  refine yF hG rfl ?_
  refine yD hG rfl ?_
  obtain ⟨r135, hg136, hM⟩ := bind_t hM
  refine yK rfl (i_ruleOf_c1_ok p2 e2 fs2 hg136 _ _) (callK_retX (fun v tk137 (hle138 : tk ≤ tk137) h139 => ?_))
  obtain ⟨q140, f140, ks140, rfl, rfl, hf141⟩ := h139
  refine yL rfl ?_
  refine yB rfl ?_
  refine yR rfl ?_
  refine yR rfl ?_
  refine yN ?_
  refine run_seq ?_
  refine run_sr ?_
  refine yF hG rfl ?_
  refine yD hG rfl ?_
  refine yB rfl ?_
  refine yN ?_
  obtain ⟨j142, hj198, hM⟩ := jn_t hM
  refine run_cutL [.code _] (fun σ' => ∃ (q143 : Nat) (f143 : Bool) (ks143 : List LF) (tkj142 : Nat), tk137 ≤ tkj142 ∧ j142 (fers ks143) = some r ∧ Sub ⟨Go.Proofs.Try.prog, S0, Go.Proofs.Try.f60.ntmps, [], fun _ => False, []⟩ σ' ⟨[(0, .imm q143 3 f143 (fcellss ks143)), (4, .optr (.loc 4) 0 0), (6, .optr (.loc 6) 0 0), (7, .optr (.loc 7) 0 0), (9, .imm q140 3 f140 (fcellss ks140)), (10, .int .i64 (IntKind.i64.wrap (i3 + 1)))], [(7, ⟨170, 5, true, [[.int .i64 2, .int .i64 1, .str ⟨#[115, 110, 100]⟩, .fn (.func 185) [] [], .fn (.func 188) [] []]]⟩), (6, ⟨28, 3, true, [[.int .i64 0, .int .i64 0, .imm 0 3 true []]]⟩), (4, ⟨26, 4, true, [[.int .i64 k2, .int .i64 n2, .imm p2 3 e2 (fcellss fs2), .imm q2 4 f2 (pcellss ks2)]]⟩)], [], O, tkj142⟩) rfl ?_ ?_
  ·refine run_ifd rfl rfl (fun hb144 => ?_) (fun hb144 => ?_)
   ·replace hM := ite_t hb144 hM
    refine run_draw [] (n := 9) mixed rfl yE ?_
    refine yTV 0 (by kernel_rfl) rfl ?_
    refine yTF hG 2 (by kernel_rfl) rfl ?_
    refine yTL hG 3 (by kernel_rfl) rfl ?_
    obtain ⟨y145, hy146, hM⟩ := bind_t hM
    obtain ⟨k147, n147, q147, f147, ks147, rfl, hc148, hi149⟩ := fidx (ks := fs2) hy146
    refine yT 4 (by kernel_rfl) rfl rfl rfl (ltb rfl) ((indexImm_step hG rfl rfl rfl hi149 rfl rfl rfl rfl hc148).rd _) ?_
    refine yTL hG 5 (by kernel_rfl) rfl ?_
    refine AAny.each (rs := [1, 6]) (by kernel_rfl) (fun h => by cases h) (fun i hi => ?_)
    simp only [List.mem_cons, List.not_mem_nil, or_false] at hi
    rcases hi with rfl | rfl
    ·refine yI rfl rfl (g_Clip_Form_ex q1 f1 ks1 _ _) (callK_retN ?_)
     skip
     refine AAny.one (i := 6) (by kernel_rfl) (AOp.step rfl rfl rfl (ltb rfl) (buildSlice_step (d := 54) hG rfl rfl rfl rfl rfl (by rfl) (by rfl) (by rfl) (by decide)) yE ?_)
     obtain ⟨hc150, hM⟩ := chk_t hM
     try rw [show ((fers ks1) ++ [(F.mk k147 n147 (fers ks147))] : List F) = (fers (ks1 ++ [LF.mk k147 n147 q147 f147 ks147])) from fers_app ks1 [LF.mk k147 n147 q147 f147 ks147]] at hM
     refine AAny.one (i := 7) (by kernel_rfl) (AOp.step rfl rfl rfl (ltb rfl) (appendFM_step (d := 55) hG rfl rfl rfl rfl rfl rfl rfl (fcellss_sz ks1) rfl (fcellss_sz ([LF.mk k147 n147 q147 f147 ks147])) (flen ks1) (flen ([LF.mk k147 n147 q147 f147 ks147])) (by simp [fers]) hc150 (by decide) (fcellss_app _ _)) yE ?_)
     refine yTW 8 (by kernel_rfl) rfl ?_
     refine AAny.done (by kernel_rfl) ?_
     exact ⟨tk137, false, (ks1 ++ [LF.mk k147 n147 q147 f147 ks147]), (tk137 + 1), (show tk137 ≤ (tk137 + 1) by omega), hM, Sub.trans (Sub.freeze (k := 55) rfl rfl) (Sub.trans (Sub.drop (k := 54) rfl) (Sub.pk [0, 4, 6, 7, 9, 10] rfl))⟩
    refine AOp.step rfl rfl rfl (ltb rfl) (buildSlice_step (d := 54) hG rfl rfl rfl rfl rfl (by rfl) (by rfl) (by rfl) (by decide)) yE ?_
    refine yC 1 (by kernel_rfl) rfl rfl (g_Clip_Form_ex q1 f1 ks1 _ _) (callK_retN ?_)
    skip
    obtain ⟨hc151, hM⟩ := chk_t hM
    try rw [show ((fers ks1) ++ [(F.mk k147 n147 (fers ks147))] : List F) = (fers (ks1 ++ [LF.mk k147 n147 q147 f147 ks147])) from fers_app ks1 [LF.mk k147 n147 q147 f147 ks147]] at hM
    refine AAny.one (i := 7) (by kernel_rfl) (AOp.step rfl rfl rfl (ltb rfl) (appendFM_step (d := 55) hG rfl rfl rfl rfl rfl rfl rfl (fcellss_sz ks1) rfl (fcellss_sz ([LF.mk k147 n147 q147 f147 ks147])) (flen ks1) (flen ([LF.mk k147 n147 q147 f147 ks147])) (by simp [fers]) hc151 (by decide) (fcellss_app _ _)) yE ?_)
    refine yTW 8 (by kernel_rfl) rfl ?_
    refine AAny.done (by kernel_rfl) ?_
    exact ⟨tk137, false, (ks1 ++ [LF.mk k147 n147 q147 f147 ks147]), (tk137 + 1), (show tk137 ≤ (tk137 + 1) by omega), hM, Sub.trans (Sub.freeze (k := 55) rfl rfl) (Sub.trans (Sub.drop (k := 54) rfl) (Sub.pk [0, 4, 6, 7, 9, 10] rfl))⟩
   replace hM := ite_f hb144 hM
   refine run_skip ?_
   exact ⟨q1, f1, ks1, tk137, (show tk137 ≤ tk137 by omega), hM, Sub.pk [0, 4, 6, 7, 9, 10] rfl⟩
  clear hM
  rintro σ' ⟨q143, f143, ks143, tkj142, hle197, hM, hsub⟩
  rw [hj198] at hM
  clear hj198
  refine run_sub_code hsub ?_
  refine run_seq ?_
  refine run_sr ?_
  refine yF hG rfl ?_
  refine yD hG rfl ?_
  refine run_pu rfl (lenImm_step hG rfl rfl rfl rfl (plen _)) rfl (ltb rfl) ?_
  refine yL rfl ?_
  refine yN ?_
  refine run_block ?_
  refine run_rounds (fun m σ => ∃ (i152 : Int) (i153 : Int) (tki_proves_L3 : Nat), tkj142 ≤ tki_proves_L3 ∧ i_proves_L3 (i_proves n) n (Pf.mk k2 n2 (fers fs2) (pers ks2)) (fers ks140) (fers ks143) m i152 i153 = some r ∧ σ = ⟨[(0, .imm q143 3 f143 (fcellss ks143)), (4, .optr (.loc 4) 0 0), (6, .optr (.loc 6) 0 0), (7, .optr (.loc 7) 0 0), (9, .imm q140 3 f140 (fcellss ks140)), (10, .int .i64 i152), (57, .imm q2 4 f2 (pcellss ks2)), (58, .int .i64 (((pers ks2)).length : Int)), (59, .int .i64 i153)], [(7, ⟨170, 5, true, [[.int .i64 2, .int .i64 1, .str ⟨#[115, 110, 100]⟩, .fn (.func 185) [] [], .fn (.func 188) [] []]]⟩), (6, ⟨28, 3, true, [[.int .i64 0, .int .i64 0, .imm 0 3 true []]]⟩), (4, ⟨26, 4, true, [[.int .i64 k2, .int .i64 n2, .imm p2 3 e2 (fcellss fs2), .imm q2 4 f2 (pcellss ks2)]]⟩)], [], O, tki_proves_L3⟩) n (Sub.pk [0, 4, 6, 7, 9, 10, 57, 58, 59] rfl) ⟨(IntKind.i64.wrap (i3 + 1)), 0, tkj142, Nat.le_refl _, hM, rfl⟩ (fun m σ hI => ?_)
  clear hM
  obtain ⟨i152, i153, tki_proves_L3, hle196, hM, rfl⟩ := hI
  obtain _ | m := m
  ·exact absurd hM (by rw [i_proves_L3]; exact fun h => by cases h)
  rw [i_proves_L3] at hM
  refine run_sr ?_
  refine yB rfl ?_
  refine yN ?_
  refine run_seq ?_
  refine run_ifd rfl rfl (fun hb154 => ?_) (fun hb154 => ?_)
  ·replace hM := ite_t hb154 hM
   refine run_skip ?_
   refine run_seq ?_
   refine run_block ?_
   refine run_sr ?_
   refine yL rfl ?_
   obtain ⟨y155, hy156, hM⟩ := bind_t hM
   obtain ⟨k157, n157, p157, e157, fs157, q157, f157, ks157, rfl, hc158, hi159⟩ := pidx (ks := ks2) hy156
   refine run_pu rfl (indexImm_step hG rfl rfl rfl hi159 rfl rfl rfl rfl hc158) rfl (ltb rfl) ?_
   refine yD hG rfl ?_
   refine run_op rfl (alloc_step (d := 12) hG rfl rfl rfl) rfl (ltb rfl) ?_
   refine yR rfl ?_
   refine yS hG rfl ?_
   refine yN ?_
   refine run_seq ?_
   refine run_seq ?_
   refine run_draw [] (n := 10) mixed rfl yE ?_
   refine yTV 0 (by kernel_rfl) rfl ?_
   refine yTL hG 1 (by kernel_rfl) rfl ?_
   refine yTV 2 (by kernel_rfl) rfl ?_
   refine yTV 4 (by kernel_rfl) rfl ?_
   refine yTV 5 (by kernel_rfl) rfl ?_
   obtain ⟨y160, hy161, hM⟩ := bind_t hM
   obtain ⟨k162, n162, q162, f162, ks162, rfl, hc163, hi164⟩ := fidx (ks := ks140) hy161
   refine yT 6 (by kernel_rfl) rfl rfl rfl (ltb rfl) ((indexImm_step hG rfl rfl rfl hi164 rfl rfl rfl rfl hc163).rd _) ?_
   refine yTL hG 7 (by kernel_rfl) rfl ?_
   obtain ⟨z170, hg166, hM⟩ := zb_t hM
   refine yC 3 (by kernel_rfl) rfl rfl (ih_i_proves q143 f143 ks143 k157 n157 p157 e157 fs157 q157 f157 ks157 i152 hg166 _ _) (callK_retZ (fun r165 v tk167 hz173 (hle168 : tki_proves_L3 ≤ tk167) h169 => ?_) (fun c p tk167 hz (_ : tki_proves_L3 ≤ tk167) => by subst hz; obtain rfl := bd_stop hM; exact run_pan_at (⟨rfl, (show tk ≤ tk167 by omega), rfl⟩)))
   subst hz173
   replace hM := bd_ok hM
   obtain ⟨k171, n171, q171, f171, ks171, rfl, rfl, hf172⟩ := h169
   obtain ⟨r174, hg175, hM⟩ := bind_t hM
   refine yC 8 (by kernel_rfl) rfl rfl (i_sameForm_ok n k171 n171 q171 f171 ks171 k162 n162 q162 f162 ks162 hg175 _ _) (callK_retX (fun v tk176 (hle177 : tk167 ≤ tk176) h178 => ?_))
   subst h178
   refine yT 9 (by kernel_rfl) rfl rfl rfl (ltb rfl) ((aun_step rfl rfl rfl).rd _) ?_
   refine AAny.done (by kernel_rfl) ?_
   refine run_sub_code (σ' := ⟨[(0, .imm q143 3 f143 (fcellss ks143)), (4, .optr (.loc 4) 0 0), (6, .optr (.loc 6) 0 0), (7, .optr (.loc 7) 0 0), (9, .imm q140 3 f140 (fcellss ks140)), (10, .int .i64 i152), (57, .imm q2 4 f2 (pcellss ks2)), (58, .int .i64 (((pers ks2)).length : Int)), (59, .int .i64 i153), (12, .optr (.loc 12) 0 0), (73, .bool (!r174))], [(12, ⟨26, 4, true, [[.int .i64 k157, .int .i64 n157, .imm p157 3 e157 (fcellss fs157), .imm q157 4 f157 (pcellss ks157)]]⟩), (7, ⟨170, 5, true, [[.int .i64 2, .int .i64 1, .str ⟨#[115, 110, 100]⟩, .fn (.func 185) [] [], .fn (.func 188) [] []]]⟩), (6, ⟨28, 3, true, [[.int .i64 0, .int .i64 0, .imm 0 3 true []]]⟩), (4, ⟨26, 4, true, [[.int .i64 k2, .int .i64 n2, .imm p2 3 e2 (fcellss fs2), .imm q2 4 f2 (pcellss ks2)]]⟩)], [], O, tk176⟩) (Sub.env _ ⟨rfl, rfl, rfl, rfl, rfl, rfl, rfl, rfl, rfl, rfl, rfl, trivial⟩) ?_
   refine run_ifb rfl rfl (fun hb181 => ?_) (fun hb181 => ?_)
   ·replace hM := ite_t hb181 hM
    refine run_region ?_
    refine yL rfl ?_
    obtain rfl := some_t hM
    exact run_call rfl rfl rfl (ltb rfl) rfl rfl rfl yE (i_stop_ok 19 i152 _ _) (callK_retS (run_pan_at (⟨rfl, (show tk ≤ tk176 by omega), rfl⟩)))
   replace hM := ite_f hb181 hM
   refine run_skip ?_
   refine run_region ?_
   refine yL rfl ?_
   refine run_sub_ops (Sub.frbox (k := 12) (env' := [(0, .imm q143 3 f143 (fcellss ks143)), (4, .optr (.loc 4) 0 0), (6, .optr (.loc 6) 0 0), (7, .optr (.loc 7) 0 0), (9, .imm q140 3 f140 (fcellss ks140)), (10, .int .i64 i152), (57, .imm q2 4 f2 (pcellss ks2)), (58, .int .i64 (((pers ks2)).length : Int)), (59, .int .i64 i153), (12, .cptr [.int .i64 k157, .int .i64 n157, .imm p157 3 e157 (fcellss fs157), .imm q157 4 f157 (pcellss ks157)]), (73, .bool (!r174)), (76, .int .i64 i152)]) rfl rfl (.keep 0 _ _ rfl (.keep 4 _ _ rfl (.keep 6 _ _ rfl (.keep 7 _ _ rfl (.keep 9 _ _ rfl (.keep 10 _ _ rfl (.keep 57 _ _ rfl (.keep 58 _ _ rfl (.keep 59 _ _ rfl (.ptr 12 0 _ rfl (.keep 73 _ _ rfl (.keep 76 _ _ rfl .nil))))))))))))) ?_
   obtain ⟨r182, hg183, hM⟩ := bind_t hM
   refine yK rfl (i_Proof_size__c_ok n k157 n157 p157 e157 fs157 q157 f157 ks157 hg183 _ _) (callK_retX (fun v tk184 (hle185 : tk176 ≤ tk184) h186 => ?_))
   subst h186
   refine yB rfl ?_
   refine yR rfl ?_
   refine yN ?_
   refine run_blk ?_
   refine run_region ?_
   refine yB rfl ?_
   refine yL rfl ?_
   refine yN ?_
   exact run_loop_end ⟨m, _, Nat.lt_succ_self _, ⟨(IntKind.i64.wrap (i152 + r182)), (IntKind.i64.wrap (i153 + 1)), tk184, (show tkj142 ≤ tk184 by omega), hM, rfl⟩, Sub.pk [0, 4, 6, 7, 9, 10, 57, 58, 59] rfl⟩
  replace hM := ite_f hb154 hM
  refine run_exit_to rfl ?_
  refine run_sr ?_
  refine yF hG rfl ?_
  refine yD hG rfl ?_
  refine yF hG rfl ?_
  refine yD hG rfl ?_
  obtain ⟨r189, hg190, hM⟩ := bind_t hM
  refine yK rfl (i_ruleOf_c3_ok p2 e2 fs2 hg190 _ _) (callK_retX (fun v tk191 (hle192 : tki_proves_L3 ≤ tk191) h193 => ?_))
  obtain ⟨k194, n194, q194, f194, ks194, rfl, rfl, hf195⟩ := h193
  refine yS hG rfl ?_
  refine yN ?_
  refine run_ret_to ?_
  obtain rfl := some_t hM
  refine fin_x hG rfl rfl rfl (v' := .agg [.int .i64 k194, .int .i64 n194, .imm q194 3 f194 (fcellss ks194)]) (by rfl) ⟨rfl, (show tk ≤ tk191 by omega), _, rfl, ⟨k194, n194, q194, f194, ks194, rfl, rfl, fun h => by cases h⟩⟩
 replace hM := ite_f hb134 hM
 by_cases hb199 : k2 = 5
 ·replace hM := ite_t hb199 hM
  refine yK rfl (i_ruleOf_ex3 k2 hb11 hb69 hb134 hb199 _ _) (callK_retN ?_)
  refine yL rfl ?_
  refine run_pu rfl (extract_step rfl rfl rfl) rfl (ltb rfl) ?_
  refine run_pu rfl (extract_step rfl rfl rfl) rfl (ltb rfl) ?_
  refine run_op rfl (alloc_step (d := 7) hG rfl rfl rfl) rfl (ltb rfl) ?_
  refine yS hG rfl ?_
  refine yR rfl ?_
  refine yN ?_
  refine run_sub_code (σ' := ⟨[(0, .imm q1 3 f1 (fcellss ks1)), (2, .int .i64 i3), (4, .optr (.loc 4) 0 0), (6, .optr (.loc 6) 0 0), (7, .optr (.loc 7) 0 0)], [(7, ⟨170, 5, true, [[.int .i64 2, .int .i64 1, .str ⟨#[102, 117, 110, 73]⟩, .fn (.func 191) [] [], .fn (.func 192) [] []]]⟩), (6, ⟨28, 3, true, [[.int .i64 0, .int .i64 0, .imm 0 3 true []]]⟩), (4, ⟨26, 4, true, [[.int .i64 k2, .int .i64 n2, .imm p2 3 e2 (fcellss fs2), .imm q2 4 f2 (pcellss ks2)]]⟩)], [], O, tk⟩) (Sub.env _ ⟨rfl, rfl, rfl, rfl, rfl, trivial⟩) ?_
  refine run_sr ?_
  refine yF hG rfl ?_
  refine yD hG rfl ?_
  refine yF hG rfl ?_
  refine yD hG rfl ?_
  obtain ⟨r200, hg201, hM⟩ := bind_t hM
  refine yK rfl (i_ruleOf_c6_ok p2 e2 fs2 hg201 _ _) (callK_retX (fun v tk202 (hle203 : tk ≤ tk202) h204 => ?_))
  obtain ⟨q205, f205, ks205, rfl, rfl, hf206⟩ := h204
  refine yL rfl ?_
  refine yB rfl ?_
  refine yR rfl ?_
  refine yR rfl ?_
  refine yN ?_
  refine run_seq ?_
  refine run_sr ?_
  refine yF hG rfl ?_
  refine yD hG rfl ?_
  refine yB rfl ?_
  refine yN ?_
  obtain ⟨j207, hj263, hM⟩ := jn_t hM
  refine run_cutL [.code _] (fun σ' => ∃ (q208 : Nat) (f208 : Bool) (ks208 : List LF) (tkj207 : Nat), tk202 ≤ tkj207 ∧ j207 (fers ks208) = some r ∧ Sub ⟨Go.Proofs.Try.prog, S0, Go.Proofs.Try.f60.ntmps, [], fun _ => False, []⟩ σ' ⟨[(0, .imm q208 3 f208 (fcellss ks208)), (4, .optr (.loc 4) 0 0), (6, .optr (.loc 6) 0 0), (7, .optr (.loc 7) 0 0), (9, .imm q205 3 f205 (fcellss ks205)), (10, .int .i64 (IntKind.i64.wrap (i3 + 1)))], [(7, ⟨170, 5, true, [[.int .i64 2, .int .i64 1, .str ⟨#[102, 117, 110, 73]⟩, .fn (.func 191) [] [], .fn (.func 192) [] []]]⟩), (6, ⟨28, 3, true, [[.int .i64 0, .int .i64 0, .imm 0 3 true []]]⟩), (4, ⟨26, 4, true, [[.int .i64 k2, .int .i64 n2, .imm p2 3 e2 (fcellss fs2), .imm q2 4 f2 (pcellss ks2)]]⟩)], [], O, tkj207⟩) rfl ?_ ?_
  ·refine run_ifd rfl rfl (fun hb209 => ?_) (fun hb209 => ?_)
   ·replace hM := ite_t hb209 hM
    refine run_draw [] (n := 9) mixed rfl yE ?_
    refine yTV 0 (by kernel_rfl) rfl ?_
    refine yTF hG 2 (by kernel_rfl) rfl ?_
    refine yTL hG 3 (by kernel_rfl) rfl ?_
    obtain ⟨y210, hy211, hM⟩ := bind_t hM
    obtain ⟨k212, n212, q212, f212, ks212, rfl, hc213, hi214⟩ := fidx (ks := fs2) hy211
    refine yT 4 (by kernel_rfl) rfl rfl rfl (ltb rfl) ((indexImm_step hG rfl rfl rfl hi214 rfl rfl rfl rfl hc213).rd _) ?_
    refine yTL hG 5 (by kernel_rfl) rfl ?_
    refine AAny.each (rs := [1, 6]) (by kernel_rfl) (fun h => by cases h) (fun i hi => ?_)
    simp only [List.mem_cons, List.not_mem_nil, or_false] at hi
    rcases hi with rfl | rfl
    ·refine yI rfl rfl (g_Clip_Form_ex q1 f1 ks1 _ _) (callK_retN ?_)
     skip
     refine AAny.one (i := 6) (by kernel_rfl) (AOp.step rfl rfl rfl (ltb rfl) (buildSlice_step (d := 54) hG rfl rfl rfl rfl rfl (by rfl) (by rfl) (by rfl) (by decide)) yE ?_)
     obtain ⟨hc215, hM⟩ := chk_t hM
     try rw [show ((fers ks1) ++ [(F.mk k212 n212 (fers ks212))] : List F) = (fers (ks1 ++ [LF.mk k212 n212 q212 f212 ks212])) from fers_app ks1 [LF.mk k212 n212 q212 f212 ks212]] at hM
     refine AAny.one (i := 7) (by kernel_rfl) (AOp.step rfl rfl rfl (ltb rfl) (appendFM_step (d := 55) hG rfl rfl rfl rfl rfl rfl rfl (fcellss_sz ks1) rfl (fcellss_sz ([LF.mk k212 n212 q212 f212 ks212])) (flen ks1) (flen ([LF.mk k212 n212 q212 f212 ks212])) (by simp [fers]) hc215 (by decide) (fcellss_app _ _)) yE ?_)
     refine yTW 8 (by kernel_rfl) rfl ?_
     refine AAny.done (by kernel_rfl) ?_
     exact ⟨tk202, false, (ks1 ++ [LF.mk k212 n212 q212 f212 ks212]), (tk202 + 1), (show tk202 ≤ (tk202 + 1) by omega), hM, Sub.trans (Sub.freeze (k := 55) rfl rfl) (Sub.trans (Sub.drop (k := 54) rfl) (Sub.pk [0, 4, 6, 7, 9, 10] rfl))⟩
    refine AOp.step rfl rfl rfl (ltb rfl) (buildSlice_step (d := 54) hG rfl rfl rfl rfl rfl (by rfl) (by rfl) (by rfl) (by decide)) yE ?_
    refine yC 1 (by kernel_rfl) rfl rfl (g_Clip_Form_ex q1 f1 ks1 _ _) (callK_retN ?_)
    skip
    obtain ⟨hc216, hM⟩ := chk_t hM
    try rw [show ((fers ks1) ++ [(F.mk k212 n212 (fers ks212))] : List F) = (fers (ks1 ++ [LF.mk k212 n212 q212 f212 ks212])) from fers_app ks1 [LF.mk k212 n212 q212 f212 ks212]] at hM
    refine AAny.one (i := 7) (by kernel_rfl) (AOp.step rfl rfl rfl (ltb rfl) (appendFM_step (d := 55) hG rfl rfl rfl rfl rfl rfl rfl (fcellss_sz ks1) rfl (fcellss_sz ([LF.mk k212 n212 q212 f212 ks212])) (flen ks1) (flen ([LF.mk k212 n212 q212 f212 ks212])) (by simp [fers]) hc216 (by decide) (fcellss_app _ _)) yE ?_)
    refine yTW 8 (by kernel_rfl) rfl ?_
    refine AAny.done (by kernel_rfl) ?_
    exact ⟨tk202, false, (ks1 ++ [LF.mk k212 n212 q212 f212 ks212]), (tk202 + 1), (show tk202 ≤ (tk202 + 1) by omega), hM, Sub.trans (Sub.freeze (k := 55) rfl rfl) (Sub.trans (Sub.drop (k := 54) rfl) (Sub.pk [0, 4, 6, 7, 9, 10] rfl))⟩
   replace hM := ite_f hb209 hM
   refine run_skip ?_
   exact ⟨q1, f1, ks1, tk202, (show tk202 ≤ tk202 by omega), hM, Sub.pk [0, 4, 6, 7, 9, 10] rfl⟩
  clear hM
  rintro σ' ⟨q208, f208, ks208, tkj207, hle262, hM, hsub⟩
  rw [hj263] at hM
  clear hj263
  refine run_sub_code hsub ?_
  refine run_seq ?_
  refine run_sr ?_
  refine yF hG rfl ?_
  refine yD hG rfl ?_
  refine run_pu rfl (lenImm_step hG rfl rfl rfl rfl (plen _)) rfl (ltb rfl) ?_
  refine yL rfl ?_
  refine yN ?_
  refine run_block ?_
  refine run_rounds (fun m σ => ∃ (i217 : Int) (i218 : Int) (tki_proves_L4 : Nat), tkj207 ≤ tki_proves_L4 ∧ i_proves_L4 (i_proves n) n (Pf.mk k2 n2 (fers fs2) (pers ks2)) (fers ks205) (fers ks208) m i217 i218 = some r ∧ σ = ⟨[(0, .imm q208 3 f208 (fcellss ks208)), (4, .optr (.loc 4) 0 0), (6, .optr (.loc 6) 0 0), (7, .optr (.loc 7) 0 0), (9, .imm q205 3 f205 (fcellss ks205)), (10, .int .i64 i217), (57, .imm q2 4 f2 (pcellss ks2)), (58, .int .i64 (((pers ks2)).length : Int)), (59, .int .i64 i218)], [(7, ⟨170, 5, true, [[.int .i64 2, .int .i64 1, .str ⟨#[102, 117, 110, 73]⟩, .fn (.func 191) [] [], .fn (.func 192) [] []]]⟩), (6, ⟨28, 3, true, [[.int .i64 0, .int .i64 0, .imm 0 3 true []]]⟩), (4, ⟨26, 4, true, [[.int .i64 k2, .int .i64 n2, .imm p2 3 e2 (fcellss fs2), .imm q2 4 f2 (pcellss ks2)]]⟩)], [], O, tki_proves_L4⟩) n (Sub.pk [0, 4, 6, 7, 9, 10, 57, 58, 59] rfl) ⟨(IntKind.i64.wrap (i3 + 1)), 0, tkj207, Nat.le_refl _, hM, rfl⟩ (fun m σ hI => ?_)
  clear hM
  obtain ⟨i217, i218, tki_proves_L4, hle261, hM, rfl⟩ := hI
  obtain _ | m := m
  ·exact absurd hM (by rw [i_proves_L4]; exact fun h => by cases h)
  rw [i_proves_L4] at hM
  refine run_sr ?_
  refine yB rfl ?_
  refine yN ?_
  refine run_seq ?_
  refine run_ifd rfl rfl (fun hb219 => ?_) (fun hb219 => ?_)
  ·replace hM := ite_t hb219 hM
   refine run_skip ?_
   refine run_seq ?_
   refine run_block ?_
   refine run_sr ?_
   refine yL rfl ?_
   obtain ⟨y220, hy221, hM⟩ := bind_t hM
   obtain ⟨k222, n222, p222, e222, fs222, q222, f222, ks222, rfl, hc223, hi224⟩ := pidx (ks := ks2) hy221
   refine run_pu rfl (indexImm_step hG rfl rfl rfl hi224 rfl rfl rfl rfl hc223) rfl (ltb rfl) ?_
   refine yD hG rfl ?_
   refine run_op rfl (alloc_step (d := 12) hG rfl rfl rfl) rfl (ltb rfl) ?_
   refine yR rfl ?_
   refine yS hG rfl ?_
   refine yN ?_
   refine run_seq ?_
   refine run_seq ?_
   refine run_draw [] (n := 10) mixed rfl yE ?_
   refine yTV 0 (by kernel_rfl) rfl ?_
   refine yTL hG 1 (by kernel_rfl) rfl ?_
   refine yTV 2 (by kernel_rfl) rfl ?_
   refine yTV 4 (by kernel_rfl) rfl ?_
   refine yTV 5 (by kernel_rfl) rfl ?_
   obtain ⟨y225, hy226, hM⟩ := bind_t hM
   obtain ⟨k227, n227, q227, f227, ks227, rfl, hc228, hi229⟩ := fidx (ks := ks205) hy226
   refine yT 6 (by kernel_rfl) rfl rfl rfl (ltb rfl) ((indexImm_step hG rfl rfl rfl hi229 rfl rfl rfl rfl hc228).rd _) ?_
   refine yTL hG 7 (by kernel_rfl) rfl ?_
   obtain ⟨z235, hg231, hM⟩ := zb_t hM
   refine yC 3 (by kernel_rfl) rfl rfl (ih_i_proves q208 f208 ks208 k222 n222 p222 e222 fs222 q222 f222 ks222 i217 hg231 _ _) (callK_retZ (fun r230 v tk232 hz238 (hle233 : tki_proves_L4 ≤ tk232) h234 => ?_) (fun c p tk232 hz (_ : tki_proves_L4 ≤ tk232) => by subst hz; obtain rfl := bd_stop hM; exact run_pan_at (⟨rfl, (show tk ≤ tk232 by omega), rfl⟩)))
   subst hz238
   replace hM := bd_ok hM
   obtain ⟨k236, n236, q236, f236, ks236, rfl, rfl, hf237⟩ := h234
   obtain ⟨r239, hg240, hM⟩ := bind_t hM
   refine yC 8 (by kernel_rfl) rfl rfl (i_sameForm_ok n k236 n236 q236 f236 ks236 k227 n227 q227 f227 ks227 hg240 _ _) (callK_retX (fun v tk241 (hle242 : tk232 ≤ tk241) h243 => ?_))
   subst h243
   refine yT 9 (by kernel_rfl) rfl rfl rfl (ltb rfl) ((aun_step rfl rfl rfl).rd _) ?_
   refine AAny.done (by kernel_rfl) ?_
   refine run_sub_code (σ' := ⟨[(0, .imm q208 3 f208 (fcellss ks208)), (4, .optr (.loc 4) 0 0), (6, .optr (.loc 6) 0 0), (7, .optr (.loc 7) 0 0), (9, .imm q205 3 f205 (fcellss ks205)), (10, .int .i64 i217), (57, .imm q2 4 f2 (pcellss ks2)), (58, .int .i64 (((pers ks2)).length : Int)), (59, .int .i64 i218), (12, .optr (.loc 12) 0 0), (73, .bool (!r239))], [(12, ⟨26, 4, true, [[.int .i64 k222, .int .i64 n222, .imm p222 3 e222 (fcellss fs222), .imm q222 4 f222 (pcellss ks222)]]⟩), (7, ⟨170, 5, true, [[.int .i64 2, .int .i64 1, .str ⟨#[102, 117, 110, 73]⟩, .fn (.func 191) [] [], .fn (.func 192) [] []]]⟩), (6, ⟨28, 3, true, [[.int .i64 0, .int .i64 0, .imm 0 3 true []]]⟩), (4, ⟨26, 4, true, [[.int .i64 k2, .int .i64 n2, .imm p2 3 e2 (fcellss fs2), .imm q2 4 f2 (pcellss ks2)]]⟩)], [], O, tk241⟩) (Sub.env _ ⟨rfl, rfl, rfl, rfl, rfl, rfl, rfl, rfl, rfl, rfl, rfl, trivial⟩) ?_
   refine run_ifb rfl rfl (fun hb246 => ?_) (fun hb246 => ?_)
   ·replace hM := ite_t hb246 hM
    refine run_region ?_
    refine yL rfl ?_
    obtain rfl := some_t hM
    exact run_call rfl rfl rfl (ltb rfl) rfl rfl rfl yE (i_stop_ok 19 i217 _ _) (callK_retS (run_pan_at (⟨rfl, (show tk ≤ tk241 by omega), rfl⟩)))
   replace hM := ite_f hb246 hM
   refine run_skip ?_
   refine run_region ?_
   refine yL rfl ?_
   refine run_sub_ops (Sub.frbox (k := 12) (env' := [(0, .imm q208 3 f208 (fcellss ks208)), (4, .optr (.loc 4) 0 0), (6, .optr (.loc 6) 0 0), (7, .optr (.loc 7) 0 0), (9, .imm q205 3 f205 (fcellss ks205)), (10, .int .i64 i217), (57, .imm q2 4 f2 (pcellss ks2)), (58, .int .i64 (((pers ks2)).length : Int)), (59, .int .i64 i218), (12, .cptr [.int .i64 k222, .int .i64 n222, .imm p222 3 e222 (fcellss fs222), .imm q222 4 f222 (pcellss ks222)]), (73, .bool (!r239)), (76, .int .i64 i217)]) rfl rfl (.keep 0 _ _ rfl (.keep 4 _ _ rfl (.keep 6 _ _ rfl (.keep 7 _ _ rfl (.keep 9 _ _ rfl (.keep 10 _ _ rfl (.keep 57 _ _ rfl (.keep 58 _ _ rfl (.keep 59 _ _ rfl (.ptr 12 0 _ rfl (.keep 73 _ _ rfl (.keep 76 _ _ rfl .nil))))))))))))) ?_
   obtain ⟨r247, hg248, hM⟩ := bind_t hM
   refine yK rfl (i_Proof_size__c_ok n k222 n222 p222 e222 fs222 q222 f222 ks222 hg248 _ _) (callK_retX (fun v tk249 (hle250 : tk241 ≤ tk249) h251 => ?_))
   subst h251
   refine yB rfl ?_
   refine yR rfl ?_
   refine yN ?_
   refine run_blk ?_
   refine run_region ?_
   refine yB rfl ?_
   refine yL rfl ?_
   refine yN ?_
   exact run_loop_end ⟨m, _, Nat.lt_succ_self _, ⟨(IntKind.i64.wrap (i217 + r247)), (IntKind.i64.wrap (i218 + 1)), tk249, (show tkj207 ≤ tk249 by omega), hM, rfl⟩, Sub.pk [0, 4, 6, 7, 9, 10, 57, 58, 59] rfl⟩
  replace hM := ite_f hb219 hM
  refine run_exit_to rfl ?_
  refine run_sr ?_
  refine yF hG rfl ?_
  refine yD hG rfl ?_
  refine yF hG rfl ?_
  refine yD hG rfl ?_
  obtain ⟨r254, hg255, hM⟩ := bind_t hM
  refine yK rfl (i_ruleOf_c7_ok p2 e2 fs2 hg255 _ _) (callK_retX (fun v tk256 (hle257 : tki_proves_L4 ≤ tk256) h258 => ?_))
  obtain ⟨k259, n259, q259, f259, ks259, rfl, rfl, hf260⟩ := h258
  refine yS hG rfl ?_
  refine yN ?_
  refine run_ret_to ?_
  obtain rfl := some_t hM
  refine fin_x hG rfl rfl rfl (v' := .agg [.int .i64 k259, .int .i64 n259, .imm q259 3 f259 (fcellss ks259)]) (by rfl) ⟨rfl, (show tk ≤ tk256 by omega), _, rfl, ⟨k259, n259, q259, f259, ks259, rfl, rfl, fun h => by cases h⟩⟩
 replace hM := ite_f hb199 hM
 by_cases hb264 : k2 = 6
 ·replace hM := ite_t hb264 hM
  refine yK rfl (i_ruleOf_ex4 k2 hb11 hb69 hb134 hb199 hb264 _ _) (callK_retN ?_)
  refine yL rfl ?_
  refine run_pu rfl (extract_step rfl rfl rfl) rfl (ltb rfl) ?_
  refine run_pu rfl (extract_step rfl rfl rfl) rfl (ltb rfl) ?_
  refine run_op rfl (alloc_step (d := 7) hG rfl rfl rfl) rfl (ltb rfl) ?_
  refine yS hG rfl ?_
  refine yR rfl ?_
  refine yN ?_
  refine run_sub_code (σ' := ⟨[(0, .imm q1 3 f1 (fcellss ks1)), (2, .int .i64 i3), (4, .optr (.loc 4) 0 0), (6, .optr (.loc 6) 0 0), (7, .optr (.loc 7) 0 0)], [(7, ⟨170, 5, true, [[.int .i64 2, .int .i64 2, .str ⟨#[117, 115, 101]⟩, .fn (.func 194) [] [], .fn (.func 188) [] []]]⟩), (6, ⟨28, 3, true, [[.int .i64 0, .int .i64 0, .imm 0 3 true []]]⟩), (4, ⟨26, 4, true, [[.int .i64 k2, .int .i64 n2, .imm p2 3 e2 (fcellss fs2), .imm q2 4 f2 (pcellss ks2)]]⟩)], [], O, tk⟩) (Sub.env _ ⟨rfl, rfl, rfl, rfl, rfl, trivial⟩) ?_
  refine run_sr ?_
  refine yF hG rfl ?_
  refine yD hG rfl ?_
  refine yF hG rfl ?_
  refine yD hG rfl ?_
  obtain ⟨r265, hg266, hM⟩ := bind_t hM
  refine yK rfl (i_ruleOf_c8_ok p2 e2 fs2 hg266 _ _) (callK_retX (fun v tk267 (hle268 : tk ≤ tk267) h269 => ?_))
  obtain ⟨q270, f270, ks270, rfl, rfl, hf271⟩ := h269
  refine yL rfl ?_
  refine yB rfl ?_
  refine yR rfl ?_
  refine yR rfl ?_
  refine yN ?_
  refine run_seq ?_
  refine run_sr ?_
  refine yF hG rfl ?_
  refine yD hG rfl ?_
  refine yB rfl ?_
  refine yN ?_
  obtain ⟨j272, hj328, hM⟩ := jn_t hM
  refine run_cutL [.code _] (fun σ' => ∃ (q273 : Nat) (f273 : Bool) (ks273 : List LF) (tkj272 : Nat), tk267 ≤ tkj272 ∧ j272 (fers ks273) = some r ∧ Sub ⟨Go.Proofs.Try.prog, S0, Go.Proofs.Try.f60.ntmps, [], fun _ => False, []⟩ σ' ⟨[(0, .imm q273 3 f273 (fcellss ks273)), (4, .optr (.loc 4) 0 0), (6, .optr (.loc 6) 0 0), (7, .optr (.loc 7) 0 0), (9, .imm q270 3 f270 (fcellss ks270)), (10, .int .i64 (IntKind.i64.wrap (i3 + 1)))], [(7, ⟨170, 5, true, [[.int .i64 2, .int .i64 2, .str ⟨#[117, 115, 101]⟩, .fn (.func 194) [] [], .fn (.func 188) [] []]]⟩), (6, ⟨28, 3, true, [[.int .i64 0, .int .i64 0, .imm 0 3 true []]]⟩), (4, ⟨26, 4, true, [[.int .i64 k2, .int .i64 n2, .imm p2 3 e2 (fcellss fs2), .imm q2 4 f2 (pcellss ks2)]]⟩)], [], O, tkj272⟩) rfl ?_ ?_
  ·refine run_ifd rfl rfl (fun hb274 => ?_) (fun hb274 => ?_)
   ·replace hM := ite_t hb274 hM
    refine run_draw [] (n := 9) mixed rfl yE ?_
    refine yTV 0 (by kernel_rfl) rfl ?_
    refine yTF hG 2 (by kernel_rfl) rfl ?_
    refine yTL hG 3 (by kernel_rfl) rfl ?_
    obtain ⟨y275, hy276, hM⟩ := bind_t hM
    obtain ⟨k277, n277, q277, f277, ks277, rfl, hc278, hi279⟩ := fidx (ks := fs2) hy276
    refine yT 4 (by kernel_rfl) rfl rfl rfl (ltb rfl) ((indexImm_step hG rfl rfl rfl hi279 rfl rfl rfl rfl hc278).rd _) ?_
    refine yTL hG 5 (by kernel_rfl) rfl ?_
    refine AAny.each (rs := [1, 6]) (by kernel_rfl) (fun h => by cases h) (fun i hi => ?_)
    simp only [List.mem_cons, List.not_mem_nil, or_false] at hi
    rcases hi with rfl | rfl
    ·refine yI rfl rfl (g_Clip_Form_ex q1 f1 ks1 _ _) (callK_retN ?_)
     skip
     refine AAny.one (i := 6) (by kernel_rfl) (AOp.step rfl rfl rfl (ltb rfl) (buildSlice_step (d := 54) hG rfl rfl rfl rfl rfl (by rfl) (by rfl) (by rfl) (by decide)) yE ?_)
     obtain ⟨hc280, hM⟩ := chk_t hM
     try rw [show ((fers ks1) ++ [(F.mk k277 n277 (fers ks277))] : List F) = (fers (ks1 ++ [LF.mk k277 n277 q277 f277 ks277])) from fers_app ks1 [LF.mk k277 n277 q277 f277 ks277]] at hM
     refine AAny.one (i := 7) (by kernel_rfl) (AOp.step rfl rfl rfl (ltb rfl) (appendFM_step (d := 55) hG rfl rfl rfl rfl rfl rfl rfl (fcellss_sz ks1) rfl (fcellss_sz ([LF.mk k277 n277 q277 f277 ks277])) (flen ks1) (flen ([LF.mk k277 n277 q277 f277 ks277])) (by simp [fers]) hc280 (by decide) (fcellss_app _ _)) yE ?_)
     refine yTW 8 (by kernel_rfl) rfl ?_
     refine AAny.done (by kernel_rfl) ?_
     exact ⟨tk267, false, (ks1 ++ [LF.mk k277 n277 q277 f277 ks277]), (tk267 + 1), (show tk267 ≤ (tk267 + 1) by omega), hM, Sub.trans (Sub.freeze (k := 55) rfl rfl) (Sub.trans (Sub.drop (k := 54) rfl) (Sub.pk [0, 4, 6, 7, 9, 10] rfl))⟩
    refine AOp.step rfl rfl rfl (ltb rfl) (buildSlice_step (d := 54) hG rfl rfl rfl rfl rfl (by rfl) (by rfl) (by rfl) (by decide)) yE ?_
    refine yC 1 (by kernel_rfl) rfl rfl (g_Clip_Form_ex q1 f1 ks1 _ _) (callK_retN ?_)
    skip
    obtain ⟨hc281, hM⟩ := chk_t hM
    try rw [show ((fers ks1) ++ [(F.mk k277 n277 (fers ks277))] : List F) = (fers (ks1 ++ [LF.mk k277 n277 q277 f277 ks277])) from fers_app ks1 [LF.mk k277 n277 q277 f277 ks277]] at hM
    refine AAny.one (i := 7) (by kernel_rfl) (AOp.step rfl rfl rfl (ltb rfl) (appendFM_step (d := 55) hG rfl rfl rfl rfl rfl rfl rfl (fcellss_sz ks1) rfl (fcellss_sz ([LF.mk k277 n277 q277 f277 ks277])) (flen ks1) (flen ([LF.mk k277 n277 q277 f277 ks277])) (by simp [fers]) hc281 (by decide) (fcellss_app _ _)) yE ?_)
    refine yTW 8 (by kernel_rfl) rfl ?_
    refine AAny.done (by kernel_rfl) ?_
    exact ⟨tk267, false, (ks1 ++ [LF.mk k277 n277 q277 f277 ks277]), (tk267 + 1), (show tk267 ≤ (tk267 + 1) by omega), hM, Sub.trans (Sub.freeze (k := 55) rfl rfl) (Sub.trans (Sub.drop (k := 54) rfl) (Sub.pk [0, 4, 6, 7, 9, 10] rfl))⟩
   replace hM := ite_f hb274 hM
   refine run_skip ?_
   exact ⟨q1, f1, ks1, tk267, (show tk267 ≤ tk267 by omega), hM, Sub.pk [0, 4, 6, 7, 9, 10] rfl⟩
  clear hM
  rintro σ' ⟨q273, f273, ks273, tkj272, hle327, hM, hsub⟩
  rw [hj328] at hM
  clear hj328
  refine run_sub_code hsub ?_
  refine run_seq ?_
  refine run_sr ?_
  refine yF hG rfl ?_
  refine yD hG rfl ?_
  refine run_pu rfl (lenImm_step hG rfl rfl rfl rfl (plen _)) rfl (ltb rfl) ?_
  refine yL rfl ?_
  refine yN ?_
  refine run_block ?_
  refine run_rounds (fun m σ => ∃ (i282 : Int) (i283 : Int) (tki_proves_L5 : Nat), tkj272 ≤ tki_proves_L5 ∧ i_proves_L3 (i_proves n) n (Pf.mk k2 n2 (fers fs2) (pers ks2)) (fers ks270) (fers ks273) m i282 i283 = some r ∧ σ = ⟨[(0, .imm q273 3 f273 (fcellss ks273)), (4, .optr (.loc 4) 0 0), (6, .optr (.loc 6) 0 0), (7, .optr (.loc 7) 0 0), (9, .imm q270 3 f270 (fcellss ks270)), (10, .int .i64 i282), (57, .imm q2 4 f2 (pcellss ks2)), (58, .int .i64 (((pers ks2)).length : Int)), (59, .int .i64 i283)], [(7, ⟨170, 5, true, [[.int .i64 2, .int .i64 2, .str ⟨#[117, 115, 101]⟩, .fn (.func 194) [] [], .fn (.func 188) [] []]]⟩), (6, ⟨28, 3, true, [[.int .i64 0, .int .i64 0, .imm 0 3 true []]]⟩), (4, ⟨26, 4, true, [[.int .i64 k2, .int .i64 n2, .imm p2 3 e2 (fcellss fs2), .imm q2 4 f2 (pcellss ks2)]]⟩)], [], O, tki_proves_L5⟩) n (Sub.pk [0, 4, 6, 7, 9, 10, 57, 58, 59] rfl) ⟨(IntKind.i64.wrap (i3 + 1)), 0, tkj272, Nat.le_refl _, hM, rfl⟩ (fun m σ hI => ?_)
  clear hM
  obtain ⟨i282, i283, tki_proves_L5, hle326, hM, rfl⟩ := hI
  obtain _ | m := m
  ·exact absurd hM (by rw [i_proves_L3]; exact fun h => by cases h)
  rw [i_proves_L3] at hM
  refine run_sr ?_
  refine yB rfl ?_
  refine yN ?_
  refine run_seq ?_
  refine run_ifd rfl rfl (fun hb284 => ?_) (fun hb284 => ?_)
  ·replace hM := ite_t hb284 hM
   refine run_skip ?_
   refine run_seq ?_
   refine run_block ?_
   refine run_sr ?_
   refine yL rfl ?_
   obtain ⟨y285, hy286, hM⟩ := bind_t hM
   obtain ⟨k287, n287, p287, e287, fs287, q287, f287, ks287, rfl, hc288, hi289⟩ := pidx (ks := ks2) hy286
   refine run_pu rfl (indexImm_step hG rfl rfl rfl hi289 rfl rfl rfl rfl hc288) rfl (ltb rfl) ?_
   refine yD hG rfl ?_
   refine run_op rfl (alloc_step (d := 12) hG rfl rfl rfl) rfl (ltb rfl) ?_
   refine yR rfl ?_
   refine yS hG rfl ?_
   refine yN ?_
   refine run_seq ?_
   refine run_seq ?_
   refine run_draw [] (n := 10) mixed rfl yE ?_
   refine yTV 0 (by kernel_rfl) rfl ?_
   refine yTL hG 1 (by kernel_rfl) rfl ?_
   refine yTV 2 (by kernel_rfl) rfl ?_
   refine yTV 4 (by kernel_rfl) rfl ?_
   refine yTV 5 (by kernel_rfl) rfl ?_
   obtain ⟨y290, hy291, hM⟩ := bind_t hM
   obtain ⟨k292, n292, q292, f292, ks292, rfl, hc293, hi294⟩ := fidx (ks := ks270) hy291
   refine yT 6 (by kernel_rfl) rfl rfl rfl (ltb rfl) ((indexImm_step hG rfl rfl rfl hi294 rfl rfl rfl rfl hc293).rd _) ?_
   refine yTL hG 7 (by kernel_rfl) rfl ?_
   obtain ⟨z300, hg296, hM⟩ := zb_t hM
   refine yC 3 (by kernel_rfl) rfl rfl (ih_i_proves q273 f273 ks273 k287 n287 p287 e287 fs287 q287 f287 ks287 i282 hg296 _ _) (callK_retZ (fun r295 v tk297 hz303 (hle298 : tki_proves_L5 ≤ tk297) h299 => ?_) (fun c p tk297 hz (_ : tki_proves_L5 ≤ tk297) => by subst hz; obtain rfl := bd_stop hM; exact run_pan_at (⟨rfl, (show tk ≤ tk297 by omega), rfl⟩)))
   subst hz303
   replace hM := bd_ok hM
   obtain ⟨k301, n301, q301, f301, ks301, rfl, rfl, hf302⟩ := h299
   obtain ⟨r304, hg305, hM⟩ := bind_t hM
   refine yC 8 (by kernel_rfl) rfl rfl (i_sameForm_ok n k301 n301 q301 f301 ks301 k292 n292 q292 f292 ks292 hg305 _ _) (callK_retX (fun v tk306 (hle307 : tk297 ≤ tk306) h308 => ?_))
   subst h308
   refine yT 9 (by kernel_rfl) rfl rfl rfl (ltb rfl) ((aun_step rfl rfl rfl).rd _) ?_
   refine AAny.done (by kernel_rfl) ?_
   refine run_sub_code (σ' := ⟨[(0, .imm q273 3 f273 (fcellss ks273)), (4, .optr (.loc 4) 0 0), (6, .optr (.loc 6) 0 0), (7, .optr (.loc 7) 0 0), (9, .imm q270 3 f270 (fcellss ks270)), (10, .int .i64 i282), (57, .imm q2 4 f2 (pcellss ks2)), (58, .int .i64 (((pers ks2)).length : Int)), (59, .int .i64 i283), (12, .optr (.loc 12) 0 0), (73, .bool (!r304))], [(12, ⟨26, 4, true, [[.int .i64 k287, .int .i64 n287, .imm p287 3 e287 (fcellss fs287), .imm q287 4 f287 (pcellss ks287)]]⟩), (7, ⟨170, 5, true, [[.int .i64 2, .int .i64 2, .str ⟨#[117, 115, 101]⟩, .fn (.func 194) [] [], .fn (.func 188) [] []]]⟩), (6, ⟨28, 3, true, [[.int .i64 0, .int .i64 0, .imm 0 3 true []]]⟩), (4, ⟨26, 4, true, [[.int .i64 k2, .int .i64 n2, .imm p2 3 e2 (fcellss fs2), .imm q2 4 f2 (pcellss ks2)]]⟩)], [], O, tk306⟩) (Sub.env _ ⟨rfl, rfl, rfl, rfl, rfl, rfl, rfl, rfl, rfl, rfl, rfl, trivial⟩) ?_
   refine run_ifb rfl rfl (fun hb311 => ?_) (fun hb311 => ?_)
   ·replace hM := ite_t hb311 hM
    refine run_region ?_
    refine yL rfl ?_
    obtain rfl := some_t hM
    exact run_call rfl rfl rfl (ltb rfl) rfl rfl rfl yE (i_stop_ok 19 i282 _ _) (callK_retS (run_pan_at (⟨rfl, (show tk ≤ tk306 by omega), rfl⟩)))
   replace hM := ite_f hb311 hM
   refine run_skip ?_
   refine run_region ?_
   refine yL rfl ?_
   refine run_sub_ops (Sub.frbox (k := 12) (env' := [(0, .imm q273 3 f273 (fcellss ks273)), (4, .optr (.loc 4) 0 0), (6, .optr (.loc 6) 0 0), (7, .optr (.loc 7) 0 0), (9, .imm q270 3 f270 (fcellss ks270)), (10, .int .i64 i282), (57, .imm q2 4 f2 (pcellss ks2)), (58, .int .i64 (((pers ks2)).length : Int)), (59, .int .i64 i283), (12, .cptr [.int .i64 k287, .int .i64 n287, .imm p287 3 e287 (fcellss fs287), .imm q287 4 f287 (pcellss ks287)]), (73, .bool (!r304)), (76, .int .i64 i282)]) rfl rfl (.keep 0 _ _ rfl (.keep 4 _ _ rfl (.keep 6 _ _ rfl (.keep 7 _ _ rfl (.keep 9 _ _ rfl (.keep 10 _ _ rfl (.keep 57 _ _ rfl (.keep 58 _ _ rfl (.keep 59 _ _ rfl (.ptr 12 0 _ rfl (.keep 73 _ _ rfl (.keep 76 _ _ rfl .nil))))))))))))) ?_
   obtain ⟨r312, hg313, hM⟩ := bind_t hM
   refine yK rfl (i_Proof_size__c_ok n k287 n287 p287 e287 fs287 q287 f287 ks287 hg313 _ _) (callK_retX (fun v tk314 (hle315 : tk306 ≤ tk314) h316 => ?_))
   subst h316
   refine yB rfl ?_
   refine yR rfl ?_
   refine yN ?_
   refine run_blk ?_
   refine run_region ?_
   refine yB rfl ?_
   refine yL rfl ?_
   refine yN ?_
   exact run_loop_end ⟨m, _, Nat.lt_succ_self _, ⟨(IntKind.i64.wrap (i282 + r312)), (IntKind.i64.wrap (i283 + 1)), tk314, (show tkj272 ≤ tk314 by omega), hM, rfl⟩, Sub.pk [0, 4, 6, 7, 9, 10, 57, 58, 59] rfl⟩
  replace hM := ite_f hb284 hM
  refine run_exit_to rfl ?_
  refine run_sr ?_
  refine yF hG rfl ?_
  refine yD hG rfl ?_
  refine yF hG rfl ?_
  refine yD hG rfl ?_
  obtain ⟨r319, hg320, hM⟩ := bind_t hM
  refine yK rfl (i_ruleOf_c3_ok p2 e2 fs2 hg320 _ _) (callK_retX (fun v tk321 (hle322 : tki_proves_L5 ≤ tk321) h323 => ?_))
  obtain ⟨k324, n324, q324, f324, ks324, rfl, rfl, hf325⟩ := h323
  refine yS hG rfl ?_
  refine yN ?_
  refine run_ret_to ?_
  obtain rfl := some_t hM
  refine fin_x hG rfl rfl rfl (v' := .agg [.int .i64 k324, .int .i64 n324, .imm q324 3 f324 (fcellss ks324)]) (by rfl) ⟨rfl, (show tk ≤ tk321 by omega), _, rfl, ⟨k324, n324, q324, f324, ks324, rfl, rfl, fun h => by cases h⟩⟩
 replace hM := ite_f hb264 hM
 by_cases hb329 : k2 = 7
 ·replace hM := ite_t hb329 hM
  refine yK rfl (i_ruleOf_ex5 k2 hb11 hb69 hb134 hb199 hb264 hb329 _ _) (callK_retN ?_)
  refine yL rfl ?_
  refine run_pu rfl (extract_step rfl rfl rfl) rfl (ltb rfl) ?_
  refine run_pu rfl (extract_step rfl rfl rfl) rfl (ltb rfl) ?_
  refine run_op rfl (alloc_step (d := 7) hG rfl rfl rfl) rfl (ltb rfl) ?_
  refine yS hG rfl ?_
  refine yR rfl ?_
  refine yN ?_
  refine run_sub_code (σ' := ⟨[(0, .imm q1 3 f1 (fcellss ks1)), (2, .int .i64 i3), (4, .optr (.loc 4) 0 0), (6, .optr (.loc 6) 0 0), (7, .optr (.loc 7) 0 0)], [(7, ⟨170, 5, true, [[.int .i64 1, .int .i64 1, .str ⟨#[98, 111, 116, 69]⟩, .fn (.func 195) [] [], .fn (.func 187) [] []]]⟩), (6, ⟨28, 3, true, [[.int .i64 0, .int .i64 0, .imm 0 3 true []]]⟩), (4, ⟨26, 4, true, [[.int .i64 k2, .int .i64 n2, .imm p2 3 e2 (fcellss fs2), .imm q2 4 f2 (pcellss ks2)]]⟩)], [], O, tk⟩) (Sub.env _ ⟨rfl, rfl, rfl, rfl, rfl, trivial⟩) ?_
  refine run_sr ?_
  refine yF hG rfl ?_
  refine yD hG rfl ?_
  refine yF hG rfl ?_
  refine yD hG rfl ?_
  refine yK rfl (i_ruleOf_c9_ex p2 e2 fs2 _ _) (callK_retN ?_)
  skip
  refine yL rfl ?_
  refine yB rfl ?_
  refine yR rfl ?_
  refine yR rfl ?_
  refine yN ?_
  refine run_seq ?_
  refine run_sr ?_
  refine yF hG rfl ?_
  refine yD hG rfl ?_
  refine yB rfl ?_
  refine yN ?_
  obtain ⟨j330, hj386, hM⟩ := jn_t hM
  refine run_cutL [.code _] (fun σ' => ∃ (q331 : Nat) (f331 : Bool) (ks331 : List LF) (tkj330 : Nat), (tk + 1) ≤ tkj330 ∧ j330 (fers ks331) = some r ∧ Sub ⟨Go.Proofs.Try.prog, S0, Go.Proofs.Try.f60.ntmps, [], fun _ => False, []⟩ σ' ⟨[(0, .imm q331 3 f331 (fcellss ks331)), (4, .optr (.loc 4) 0 0), (6, .optr (.loc 6) 0 0), (7, .optr (.loc 7) 0 0), (9, .imm tk 3 false (fcellss [LF.mk 4 0 0 true []])), (10, .int .i64 (IntKind.i64.wrap (i3 + 1)))], [(7, ⟨170, 5, true, [[.int .i64 1, .int .i64 1, .str ⟨#[98, 111, 116, 69]⟩, .fn (.func 195) [] [], .fn (.func 187) [] []]]⟩), (6, ⟨28, 3, true, [[.int .i64 0, .int .i64 0, .imm 0 3 true []]]⟩), (4, ⟨26, 4, true, [[.int .i64 k2, .int .i64 n2, .imm p2 3 e2 (fcellss fs2), .imm q2 4 f2 (pcellss ks2)]]⟩)], [], O, tkj330⟩) rfl ?_ ?_
  ·refine run_ifd rfl rfl (fun hb332 => ?_) (fun hb332 => ?_)
   ·replace hM := ite_t hb332 hM
    refine run_draw [] (n := 9) mixed rfl yE ?_
    refine yTV 0 (by kernel_rfl) rfl ?_
    refine yTF hG 2 (by kernel_rfl) rfl ?_
    refine yTL hG 3 (by kernel_rfl) rfl ?_
    obtain ⟨y333, hy334, hM⟩ := bind_t hM
    obtain ⟨k335, n335, q335, f335, ks335, rfl, hc336, hi337⟩ := fidx (ks := fs2) hy334
    refine yT 4 (by kernel_rfl) rfl rfl rfl (ltb rfl) ((indexImm_step hG rfl rfl rfl hi337 rfl rfl rfl rfl hc336).rd _) ?_
    refine yTL hG 5 (by kernel_rfl) rfl ?_
    refine AAny.each (rs := [1, 6]) (by kernel_rfl) (fun h => by cases h) (fun i hi => ?_)
    simp only [List.mem_cons, List.not_mem_nil, or_false] at hi
    rcases hi with rfl | rfl
    ·refine yI rfl rfl (g_Clip_Form_ex q1 f1 ks1 _ _) (callK_retN ?_)
     skip
     refine AAny.one (i := 6) (by kernel_rfl) (AOp.step rfl rfl rfl (ltb rfl) (buildSlice_step (d := 54) hG rfl rfl rfl rfl rfl (by rfl) (by rfl) (by rfl) (by decide)) yE ?_)
     obtain ⟨hc338, hM⟩ := chk_t hM
     try rw [show ((fers ks1) ++ [(F.mk k335 n335 (fers ks335))] : List F) = (fers (ks1 ++ [LF.mk k335 n335 q335 f335 ks335])) from fers_app ks1 [LF.mk k335 n335 q335 f335 ks335]] at hM
     refine AAny.one (i := 7) (by kernel_rfl) (AOp.step rfl rfl rfl (ltb rfl) (appendFM_step (d := 55) hG rfl rfl rfl rfl rfl rfl rfl (fcellss_sz ks1) rfl (fcellss_sz ([LF.mk k335 n335 q335 f335 ks335])) (flen ks1) (flen ([LF.mk k335 n335 q335 f335 ks335])) (by simp [fers]) hc338 (by decide) (fcellss_app _ _)) yE ?_)
     refine yTW 8 (by kernel_rfl) rfl ?_
     refine AAny.done (by kernel_rfl) ?_
     exact ⟨(tk + 1), false, (ks1 ++ [LF.mk k335 n335 q335 f335 ks335]), ((tk + 1) + 1), (show (tk + 1) ≤ ((tk + 1) + 1) by omega), hM, Sub.trans (Sub.freeze (k := 55) rfl rfl) (Sub.trans (Sub.drop (k := 54) rfl) (Sub.pk [0, 4, 6, 7, 9, 10] rfl))⟩
    refine AOp.step rfl rfl rfl (ltb rfl) (buildSlice_step (d := 54) hG rfl rfl rfl rfl rfl (by rfl) (by rfl) (by rfl) (by decide)) yE ?_
    refine yC 1 (by kernel_rfl) rfl rfl (g_Clip_Form_ex q1 f1 ks1 _ _) (callK_retN ?_)
    skip
    obtain ⟨hc339, hM⟩ := chk_t hM
    try rw [show ((fers ks1) ++ [(F.mk k335 n335 (fers ks335))] : List F) = (fers (ks1 ++ [LF.mk k335 n335 q335 f335 ks335])) from fers_app ks1 [LF.mk k335 n335 q335 f335 ks335]] at hM
    refine AAny.one (i := 7) (by kernel_rfl) (AOp.step rfl rfl rfl (ltb rfl) (appendFM_step (d := 55) hG rfl rfl rfl rfl rfl rfl rfl (fcellss_sz ks1) rfl (fcellss_sz ([LF.mk k335 n335 q335 f335 ks335])) (flen ks1) (flen ([LF.mk k335 n335 q335 f335 ks335])) (by simp [fers]) hc339 (by decide) (fcellss_app _ _)) yE ?_)
    refine yTW 8 (by kernel_rfl) rfl ?_
    refine AAny.done (by kernel_rfl) ?_
    exact ⟨(tk + 1), false, (ks1 ++ [LF.mk k335 n335 q335 f335 ks335]), ((tk + 1) + 1), (show (tk + 1) ≤ ((tk + 1) + 1) by omega), hM, Sub.trans (Sub.freeze (k := 55) rfl rfl) (Sub.trans (Sub.drop (k := 54) rfl) (Sub.pk [0, 4, 6, 7, 9, 10] rfl))⟩
   replace hM := ite_f hb332 hM
   refine run_skip ?_
   exact ⟨q1, f1, ks1, (tk + 1), (show (tk + 1) ≤ (tk + 1) by omega), hM, Sub.pk [0, 4, 6, 7, 9, 10] rfl⟩
  clear hM
  rintro σ' ⟨q331, f331, ks331, tkj330, hle385, hM, hsub⟩
  rw [hj386] at hM
  clear hj386
  refine run_sub_code hsub ?_
  refine run_seq ?_
  refine run_sr ?_
  refine yF hG rfl ?_
  refine yD hG rfl ?_
  refine run_pu rfl (lenImm_step hG rfl rfl rfl rfl (plen _)) rfl (ltb rfl) ?_
  refine yL rfl ?_
  refine yN ?_
  refine run_block ?_
  refine run_rounds (fun m σ => ∃ (i340 : Int) (i341 : Int) (tki_proves_L6 : Nat), tkj330 ≤ tki_proves_L6 ∧ i_proves_L6 (i_proves n) n (Pf.mk k2 n2 (fers fs2) (pers ks2)) (fers ks331) m i340 i341 = some r ∧ σ = ⟨[(0, .imm q331 3 f331 (fcellss ks331)), (4, .optr (.loc 4) 0 0), (6, .optr (.loc 6) 0 0), (7, .optr (.loc 7) 0 0), (9, .imm tk 3 false (fcellss [LF.mk 4 0 0 true []])), (10, .int .i64 i340), (57, .imm q2 4 f2 (pcellss ks2)), (58, .int .i64 (((pers ks2)).length : Int)), (59, .int .i64 i341)], [(7, ⟨170, 5, true, [[.int .i64 1, .int .i64 1, .str ⟨#[98, 111, 116, 69]⟩, .fn (.func 195) [] [], .fn (.func 187) [] []]]⟩), (6, ⟨28, 3, true, [[.int .i64 0, .int .i64 0, .imm 0 3 true []]]⟩), (4, ⟨26, 4, true, [[.int .i64 k2, .int .i64 n2, .imm p2 3 e2 (fcellss fs2), .imm q2 4 f2 (pcellss ks2)]]⟩)], [], O, tki_proves_L6⟩) n (Sub.pk [0, 4, 6, 7, 9, 10, 57, 58, 59] rfl) ⟨(IntKind.i64.wrap (i3 + 1)), 0, tkj330, Nat.le_refl _, hM, rfl⟩ (fun m σ hI => ?_)
  clear hM
  obtain ⟨i340, i341, tki_proves_L6, hle384, hM, rfl⟩ := hI
  obtain _ | m := m
  ·exact absurd hM (by rw [i_proves_L6]; exact fun h => by cases h)
  rw [i_proves_L6] at hM
  refine run_sr ?_
  refine yB rfl ?_
  refine yN ?_
  refine run_seq ?_
  refine run_ifd rfl rfl (fun hb342 => ?_) (fun hb342 => ?_)
  ·replace hM := ite_t hb342 hM
   refine run_skip ?_
   refine run_seq ?_
   refine run_block ?_
   refine run_sr ?_
   refine yL rfl ?_
   obtain ⟨y343, hy344, hM⟩ := bind_t hM
   obtain ⟨k345, n345, p345, e345, fs345, q345, f345, ks345, rfl, hc346, hi347⟩ := pidx (ks := ks2) hy344
   refine run_pu rfl (indexImm_step hG rfl rfl rfl hi347 rfl rfl rfl rfl hc346) rfl (ltb rfl) ?_
   refine yD hG rfl ?_
   refine run_op rfl (alloc_step (d := 12) hG rfl rfl rfl) rfl (ltb rfl) ?_
   refine yR rfl ?_
   refine yS hG rfl ?_
   refine yN ?_
   refine run_seq ?_
   refine run_seq ?_
   refine run_draw [] (n := 10) mixed rfl yE ?_
   refine yTV 0 (by kernel_rfl) rfl ?_
   refine yTL hG 1 (by kernel_rfl) rfl ?_
   refine yTV 2 (by kernel_rfl) rfl ?_
   refine yTV 4 (by kernel_rfl) rfl ?_
   refine yTV 5 (by kernel_rfl) rfl ?_
   obtain ⟨y348, hy349, hM⟩ := bind_t hM
   obtain ⟨k350, n350, q350, f350, ks350, rfl, hc351, hi352⟩ := fidx (ks := [LF.mk 4 0 0 true []]) hy349
   refine yT 6 (by kernel_rfl) rfl rfl rfl (ltb rfl) ((indexImm_step hG rfl rfl rfl hi352 rfl rfl rfl rfl hc351).rd _) ?_
   refine yTL hG 7 (by kernel_rfl) rfl ?_
   obtain ⟨z358, hg354, hM⟩ := zb_t hM
   refine yC 3 (by kernel_rfl) rfl rfl (ih_i_proves q331 f331 ks331 k345 n345 p345 e345 fs345 q345 f345 ks345 i340 hg354 _ _) (callK_retZ (fun r353 v tk355 hz361 (hle356 : tki_proves_L6 ≤ tk355) h357 => ?_) (fun c p tk355 hz (_ : tki_proves_L6 ≤ tk355) => by subst hz; obtain rfl := bd_stop hM; exact run_pan_at (⟨rfl, (show tk ≤ tk355 by omega), rfl⟩)))
   subst hz361
   replace hM := bd_ok hM
   obtain ⟨k359, n359, q359, f359, ks359, rfl, rfl, hf360⟩ := h357
   obtain ⟨r362, hg363, hM⟩ := bind_t hM
   refine yC 8 (by kernel_rfl) rfl rfl (i_sameForm_ok n k359 n359 q359 f359 ks359 k350 n350 q350 f350 ks350 hg363 _ _) (callK_retX (fun v tk364 (hle365 : tk355 ≤ tk364) h366 => ?_))
   subst h366
   refine yT 9 (by kernel_rfl) rfl rfl rfl (ltb rfl) ((aun_step rfl rfl rfl).rd _) ?_
   refine AAny.done (by kernel_rfl) ?_
   refine run_sub_code (σ' := ⟨[(0, .imm q331 3 f331 (fcellss ks331)), (4, .optr (.loc 4) 0 0), (6, .optr (.loc 6) 0 0), (7, .optr (.loc 7) 0 0), (9, .imm tk 3 false (fcellss [LF.mk 4 0 0 true []])), (10, .int .i64 i340), (57, .imm q2 4 f2 (pcellss ks2)), (58, .int .i64 (((pers ks2)).length : Int)), (59, .int .i64 i341), (12, .optr (.loc 12) 0 0), (73, .bool (!r362))], [(12, ⟨26, 4, true, [[.int .i64 k345, .int .i64 n345, .imm p345 3 e345 (fcellss fs345), .imm q345 4 f345 (pcellss ks345)]]⟩), (7, ⟨170, 5, true, [[.int .i64 1, .int .i64 1, .str ⟨#[98, 111, 116, 69]⟩, .fn (.func 195) [] [], .fn (.func 187) [] []]]⟩), (6, ⟨28, 3, true, [[.int .i64 0, .int .i64 0, .imm 0 3 true []]]⟩), (4, ⟨26, 4, true, [[.int .i64 k2, .int .i64 n2, .imm p2 3 e2 (fcellss fs2), .imm q2 4 f2 (pcellss ks2)]]⟩)], [], O, tk364⟩) (Sub.env _ ⟨rfl, rfl, rfl, rfl, rfl, rfl, rfl, rfl, rfl, rfl, rfl, trivial⟩) ?_
   refine run_ifb rfl rfl (fun hb369 => ?_) (fun hb369 => ?_)
   ·replace hM := ite_t hb369 hM
    refine run_region ?_
    refine yL rfl ?_
    obtain rfl := some_t hM
    exact run_call rfl rfl rfl (ltb rfl) rfl rfl rfl yE (i_stop_ok 19 i340 _ _) (callK_retS (run_pan_at (⟨rfl, (show tk ≤ tk364 by omega), rfl⟩)))
   replace hM := ite_f hb369 hM
   refine run_skip ?_
   refine run_region ?_
   refine yL rfl ?_
   refine run_sub_ops (Sub.frbox (k := 12) (env' := [(0, .imm q331 3 f331 (fcellss ks331)), (4, .optr (.loc 4) 0 0), (6, .optr (.loc 6) 0 0), (7, .optr (.loc 7) 0 0), (9, .imm tk 3 false (fcellss [LF.mk 4 0 0 true []])), (10, .int .i64 i340), (57, .imm q2 4 f2 (pcellss ks2)), (58, .int .i64 (((pers ks2)).length : Int)), (59, .int .i64 i341), (12, .cptr [.int .i64 k345, .int .i64 n345, .imm p345 3 e345 (fcellss fs345), .imm q345 4 f345 (pcellss ks345)]), (73, .bool (!r362)), (76, .int .i64 i340)]) rfl rfl (.keep 0 _ _ rfl (.keep 4 _ _ rfl (.keep 6 _ _ rfl (.keep 7 _ _ rfl (.keep 9 _ _ rfl (.keep 10 _ _ rfl (.keep 57 _ _ rfl (.keep 58 _ _ rfl (.keep 59 _ _ rfl (.ptr 12 0 _ rfl (.keep 73 _ _ rfl (.keep 76 _ _ rfl .nil))))))))))))) ?_
   obtain ⟨r370, hg371, hM⟩ := bind_t hM
   refine yK rfl (i_Proof_size__c_ok n k345 n345 p345 e345 fs345 q345 f345 ks345 hg371 _ _) (callK_retX (fun v tk372 (hle373 : tk364 ≤ tk372) h374 => ?_))
   subst h374
   refine yB rfl ?_
   refine yR rfl ?_
   refine yN ?_
   refine run_blk ?_
   refine run_region ?_
   refine yB rfl ?_
   refine yL rfl ?_
   refine yN ?_
   exact run_loop_end ⟨m, _, Nat.lt_succ_self _, ⟨(IntKind.i64.wrap (i340 + r370)), (IntKind.i64.wrap (i341 + 1)), tk372, (show tkj330 ≤ tk372 by omega), hM, rfl⟩, Sub.pk [0, 4, 6, 7, 9, 10, 57, 58, 59] rfl⟩
  replace hM := ite_f hb342 hM
  refine run_exit_to rfl ?_
  refine run_sr ?_
  refine yF hG rfl ?_
  refine yD hG rfl ?_
  refine yF hG rfl ?_
  refine yD hG rfl ?_
  obtain ⟨r377, hg378, hM⟩ := bind_t hM
  refine yK rfl (i_ruleOf_c2_ok p2 e2 fs2 hg378 _ _) (callK_retX (fun v tk379 (hle380 : tki_proves_L6 ≤ tk379) h381 => ?_))
  obtain ⟨k382, n382, q382, f382, ks382, rfl, rfl, hf383⟩ := h381
  refine yS hG rfl ?_
  refine yN ?_
  refine run_ret_to ?_
  obtain rfl := some_t hM
  refine fin_x hG rfl rfl rfl (v' := .agg [.int .i64 k382, .int .i64 n382, .imm q382 3 f382 (fcellss ks382)]) (by rfl) ⟨rfl, (show tk ≤ tk379 by omega), _, rfl, ⟨k382, n382, q382, f382, ks382, rfl, rfl, fun h => by cases h⟩⟩
 replace hM := ite_f hb329 hM
 refine yK rfl (i_ruleOf_ex6 k2 hb11 hb69 hb134 hb199 hb264 hb329 _ _) (callK_retN ?_)
 refine yL rfl ?_
 refine run_pu rfl (extract_step rfl rfl rfl) rfl (ltb rfl) ?_
 refine run_pu rfl (extract_step rfl rfl rfl) rfl (ltb rfl) ?_
 refine run_op rfl (alloc_step (d := 7) hG rfl rfl rfl) rfl (ltb rfl) ?_
 refine yS hG rfl ?_
 refine yR rfl ?_
 refine yN ?_
 refine run_sub_code (σ' := ⟨[(0, .imm q1 3 f1 (fcellss ks1)), (2, .int .i64 i3), (4, .optr (.loc 4) 0 0), (6, .optr (.loc 6) 0 0), (7, .optr (.loc 7) 0 0)], [(7, ⟨170, 5, true, [[.int .i64 0, .int .i64 0, .str ⟨#[]⟩, .nilfn, .nilfn]]⟩), (6, ⟨28, 3, true, [[.int .i64 0, .int .i64 0, .imm 0 3 true []]]⟩), (4, ⟨26, 4, true, [[.int .i64 k2, .int .i64 n2, .imm p2 3 e2 (fcellss fs2), .imm q2 4 f2 (pcellss ks2)]]⟩)], [], O, tk⟩) (Sub.env _ ⟨rfl, rfl, rfl, rfl, rfl, trivial⟩) ?_
 refine run_sr ?_
 refine yF hG rfl ?_
 refine yD hG rfl ?_
 refine yF hG rfl ?_
 refine yD hG rfl ?_
 cases hM

theorem i_proves_all : ∀ (n : Nat), (i_proves_P n)
 | 0 => by intro q1 f1 ks1 k2 n2 p2 e2 fs2 q2 f2 ks2 i3 r hM; rw [i_proves] at hM; cases hM
 | n + 1 => have ih := i_proves_all n; i_proves_st n (ih)

theorem i_proves_ok (n : Nat) : i_proves_P n := i_proves_all n

end Go.Am.Ytpkeophkdemcpaa
