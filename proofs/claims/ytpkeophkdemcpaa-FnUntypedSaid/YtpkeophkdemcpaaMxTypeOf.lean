/- Printed by a program of ours: Lean functions that do what the Go functions do, and the contracts. -/
import Derived.Test.YtpkeophkdemcpaaMi4
import Derived.Test.YtpkeophkdemcpaaTypes
import Derived.Test.YtpkeophkdemcpaaMc1
import Derived.Test.YtpkeophkdemcpaaMkExpr
import Derived.Test.YtpkeophkdemcpaaMxTA
import Derived.Test.YtpkeophkdemcpaaMz
-- packed
namespace Go.Am.Ytpkeophkdemcpaa
open Go Go.Am

def i_Expr_size__c_L1 (rec_i_Expr_size__c : Pf → Option Int) (x1 : Pf) : Nat → Int → Int → Option Int
 | 0, _, _ => none
 | m + 1, i2, i3 =>
  if i3 < ((x1.kids).length : Int) then
   (idx x1.kids i3).bind fun y5 =>
   (rec_i_Expr_size__c y5).bind fun r10 =>
   i_Expr_size__c_L1 rec_i_Expr_size__c x1 m (IntKind.i64.wrap (i2 + r10)) (IntKind.i64.wrap (i3 + 1))
  else
   some i2

def i_Expr_size__c : Nat → Pf → Option Int
 | 0, _ => none
 | n + 1, x1 =>
  i_Expr_size__c_L1 (i_Expr_size__c n) x1 n 1 0

def i_Expr_size__c_P (n : Nat) : Prop := ∀ (k1 : Int) (n1 : Int) (p1 : Nat) (e1 : Bool) (fs1 : List LF) (q1 : Nat) (f1 : Bool) (ks1 : List LP) {r : Int}, i_Expr_size__c n (Pf.mk k1 n1 (fers fs1) (pers ks1)) = some r → ∀ (O : Heap) (tk : Nat), ACalls Go.Proofs.Try.prog 150 [.cptr [.int .i64 k1, .int .i64 n1, .imm p1 3 e1 (fcellss fs1), .imm q1 4 f1 (pcellss ks1)]] O tk (RetX O tk (fun v tk' => v = .int .i64 r))

set_option maxRecDepth 100000 in
theorem i_Expr_size__c_st (n : Nat) (ih_i_Expr_size__c : i_Expr_size__c_P n) : i_Expr_size__c_P (n + 1) := by
 intro k1 n1 p1 e1 fs1 q1 f1 ks1 r hM O tk
 rw [i_Expr_size__c] at hM
 refine acalls_of_run Go.Proofs.Try.func150 rfl rfl [] [] (Bor.nil _) [(0, .cptr [.int .i64 k1, .int .i64 n1, .imm p1 3 e1 (fcellss fs1), .imm q1 4 f1 (pcellss ks1)])] (.cons (.cptr _) (.nil _)) (leb rfl) (fun _ h => by cases h) (fun S0 hO htk hfz => ?_)
 refine run_sr ?_
 refine yR rfl ?_
 refine yN ?_
 refine run_sr ?_
 refine yR rfl ?_
 refine yN ?_
 refine run_seq ?_
 refine run_sr ?_
 refine yL rfl ?_
 refine run_pu rfl (nilCheck_step rfl rfl ⟨_, rfl⟩) rfl (ltb rfl) ?_
 refine yF hG rfl ?_
 refine yD hG rfl ?_
 refine run_pu rfl (lenImm_step hG rfl rfl rfl rfl (plen _)) rfl (ltb rfl) ?_
 refine yL rfl ?_
 refine yN ?_
 refine run_block ?_
 refine run_rounds (fun m σ => ∃ (i2 : Int) (i3 : Int) (tki_Expr_size__c_L1 : Nat), tk ≤ tki_Expr_size__c_L1 ∧ i_Expr_size__c_L1 (i_Expr_size__c n) (Pf.mk k1 n1 (fers fs1) (pers ks1)) m i2 i3 = some r ∧ σ = ⟨[(0, .cptr [.int .i64 k1, .int .i64 n1, .imm p1 3 e1 (fcellss fs1), .imm q1 4 f1 (pcellss ks1)]), (2, .int .i64 0), (3, .int .i64 i2), (9, .int .i64 (((pers ks1)).length : Int)), (10, .int .i64 i3)], [], [], O, tki_Expr_size__c_L1⟩) n (Sub.pk [0, 2, 3, 9, 10] rfl) ⟨1, 0, tk, Nat.le_refl _, hM, rfl⟩ (fun m σ hI => ?_)
 clear hM
 obtain ⟨i2, i3, tki_Expr_size__c_L1, hle17, hM, rfl⟩ := hI
 obtain _ | m := m
 ·exact absurd hM (by rw [i_Expr_size__c_L1]; exact fun h => by cases h)
 rw [i_Expr_size__c_L1] at hM
 refine run_sr ?_
 refine yB rfl ?_
 refine yN ?_
 refine run_seq ?_
 refine run_ifd rfl rfl (fun hb4 => ?_) (fun hb4 => ?_)
 ·replace hM := ite_t hb4 hM
  refine run_skip ?_
  refine run_seq ?_
  refine run_block ?_
  refine run_sr ?_
  refine yL rfl ?_
  refine yR rfl ?_
  refine yN ?_
  refine run_region ?_
  refine yL rfl ?_
  refine yL rfl ?_
  refine run_pu rfl (nilCheck_step rfl rfl ⟨_, rfl⟩) rfl (ltb rfl) ?_
  refine yF hG rfl ?_
  refine yD hG rfl ?_
  refine yL rfl ?_
  obtain ⟨y5, hy6, hM⟩ := bind_t hM
  obtain ⟨k7, n7, p7, e7, fs7, q7, f7, ks7, rfl, hc8, hi9⟩ := pidx (ks := ks1) hy6
  refine run_pu rfl (indexImm_step hG rfl rfl rfl hi9 rfl rfl rfl rfl hc8) rfl (ltb rfl) ?_
  obtain ⟨r10, hg11, hM⟩ := bind_t hM
  refine yK rfl (ih_i_Expr_size__c k7 n7 p7 e7 fs7 q7 f7 ks7 hg11 _ _) (callK_retX (fun v tk12 (hle13 : tki_Expr_size__c_L1 ≤ tk12) h14 => ?_))
  subst h14
  refine yB rfl ?_
  refine yR rfl ?_
  refine yN ?_
  refine run_blk ?_
  refine run_region ?_
  refine yB rfl ?_
  refine yL rfl ?_
  refine yN ?_
  exact run_loop_end ⟨m, _, Nat.lt_succ_self _, ⟨(IntKind.i64.wrap (i2 + r10)), (IntKind.i64.wrap (i3 + 1)), tk12, (show tk ≤ tk12 by omega), hM, rfl⟩, Sub.pk [0, 2, 3, 9, 10] rfl⟩
 replace hM := ite_f hb4 hM
 refine run_exit_to rfl ?_
 refine run_sr ?_
 refine yL rfl ?_
 refine yR rfl ?_
 refine yN ?_
 refine run_ret_to ?_
 obtain rfl := some_t hM
 refine fin_x hG rfl rfl rfl (v' := .int .i64 i2) (by rfl) ⟨rfl, (show tk ≤ tki_Expr_size__c_L1 by omega), _, rfl, rfl⟩

theorem i_Expr_size__c_all : ∀ (n : Nat), (i_Expr_size__c_P n)
 | 0 => by intro k1 n1 p1 e1 fs1 q1 f1 ks1 r hM; rw [i_Expr_size__c] at hM; cases hM
 | n + 1 => have ih := i_Expr_size__c_all n; i_Expr_size__c_st n (ih)

theorem i_Expr_size__c_ok (n : Nat) : i_Expr_size__c_P n := i_Expr_size__c_all n

def s_l09Size_L1 (rec_s_l09Size : Pf → Option Int) (x1 : Pf) : Nat → Int → Int → Option Int
 | 0, _, _ => none
 | m + 1, i2, i3 =>
  if i3 < ((x1.kids).length : Int) then
   (idx x1.kids i3).bind fun y5 =>
   (rec_s_l09Size y5).bind fun r10 =>
   s_l09Size_L1 rec_s_l09Size x1 m (IntKind.i64.wrap (i2 + r10)) (IntKind.i64.wrap (i3 + 1))
  else
   some i2

def s_l09Size : Nat → Pf → Option Int
 | 0, _ => none
 | n + 1, x1 =>
  s_l09Size_L1 (s_l09Size n) x1 n 1 0

def s_l09Size_P (n : Nat) : Prop := ∀ (k1 : Int) (n1 : Int) (p1 : Nat) (e1 : Bool) (fs1 : List LF) (q1 : Nat) (f1 : Bool) (ks1 : List LP) {r : Int}, s_l09Size n (Pf.mk k1 n1 (fers fs1) (pers ks1)) = some r → ∀ (O : Heap) (tk : Nat), ACalls Go.Proofs.Try.prog 161 [.agg [.int .i64 k1, .int .i64 n1, .imm p1 3 e1 (fcellss fs1), .imm q1 4 f1 (pcellss ks1)]] O tk (RetX O tk (fun v tk' => v = .int .i64 r))

set_option maxRecDepth 100000 in
theorem s_l09Size_st (n : Nat) (ih_s_l09Size : s_l09Size_P n) : s_l09Size_P (n + 1) := by
 intro k1 n1 p1 e1 fs1 q1 f1 ks1 r hM O tk
 rw [s_l09Size] at hM
 refine acalls_of_run Go.Proofs.Try.func161 rfl rfl [] [] (Bor.nil _) [(0, .agg [.int .i64 k1, .int .i64 n1, .imm p1 3 e1 (fcellss fs1), .imm q1 4 f1 (pcellss ks1)])] (.cons (.agg _) (.nil _)) (leb rfl) (fun _ h => by cases h) (fun S0 hO htk hfz => ?_)
 refine run_sr ?_
 refine run_op rfl (box_step (d := 1) rfl rfl rfl rfl rfl) rfl (ltb rfl) ?_
 refine yR rfl ?_
 refine yN ?_
 refine run_sr ?_
 refine yR rfl ?_
 refine yN ?_
 refine run_seq ?_
 refine run_sr ?_
 refine yR rfl ?_
 refine yN ?_
 refine run_block ?_
 refine run_rounds (fun m σ => ∃ (i2 : Int) (i3 : Int) (tks_l09Size_L1 : Nat), tk ≤ tks_l09Size_L1 ∧ s_l09Size_L1 (s_l09Size n) (Pf.mk k1 n1 (fers fs1) (pers ks1)) m i2 i3 = some r ∧ σ = ⟨[(1, .optr (.loc 1) 0 0), (2, .int .i64 0), (3, .int .i64 i2), (4, .int .i64 i3)], [(1, ⟨40, 4, true, [[.int .i64 k1, .int .i64 n1, .imm p1 3 e1 (fcellss fs1), .imm q1 4 f1 (pcellss ks1)]]⟩)], [], O, tks_l09Size_L1⟩) n (Sub.pk [1, 2, 3, 4] rfl) ⟨1, 0, tk, Nat.le_refl _, hM, rfl⟩ (fun m σ hI => ?_)
 clear hM
 obtain ⟨i2, i3, tks_l09Size_L1, hle17, hM, rfl⟩ := hI
 obtain _ | m := m
 ·exact absurd hM (by rw [s_l09Size_L1]; exact fun h => by cases h)
 rw [s_l09Size_L1] at hM
 refine run_seq ?_
 refine run_sr ?_
 refine yL rfl ?_
 refine yF hG rfl ?_
 refine yD hG rfl ?_
 refine run_pu rfl (lenImm_step hG rfl rfl rfl rfl (plen _)) rfl (ltb rfl) ?_
 refine yB rfl ?_
 refine yN ?_
 refine run_ifd rfl rfl (fun hb4 => ?_) (fun hb4 => ?_)
 ·replace hM := ite_t hb4 hM
  refine run_skip ?_
  refine run_seq ?_
  refine run_block ?_
  refine run_region ?_
  refine yL rfl ?_
  refine yF hG rfl ?_
  refine yD hG rfl ?_
  refine yL rfl ?_
  obtain ⟨y5, hy6, hM⟩ := bind_t hM
  obtain ⟨k7, n7, p7, e7, fs7, q7, f7, ks7, rfl, hc8, hi9⟩ := pidx (ks := ks1) hy6
  refine run_pu rfl (indexImm_step hG rfl rfl rfl hi9 rfl rfl rfl rfl hc8) rfl (ltb rfl) ?_
  refine yD hG rfl ?_
  obtain ⟨r10, hg11, hM⟩ := bind_t hM
  refine yK rfl (ih_s_l09Size k7 n7 p7 e7 fs7 q7 f7 ks7 hg11 _ _) (callK_retX (fun v tk12 (hle13 : tks_l09Size_L1 ≤ tk12) h14 => ?_))
  subst h14
  refine yB rfl ?_
  refine yR rfl ?_
  refine yN ?_
  refine run_blk ?_
  refine run_sub_code (σ' := ⟨[(1, .optr (.loc 1) 0 0), (2, .int .i64 0), (3, .int .i64 (IntKind.i64.wrap (i2 + r10))), (4, .int .i64 i3)], [(1, ⟨40, 4, true, [[.int .i64 k1, .int .i64 n1, .imm p1 3 e1 (fcellss fs1), .imm q1 4 f1 (pcellss ks1)]]⟩)], [], O, tk12⟩) (Sub.env _ ⟨rfl, rfl, rfl, rfl, trivial⟩) ?_
  refine run_region ?_
  refine yL rfl ?_
  refine yB rfl ?_
  refine yR rfl ?_
  refine yN ?_
  exact run_loop_end ⟨m, _, Nat.lt_succ_self _, ⟨(IntKind.i64.wrap (i2 + r10)), (IntKind.i64.wrap (i3 + 1)), tk12, (show tk ≤ tk12 by omega), hM, rfl⟩, Sub.pk [1, 2, 3, 4] rfl⟩
 replace hM := ite_f hb4 hM
 refine run_exit_to rfl ?_
 refine run_sr ?_
 refine yL rfl ?_
 refine yR rfl ?_
 refine yN ?_
 refine run_ret_to ?_
 obtain rfl := some_t hM
 refine fin_x hG rfl rfl rfl (v' := .int .i64 i2) (by rfl) ⟨rfl, (show tk ≤ tks_l09Size_L1 by omega), _, rfl, rfl⟩

theorem s_l09Size_all : ∀ (n : Nat), (s_l09Size_P n)
 | 0 => by intro k1 n1 p1 e1 fs1 q1 f1 ks1 r hM; rw [s_l09Size] at hM; cases hM
 | n + 1 => have ih := s_l09Size_all n; s_l09Size_st n (ih)

theorem s_l09Size_ok (n : Nat) : s_l09Size_P n := s_l09Size_all n

set_option maxRecDepth 100000 in
theorem g_Clip_Type_ex (q1 : Nat) (f1 : Bool) (ks1 : List LF) (O : Heap) (tk : Nat) : ACalls Go.Proofs.Try.prog 149 [.imm q1 3 f1 (fcellss ks1)] O tk (RetN O (.imm 1 3 true (fcellss ks1)) tk) := by
 refine acalls_of_run Go.Proofs.Try.func149 rfl rfl [] [] (Bor.nil _) [(0, .imm q1 3 f1 (fcellss ks1))] (.cons (entS rfl) (.nil _)) (leb rfl) (fun _ h => by cases h) (fun S0 hO htk hfz => ?_)
 refine run_sr ?_
 refine yR rfl ?_
 refine yN ?_
 refine run_sr ?_
 refine yL rfl ?_
 refine yL rfl ?_
 refine run_pu rfl (lenImm_step hG rfl rfl rfl rfl (flen _)) rfl (ltb rfl) ?_
 refine yL rfl ?_
 refine run_pu rfl (lenImm_step hG rfl rfl rfl rfl (flen _)) rfl (ltb rfl) ?_
 refine run_pu rfl (clip_step hG rfl rfl rfl rfl rfl rfl (flen _) rfl rfl) rfl (ltb rfl) ?_
 refine yR rfl ?_
 refine yN ?_
 refine run_ret_to ?_
 refine fin_x hG rfl rfl rfl (v' := .imm 1 3 true (fcellss ks1)) (by rfl) ⟨rfl, rfl, rfl⟩

set_option maxRecDepth 100000 in
theorem i_function_ex (k1 : Int) (n1 : Int) (q1 : Nat) (f1 : Bool) (ks1 : List LF) (k2 : Int) (n2 : Int) (q2 : Nat) (f2 : Bool) (ks2 : List LF) (O : Heap) (tk : Nat) : ACalls Go.Proofs.Try.prog 148 [.agg [.int .i64 k1, .int .i64 n1, .imm q1 3 f1 (fcellss ks1)], .agg [.int .i64 k2, .int .i64 n2, .imm q2 3 f2 (fcellss ks2)]] O tk (RetN O (.agg [.int .i64 2, .int .i64 0, .imm tk 3 false (fcellss [LF.mk k1 n1 q1 f1 ks1, LF.mk k2 n2 q2 f2 ks2])]) (tk + 1)) := by
 refine acalls_of_run Go.Proofs.Try.func148 rfl rfl [] [] (Bor.nil _) [(0, .agg [.int .i64 k1, .int .i64 n1, .imm q1 3 f1 (fcellss ks1)]), (1, .agg [.int .i64 k2, .int .i64 n2, .imm q2 3 f2 (fcellss ks2)])] (.cons (.agg _) (.cons (.agg _) (.nil _))) (leb rfl) (fun _ h => by cases h) (fun S0 hO htk hfz => ?_)
 refine run_sr ?_
 refine run_op rfl (box_step (d := 2) rfl rfl rfl rfl rfl) rfl (ltb rfl) ?_
 refine run_op rfl (box_step (d := 3) rfl rfl rfl rfl rfl) rfl (ltb rfl) ?_
 refine run_op rfl (alloc_step (d := 4) hG rfl rfl rfl) rfl (ltb rfl) ?_
 refine yN ?_
 refine run_sr ?_
 refine yD hG rfl ?_
 refine yD hG rfl ?_
 refine run_op rfl (buildSlice_step (d := 7) hG rfl rfl rfl rfl rfl (by rfl) (by rfl) (by rfl) (by decide)) rfl (ltb rfl) ?_
 refine run_pu rfl (build_step hG rfl (by rfl) rfl (fun h => by cases h) (by rfl)) rfl (ltb rfl) ?_
 refine yS hG rfl ?_
 refine yN ?_
 refine run_ret_to ?_
 refine fin_sub (Sub.freeze (k := 7) rfl rfl) ?_
 refine fin_x hG rfl rfl rfl (v' := .agg [.int .i64 2, .int .i64 0, .imm tk 3 false (fcellss [LF.mk k1 n1 q1 f1 ks1, LF.mk k2 n2 q2 f2 ks2])]) (by rfl) ⟨rfl, rfl, rfl⟩

def i_typeOf : Nat → List F → Pf → Int → Option (Rz F)
 | 0, _, _, _ => none
 | n + 1, l1, x2, i3 =>
  if x2.kind = 1 then
   if x2.n ≥ ((l1).length : Int) then
    some (.stop 7 i3)
   else
    (idx l1 (IntKind.i64.wrap ((IntKind.i64.wrap (((l1).length : Int) - 1)) - x2.n))).bind fun y6 =>
    some (.ok y6)
  else
   if x2.kind = 3 then
    (idx x2.forms 0).bind fun y12 =>
    (idx x2.forms 0).bind fun y17 =>
    (idx x2.kids 0).bind fun y22 =>
    chk ((l1).length + ([y17]).length ≤ 1099511627776) <|
    zb (i_typeOf n (l1 ++ [y17]) y22 (IntKind.i64.wrap (i3 + 1))) fun r28 =>
    some (.ok (F.mk 2 0 [y12, r28]))
   else
    (idx x2.kids 0).bind fun y47 =>
    (i_Expr_size__c n y47).bind fun r52 =>
    (idx x2.kids 0).bind fun y59 =>
    zb (i_typeOf n l1 y59 (IntKind.i64.wrap (i3 + 1))) fun r64 =>
    (idx x2.kids 1).bind fun y73 =>
    zb (i_typeOf n l1 y73 (IntKind.i64.wrap ((IntKind.i64.wrap (i3 + 1)) + r52))) fun r78 =>
    if (r64.kind != 2) = true then
     some (.stop 8 (IntKind.i64.wrap (i3 + 1)))
    else
     (idx r64.kids 0).bind fun y88 =>
     (i_sameType n y88 r78).bind fun r93 =>
     if (!r93) = true then
      some (.stop 10 (IntKind.i64.wrap ((IntKind.i64.wrap (i3 + 1)) + r52)))
     else
      (idx r64.kids 1).bind fun y101 =>
      some (.ok y101)

def i_typeOf_P (n : Nat) : Prop := ∀ (q1 : Nat) (f1 : Bool) (ks1 : List LF) (k2 : Int) (n2 : Int) (p2 : Nat) (e2 : Bool) (fs2 : List LF) (q2 : Nat) (f2 : Bool) (ks2 : List LP) (i3 : Int) {r : (Rz F)}, i_typeOf n (fers ks1) (Pf.mk k2 n2 (fers fs2) (pers ks2)) i3 = some r → ∀ (O : Heap) (tk : Nat), ACalls Go.Proofs.Try.prog 70 [.imm q1 3 f1 (fcellss ks1), .agg [.int .i64 k2, .int .i64 n2, .imm p2 3 e2 (fcellss fs2), .imm q2 4 f2 (pcellss ks2)], .int .i64 i3] O tk (RetZ HT O tk r (fun r v tk' => VF false tk tk' r v))

set_option maxHeartbeats 2000000 in
set_option maxRecDepth 100000 in
theorem i_typeOf_st (n : Nat) (ih_i_typeOf : i_typeOf_P n) : i_typeOf_P (n + 1) := by
 intro q1 f1 ks1 k2 n2 p2 e2 fs2 q2 f2 ks2 i3 r hM O tk
 rw [i_typeOf] at hM
 refine acalls_of_run Go.Proofs.Try.func70 rfl rfl [] [] (Bor.nil _) [(0, .imm q1 3 f1 (fcellss ks1)), (1, .agg [.int .i64 k2, .int .i64 n2, .imm p2 3 e2 (fcellss fs2), .imm q2 4 f2 (pcellss ks2)]), (2, .int .i64 i3)] (.cons (entS rfl) (.cons (.agg _) (.cons (entS rfl) (.nil _)))) (leb rfl) (fun _ h => by cases h) (fun S0 hO htk hfz => ?_)
 refine run_sr ?_
 refine run_op rfl (box_step (d := 4) rfl rfl rfl rfl rfl) rfl (ltb rfl) ?_
 refine run_op rfl (alloc_step (d := 6) hG rfl rfl rfl) rfl (ltb rfl) ?_
 refine yN ?_
 refine run_seq ?_
 refine run_sr ?_
 refine yF hG rfl ?_
 refine yD hG rfl ?_
 refine yN ?_
 refine run_block ?_
 refine run_sr ?_
 refine yB rfl ?_
 refine yR rfl ?_
 refine yN ?_
 refine run_ifd rfl rfl (fun hb4 => ?_) (fun hb4 => ?_)
 ·replace hM := ite_t hb4 hM
  refine run_seq ?_
  refine run_sr ?_
  refine yF hG rfl ?_
  refine yD hG rfl ?_
  refine yL rfl ?_
  refine run_pu rfl (lenImm_step hG rfl rfl rfl rfl (flen _)) rfl (ltb rfl) ?_
  refine yB rfl ?_
  refine yN ?_
  refine run_ifd rfl rfl (fun hb5 => ?_) (fun hb5 => ?_)
  ·replace hM := ite_t hb5 hM
   refine run_region ?_
   refine yL rfl ?_
   obtain rfl := some_t hM
   exact run_call rfl rfl rfl (ltb rfl) rfl rfl rfl yE (i_stop_ok 7 i3 _ _) (callK_retS (run_pan_at (⟨rfl, (show tk ≤ tk by omega), rfl⟩)))
  replace hM := ite_f hb5 hM
  refine run_skip ?_
  refine run_sr ?_
  refine yL rfl ?_
  refine yL rfl ?_
  refine run_pu rfl (lenImm_step hG rfl rfl rfl rfl (flen _)) rfl (ltb rfl) ?_
  refine yB rfl ?_
  refine yF hG rfl ?_
  refine yD hG rfl ?_
  refine yB rfl ?_
  obtain ⟨y6, hy7, hM⟩ := bind_t hM
  obtain ⟨k8, n8, q8, f8, ks8, rfl, hc9, hi10⟩ := fidx (ks := ks1) hy7
  refine run_pu rfl (indexImm_step hG rfl rfl rfl hi10 rfl rfl rfl rfl hc9) rfl (ltb rfl) ?_
  refine yD hG rfl ?_
  refine yS hG rfl ?_
  refine yN ?_
  refine run_ret_to ?_
  obtain rfl := some_t hM
  refine fin_x hG rfl rfl rfl (v' := .agg [.int .i64 k8, .int .i64 n8, .imm q8 3 f8 (fcellss ks8)]) (by rfl) ⟨rfl, (show tk ≤ tk by omega), _, rfl, ⟨k8, n8, q8, f8, ks8, rfl, rfl, fun h => by cases h⟩⟩
 replace hM := ite_f hb4 hM
 refine run_sr ?_
 refine yB rfl ?_
 refine yR rfl ?_
 refine yN ?_
 refine run_ifd rfl rfl (fun hb11 => ?_) (fun hb11 => ?_)
 ·replace hM := ite_t hb11 hM
  refine run_seq ?_
  refine run_draw [.loc 6] (n := 21) mixed rfl (by intro x hx; simp only [List.mem_cons, List.not_mem_nil, or_false] at hx; rcases hx with rfl <;> rfl) ?_
  refine yTF hG 0 (by kernel_rfl) rfl ?_
  refine yTL hG 1 (by kernel_rfl) rfl ?_
  obtain ⟨y12, hy13, hM⟩ := bind_t hM
  obtain ⟨k14, n14, q14, f14, ks14, rfl, hc15, hi16⟩ := fidx (ks := fs2) hy13
  refine yT 2 (by kernel_rfl) rfl rfl rfl (ltb rfl) ((indexImm_step hG rfl rfl rfl hi16 rfl rfl rfl rfl hc15).rd _) ?_
  refine yTL hG 3 (by kernel_rfl) rfl ?_
  refine yTV 4 (by kernel_rfl) rfl ?_
  refine yTF hG 6 (by kernel_rfl) rfl ?_
  refine yTL hG 7 (by kernel_rfl) rfl ?_
  obtain ⟨y17, hy18, hM⟩ := bind_t hM
  obtain ⟨k19, n19, q19, f19, ks19, rfl, hc20, hi21⟩ := fidx (ks := fs2) hy18
  refine yT 8 (by kernel_rfl) rfl rfl rfl (ltb rfl) ((indexImm_step hG rfl rfl rfl hi21 rfl rfl rfl rfl hc20).rd _) ?_
  refine yTL hG 9 (by kernel_rfl) rfl ?_
  refine yTF hG 12 (by kernel_rfl) rfl ?_
  refine yTL hG 13 (by kernel_rfl) rfl ?_
  obtain ⟨y22, hy23, hM⟩ := bind_t hM
  obtain ⟨k24, n24, p24, e24, fs24, q24, f24, ks24, rfl, hc25, hi26⟩ := pidx (ks := ks2) hy23
  refine yT 14 (by kernel_rfl) rfl rfl rfl (ltb rfl) ((indexImm_step hG rfl rfl rfl hi26 rfl rfl rfl rfl hc25).rd _) ?_
  refine yTL hG 15 (by kernel_rfl) rfl ?_
  refine yTV 16 (by kernel_rfl) rfl ?_
  refine yT 17 (by kernel_rfl) rfl rfl rfl (ltb rfl) ((abin_step rfl rfl rfl rfl (fun _ h => by cases h)).rd _) ?_
  refine AAny.each (rs := [5, 10]) (by kernel_rfl) (fun h => by cases h) (fun i hi => ?_)
  simp only [List.mem_cons, List.not_mem_nil, or_false] at hi
  rcases hi with rfl | rfl
  ·refine yI rfl rfl (g_Clip_Type_ex q1 f1 ks1 _ _) (callK_retN ?_)
   skip
   refine AAny.one (i := 10) (by kernel_rfl) (AOp.step rfl rfl rfl (ltb rfl) (buildSlice_step (d := 42) hG rfl rfl rfl rfl rfl (by rfl) (by rfl) (by rfl) (by decide)) yE ?_)
   obtain ⟨hc27, hM⟩ := chk_t hM
   try rw [show ((fers ks1) ++ [(F.mk k19 n19 (fers ks19))] : List F) = (fers (ks1 ++ [LF.mk k19 n19 q19 f19 ks19])) from fers_app ks1 [LF.mk k19 n19 q19 f19 ks19]] at hM
   refine AAny.one (i := 11) (by kernel_rfl) (AOp.step rfl rfl rfl (ltb rfl) (appendFM_step (d := 43) hG rfl rfl rfl rfl rfl rfl rfl (fcellss_sz ks1) rfl (fcellss_sz ([LF.mk k19 n19 q19 f19 ks19])) (flen ks1) (flen ([LF.mk k19 n19 q19 f19 ks19])) (by simp [fers]) hc27 (by decide) (fcellss_app _ _)) yE ?_)
   refine AAny.sub (Sub.freeze (k := 43) rfl rfl) (by intro x hx; simp only [List.mem_cons, List.not_mem_nil, or_false] at hx; rcases hx with rfl <;> rfl) ?_
   obtain ⟨z33, hg29, hM⟩ := zb_t hM
   refine yC 18 (by kernel_rfl) rfl rfl (ih_i_typeOf tk false (ks1 ++ [LF.mk k19 n19 q19 f19 ks19]) k24 n24 p24 e24 fs24 q24 f24 ks24 (IntKind.i64.wrap (i3 + 1)) hg29 _ _) (callK_retZ (fun r28 v tk30 hz36 (hle31 : (tk + 1) ≤ tk30) h32 => ?_) (fun c p tk30 hz (_ : (tk + 1) ≤ tk30) => by subst hz; obtain rfl := bd_stop hM; exact run_pan_at (⟨rfl, (show tk ≤ tk30 by omega), rfl⟩)))
   subst hz36
   replace hM := bd_ok hM
   obtain ⟨k34, n34, q34, f34, ks34, rfl, rfl, hf35⟩ := h32
   refine yC 19 (by kernel_rfl) rfl rfl (i_function_ex k14 n14 q14 f14 ks14 k34 n34 q34 f34 ks34 _ _) (callK_retN ?_)
   skip
   refine yW hG 20 (by kernel_rfl) rfl (by kernel_rfl) rfl ?_
   refine AAny.done (by kernel_rfl) ?_
   refine run_ret_to ?_
   obtain rfl := some_t hM
   refine fin_x hG rfl rfl rfl (v' := .agg [.int .i64 2, .int .i64 0, .imm tk30 3 false (fcellss [LF.mk k14 n14 q14 f14 ks14, LF.mk k34 n34 q34 f34 ks34])]) (by rfl) ⟨rfl, (show tk ≤ (tk30 + 1) by omega), _, rfl, ⟨2, 0, tk30, false, [LF.mk k14 n14 q14 f14 ks14, LF.mk k34 n34 q34 f34 ks34], rfl, rfl, fun h => by cases h⟩⟩
  refine AOp.step rfl rfl rfl (ltb rfl) (buildSlice_step (d := 42) hG rfl rfl rfl rfl rfl (by rfl) (by rfl) (by rfl) (by decide)) yE ?_
  refine yC 5 (by kernel_rfl) rfl rfl (g_Clip_Type_ex q1 f1 ks1 _ _) (callK_retN ?_)
  skip
  obtain ⟨hc37, hM⟩ := chk_t hM
  try rw [show ((fers ks1) ++ [(F.mk k19 n19 (fers ks19))] : List F) = (fers (ks1 ++ [LF.mk k19 n19 q19 f19 ks19])) from fers_app ks1 [LF.mk k19 n19 q19 f19 ks19]] at hM
  refine AAny.one (i := 11) (by kernel_rfl) (AOp.step rfl rfl rfl (ltb rfl) (appendFM_step (d := 43) hG rfl rfl rfl rfl rfl rfl rfl (fcellss_sz ks1) rfl (fcellss_sz ([LF.mk k19 n19 q19 f19 ks19])) (flen ks1) (flen ([LF.mk k19 n19 q19 f19 ks19])) (by simp [fers]) hc37 (by decide) (fcellss_app _ _)) yE ?_)
  refine AAny.sub (Sub.freeze (k := 43) rfl rfl) (by intro x hx; simp only [List.mem_cons, List.not_mem_nil, or_false] at hx; rcases hx with rfl <;> rfl) ?_
  obtain ⟨z43, hg39, hM⟩ := zb_t hM
  refine yC 18 (by kernel_rfl) rfl rfl (ih_i_typeOf tk false (ks1 ++ [LF.mk k19 n19 q19 f19 ks19]) k24 n24 p24 e24 fs24 q24 f24 ks24 (IntKind.i64.wrap (i3 + 1)) hg39 _ _) (callK_retZ (fun r38 v tk40 hz46 (hle41 : (tk + 1) ≤ tk40) h42 => ?_) (fun c p tk40 hz (_ : (tk + 1) ≤ tk40) => by subst hz; obtain rfl := bd_stop hM; exact run_pan_at (⟨rfl, (show tk ≤ tk40 by omega), rfl⟩)))
  subst hz46
  replace hM := bd_ok hM
  obtain ⟨k44, n44, q44, f44, ks44, rfl, rfl, hf45⟩ := h42
  refine yC 19 (by kernel_rfl) rfl rfl (i_function_ex k14 n14 q14 f14 ks14 k44 n44 q44 f44 ks44 _ _) (callK_retN ?_)
  skip
  refine yW hG 20 (by kernel_rfl) rfl (by kernel_rfl) rfl ?_
  refine AAny.done (by kernel_rfl) ?_
  refine run_ret_to ?_
  obtain rfl := some_t hM
  refine fin_x hG rfl rfl rfl (v' := .agg [.int .i64 2, .int .i64 0, .imm tk40 3 false (fcellss [LF.mk k14 n14 q14 f14 ks14, LF.mk k44 n44 q44 f44 ks44])]) (by rfl) ⟨rfl, (show tk ≤ (tk40 + 1) by omega), _, rfl, ⟨2, 0, tk40, false, [LF.mk k14 n14 q14 f14 ks14, LF.mk k44 n44 q44 f44 ks44], rfl, rfl, fun h => by cases h⟩⟩
 replace hM := ite_f hb11 hM
 refine run_skip ?_
 refine run_blk ?_
 refine run_sr ?_
 refine yL rfl ?_
 refine yB rfl ?_
 refine yF hG rfl ?_
 refine yD hG rfl ?_
 obtain ⟨y47, hy48, hM⟩ := bind_t hM
 obtain ⟨k49, n49, p49, e49, fs49, q49, f49, ks49, rfl, hc50, hi51⟩ := pidx (ks := ks2) hy48
 refine run_pu rfl (indexImm_step hG rfl rfl rfl hi51 rfl rfl rfl rfl hc50) rfl (ltb rfl) ?_
 obtain ⟨r52, hg53, hM⟩ := bind_t hM
 refine yK rfl (i_Expr_size__c_ok n k49 n49 p49 e49 fs49 q49 f49 ks49 hg53 _ _) (callK_retX (fun v tk54 (hle55 : tk ≤ tk54) h56 => ?_))
 subst h56
 refine yB rfl ?_
 refine yR rfl ?_
 refine yN ?_
 refine run_sub_code (σ' := ⟨[(0, .imm q1 3 f1 (fcellss ks1)), (2, .int .i64 i3), (4, .optr (.loc 4) 0 0), (6, .optr (.loc 6) 0 0), (7, .int .i64 (IntKind.i64.wrap ((IntKind.i64.wrap (i3 + 1)) + r52)))], [(6, ⟨42, 3, true, [[.int .i64 0, .int .i64 0, .imm 0 3 true []]]⟩), (4, ⟨40, 4, true, [[.int .i64 k2, .int .i64 n2, .imm p2 3 e2 (fcellss fs2), .imm q2 4 f2 (pcellss ks2)]]⟩)], [], O, tk54⟩) (Sub.env _ ⟨rfl, rfl, rfl, rfl, rfl, trivial⟩) ?_
 refine run_sr ?_
 refine yL rfl ?_
 refine yF hG rfl ?_
 refine yD hG rfl ?_
 obtain ⟨y59, hy60, hM⟩ := bind_t hM
 obtain ⟨k61, n61, p61, e61, fs61, q61, f61, ks61, rfl, hc62, hi63⟩ := pidx (ks := ks2) hy60
 refine run_pu rfl (indexImm_step hG rfl rfl rfl hi63 rfl rfl rfl rfl hc62) rfl (ltb rfl) ?_
 refine yD hG rfl ?_
 refine yL rfl ?_
 refine yB rfl ?_
 obtain ⟨z69, hg65, hM⟩ := zb_t hM
 refine yK rfl (ih_i_typeOf q1 f1 ks1 k61 n61 p61 e61 fs61 q61 f61 ks61 (IntKind.i64.wrap (i3 + 1)) hg65 _ _) (callK_retZ (fun r64 v tk66 hz72 (hle67 : tk54 ≤ tk66) h68 => ?_) (fun c p tk66 hz (_ : tk54 ≤ tk66) => by subst hz; obtain rfl := bd_stop hM; exact run_pan_at (⟨rfl, (show tk ≤ tk66 by omega), rfl⟩)))
 subst hz72
 replace hM := bd_ok hM
 obtain ⟨k70, n70, q70, f70, ks70, rfl, rfl, hf71⟩ := h68
 refine run_op rfl (alloc_step (d := 8) hG rfl rfl rfl) rfl (ltb rfl) ?_
 refine yS hG rfl ?_
 refine yN ?_
 refine run_sr ?_
 refine yL rfl ?_
 refine yF hG rfl ?_
 refine yD hG rfl ?_
 obtain ⟨y73, hy74, hM⟩ := bind_t hM
 obtain ⟨k75, n75, p75, e75, fs75, q75, f75, ks75, rfl, hc76, hi77⟩ := pidx (ks := ks2) hy74
 refine run_pu rfl (indexImm_step hG rfl rfl rfl hi77 rfl rfl rfl rfl hc76) rfl (ltb rfl) ?_
 refine yD hG rfl ?_
 refine yL rfl ?_
 obtain ⟨z83, hg79, hM⟩ := zb_t hM
 refine yK rfl (ih_i_typeOf q1 f1 ks1 k75 n75 p75 e75 fs75 q75 f75 ks75 (IntKind.i64.wrap ((IntKind.i64.wrap (i3 + 1)) + r52)) hg79 _ _) (callK_retZ (fun r78 v tk80 hz86 (hle81 : tk66 ≤ tk80) h82 => ?_) (fun c p tk80 hz (_ : tk66 ≤ tk80) => by subst hz; obtain rfl := bd_stop hM; exact run_pan_at (⟨rfl, (show tk ≤ tk80 by omega), rfl⟩)))
 subst hz86
 replace hM := bd_ok hM
 obtain ⟨k84, n84, q84, f84, ks84, rfl, rfl, hf85⟩ := h82
 refine run_op rfl (alloc_step (d := 9) hG rfl rfl rfl) rfl (ltb rfl) ?_
 refine yS hG rfl ?_
 refine yN ?_
 refine run_sub_code (σ' := ⟨[(2, .int .i64 i3), (6, .optr (.loc 6) 0 0), (7, .int .i64 (IntKind.i64.wrap ((IntKind.i64.wrap (i3 + 1)) + r52))), (8, .optr (.loc 8) 0 0), (9, .optr (.loc 9) 0 0)], [(9, ⟨42, 3, true, [[.int .i64 k84, .int .i64 n84, .imm q84 3 f84 (fcellss ks84)]]⟩), (8, ⟨42, 3, true, [[.int .i64 k70, .int .i64 n70, .imm q70 3 f70 (fcellss ks70)]]⟩), (6, ⟨42, 3, true, [[.int .i64 0, .int .i64 0, .imm 0 3 true []]]⟩)], [], O, tk80⟩) (Sub.trans (Sub.drop (k := 4) rfl) (Sub.env _ ⟨rfl, rfl, rfl, rfl, rfl, trivial⟩)) ?_
 refine run_seq ?_
 refine run_block ?_
 refine run_sr ?_
 refine yF hG rfl ?_
 refine yD hG rfl ?_
 refine yB rfl ?_
 refine yR rfl ?_
 refine yN ?_
 refine run_ifb rfl rfl (fun hb87 => ?_) (fun hb87 => ?_)
 ·replace hM := ite_t hb87 hM
  refine run_region ?_
  refine yL rfl ?_
  refine yB rfl ?_
  obtain rfl := some_t hM
  exact run_call rfl rfl rfl (ltb rfl) rfl rfl rfl yE (i_stop_ok 8 (IntKind.i64.wrap (i3 + 1)) _ _) (callK_retS (run_pan_at (⟨rfl, (show tk ≤ tk80 by omega), rfl⟩)))
 replace hM := ite_f hb87 hM
 refine run_seq ?_
 refine run_draw [] (n := 8) mixed rfl yE ?_
 refine yTF hG 0 (by kernel_rfl) rfl ?_
 refine yTL hG 1 (by kernel_rfl) rfl ?_
 obtain ⟨y88, hy89, hM⟩ := bind_t hM
 obtain ⟨k90, n90, q90, f90, ks90, rfl, hc91, hi92⟩ := fidx (ks := ks70) hy89
 refine yT 2 (by kernel_rfl) rfl rfl rfl (ltb rfl) ((indexImm_step hG rfl rfl rfl hi92 rfl rfl rfl rfl hc91).rd _) ?_
 refine yTL hG 3 (by kernel_rfl) rfl ?_
 refine yTL hG 4 (by kernel_rfl) rfl ?_
 obtain ⟨r93, hg94, hM⟩ := bind_t hM
 refine yC 5 (by kernel_rfl) rfl rfl (i_sameType_ok n k90 n90 q90 f90 ks90 k84 n84 q84 f84 ks84 hg94 _ _) (callK_retX (fun v tk95 (hle96 : tk80 ≤ tk95) h97 => ?_))
 subst h97
 refine yT 6 (by kernel_rfl) rfl rfl rfl (ltb rfl) ((aun_step rfl rfl rfl).rd _) ?_
 refine yTW 7 (by kernel_rfl) rfl ?_
 refine AAny.done (by kernel_rfl) ?_
 refine run_ifb rfl rfl (fun hb100 => ?_) (fun hb100 => ?_)
 ·replace hM := ite_t hb100 hM
  refine run_region ?_
  refine yL rfl ?_
  obtain rfl := some_t hM
  exact run_call rfl rfl rfl (ltb rfl) rfl rfl rfl yE (i_stop_ok 10 (IntKind.i64.wrap ((IntKind.i64.wrap (i3 + 1)) + r52)) _ _) (callK_retS (run_pan_at (⟨rfl, (show tk ≤ tk95 by omega), rfl⟩)))
 replace hM := ite_f hb100 hM
 refine run_skip ?_
 refine run_blk ?_
 refine run_sr ?_
 refine yF hG rfl ?_
 refine yD hG rfl ?_
 obtain ⟨y101, hy102, hM⟩ := bind_t hM
 obtain ⟨k103, n103, q103, f103, ks103, rfl, hc104, hi105⟩ := fidx (ks := ks70) hy102
 refine run_pu rfl (indexImm_step hG rfl rfl rfl hi105 rfl rfl rfl rfl hc104) rfl (ltb rfl) ?_
 refine yD hG rfl ?_
 refine yS hG rfl ?_
 refine yN ?_
 refine run_ret_to ?_
 obtain rfl := some_t hM
 refine fin_x hG rfl rfl rfl (v' := .agg [.int .i64 k103, .int .i64 n103, .imm q103 3 f103 (fcellss ks103)]) (by rfl) ⟨rfl, (show tk ≤ tk95 by omega), _, rfl, ⟨k103, n103, q103, f103, ks103, rfl, rfl, fun h => by cases h⟩⟩

theorem i_typeOf_all : ∀ (n : Nat), (i_typeOf_P n)
 | 0 => by intro q1 f1 ks1 k2 n2 p2 e2 fs2 q2 f2 ks2 i3 r hM; rw [i_typeOf] at hM; cases hM
 | n + 1 => have ih := i_typeOf_all n; i_typeOf_st n (ih)

theorem i_typeOf_ok (n : Nat) : i_typeOf_P n := i_typeOf_all n

def i_TypeOf_c1 (n : Nat) (l1 : List F) (x2 : Pf) (x3 : F) : Option (Rz F) :=
 zb (i_typeOf n l1 x2 0) fun r4 =>
 some (.ok r4)

set_option maxRecDepth 100000 in
theorem i_TypeOf_c1_ok (n : Nat) : ∀ (X0 : ID) (q1 : Nat) (f1 : Bool) (ks1 : List LF) (X1 : ID) (k2 : Int) (n2 : Int) (p2 : Nat) (e2 : Bool) (fs2 : List LF) (q2 : Nat) (f2 : Bool) (ks2 : List LP) (X2 : ID) (k3 : Int) (n3 : Int) (q3 : Nat) (f3 : Bool) (ks3 : List LF) {r : (Rz F)}, i_TypeOf_c1 n (fers ks1) (Pf.mk k2 n2 (fers fs2) (pers ks2)) (F.mk k3 n3 (fers ks3)) = some r → ∀ (O : Heap) (tk : Nat), O X0 = some ⟨37, 1, true, [[.imm q1 3 f1 (fcellss ks1)]]⟩ → O X1 = some ⟨40, 4, true, [[.int .i64 k2, .int .i64 n2, .imm p2 3 e2 (fcellss fs2), .imm q2 4 f2 (pcellss ks2)]]⟩ → O X2 = some ⟨42, 3, true, [[.int .i64 k3, .int .i64 n3, .imm q3 3 f3 (fcellss ks3)]]⟩ → X0 ≠ X1 → X0 ≠ X2 → X1 ≠ X2 → ACalls Go.Proofs.Try.prog 69 [.optr X0 0 0, .optr X1 0 0, .optr X2 0 0] O tk (RetVZ HT O X2 tk r (fun r v o' tk' => ∃ cs, o' = ⟨42, 3, true, [cs]⟩ ∧ VF false tk tk' r (.agg cs) ∧ v = .tup []) (fun o' => o'.up = o')) := by
 intro X0 q1 f1 ks1 X1 k2 n2 p2 e2 fs2 q2 f2 ks2 X2 k3 n3 q3 f3 ks3 r hM O tk hX0 hX1 hX2 hN01 hN02 hN12
 unfold i_TypeOf_c1 at hM
 refine acalls_of_run Go.Proofs.Try.func69 rfl rfl [X0, X1, X2] [⟨37, 1, true, [[.imm q1 3 f1 (fcellss ks1)]]⟩, ⟨40, 4, true, [[.int .i64 k2, .int .i64 n2, .imm p2 3 e2 (fcellss fs2), .imm q2 4 f2 (pcellss ks2)]]⟩, ⟨42, 3, true, [[.int .i64 k3, .int .i64 n3, .imm q3 3 f3 (fcellss ks3)]]⟩] (Bor.cons hX0 rfl (by simp only [List.mem_cons, List.not_mem_nil, or_false, not_or]; exact ⟨hN01, hN02⟩) (Bor.cons hX1 rfl (by simp only [List.mem_cons, List.not_mem_nil, or_false, not_or]; exact hN12) (Bor.cons hX2 rfl (List.not_mem_nil) (Bor.nil _)))) [(0, .optr (.bor 0) 0 0), (1, .optr (.bor 1) 0 0), (2, .optr (.bor 2) 0 0)] (.cons (.bor 0 _ _ _ rfl) (.cons (.bor 1 _ _ _ rfl) (.cons (.bor 2 _ _ _ rfl) (.nil _)))) (leb rfl) (by intro y h; simp only [List.mem_cons, List.not_mem_nil, or_false] at h; rcases h with rfl | rfl | rfl <;> simp [tch, tch0]) (fun S0 hO htk hfz => ?_)
 refine run_region ?_
 refine yD hG rfl ?_
 refine yD hG rfl ?_
 obtain ⟨z9, hg5, hM⟩ := zb_t hM
 refine yK rfl (i_typeOf_ok n q1 f1 ks1 k2 n2 p2 e2 fs2 q2 f2 ks2 0 hg5 _ _) (callK_retZ (fun r4 v tk6 hz12 (hle7 : tk ≤ tk6) h8 => ?_) (fun c p tk6 hz (_ : tk ≤ tk6) => by subst hz; obtain rfl := bd_stop hM; exact run_pan_at (⟨⟨42, 3, true, [[.int .i64 k3, .int .i64 n3, .imm q3 3 f3 (fcellss ks3)]]⟩, out_upd (j := 2) (Bor.cons hX0 rfl (by simp only [List.mem_cons, List.not_mem_nil, or_false, not_or]; exact ⟨hN01, hN02⟩) (Bor.cons hX1 rfl (by simp only [List.mem_cons, List.not_mem_nil, or_false, not_or]; exact hN12) (Bor.cons hX2 rfl (List.not_mem_nil) (Bor.nil _)))) rfl, (show tk ≤ tk6 by omega), rfl, rfl⟩)))
 subst hz12
 replace hM := bd_ok hM
 obtain ⟨k10, n10, q10, f10, ks10, rfl, rfl, hf11⟩ := h8
 refine yS hG rfl ?_
 refine yN ?_
 show Results _ _ _ _
 obtain rfl := some_t hM
 refine fin_x hG rfl rfl rfl (v' := .tup []) (by rfl) ⟨⟨42, 3, true, [[.int .i64 k10, .int .i64 n10, .imm q10 3 f10 (fcellss ks10)]]⟩, out_upd (j := 2) (Bor.cons hX0 rfl (by simp only [List.mem_cons, List.not_mem_nil, or_false, not_or]; exact ⟨hN01, hN02⟩) (Bor.cons hX1 rfl (by simp only [List.mem_cons, List.not_mem_nil, or_false, not_or]; exact hN12) (Bor.cons hX2 rfl (List.not_mem_nil) (Bor.nil _)))) rfl, (show tk ≤ tk6 by omega), _, rfl, ⟨_, rfl, ⟨k10, n10, q10, f10, ks10, rfl, rfl, fun h => by cases h⟩, rfl⟩⟩

def i_TypeOf (n : Nat) (l1 : List F) (x2 : Pf) : Option (F × Int × Int) :=
 (i_longLists n ([((l1).length : Int)])).bind fun r3 =>
 if r3 = true then
  some ((F.mk 0 0 []), 2, 0)
 else
  (i_typesOK n l1).bind fun r11 =>
  if (!r11) = true then
   some ((F.mk 0 0 []), 1, 0)
  else
   (i_ExprOK n x2).bind fun r19 =>
   if (!r19) = true then
    some ((F.mk 0 0 []), 1, 0)
   else
    (i_TypeOf_c1 n l1 x2 (F.mk 0 0 [])).bind fun z27 =>
    z27.cs (fun r30 =>
     if (0 != 0) = true then
      some ((F.mk 0 0 []), 0, 0)
     else
      (i_cloneType n r30).bind fun r39 =>
      some (r39, 0, 0)) (fun c36 p37 =>
     if (c36 != 0) = true then
      some ((F.mk 0 0 []), c36, p37)
     else
      none)

set_option maxHeartbeats 20000000 in
set_option maxRecDepth 100000 in
theorem i_TypeOf_ok (n : Nat) : ∀ (q1 : Nat) (f1 : Bool) (ks1 : List LF) (k2 : Int) (n2 : Int) (p2 : Nat) (e2 : Bool) (fs2 : List LF) (q2 : Nat) (f2 : Bool) (ks2 : List LP) {r : (F × Int × Int)}, i_TypeOf n (fers ks1) (Pf.mk k2 n2 (fers fs2) (pers ks2)) = some r → ∀ (O : Heap) (tk : Nat), ACalls Go.Proofs.Try.prog 16 [.imm q1 3 f1 (fcellss ks1), .agg [.int .i64 k2, .int .i64 n2, .imm p2 3 e2 (fcellss fs2), .imm q2 4 f2 (pcellss ks2)]] O tk (RetX O tk (fun v tk' => ∃ r0' r1' r2' v0' v1' v2', r = (r0', r1', r2') ∧ v = .tup [v0', v1', v2'] ∧ VF true tk tk' r0' v0' ∧ v1' = .int .i64 r1' ∧ v2' = .int .i64 r2')) := by
 intro q1 f1 ks1 k2 n2 p2 e2 fs2 q2 f2 ks2 r hM O tk
 unfold i_TypeOf at hM
 refine acalls_of_run Go.Proofs.Try.func16 rfl rfl [] [] (Bor.nil _) [(0, .imm q1 3 f1 (fcellss ks1)), (1, .agg [.int .i64 k2, .int .i64 n2, .imm p2 3 e2 (fcellss fs2), .imm q2 4 f2 (pcellss ks2)])] (.cons (entS rfl) (.cons (.agg _) (.nil _))) (leb rfl) (fun _ h => by cases h) (fun S0 hO htk hfz => ?_)
 refine run_sr ?_
 refine run_op rfl (box_step (d := 2) rfl rfl rfl rfl rfl) rfl (ltb rfl) ?_
 refine run_op rfl (box_step (d := 3) rfl rfl rfl rfl rfl) rfl (ltb rfl) ?_
 refine run_op rfl (alloc_step (d := 4) hG rfl rfl rfl) rfl (ltb rfl) ?_
 refine yR rfl ?_
 refine yR rfl ?_
 refine yN ?_
 refine run_seq ?_
 refine run_block ?_
 refine run_sr ?_
 refine yD hG rfl ?_
 refine run_pu rfl (lenImm_step hG rfl rfl rfl rfl (flen _)) rfl (ltb rfl) ?_
 refine run_op rfl (buildSlice_step (d := 12) hG rfl rfl rfl rfl rfl (by rfl) (by rfl) (by rfl) (by decide)) rfl (ltb rfl) ?_
 refine run_sub_ops (Sub.freeze (k := 12) rfl rfl) ?_
 obtain ⟨r3, hg4, hM⟩ := bind_t hM
 refine yK rfl (i_longLists_ok n tk false [(((fers ks1)).length : Int)] hg4 _ _) (callK_retX (fun v tk5 (hle6 : (tk + 1) ≤ tk5) h7 => ?_))
 subst h7
 refine yR rfl ?_
 refine yN ?_
 refine run_ifb rfl rfl (fun hb10 => ?_) (fun hb10 => ?_)
 ·replace hM := ite_t hb10 hM
  refine run_sr ?_
  refine run_pu rfl (build_step hG rfl (by rfl) rfl (fun h => by cases h) (by rfl)) rfl (ltb rfl) ?_
  refine yS hG rfl ?_
  refine yR rfl ?_
  refine yR rfl ?_
  refine yN ?_
  refine run_ret_to ?_
  obtain rfl := some_t hM
  refine fin_x hG rfl rfl rfl (v' := .tup [.agg [.int .i64 0, .int .i64 0, .imm 0 3 true (fcellss [])], .int .i64 2, .int .i64 0]) (by rfl) ⟨rfl, (show tk ≤ tk5 by omega), _, rfl, ⟨_, _, _, _, _, _, rfl, rfl, ⟨0, 0, 0, true, [], rfl, rfl, fun _ => Fr.nil _ _⟩, rfl, rfl⟩⟩
 replace hM := ite_f hb10 hM
 refine run_sr ?_
 refine yD hG rfl ?_
 obtain ⟨r11, hg12, hM⟩ := bind_t hM
 refine yK rfl (i_typesOK_ok n q1 f1 ks1 hg12 _ _) (callK_retX (fun v tk13 (hle14 : tk5 ≤ tk13) h15 => ?_))
 subst h15
 refine run_pu rfl (aun_step rfl rfl rfl) rfl (ltb rfl) ?_
 refine yL rfl ?_
 refine run_splitb (i := 19) rfl (fun hb18 => ?_) (fun hb18 => ?_)
 ·replace hM := ite_t hb18 hM
  refine yO rfl ?_
  refine yO rfl ?_
  refine yO rfl ?_
  refine yP rfl ?_
  refine yR rfl ?_
  refine yN ?_
  refine run_sub_code (σ' := ⟨[(2, .optr (.loc 2) 0 0), (3, .optr (.loc 3) 0 0), (4, .optr (.loc 4) 0 0), (5, .int .i64 0), (6, .int .i64 0), (15, .bool true)], [(4, ⟨42, 3, true, [[.int .i64 0, .int .i64 0, .imm 0 3 true []]]⟩), (3, ⟨40, 4, true, [[.int .i64 k2, .int .i64 n2, .imm p2 3 e2 (fcellss fs2), .imm q2 4 f2 (pcellss ks2)]]⟩), (2, ⟨37, 1, true, [[.imm q1 3 f1 (fcellss ks1)]]⟩)], [], O, tk13⟩) (Sub.env _ ⟨rfl, rfl, rfl, rfl, rfl, rfl, trivial⟩) ?_
  refine run_if rfl rfl (fun _ => ?_) (fun h => by cases h)
  refine run_sr ?_
  refine run_pu rfl (build_step hG rfl (by rfl) rfl (fun h => by cases h) (by rfl)) rfl (ltb rfl) ?_
  refine yS hG rfl ?_
  refine yR rfl ?_
  refine yR rfl ?_
  refine yN ?_
  refine run_ret_to ?_
  obtain rfl := some_t hM
  refine fin_x hG rfl rfl rfl (v' := .tup [.agg [.int .i64 0, .int .i64 0, .imm 0 3 true (fcellss [])], .int .i64 1, .int .i64 0]) (by rfl) ⟨rfl, (show tk ≤ tk13 by omega), _, rfl, ⟨_, _, _, _, _, _, rfl, rfl, ⟨0, 0, 0, true, [], rfl, rfl, fun _ => Fr.nil _ _⟩, rfl, rfl⟩⟩
 replace hM := ite_f hb18 hM
 refine run_rdG (on_of rfl rfl rfl rfl) (aload_rd hG rfl rfl rfl (by first | (simp [ldok]; done) | exact List.not_mem_nil | trivial)) rfl (ltb rfl) ?_
 obtain ⟨r19, hg20, hM⟩ := bind_t hM
 refine yG (on_of rfl rfl rfl rfl) rfl (i_ExprOK_ok n k2 n2 p2 e2 fs2 q2 f2 ks2 hg20 _ _) (callK_retX (fun v tk21 (hle22 : tk13 ≤ tk21) h23 => ?_))
 subst h23
 refine run_puG (on_of rfl rfl rfl rfl) (aun_step rfl rfl rfl) rfl (ltb rfl) ?_
 refine yP rfl ?_
 refine yR rfl ?_
 refine yN ?_
 refine run_sub_code (σ' := ⟨[(2, .optr (.loc 2) 0 0), (3, .optr (.loc 3) 0 0), (4, .optr (.loc 4) 0 0), (5, .int .i64 0), (6, .int .i64 0), (15, .bool (!r19))], [(4, ⟨42, 3, true, [[.int .i64 0, .int .i64 0, .imm 0 3 true []]]⟩), (3, ⟨40, 4, true, [[.int .i64 k2, .int .i64 n2, .imm p2 3 e2 (fcellss fs2), .imm q2 4 f2 (pcellss ks2)]]⟩), (2, ⟨37, 1, true, [[.imm q1 3 f1 (fcellss ks1)]]⟩)], [], O, tk21⟩) (Sub.env _ ⟨rfl, rfl, rfl, rfl, rfl, rfl, trivial⟩) ?_
 refine run_ifb rfl rfl (fun hb26 => ?_) (fun hb26 => ?_)
 ·replace hM := ite_t hb26 hM
  refine run_sr ?_
  refine run_pu rfl (build_step hG rfl (by rfl) rfl (fun h => by cases h) (by rfl)) rfl (ltb rfl) ?_
  refine yS hG rfl ?_
  refine yR rfl ?_
  refine yR rfl ?_
  refine yN ?_
  refine run_ret_to ?_
  obtain rfl := some_t hM
  refine fin_x hG rfl rfl rfl (v' := .tup [.agg [.int .i64 0, .int .i64 0, .imm 0 3 true (fcellss [])], .int .i64 1, .int .i64 0]) (by rfl) ⟨rfl, (show tk ≤ tk21 by omega), _, rfl, ⟨_, _, _, _, _, _, rfl, rfl, ⟨0, 0, 0, true, [], rfl, rfl, fun _ => Fr.nil _ _⟩, rfl, rfl⟩⟩
 replace hM := ite_f hb26 hM
 refine run_skip ?_
 refine run_blk ?_
 refine run_sr ?_
 refine run_pu rfl (build_step hG rfl (by rfl) rfl (fun h => by cases h) (by rfl)) rfl (ltb rfl) ?_
 refine run_op rfl (alloc_step (d := 7) hG rfl rfl rfl) rfl (ltb rfl) ?_
 refine yS hG rfl ?_
 refine yN ?_
 refine run_seq ?_
 refine run_sr ?_
 refine run_pu rfl (makeFunc_step (first := []) (cap := [.tmp 2, .tmp 3, .tmp 7]) rfl rfl rfl) rfl (ltb rfl) ?_
 obtain ⟨z27, hg28, hM⟩ := bind_t hM
 refine yK rfl (caught_vz (j := 2) rfl (K := 69) (bor := [.loc 2, .loc 3, .loc 7]) (b := [⟨37, 1, true, [[.imm q1 3 f1 (fcellss ks1)]]⟩, ⟨40, 4, true, [[.int .i64 k2, .int .i64 n2, .imm p2 3 e2 (fcellss fs2), .imm q2 4 f2 (pcellss ks2)]]⟩, ⟨42, 3, true, [[.int .i64 0, .int .i64 0, .imm 0 3 true []]]⟩]) (caps := [.optr (.loc 2) 0 0, .optr (.loc 3) 0 0, .optr (.loc 7) 0 0]) (caps' := [.optr (.bor 0) 0 0, .optr (.bor 1) 0 0, .optr (.bor 2) 0 0]) (Bor.cons rfl rfl (by decide) (Bor.cons rfl rfl (by decide) (Bor.cons rfl rfl (by decide) (Bor.nil _)))) (.cons (.bor 0 _ _ _ rfl) (.cons (.bor 1 _ _ _ rfl) (.cons (.bor 2 _ _ _ rfl) .nil))) rfl (by intro y h; simp only [List.mem_cons, List.not_mem_nil, or_false] at h; rcases h with rfl | rfl | rfl <;> simp [tch, tch0]) rfl (i_TypeOf_c1_ok n (.bor 0) q1 f1 ks1 (.bor 1) k2 n2 p2 e2 fs2 q2 f2 ks2 (.bor 2) 0 0 0 true [] hg28 _ _ rfl rfl rfl (by decide) (by decide) (by decide)) (fun a v o' tk' h => by obtain ⟨_, rfl, ⟨_, _, _, _, _, ⟨⟩, rfl, _⟩, _⟩ := h; rfl)) (callK_retV_loc (k := 7) rfl (fun v o'33 tk31 (hle32 : tk21 ≤ tk31) h29 => ?_))
 rcases z27 with r30 | ⟨c36, p37⟩
 ·replace hM := cs_ok hM
  obtain ⟨rfl, _, ⟨_, rfl, ⟨k34, n34, q34, f34, ks34, ⟨⟩, rfl, hf35⟩, rfl⟩⟩ := h29
  refine run_op rfl (alloc_step (d := 8) hG rfl rfl rfl) rfl (ltb rfl) ?_
  refine yS hG rfl ?_
  refine yN ?_
  refine run_sr ?_
  refine yF hG rfl ?_
  refine yD hG rfl ?_
  refine yB rfl ?_
  refine yN ?_
  refine run_ifb rfl rfl (fun hb38 => ?_) (fun hb38 => ?_)
  ·replace hM := ite_t hb38 hM
   refine run_seq ?_
   refine run_draw [.loc 4] (n := 8) mixed rfl (by intro x hx; simp only [List.mem_cons, List.not_mem_nil, or_false] at hx; rcases hx with rfl <;> rfl) ?_
   refine yT 0 (by kernel_rfl) rfl rfl rfl (ltb rfl) ((build_step hG rfl (by rfl) rfl (fun h => by cases h) (by rfl)).rd _) ?_
   refine yTF hG 1 (by kernel_rfl) rfl ?_
   refine yTL hG 2 (by kernel_rfl) rfl ?_
   refine yTF hG 3 (by kernel_rfl) rfl ?_
   refine yTL hG 4 (by kernel_rfl) rfl ?_
   refine yW hG 5 (by kernel_rfl) rfl (by kernel_rfl) rfl ?_
   refine yTW 6 (by kernel_rfl) rfl ?_
   refine yTW 7 (by kernel_rfl) rfl ?_
   refine AAny.done (by kernel_rfl) ?_
   refine run_ret_to ?_
   obtain rfl := some_t hM
   refine fin_x hG rfl rfl rfl (v' := .tup [.agg [.int .i64 0, .int .i64 0, .imm 0 3 true (fcellss [])], .int .i64 0, .int .i64 0]) (by rfl) ⟨rfl, (show tk ≤ tk31 by omega), _, rfl, ⟨_, _, _, _, _, _, rfl, rfl, ⟨0, 0, 0, true, [], rfl, rfl, fun _ => Fr.nil _ _⟩, rfl, rfl⟩⟩
  replace hM := ite_f hb38 hM
  refine run_skip ?_
  refine run_sr ?_
  refine yD hG rfl ?_
  obtain ⟨r39, hg40, hM⟩ := bind_t hM
  refine yK rfl (i_cloneType_ok n k34 n34 q34 f34 ks34 hg40 _ _) (callK_retX (fun v tk41 (hle42 : tk31 ≤ tk41) h43 => ?_))
  obtain ⟨k44, n44, q44, f44, ks44, rfl, rfl, hf45⟩ := h43
  refine yS hG rfl ?_
  refine yR rfl ?_
  refine yR rfl ?_
  refine yN ?_
  refine run_ret_to ?_
  obtain rfl := some_t hM
  refine fin_x hG rfl rfl rfl (v' := .tup [.agg [.int .i64 k44, .int .i64 n44, .imm q44 3 f44 (fcellss ks44)], .int .i64 0, .int .i64 0]) (by rfl) ⟨rfl, (show tk ≤ tk41 by omega), _, rfl, ⟨_, _, _, _, _, _, rfl, rfl, ⟨k44, n44, q44, f44, ks44, rfl, rfl, fun _ => (show Fr tk tk41 _ from ((show Fr tk31 tk41 _ from hf45 rfl)).mono (by omega) (by omega))⟩, rfl, rfl⟩⟩
 replace hM := cs_stop hM
 obtain ⟨rfl, _⟩ := h29
 refine run_op rfl (alloc_step (d := 8) hG rfl rfl rfl) rfl (ltb rfl) ?_
 refine yS hG rfl ?_
 refine yN ?_
 refine run_sr ?_
 refine yF hG rfl ?_
 refine yD hG rfl ?_
 refine yB rfl ?_
 refine yN ?_
 refine run_ifb rfl rfl (fun hb46 => ?_) (fun hb46 => ?_)
 ·replace hM := ite_t hb46 hM
  refine run_seq ?_
  refine run_draw [.loc 4] (n := 8) mixed rfl (by intro x hx; simp only [List.mem_cons, List.not_mem_nil, or_false] at hx; rcases hx with rfl <;> rfl) ?_
  refine yT 0 (by kernel_rfl) rfl rfl rfl (ltb rfl) ((build_step hG rfl (by rfl) rfl (fun h => by cases h) (by rfl)).rd _) ?_
  refine yTF hG 1 (by kernel_rfl) rfl ?_
  refine yTL hG 2 (by kernel_rfl) rfl ?_
  refine yTF hG 3 (by kernel_rfl) rfl ?_
  refine yTL hG 4 (by kernel_rfl) rfl ?_
  refine yW hG 5 (by kernel_rfl) rfl (by kernel_rfl) rfl ?_
  refine yTW 6 (by kernel_rfl) rfl ?_
  refine yTW 7 (by kernel_rfl) rfl ?_
  refine AAny.done (by kernel_rfl) ?_
  refine run_ret_to ?_
  obtain rfl := some_t hM
  refine fin_x hG rfl rfl rfl (v' := .tup [.agg [.int .i64 0, .int .i64 0, .imm 0 3 true (fcellss [])], .int .i64 c36, .int .i64 p37]) (by rfl) ⟨rfl, (show tk ≤ tk31 by omega), _, rfl, ⟨_, _, _, _, _, _, rfl, rfl, ⟨0, 0, 0, true, [], rfl, rfl, fun _ => Fr.nil _ _⟩, rfl, rfl⟩⟩
 replace hM := ite_f hb46 hM
 refine run_skip ?_
 refine run_sr ?_
 cases hM

set_option maxRecDepth 100000 in
theorem s_l09Fun_ex (k1 : Int) (n1 : Int) (q1 : Nat) (f1 : Bool) (ks1 : List LF) (k2 : Int) (n2 : Int) (q2 : Nat) (f2 : Bool) (ks2 : List LF) (O : Heap) (tk : Nat) : ACalls Go.Proofs.Try.prog 141 [.agg [.int .i64 k1, .int .i64 n1, .imm q1 3 f1 (fcellss ks1)], .agg [.int .i64 k2, .int .i64 n2, .imm q2 3 f2 (fcellss ks2)]] O tk (RetN O (.agg [.int .i64 2, .int .i64 0, .imm tk 3 false (fcellss [LF.mk k1 n1 q1 f1 ks1, LF.mk k2 n2 q2 f2 ks2])]) (tk + 1)) := by
 refine acalls_of_run Go.Proofs.Try.func141 rfl rfl [] [] (Bor.nil _) [(0, .agg [.int .i64 k1, .int .i64 n1, .imm q1 3 f1 (fcellss ks1)]), (1, .agg [.int .i64 k2, .int .i64 n2, .imm q2 3 f2 (fcellss ks2)])] (.cons (.agg _) (.cons (.agg _) (.nil _))) (leb rfl) (fun _ h => by cases h) (fun S0 hO htk hfz => ?_)
 refine run_sr ?_
 refine run_op rfl (box_step (d := 2) rfl rfl rfl rfl rfl) rfl (ltb rfl) ?_
 refine run_op rfl (box_step (d := 3) rfl rfl rfl rfl rfl) rfl (ltb rfl) ?_
 refine run_op rfl (alloc_step (d := 4) hG rfl rfl rfl) rfl (ltb rfl) ?_
 refine yN ?_
 refine run_sr ?_
 refine yD hG rfl ?_
 refine yD hG rfl ?_
 refine run_op rfl (buildSlice_step (d := 7) hG rfl rfl rfl rfl rfl (by rfl) (by rfl) (by rfl) (by decide)) rfl (ltb rfl) ?_
 refine run_pu rfl (build_step hG rfl (by rfl) rfl (fun h => by cases h) (by rfl)) rfl (ltb rfl) ?_
 refine yS hG rfl ?_
 refine yN ?_
 refine run_ret_to ?_
 refine fin_sub (Sub.freeze (k := 7) rfl rfl) ?_
 refine fin_x hG rfl rfl rfl (v' := .agg [.int .i64 2, .int .i64 0, .imm tk 3 false (fcellss [LF.mk k1 n1 q1 f1 ks1, LF.mk k2 n2 q2 f2 ks2])]) (by rfl) ⟨rfl, rfl, rfl⟩

def s_l09TypeOf : Nat → List F → Pf → Int → Option (F × Int × Int)
 | 0, _, _, _ => none
 | n + 1, l1, x2, i3 =>
  if x2.kind = 1 then
   if x2.n ≥ ((l1).length : Int) then
    some ((F.mk 0 0 []), 7, i3)
   else
    (idx l1 (IntKind.i64.wrap ((IntKind.i64.wrap (((l1).length : Int) - 1)) - x2.n))).bind fun y6 =>
    some (y6, 0, 0)
  else
   if x2.kind = 3 then
    (idx x2.forms 0).bind fun y12 =>
    (idx x2.kids 0).bind fun y17 =>
    (s_l09More l1 y12).bind fun r22 =>
    (s_l09TypeOf n r22 y17 (IntKind.i64.wrap (i3 + 1))).bind fun r29 =>
    if (r29.2.1 != 0) = true then
     some ((F.mk 0 0 []), r29.2.1, r29.2.2)
    else
     (idx x2.forms 0).bind fun y47 =>
     some ((F.mk 2 0 [y47, r29.1]), 0, 0)
   else
    (idx x2.kids 0).bind fun y105 =>
    (s_l09TypeOf n l1 y105 (IntKind.i64.wrap (i3 + 1))).bind fun r110 =>
    if (r110.2.1 != 0) = true then
     some ((F.mk 0 0 []), r110.2.1, r110.2.2)
    else
     (idx x2.kids 0).bind fun y128 =>
     (s_l09Size n y128).bind fun r133 =>
     (idx x2.kids 1).bind fun y140 =>
     (s_l09TypeOf n l1 y140 (IntKind.i64.wrap ((IntKind.i64.wrap (i3 + 1)) + r133))).bind fun r145 =>
     if (r145.2.1 != 0) = true then
      some ((F.mk 0 0 []), r145.2.1, r145.2.2)
     else
      if (r110.1.kind != 2) = true then
       some ((F.mk 0 0 []), 8, (IntKind.i64.wrap (i3 + 1)))
      else
       (idx r110.1.kids 0).bind fun y164 =>
       (s_l09Same n y164 r145.1).bind fun r169 =>
       if (!r169) = true then
        some ((F.mk 0 0 []), 10, (IntKind.i64.wrap ((IntKind.i64.wrap (i3 + 1)) + r133)))
       else
        (idx r110.1.kids 1).bind fun y177 =>
        some (y177, 0, 0)

def s_l09TypeOf_P (n : Nat) : Prop := ∀ (q1 : Nat) (f1 : Bool) (ks1 : List LF) (k2 : Int) (n2 : Int) (p2 : Nat) (e2 : Bool) (fs2 : List LF) (q2 : Nat) (f2 : Bool) (ks2 : List LP) (i3 : Int) {r : (F × Int × Int)}, s_l09TypeOf n (fers ks1) (Pf.mk k2 n2 (fers fs2) (pers ks2)) i3 = some r → ∀ (O : Heap) (tk : Nat), ACalls Go.Proofs.Try.prog 80 [.imm q1 3 f1 (fcellss ks1), .agg [.int .i64 k2, .int .i64 n2, .imm p2 3 e2 (fcellss fs2), .imm q2 4 f2 (pcellss ks2)], .int .i64 i3] O tk (RetX O tk (fun v tk' => ∃ r0' r1' r2' v0' v1' v2', r = (r0', r1', r2') ∧ v = .tup [v0', v1', v2'] ∧ VF false tk tk' r0' v0' ∧ v1' = .int .i64 r1' ∧ v2' = .int .i64 r2'))

set_option maxHeartbeats 2000000 in
set_option maxRecDepth 100000 in
theorem s_l09TypeOf_st (n : Nat) (ih_s_l09TypeOf : s_l09TypeOf_P n) : s_l09TypeOf_P (n + 1) := by
 intro q1 f1 ks1 k2 n2 p2 e2 fs2 q2 f2 ks2 i3 r hM O tk
 rw [s_l09TypeOf] at hM
 refine acalls_of_run Go.Proofs.Try.func80 rfl rfl [] [] (Bor.nil _) [(0, .imm q1 3 f1 (fcellss ks1)), (1, .agg [.int .i64 k2, .int .i64 n2, .imm p2 3 e2 (fcellss fs2), .imm q2 4 f2 (pcellss ks2)]), (2, .int .i64 i3)] (.cons (entS rfl) (.cons (.agg _) (.cons (entS rfl) (.nil _)))) (leb rfl) (fun _ h => by cases h) (fun S0 hO htk hfz => ?_)
 refine run_sr ?_
 refine run_op rfl (box_step (d := 4) rfl rfl rfl rfl rfl) rfl (ltb rfl) ?_
 refine run_op rfl (alloc_step (d := 6) hG rfl rfl rfl) rfl (ltb rfl) ?_
 refine yR rfl ?_
 refine yR rfl ?_
 refine yN ?_
 refine run_sr ?_
 refine run_pu rfl (build_step hG rfl (by rfl) rfl (fun h => by cases h) (by rfl)) rfl (ltb rfl) ?_
 refine run_op rfl (alloc_step (d := 9) hG rfl rfl rfl) rfl (ltb rfl) ?_
 refine yS hG rfl ?_
 refine yN ?_
 refine run_seq ?_
 refine run_sr ?_
 refine yF hG rfl ?_
 refine yD hG rfl ?_
 refine yN ?_
 refine run_block ?_
 refine run_sr ?_
 refine yB rfl ?_
 refine yR rfl ?_
 refine yN ?_
 refine run_ifd rfl rfl (fun hb4 => ?_) (fun hb4 => ?_)
 ·replace hM := ite_t hb4 hM
  refine run_seq ?_
  refine run_sr ?_
  refine yF hG rfl ?_
  refine yD hG rfl ?_
  refine yL rfl ?_
  refine run_pu rfl (lenImm_step hG rfl rfl rfl rfl (flen _)) rfl (ltb rfl) ?_
  refine yB rfl ?_
  refine yN ?_
  refine run_sub_code (σ' := ⟨[(0, .imm q1 3 f1 (fcellss ks1)), (2, .int .i64 i3), (4, .optr (.loc 4) 0 0), (6, .optr (.loc 6) 0 0), (7, .int .i64 0), (8, .int .i64 0), (9, .optr (.loc 9) 0 0), (27, .bool (decide (n2 ≥ (((fers ks1)).length : Int))))], [(9, ⟨42, 3, true, [[.int .i64 0, .int .i64 0, .imm 0 3 true []]]⟩), (6, ⟨42, 3, true, [[.int .i64 0, .int .i64 0, .imm 0 3 true []]]⟩), (4, ⟨40, 4, true, [[.int .i64 k2, .int .i64 n2, .imm p2 3 e2 (fcellss fs2), .imm q2 4 f2 (pcellss ks2)]]⟩)], [], O, tk⟩) (Sub.env _ ⟨rfl, rfl, rfl, rfl, rfl, rfl, rfl, rfl, trivial⟩) ?_
  refine run_ifd rfl rfl (fun hb5 => ?_) (fun hb5 => ?_)
  ·replace hM := ite_t hb5 hM
   refine run_sr ?_
   refine yD hG rfl ?_
   refine yL rfl ?_
   refine yS hG rfl ?_
   refine yR rfl ?_
   refine yR rfl ?_
   refine yN ?_
   refine run_ret_to ?_
   obtain rfl := some_t hM
   refine fin_x hG rfl rfl rfl (v' := .tup [.agg [.int .i64 0, .int .i64 0, .imm 0 3 true (fcellss [])], .int .i64 7, .int .i64 i3]) (by rfl) ⟨rfl, (show tk ≤ tk by omega), _, rfl, ⟨_, _, _, _, _, _, rfl, rfl, ⟨0, 0, 0, true, [], rfl, rfl, fun h => by cases h⟩, rfl, rfl⟩⟩
  replace hM := ite_f hb5 hM
  refine run_skip ?_
  refine run_sr ?_
  refine yL rfl ?_
  refine yL rfl ?_
  refine run_pu rfl (lenImm_step hG rfl rfl rfl rfl (flen _)) rfl (ltb rfl) ?_
  refine yB rfl ?_
  refine yF hG rfl ?_
  refine yD hG rfl ?_
  refine yB rfl ?_
  obtain ⟨y6, hy7, hM⟩ := bind_t hM
  obtain ⟨k8, n8, q8, f8, ks8, rfl, hc9, hi10⟩ := fidx (ks := ks1) hy7
  refine run_pu rfl (indexImm_step hG rfl rfl rfl hi10 rfl rfl rfl rfl hc9) rfl (ltb rfl) ?_
  refine yD hG rfl ?_
  refine yS hG rfl ?_
  refine yR rfl ?_
  refine yR rfl ?_
  refine yN ?_
  refine run_ret_to ?_
  obtain rfl := some_t hM
  refine fin_x hG rfl rfl rfl (v' := .tup [.agg [.int .i64 k8, .int .i64 n8, .imm q8 3 f8 (fcellss ks8)], .int .i64 0, .int .i64 0]) (by rfl) ⟨rfl, (show tk ≤ tk by omega), _, rfl, ⟨_, _, _, _, _, _, rfl, rfl, ⟨k8, n8, q8, f8, ks8, rfl, rfl, fun h => by cases h⟩, rfl, rfl⟩⟩
 replace hM := ite_f hb4 hM
 refine run_sr ?_
 refine yB rfl ?_
 refine yR rfl ?_
 refine yN ?_
 refine run_ifd rfl rfl (fun hb11 => ?_) (fun hb11 => ?_)
 ·replace hM := ite_t hb11 hM
  refine run_seq ?_
  refine run_draw [] (n := 21) mixed rfl yE ?_
  refine yTV 0 (by kernel_rfl) rfl ?_
  refine yTF hG 1 (by kernel_rfl) rfl ?_
  refine yTL hG 2 (by kernel_rfl) rfl ?_
  obtain ⟨y12, hy13, hM⟩ := bind_t hM
  obtain ⟨k14, n14, q14, f14, ks14, rfl, hc15, hi16⟩ := fidx (ks := fs2) hy13
  refine yT 3 (by kernel_rfl) rfl rfl rfl (ltb rfl) ((indexImm_step hG rfl rfl rfl hi16 rfl rfl rfl rfl hc15).rd _) ?_
  refine yTL hG 4 (by kernel_rfl) rfl ?_
  refine yTF hG 6 (by kernel_rfl) rfl ?_
  refine yTL hG 7 (by kernel_rfl) rfl ?_
  obtain ⟨y17, hy18, hM⟩ := bind_t hM
  obtain ⟨k19, n19, p19, e19, fs19, q19, f19, ks19, rfl, hc20, hi21⟩ := pidx (ks := ks2) hy18
  refine yT 8 (by kernel_rfl) rfl rfl rfl (ltb rfl) ((indexImm_step hG rfl rfl rfl hi21 rfl rfl rfl rfl hc20).rd _) ?_
  refine yTL hG 9 (by kernel_rfl) rfl ?_
  refine yTV 10 (by kernel_rfl) rfl ?_
  refine yT 11 (by kernel_rfl) rfl rfl rfl (ltb rfl) ((abin_step rfl rfl rfl rfl (fun _ h => by cases h)).rd _) ?_
  refine AAny.eachN (rs := [5, 17]) (by kernel_rfl) (fun h => by cases h) (fun i hi => ?_)
  simp only [List.mem_cons, List.not_mem_nil, or_false] at hi
  rcases hi with rfl | rfl
  ·refine AOpN.of ?_
   obtain ⟨r22, hg23, hM⟩ := bind_t hM
   refine yI rfl rfl (s_l09More_ok q1 f1 ks1 k14 n14 q14 f14 ks14 hg23 _ _) (callK_retX (fun v tk24 (hle25 : tk ≤ tk24) h26 => ?_))
   obtain ⟨q27, f27, ks27, rfl, rfl, hf28⟩ := h26
   refine AAny.eachN (rs := [12, 17]) (by kernel_rfl) (fun h => by cases h) (fun i hi => ?_)
   simp only [List.mem_cons, List.not_mem_nil, or_false] at hi
   rcases hi with rfl | rfl
   ·refine AOpN.of ?_
    obtain ⟨r29, hg30, hM⟩ := bind_t hM
    refine yI rfl rfl (ih_s_l09TypeOf q27 f27 ks27 k19 n19 p19 e19 fs19 q19 f19 ks19 (IntKind.i64.wrap (i3 + 1)) hg30 _ _) (callK_retX (fun v tk31 (hle32 : tk24 ≤ tk31) h33 => ?_))
    obtain ⟨ra40, ra41, ra42, va43, va44, va45, rfl, rfl, ⟨k34, n34, q34, f34, ks34, rfl, rfl, hf35⟩, rfl, rfl⟩ := h33
    refine yTV 13 (by kernel_rfl) rfl ?_
    refine yT 14 (by kernel_rfl) rfl rfl rfl (ltb rfl) ((extract_step rfl rfl rfl).rd _) ?_
    refine yT 15 (by kernel_rfl) rfl rfl rfl (ltb rfl) ((extract_step rfl rfl rfl).rd _) ?_
    refine yT 16 (by kernel_rfl) rfl rfl rfl (ltb rfl) ((extract_step rfl rfl rfl).rd _) ?_
    refine AAny.eachN (rs := [17]) (by kernel_rfl) (fun h => by cases h) (fun i hi => ?_)
    simp only [List.mem_cons, List.not_mem_nil, or_false] at hi
    subst hi
    ·refine AOpN.alloc hG rfl rfl rfl (ltb rfl) rfl rfl rfl ?_
     refine yW hG 18 (by kernel_rfl) rfl (by kernel_rfl) rfl ?_
     refine yTW 19 (by kernel_rfl) rfl ?_
     refine yTW 20 (by kernel_rfl) rfl ?_
     refine AAny.done (by kernel_rfl) ?_
     refine run_sub_code (σ' := ⟨[(0, .imm q1 3 f1 (fcellss ks1)), (2, .int .i64 i3), (4, .optr (.loc 4) 0 0), (6, .optr (.loc 6) 0 0), (7, .int .i64 0), (8, .int .i64 0), (9, .optr (.loc 9) 0 0), (10, .optr (.loc 10) 0 0), (11, .int .i64 ra41), (12, .int .i64 ra42)], [(10, ⟨42, 3, true, [[.int .i64 k34, .int .i64 n34, .imm q34 3 f34 (fcellss ks34)]]⟩), (9, ⟨42, 3, true, [[.int .i64 0, .int .i64 0, .imm 0 3 true []]]⟩), (6, ⟨42, 3, true, [[.int .i64 0, .int .i64 0, .imm 0 3 true []]]⟩), (4, ⟨40, 4, true, [[.int .i64 k2, .int .i64 n2, .imm p2 3 e2 (fcellss fs2), .imm q2 4 f2 (pcellss ks2)]]⟩)], [], O, tk31⟩) (Sub.env _ ⟨rfl, rfl, rfl, rfl, rfl, rfl, rfl, rfl, rfl, rfl, trivial⟩) ?_
     refine run_seq ?_
     refine run_sr ?_
     refine yL rfl ?_
     refine yB rfl ?_
     refine yN ?_
     refine run_ifb rfl rfl (fun hb46 => ?_) (fun hb46 => ?_)
     ·replace hM := ite_t hb46 hM
      refine run_sr ?_
      refine yD hG rfl ?_
      refine yL rfl ?_
      refine yL rfl ?_
      refine yS hG rfl ?_
      refine yR rfl ?_
      refine yR rfl ?_
      refine yN ?_
      refine run_ret_to ?_
      obtain rfl := some_t hM
      refine fin_x hG rfl rfl rfl (v' := .tup [.agg [.int .i64 0, .int .i64 0, .imm 0 3 true (fcellss [])], .int .i64 ra41, .int .i64 ra42]) (by rfl) ⟨rfl, (show tk ≤ tk31 by omega), _, rfl, ⟨_, _, _, _, _, _, rfl, rfl, ⟨0, 0, 0, true, [], rfl, rfl, fun h => by cases h⟩, rfl, rfl⟩⟩
     replace hM := ite_f hb46 hM
     refine run_skip ?_
     refine run_seq ?_
     refine run_draw [.loc 6] (n := 9) mixed rfl (by intro x hx; simp only [List.mem_cons, List.not_mem_nil, or_false] at hx; rcases hx with rfl <;> rfl) ?_
     refine yTF hG 0 (by kernel_rfl) rfl ?_
     refine yTL hG 1 (by kernel_rfl) rfl ?_
     obtain ⟨y47, hy48, hM⟩ := bind_t hM
     obtain ⟨k49, n49, q49, f49, ks49, rfl, hc50, hi51⟩ := fidx (ks := fs2) hy48
     refine yT 2 (by kernel_rfl) rfl rfl rfl (ltb rfl) ((indexImm_step hG rfl rfl rfl hi51 rfl rfl rfl rfl hc50).rd _) ?_
     refine yTL hG 3 (by kernel_rfl) rfl ?_
     refine yTL hG 4 (by kernel_rfl) rfl ?_
     refine yC 5 (by kernel_rfl) rfl rfl (s_l09Fun_ex k49 n49 q49 f49 ks49 k34 n34 q34 f34 ks34 _ _) (callK_retN ?_)
     skip
     refine yW hG 6 (by kernel_rfl) rfl (by kernel_rfl) rfl ?_
     refine yTW 7 (by kernel_rfl) rfl ?_
     refine yTW 8 (by kernel_rfl) rfl ?_
     refine AAny.done (by kernel_rfl) ?_
     refine run_ret_to ?_
     obtain rfl := some_t hM
     refine fin_x hG rfl rfl rfl (v' := .tup [.agg [.int .i64 2, .int .i64 0, .imm tk31 3 false (fcellss [LF.mk k49 n49 q49 f49 ks49, LF.mk k34 n34 q34 f34 ks34])], .int .i64 0, .int .i64 0]) (by rfl) ⟨rfl, (show tk ≤ (tk31 + 1) by omega), _, rfl, ⟨_, _, _, _, _, _, rfl, rfl, ⟨2, 0, tk31, false, [LF.mk k49 n49 q49 f49 ks49, LF.mk k34 n34 q34 f34 ks34], rfl, rfl, fun h => by cases h⟩, rfl, rfl⟩⟩
   refine AOpN.alloc hG rfl rfl rfl (ltb rfl) rfl rfl rfl ?_
   obtain ⟨r52, hg53, hM⟩ := bind_t hM
   refine yC 12 (by kernel_rfl) rfl rfl (ih_s_l09TypeOf q27 f27 ks27 k19 n19 p19 e19 fs19 q19 f19 ks19 (IntKind.i64.wrap (i3 + 1)) hg53 _ _) (callK_retX (fun v tk54 (hle55 : tk24 ≤ tk54) h56 => ?_))
   obtain ⟨ra63, ra64, ra65, va66, va67, va68, rfl, rfl, ⟨k57, n57, q57, f57, ks57, rfl, rfl, hf58⟩, rfl, rfl⟩ := h56
   refine yTV 13 (by kernel_rfl) rfl ?_
   refine yT 14 (by kernel_rfl) rfl rfl rfl (ltb rfl) ((extract_step rfl rfl rfl).rd _) ?_
   refine yT 15 (by kernel_rfl) rfl rfl rfl (ltb rfl) ((extract_step rfl rfl rfl).rd _) ?_
   refine yT 16 (by kernel_rfl) rfl rfl rfl (ltb rfl) ((extract_step rfl rfl rfl).rd _) ?_
   refine yW hG 18 (by kernel_rfl) rfl (by kernel_rfl) rfl ?_
   refine yTW 19 (by kernel_rfl) rfl ?_
   refine yTW 20 (by kernel_rfl) rfl ?_
   refine AAny.done (by kernel_rfl) ?_
   refine run_sub_code (σ' := ⟨[(0, .imm q1 3 f1 (fcellss ks1)), (2, .int .i64 i3), (4, .optr (.loc 4) 0 0), (6, .optr (.loc 6) 0 0), (7, .int .i64 0), (8, .int .i64 0), (9, .optr (.loc 9) 0 0), (10, .optr (.loc 10) 0 0), (11, .int .i64 ra64), (12, .int .i64 ra65)], [(10, ⟨42, 3, true, [[.int .i64 k57, .int .i64 n57, .imm q57 3 f57 (fcellss ks57)]]⟩), (9, ⟨42, 3, true, [[.int .i64 0, .int .i64 0, .imm 0 3 true []]]⟩), (6, ⟨42, 3, true, [[.int .i64 0, .int .i64 0, .imm 0 3 true []]]⟩), (4, ⟨40, 4, true, [[.int .i64 k2, .int .i64 n2, .imm p2 3 e2 (fcellss fs2), .imm q2 4 f2 (pcellss ks2)]]⟩)], [], O, tk54⟩) (Sub.env _ ⟨rfl, rfl, rfl, rfl, rfl, rfl, rfl, rfl, rfl, rfl, trivial⟩) ?_
   refine run_seq ?_
   refine run_sr ?_
   refine yL rfl ?_
   refine yB rfl ?_
   refine yN ?_
   refine run_ifb rfl rfl (fun hb69 => ?_) (fun hb69 => ?_)
   ·replace hM := ite_t hb69 hM
    refine run_sr ?_
    refine yD hG rfl ?_
    refine yL rfl ?_
    refine yL rfl ?_
    refine yS hG rfl ?_
    refine yR rfl ?_
    refine yR rfl ?_
    refine yN ?_
    refine run_ret_to ?_
    obtain rfl := some_t hM
    refine fin_x hG rfl rfl rfl (v' := .tup [.agg [.int .i64 0, .int .i64 0, .imm 0 3 true (fcellss [])], .int .i64 ra64, .int .i64 ra65]) (by rfl) ⟨rfl, (show tk ≤ tk54 by omega), _, rfl, ⟨_, _, _, _, _, _, rfl, rfl, ⟨0, 0, 0, true, [], rfl, rfl, fun h => by cases h⟩, rfl, rfl⟩⟩
   replace hM := ite_f hb69 hM
   refine run_skip ?_
   refine run_seq ?_
   refine run_draw [.loc 6] (n := 9) mixed rfl (by intro x hx; simp only [List.mem_cons, List.not_mem_nil, or_false] at hx; rcases hx with rfl <;> rfl) ?_
   refine yTF hG 0 (by kernel_rfl) rfl ?_
   refine yTL hG 1 (by kernel_rfl) rfl ?_
   obtain ⟨y70, hy71, hM⟩ := bind_t hM
   obtain ⟨k72, n72, q72, f72, ks72, rfl, hc73, hi74⟩ := fidx (ks := fs2) hy71
   refine yT 2 (by kernel_rfl) rfl rfl rfl (ltb rfl) ((indexImm_step hG rfl rfl rfl hi74 rfl rfl rfl rfl hc73).rd _) ?_
   refine yTL hG 3 (by kernel_rfl) rfl ?_
   refine yTL hG 4 (by kernel_rfl) rfl ?_
   refine yC 5 (by kernel_rfl) rfl rfl (s_l09Fun_ex k72 n72 q72 f72 ks72 k57 n57 q57 f57 ks57 _ _) (callK_retN ?_)
   skip
   refine yW hG 6 (by kernel_rfl) rfl (by kernel_rfl) rfl ?_
   refine yTW 7 (by kernel_rfl) rfl ?_
   refine yTW 8 (by kernel_rfl) rfl ?_
   refine AAny.done (by kernel_rfl) ?_
   refine run_ret_to ?_
   obtain rfl := some_t hM
   refine fin_x hG rfl rfl rfl (v' := .tup [.agg [.int .i64 2, .int .i64 0, .imm tk54 3 false (fcellss [LF.mk k72 n72 q72 f72 ks72, LF.mk k57 n57 q57 f57 ks57])], .int .i64 0, .int .i64 0]) (by rfl) ⟨rfl, (show tk ≤ (tk54 + 1) by omega), _, rfl, ⟨_, _, _, _, _, _, rfl, rfl, ⟨2, 0, tk54, false, [LF.mk k72 n72 q72 f72 ks72, LF.mk k57 n57 q57 f57 ks57], rfl, rfl, fun h => by cases h⟩, rfl, rfl⟩⟩
  refine AOpN.alloc hG rfl rfl rfl (ltb rfl) rfl rfl rfl ?_
  obtain ⟨r75, hg76, hM⟩ := bind_t hM
  refine yC 5 (by kernel_rfl) rfl rfl (s_l09More_ok q1 f1 ks1 k14 n14 q14 f14 ks14 hg76 _ _) (callK_retX (fun v tk77 (hle78 : tk ≤ tk77) h79 => ?_))
  obtain ⟨q80, f80, ks80, rfl, rfl, hf81⟩ := h79
  obtain ⟨r82, hg83, hM⟩ := bind_t hM
  refine yC 12 (by kernel_rfl) rfl rfl (ih_s_l09TypeOf q80 f80 ks80 k19 n19 p19 e19 fs19 q19 f19 ks19 (IntKind.i64.wrap (i3 + 1)) hg83 _ _) (callK_retX (fun v tk84 (hle85 : tk77 ≤ tk84) h86 => ?_))
  obtain ⟨ra93, ra94, ra95, va96, va97, va98, rfl, rfl, ⟨k87, n87, q87, f87, ks87, rfl, rfl, hf88⟩, rfl, rfl⟩ := h86
  refine yTV 13 (by kernel_rfl) rfl ?_
  refine yT 14 (by kernel_rfl) rfl rfl rfl (ltb rfl) ((extract_step rfl rfl rfl).rd _) ?_
  refine yT 15 (by kernel_rfl) rfl rfl rfl (ltb rfl) ((extract_step rfl rfl rfl).rd _) ?_
  refine yT 16 (by kernel_rfl) rfl rfl rfl (ltb rfl) ((extract_step rfl rfl rfl).rd _) ?_
  refine yW hG 18 (by kernel_rfl) rfl (by kernel_rfl) rfl ?_
  refine yTW 19 (by kernel_rfl) rfl ?_
  refine yTW 20 (by kernel_rfl) rfl ?_
  refine AAny.done (by kernel_rfl) ?_
  refine run_sub_code (σ' := ⟨[(0, .imm q1 3 f1 (fcellss ks1)), (2, .int .i64 i3), (4, .optr (.loc 4) 0 0), (6, .optr (.loc 6) 0 0), (7, .int .i64 0), (8, .int .i64 0), (9, .optr (.loc 9) 0 0), (10, .optr (.loc 10) 0 0), (11, .int .i64 ra94), (12, .int .i64 ra95)], [(10, ⟨42, 3, true, [[.int .i64 k87, .int .i64 n87, .imm q87 3 f87 (fcellss ks87)]]⟩), (9, ⟨42, 3, true, [[.int .i64 0, .int .i64 0, .imm 0 3 true []]]⟩), (6, ⟨42, 3, true, [[.int .i64 0, .int .i64 0, .imm 0 3 true []]]⟩), (4, ⟨40, 4, true, [[.int .i64 k2, .int .i64 n2, .imm p2 3 e2 (fcellss fs2), .imm q2 4 f2 (pcellss ks2)]]⟩)], [], O, tk84⟩) (Sub.env _ ⟨rfl, rfl, rfl, rfl, rfl, rfl, rfl, rfl, rfl, rfl, trivial⟩) ?_
  refine run_seq ?_
  refine run_sr ?_
  refine yL rfl ?_
  refine yB rfl ?_
  refine yN ?_
  refine run_ifb rfl rfl (fun hb99 => ?_) (fun hb99 => ?_)
  ·replace hM := ite_t hb99 hM
   refine run_sr ?_
   refine yD hG rfl ?_
   refine yL rfl ?_
   refine yL rfl ?_
   refine yS hG rfl ?_
   refine yR rfl ?_
   refine yR rfl ?_
   refine yN ?_
   refine run_ret_to ?_
   obtain rfl := some_t hM
   refine fin_x hG rfl rfl rfl (v' := .tup [.agg [.int .i64 0, .int .i64 0, .imm 0 3 true (fcellss [])], .int .i64 ra94, .int .i64 ra95]) (by rfl) ⟨rfl, (show tk ≤ tk84 by omega), _, rfl, ⟨_, _, _, _, _, _, rfl, rfl, ⟨0, 0, 0, true, [], rfl, rfl, fun h => by cases h⟩, rfl, rfl⟩⟩
  replace hM := ite_f hb99 hM
  refine run_skip ?_
  refine run_seq ?_
  refine run_draw [.loc 6] (n := 9) mixed rfl (by intro x hx; simp only [List.mem_cons, List.not_mem_nil, or_false] at hx; rcases hx with rfl <;> rfl) ?_
  refine yTF hG 0 (by kernel_rfl) rfl ?_
  refine yTL hG 1 (by kernel_rfl) rfl ?_
  obtain ⟨y100, hy101, hM⟩ := bind_t hM
  obtain ⟨k102, n102, q102, f102, ks102, rfl, hc103, hi104⟩ := fidx (ks := fs2) hy101
  refine yT 2 (by kernel_rfl) rfl rfl rfl (ltb rfl) ((indexImm_step hG rfl rfl rfl hi104 rfl rfl rfl rfl hc103).rd _) ?_
  refine yTL hG 3 (by kernel_rfl) rfl ?_
  refine yTL hG 4 (by kernel_rfl) rfl ?_
  refine yC 5 (by kernel_rfl) rfl rfl (s_l09Fun_ex k102 n102 q102 f102 ks102 k87 n87 q87 f87 ks87 _ _) (callK_retN ?_)
  skip
  refine yW hG 6 (by kernel_rfl) rfl (by kernel_rfl) rfl ?_
  refine yTW 7 (by kernel_rfl) rfl ?_
  refine yTW 8 (by kernel_rfl) rfl ?_
  refine AAny.done (by kernel_rfl) ?_
  refine run_ret_to ?_
  obtain rfl := some_t hM
  refine fin_x hG rfl rfl rfl (v' := .tup [.agg [.int .i64 2, .int .i64 0, .imm tk84 3 false (fcellss [LF.mk k102 n102 q102 f102 ks102, LF.mk k87 n87 q87 f87 ks87])], .int .i64 0, .int .i64 0]) (by rfl) ⟨rfl, (show tk ≤ (tk84 + 1) by omega), _, rfl, ⟨_, _, _, _, _, _, rfl, rfl, ⟨2, 0, tk84, false, [LF.mk k102 n102 q102 f102 ks102, LF.mk k87 n87 q87 f87 ks87], rfl, rfl, fun h => by cases h⟩, rfl, rfl⟩⟩
 replace hM := ite_f hb11 hM
 refine run_skip ?_
 refine run_blk ?_
 refine run_sr ?_
 refine yL rfl ?_
 refine yF hG rfl ?_
 refine yD hG rfl ?_
 obtain ⟨y105, hy106, hM⟩ := bind_t hM
 obtain ⟨k107, n107, p107, e107, fs107, q107, f107, ks107, rfl, hc108, hi109⟩ := pidx (ks := ks2) hy106
 refine run_pu rfl (indexImm_step hG rfl rfl rfl hi109 rfl rfl rfl rfl hc108) rfl (ltb rfl) ?_
 refine yD hG rfl ?_
 refine yL rfl ?_
 refine yB rfl ?_
 obtain ⟨r110, hg111, hM⟩ := bind_t hM
 refine yK rfl (ih_s_l09TypeOf q1 f1 ks1 k107 n107 p107 e107 fs107 q107 f107 ks107 (IntKind.i64.wrap (i3 + 1)) hg111 _ _) (callK_retX (fun v tk112 (hle113 : tk ≤ tk112) h114 => ?_))
 obtain ⟨ra121, ra122, ra123, va124, va125, va126, rfl, rfl, ⟨k115, n115, q115, f115, ks115, rfl, rfl, hf116⟩, rfl, rfl⟩ := h114
 refine yL rfl ?_
 refine run_pu rfl (extract_step rfl rfl rfl) rfl (ltb rfl) ?_
 refine run_pu rfl (extract_step rfl rfl rfl) rfl (ltb rfl) ?_
 refine run_pu rfl (extract_step rfl rfl rfl) rfl (ltb rfl) ?_
 refine run_op rfl (alloc_step (d := 13) hG rfl rfl rfl) rfl (ltb rfl) ?_
 refine yS hG rfl ?_
 refine yR rfl ?_
 refine yR rfl ?_
 refine yN ?_
 refine run_sub_code (σ' := ⟨[(0, .imm q1 3 f1 (fcellss ks1)), (2, .int .i64 i3), (4, .optr (.loc 4) 0 0), (6, .optr (.loc 6) 0 0), (7, .int .i64 0), (8, .int .i64 0), (9, .optr (.loc 9) 0 0), (13, .optr (.loc 13) 0 0), (14, .int .i64 ra122), (15, .int .i64 ra123)], [(13, ⟨42, 3, true, [[.int .i64 k115, .int .i64 n115, .imm q115 3 f115 (fcellss ks115)]]⟩), (9, ⟨42, 3, true, [[.int .i64 0, .int .i64 0, .imm 0 3 true []]]⟩), (6, ⟨42, 3, true, [[.int .i64 0, .int .i64 0, .imm 0 3 true []]]⟩), (4, ⟨40, 4, true, [[.int .i64 k2, .int .i64 n2, .imm p2 3 e2 (fcellss fs2), .imm q2 4 f2 (pcellss ks2)]]⟩)], [], O, tk112⟩) (Sub.env _ ⟨rfl, rfl, rfl, rfl, rfl, rfl, rfl, rfl, rfl, rfl, trivial⟩) ?_
 refine run_seq ?_
 refine run_sr ?_
 refine yL rfl ?_
 refine yB rfl ?_
 refine yN ?_
 refine run_ifb rfl rfl (fun hb127 => ?_) (fun hb127 => ?_)
 ·replace hM := ite_t hb127 hM
  refine run_sr ?_
  refine yD hG rfl ?_
  refine yL rfl ?_
  refine yL rfl ?_
  refine yS hG rfl ?_
  refine yR rfl ?_
  refine yR rfl ?_
  refine yN ?_
  refine run_ret_to ?_
  obtain rfl := some_t hM
  refine fin_x hG rfl rfl rfl (v' := .tup [.agg [.int .i64 0, .int .i64 0, .imm 0 3 true (fcellss [])], .int .i64 ra122, .int .i64 ra123]) (by rfl) ⟨rfl, (show tk ≤ tk112 by omega), _, rfl, ⟨_, _, _, _, _, _, rfl, rfl, ⟨0, 0, 0, true, [], rfl, rfl, fun h => by cases h⟩, rfl, rfl⟩⟩
 replace hM := ite_f hb127 hM
 refine run_skip ?_
 refine run_sr ?_
 refine yL rfl ?_
 refine yB rfl ?_
 refine yF hG rfl ?_
 refine yD hG rfl ?_
 obtain ⟨y128, hy129, hM⟩ := bind_t hM
 obtain ⟨k130, n130, p130, e130, fs130, q130, f130, ks130, rfl, hc131, hi132⟩ := pidx (ks := ks2) hy129
 refine run_pu rfl (indexImm_step hG rfl rfl rfl hi132 rfl rfl rfl rfl hc131) rfl (ltb rfl) ?_
 refine yD hG rfl ?_
 obtain ⟨r133, hg134, hM⟩ := bind_t hM
 refine yK rfl (s_l09Size_ok n k130 n130 p130 e130 fs130 q130 f130 ks130 hg134 _ _) (callK_retX (fun v tk135 (hle136 : tk112 ≤ tk135) h137 => ?_))
 subst h137
 refine yB rfl ?_
 refine yR rfl ?_
 refine yN ?_
 refine run_sr ?_
 refine yL rfl ?_
 refine yF hG rfl ?_
 refine yD hG rfl ?_
 obtain ⟨y140, hy141, hM⟩ := bind_t hM
 obtain ⟨k142, n142, p142, e142, fs142, q142, f142, ks142, rfl, hc143, hi144⟩ := pidx (ks := ks2) hy141
 refine run_pu rfl (indexImm_step hG rfl rfl rfl hi144 rfl rfl rfl rfl hc143) rfl (ltb rfl) ?_
 refine yD hG rfl ?_
 refine yL rfl ?_
 obtain ⟨r145, hg146, hM⟩ := bind_t hM
 refine yK rfl (ih_s_l09TypeOf q1 f1 ks1 k142 n142 p142 e142 fs142 q142 f142 ks142 (IntKind.i64.wrap ((IntKind.i64.wrap (i3 + 1)) + r133)) hg146 _ _) (callK_retX (fun v tk147 (hle148 : tk135 ≤ tk147) h149 => ?_))
 obtain ⟨ra156, ra157, ra158, va159, va160, va161, rfl, rfl, ⟨k150, n150, q150, f150, ks150, rfl, rfl, hf151⟩, rfl, rfl⟩ := h149
 refine yL rfl ?_
 refine run_pu rfl (extract_step rfl rfl rfl) rfl (ltb rfl) ?_
 refine run_pu rfl (extract_step rfl rfl rfl) rfl (ltb rfl) ?_
 refine run_pu rfl (extract_step rfl rfl rfl) rfl (ltb rfl) ?_
 refine run_op rfl (alloc_step (d := 17) hG rfl rfl rfl) rfl (ltb rfl) ?_
 refine yS hG rfl ?_
 refine yR rfl ?_
 refine yR rfl ?_
 refine yN ?_
 refine run_sub_code (σ' := ⟨[(2, .int .i64 i3), (6, .optr (.loc 6) 0 0), (7, .int .i64 0), (8, .int .i64 0), (9, .optr (.loc 9) 0 0), (13, .optr (.loc 13) 0 0), (14, .int .i64 ra157), (15, .int .i64 ra158), (16, .int .i64 (IntKind.i64.wrap ((IntKind.i64.wrap (i3 + 1)) + r133))), (17, .optr (.loc 17) 0 0)], [(17, ⟨42, 3, true, [[.int .i64 k150, .int .i64 n150, .imm q150 3 f150 (fcellss ks150)]]⟩), (13, ⟨42, 3, true, [[.int .i64 k115, .int .i64 n115, .imm q115 3 f115 (fcellss ks115)]]⟩), (9, ⟨42, 3, true, [[.int .i64 0, .int .i64 0, .imm 0 3 true []]]⟩), (6, ⟨42, 3, true, [[.int .i64 0, .int .i64 0, .imm 0 3 true []]]⟩)], [], O, tk147⟩) (Sub.trans (Sub.drop (k := 4) rfl) (Sub.env _ ⟨rfl, rfl, rfl, rfl, rfl, rfl, rfl, rfl, rfl, rfl, trivial⟩)) ?_
 refine run_seq ?_
 refine run_sr ?_
 refine yL rfl ?_
 refine yB rfl ?_
 refine yN ?_
 refine run_ifb rfl rfl (fun hb162 => ?_) (fun hb162 => ?_)
 ·replace hM := ite_t hb162 hM
  refine run_sr ?_
  refine yD hG rfl ?_
  refine yL rfl ?_
  refine yL rfl ?_
  refine yS hG rfl ?_
  refine yR rfl ?_
  refine yR rfl ?_
  refine yN ?_
  refine run_ret_to ?_
  obtain rfl := some_t hM
  refine fin_x hG rfl rfl rfl (v' := .tup [.agg [.int .i64 0, .int .i64 0, .imm 0 3 true (fcellss [])], .int .i64 ra157, .int .i64 ra158]) (by rfl) ⟨rfl, (show tk ≤ tk147 by omega), _, rfl, ⟨_, _, _, _, _, _, rfl, rfl, ⟨0, 0, 0, true, [], rfl, rfl, fun h => by cases h⟩, rfl, rfl⟩⟩
 replace hM := ite_f hb162 hM
 refine run_skip ?_
 refine run_seq ?_
 refine run_sr ?_
 refine yF hG rfl ?_
 refine yD hG rfl ?_
 refine yB rfl ?_
 refine yN ?_
 refine run_ifb rfl rfl (fun hb163 => ?_) (fun hb163 => ?_)
 ·replace hM := ite_t hb163 hM
  refine run_sr ?_
  refine yD hG rfl ?_
  refine yL rfl ?_
  refine yB rfl ?_
  refine yS hG rfl ?_
  refine yR rfl ?_
  refine yR rfl ?_
  refine yN ?_
  refine run_ret_to ?_
  obtain rfl := some_t hM
  refine fin_x hG rfl rfl rfl (v' := .tup [.agg [.int .i64 0, .int .i64 0, .imm 0 3 true (fcellss [])], .int .i64 8, .int .i64 (IntKind.i64.wrap (i3 + 1))]) (by rfl) ⟨rfl, (show tk ≤ tk147 by omega), _, rfl, ⟨_, _, _, _, _, _, rfl, rfl, ⟨0, 0, 0, true, [], rfl, rfl, fun h => by cases h⟩, rfl, rfl⟩⟩
 replace hM := ite_f hb163 hM
 refine run_skip ?_
 refine run_seq ?_
 refine run_seq ?_
 refine run_draw [] (n := 7) mixed rfl yE ?_
 refine yTF hG 0 (by kernel_rfl) rfl ?_
 refine yTL hG 1 (by kernel_rfl) rfl ?_
 obtain ⟨y164, hy165, hM⟩ := bind_t hM
 obtain ⟨k166, n166, q166, f166, ks166, rfl, hc167, hi168⟩ := fidx (ks := ks115) hy165
 refine yT 2 (by kernel_rfl) rfl rfl rfl (ltb rfl) ((indexImm_step hG rfl rfl rfl hi168 rfl rfl rfl rfl hc167).rd _) ?_
 refine yTL hG 3 (by kernel_rfl) rfl ?_
 refine yTL hG 4 (by kernel_rfl) rfl ?_
 obtain ⟨r169, hg170, hM⟩ := bind_t hM
 refine yC 5 (by kernel_rfl) rfl rfl (s_l09Same_ok n k166 n166 q166 f166 ks166 k150 n150 q150 f150 ks150 hg170 _ _) (callK_retX (fun v tk171 (hle172 : tk147 ≤ tk171) h173 => ?_))
 subst h173
 refine yT 6 (by kernel_rfl) rfl rfl rfl (ltb rfl) ((aun_step rfl rfl rfl).rd _) ?_
 refine AAny.done (by kernel_rfl) ?_
 refine run_ifb rfl rfl (fun hb176 => ?_) (fun hb176 => ?_)
 ·replace hM := ite_t hb176 hM
  refine run_sr ?_
  refine yD hG rfl ?_
  refine yL rfl ?_
  refine yS hG rfl ?_
  refine yR rfl ?_
  refine yR rfl ?_
  refine yN ?_
  refine run_ret_to ?_
  obtain rfl := some_t hM
  refine fin_x hG rfl rfl rfl (v' := .tup [.agg [.int .i64 0, .int .i64 0, .imm 0 3 true (fcellss [])], .int .i64 10, .int .i64 (IntKind.i64.wrap ((IntKind.i64.wrap (i3 + 1)) + r133))]) (by rfl) ⟨rfl, (show tk ≤ tk171 by omega), _, rfl, ⟨_, _, _, _, _, _, rfl, rfl, ⟨0, 0, 0, true, [], rfl, rfl, fun h => by cases h⟩, rfl, rfl⟩⟩
 replace hM := ite_f hb176 hM
 refine run_skip ?_
 refine run_sr ?_
 refine yF hG rfl ?_
 refine yD hG rfl ?_
 obtain ⟨y177, hy178, hM⟩ := bind_t hM
 obtain ⟨k179, n179, q179, f179, ks179, rfl, hc180, hi181⟩ := fidx (ks := ks115) hy178
 refine run_pu rfl (indexImm_step hG rfl rfl rfl hi181 rfl rfl rfl rfl hc180) rfl (ltb rfl) ?_
 refine yD hG rfl ?_
 refine yS hG rfl ?_
 refine yR rfl ?_
 refine yR rfl ?_
 refine yN ?_
 refine run_ret_to ?_
 obtain rfl := some_t hM
 refine fin_x hG rfl rfl rfl (v' := .tup [.agg [.int .i64 k179, .int .i64 n179, .imm q179 3 f179 (fcellss ks179)], .int .i64 0, .int .i64 0]) (by rfl) ⟨rfl, (show tk ≤ tk171 by omega), _, rfl, ⟨_, _, _, _, _, _, rfl, rfl, ⟨k179, n179, q179, f179, ks179, rfl, rfl, fun h => by cases h⟩, rfl, rfl⟩⟩

theorem s_l09TypeOf_all : ∀ (n : Nat), (s_l09TypeOf_P n)
 | 0 => by intro q1 f1 ks1 k2 n2 p2 e2 fs2 q2 f2 ks2 i3 r hM; rw [s_l09TypeOf] at hM; cases hM
 | n + 1 => have ih := s_l09TypeOf_all n; s_l09TypeOf_st n (ih)

theorem s_l09TypeOf_ok (n : Nat) : s_l09TypeOf_P n := s_l09TypeOf_all n

def s_TypeOf (n : Nat) (l1 : List F) (x2 : Pf) : Option (F × Int × Int) :=
 if ((l1).length : Int) > 4096 then
  some ((F.mk 0 0 []), 2, 0)
 else
  (s_l09Ctx n l1).bind fun r4 =>
  if (!r4) = true then
   some ((F.mk 0 0 []), 1, 0)
  else
   (s_ExprOK n x2).bind fun r12 =>
   if (!r12) = true then
    some ((F.mk 0 0 []), 1, 0)
   else
    (s_l09TypeOf n l1 x2 0).bind fun r20 =>
    (s_l09Copy n r20.1).bind fun r37 =>
    some (r37, r20.2.1, r20.2.2)

set_option maxRecDepth 100000 in
theorem s_TypeOf_ok (n : Nat) : ∀ (q1 : Nat) (f1 : Bool) (ks1 : List LF) (k2 : Int) (n2 : Int) (p2 : Nat) (e2 : Bool) (fs2 : List LF) (q2 : Nat) (f2 : Bool) (ks2 : List LP) {r : (F × Int × Int)}, s_TypeOf n (fers ks1) (Pf.mk k2 n2 (fers fs2) (pers ks2)) = some r → ∀ (O : Heap) (tk : Nat), ACalls Go.Proofs.Try.prog 21 [.imm q1 3 f1 (fcellss ks1), .agg [.int .i64 k2, .int .i64 n2, .imm p2 3 e2 (fcellss fs2), .imm q2 4 f2 (pcellss ks2)]] O tk (RetX O tk (fun v tk' => ∃ r0' r1' r2' v0' v1' v2', r = (r0', r1', r2') ∧ v = .tup [v0', v1', v2'] ∧ VF true tk tk' r0' v0' ∧ v1' = .int .i64 r1' ∧ v2' = .int .i64 r2')) := by
 intro q1 f1 ks1 k2 n2 p2 e2 fs2 q2 f2 ks2 r hM O tk
 unfold s_TypeOf at hM
 refine acalls_of_run Go.Proofs.Try.func21 rfl rfl [] [] (Bor.nil _) [(0, .imm q1 3 f1 (fcellss ks1)), (1, .agg [.int .i64 k2, .int .i64 n2, .imm p2 3 e2 (fcellss fs2), .imm q2 4 f2 (pcellss ks2)])] (.cons (entS rfl) (.cons (.agg _) (.nil _))) (leb rfl) (fun _ h => by cases h) (fun S0 hO htk hfz => ?_)
 refine run_sr ?_
 refine run_op rfl (box_step (d := 3) rfl rfl rfl rfl rfl) rfl (ltb rfl) ?_
 refine run_op rfl (alloc_step (d := 4) hG rfl rfl rfl) rfl (ltb rfl) ?_
 refine yR rfl ?_
 refine yR rfl ?_
 refine yN ?_
 refine run_seq ?_
 refine run_sr ?_
 refine yL rfl ?_
 refine run_pu rfl (lenImm_step hG rfl rfl rfl rfl (flen _)) rfl (ltb rfl) ?_
 refine yB rfl ?_
 refine yN ?_
 refine run_ifd rfl rfl (fun hb3 => ?_) (fun hb3 => ?_)
 ·replace hM := ite_t hb3 hM
  refine run_sr ?_
  refine run_pu rfl (build_step hG rfl (by rfl) rfl (fun h => by cases h) (by rfl)) rfl (ltb rfl) ?_
  refine yS hG rfl ?_
  refine yR rfl ?_
  refine yR rfl ?_
  refine yN ?_
  refine run_ret_to ?_
  obtain rfl := some_t hM
  refine fin_x hG rfl rfl rfl (v' := .tup [.agg [.int .i64 0, .int .i64 0, .imm 0 3 true (fcellss [])], .int .i64 2, .int .i64 0]) (by rfl) ⟨rfl, (show tk ≤ tk by omega), _, rfl, ⟨_, _, _, _, _, _, rfl, rfl, ⟨0, 0, 0, true, [], rfl, rfl, fun _ => Fr.nil _ _⟩, rfl, rfl⟩⟩
 replace hM := ite_f hb3 hM
 refine run_skip ?_
 refine run_seq ?_
 refine run_sr ?_
 refine yL rfl ?_
 obtain ⟨r4, hg5, hM⟩ := bind_t hM
 refine yK rfl (s_l09Ctx_ok n q1 f1 ks1 hg5 _ _) (callK_retX (fun v tk6 (hle7 : tk ≤ tk6) h8 => ?_))
 subst h8
 refine run_pu rfl (aun_step rfl rfl rfl) rfl (ltb rfl) ?_
 refine yL rfl ?_
 refine run_splitb (i := 17) rfl (fun hb11 => ?_) (fun hb11 => ?_)
 ·replace hM := ite_t hb11 hM
  refine yO rfl ?_
  refine yO rfl ?_
  refine yO rfl ?_
  refine yP rfl ?_
  refine yN ?_
  refine run_if rfl rfl (fun _ => ?_) (fun h => by cases h)
  refine run_sr ?_
  refine run_pu rfl (build_step hG rfl (by rfl) rfl (fun h => by cases h) (by rfl)) rfl (ltb rfl) ?_
  refine yS hG rfl ?_
  refine yR rfl ?_
  refine yR rfl ?_
  refine yN ?_
  refine run_ret_to ?_
  obtain rfl := some_t hM
  refine fin_x hG rfl rfl rfl (v' := .tup [.agg [.int .i64 0, .int .i64 0, .imm 0 3 true (fcellss [])], .int .i64 1, .int .i64 0]) (by rfl) ⟨rfl, (show tk ≤ tk6 by omega), _, rfl, ⟨_, _, _, _, _, _, rfl, rfl, ⟨0, 0, 0, true, [], rfl, rfl, fun _ => Fr.nil _ _⟩, rfl, rfl⟩⟩
 replace hM := ite_f hb11 hM
 refine run_rdG (on_of rfl rfl rfl rfl) (aload_rd hG rfl rfl rfl (by first | (simp [ldok]; done) | exact List.not_mem_nil | trivial)) rfl (ltb rfl) ?_
 obtain ⟨r12, hg13, hM⟩ := bind_t hM
 refine yG (on_of rfl rfl rfl rfl) rfl (s_ExprOK_ok n k2 n2 p2 e2 fs2 q2 f2 ks2 hg13 _ _) (callK_retX (fun v tk14 (hle15 : tk6 ≤ tk14) h16 => ?_))
 subst h16
 refine run_puG (on_of rfl rfl rfl rfl) (aun_step rfl rfl rfl) rfl (ltb rfl) ?_
 refine yP rfl ?_
 refine yN ?_
 refine run_sub_code (σ' := ⟨[(0, .imm q1 3 f1 (fcellss ks1)), (3, .optr (.loc 3) 0 0), (4, .optr (.loc 4) 0 0), (5, .int .i64 0), (6, .int .i64 0), (21, .bool (!r12))], [(4, ⟨42, 3, true, [[.int .i64 0, .int .i64 0, .imm 0 3 true []]]⟩), (3, ⟨40, 4, true, [[.int .i64 k2, .int .i64 n2, .imm p2 3 e2 (fcellss fs2), .imm q2 4 f2 (pcellss ks2)]]⟩)], [], O, tk14⟩) (Sub.env _ ⟨rfl, rfl, rfl, rfl, rfl, rfl, trivial⟩) ?_
 refine run_ifb rfl rfl (fun hb19 => ?_) (fun hb19 => ?_)
 ·replace hM := ite_t hb19 hM
  refine run_sr ?_
  refine run_pu rfl (build_step hG rfl (by rfl) rfl (fun h => by cases h) (by rfl)) rfl (ltb rfl) ?_
  refine yS hG rfl ?_
  refine yR rfl ?_
  refine yR rfl ?_
  refine yN ?_
  refine run_ret_to ?_
  obtain rfl := some_t hM
  refine fin_x hG rfl rfl rfl (v' := .tup [.agg [.int .i64 0, .int .i64 0, .imm 0 3 true (fcellss [])], .int .i64 1, .int .i64 0]) (by rfl) ⟨rfl, (show tk ≤ tk14 by omega), _, rfl, ⟨_, _, _, _, _, _, rfl, rfl, ⟨0, 0, 0, true, [], rfl, rfl, fun _ => Fr.nil _ _⟩, rfl, rfl⟩⟩
 replace hM := ite_f hb19 hM
 refine run_skip ?_
 refine run_sr ?_
 refine yL rfl ?_
 refine yD hG rfl ?_
 obtain ⟨r20, hg21, hM⟩ := bind_t hM
 refine yK rfl (s_l09TypeOf_ok n q1 f1 ks1 k2 n2 p2 e2 fs2 q2 f2 ks2 0 hg21 _ _) (callK_retX (fun v tk22 (hle23 : tk14 ≤ tk22) h24 => ?_))
 obtain ⟨ra31, ra32, ra33, va34, va35, va36, rfl, rfl, ⟨k25, n25, q25, f25, ks25, rfl, rfl, hf26⟩, rfl, rfl⟩ := h24
 refine yL rfl ?_
 refine run_pu rfl (extract_step rfl rfl rfl) rfl (ltb rfl) ?_
 refine run_pu rfl (extract_step rfl rfl rfl) rfl (ltb rfl) ?_
 refine run_pu rfl (extract_step rfl rfl rfl) rfl (ltb rfl) ?_
 refine run_op rfl (alloc_step (d := 7) hG rfl rfl rfl) rfl (ltb rfl) ?_
 refine yS hG rfl ?_
 refine yR rfl ?_
 refine yR rfl ?_
 refine yN ?_
 refine run_sr ?_
 refine yD hG rfl ?_
 obtain ⟨r37, hg38, hM⟩ := bind_t hM
 refine yK rfl (s_l09Copy_ok n k25 n25 q25 f25 ks25 hg38 _ _) (callK_retX (fun v tk39 (hle40 : tk22 ≤ tk39) h41 => ?_))
 obtain ⟨k42, n42, q42, f42, ks42, rfl, rfl, hf43⟩ := h41
 refine yL rfl ?_
 refine yL rfl ?_
 refine yS hG rfl ?_
 refine yR rfl ?_
 refine yR rfl ?_
 refine yN ?_
 refine run_ret_to ?_
 obtain rfl := some_t hM
 refine fin_x hG rfl rfl rfl (v' := .tup [.agg [.int .i64 k42, .int .i64 n42, .imm q42 3 f42 (fcellss ks42)], .int .i64 ra32, .int .i64 ra33]) (by rfl) ⟨rfl, (show tk ≤ tk39 by omega), _, rfl, ⟨_, _, _, _, _, _, rfl, rfl, ⟨k42, n42, q42, f42, ks42, rfl, rfl, fun _ => (show Fr tk tk39 _ from ((show Fr tk22 tk39 _ from hf43 rfl)).mono (by omega) (by omega))⟩, rfl, rfl⟩⟩

end Go.Am.Ytpkeophkdemcpaa
