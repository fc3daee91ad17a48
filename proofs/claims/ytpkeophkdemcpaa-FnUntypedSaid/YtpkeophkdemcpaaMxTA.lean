/- Printed by a program of ours: Lean functions that do what the Go functions do, and the contracts. -/
import Derived.Test.YtpkeophkdemcpaaMi4
import Derived.Test.YtpkeophkdemcpaaTypes
import Derived.Test.YtpkeophkdemcpaaMc1
import Derived.Test.YtpkeophkdemcpaaMkType
import Derived.Test.YtpkeophkdemcpaaMz
-- packed
namespace Go.Am.Ytpkeophkdemcpaa
open Go Go.Am

def g_Max_X_L1 (l1 : List Int) : Nat → Int → Int → Option Int
 | 0, _, _ => none
 | m + 1, i8, i9 =>
  if i9 < ((l1).length : Int) then
   (idx l1 i9).bind fun y11 =>
   g_Max_X_L1 l1 m (imax i8 y11) (IntKind.i64.wrap (i9 + 1))
  else
   some i8

def g_Max_X (n : Nat) (l1 : List Int) : Option Int :=
 if ((l1).length : Int) < 1 then
  none
 else
  (idx l1 0).bind fun y3 =>
  g_Max_X_L1 l1 n y3 1

set_option maxRecDepth 100000 in
theorem g_Max_X_ok (n : Nat) : ∀ (q1 : Nat) (f1 : Bool) (l1 : List Int) {r : Int}, g_Max_X n l1 = some r → ∀ (O : Heap) (tk : Nat), ACalls Go.Proofs.Try.prog 126 [.imm q1 1 f1 ((l1 : List Int).map fun n => [AV.int .i64 n])] O tk (RetX O tk (fun v tk' => v = .int .i64 r)) := by
 intro q1 f1 l1 r hM O tk
 unfold g_Max_X at hM
 refine acalls_of_run Go.Proofs.Try.func126 rfl rfl [] [] (Bor.nil _) [(0, .imm q1 1 f1 ((l1 : List Int).map fun n => [AV.int .i64 n]))] (.cons (entS rfl) (.nil _)) (leb rfl) (fun _ h => by cases h) (fun S0 hO htk hfz => ?_)
 refine run_sr ?_
 refine yR rfl ?_
 refine yN ?_
 refine run_seq ?_
 refine run_sr ?_
 refine yL rfl ?_
 refine run_pu rfl (lenImm_step hG rfl rfl rfl rfl (ilen _)) rfl (ltb rfl) ?_
 refine yB rfl ?_
 refine yN ?_
 refine run_ifd rfl rfl (fun hb2 => ?_) (fun hb2 => ?_)
 ·replace hM := ite_t hb2 hM
  refine run_region ?_
  cases hM
 replace hM := ite_f hb2 hM
 refine run_skip ?_
 refine run_sr ?_
 refine yL rfl ?_
 obtain ⟨y3, hy4, hM⟩ := bind_t hM
 obtain ⟨hc6, hi7⟩ := iidx (k := .i64) hy4
 refine run_pu rfl (indexImm_step hG rfl rfl rfl hi7 rfl rfl rfl rfl hc6) rfl (ltb rfl) ?_
 refine yD hG rfl ?_
 refine yR rfl ?_
 refine yN ?_
 refine run_seq ?_
 refine run_sr ?_
 refine yR rfl ?_
 refine yN ?_
 refine run_block ?_
 refine run_rounds (fun m σ => ∃ (i8 : Int) (i9 : Int) (tkg_Max_X_L1 : Nat), tk ≤ tkg_Max_X_L1 ∧ g_Max_X_L1 l1 m i8 i9 = some r ∧ σ = ⟨[(0, .imm q1 1 f1 ((l1 : List Int).map fun n => [AV.int .i64 n])), (2, .int .i64 0), (3, .int .i64 i8), (4, .int .i64 i9)], [], [], O, tkg_Max_X_L1⟩) n (Sub.pk [0, 2, 3, 4] rfl) ⟨y3, 1, tk, Nat.le_refl _, hM, rfl⟩ (fun m σ hI => ?_)
 clear hM
 obtain ⟨i8, i9, tkg_Max_X_L1, hle16, hM, rfl⟩ := hI
 obtain _ | m := m
 ·exact absurd hM (by rw [g_Max_X_L1]; exact fun h => by cases h)
 rw [g_Max_X_L1] at hM
 refine run_seq ?_
 refine run_sr ?_
 refine yL rfl ?_
 refine yL rfl ?_
 refine run_pu rfl (lenImm_step hG rfl rfl rfl rfl (ilen _)) rfl (ltb rfl) ?_
 refine yB rfl ?_
 refine yN ?_
 refine run_ifd rfl rfl (fun hb10 => ?_) (fun hb10 => ?_)
 ·replace hM := ite_t hb10 hM
  refine run_skip ?_
  refine run_seq ?_
  refine run_block ?_
  refine run_region ?_
  refine yL rfl ?_
  refine yL rfl ?_
  refine yL rfl ?_
  obtain ⟨y11, hy12, hM⟩ := bind_t hM
  obtain ⟨hc14, hi15⟩ := iidx (k := .i64) hy12
  refine run_pu rfl (indexImm_step hG rfl rfl rfl hi15 rfl rfl rfl rfl hc14) rfl (ltb rfl) ?_
  refine yD hG rfl ?_
  refine run_pu rfl (max_step rfl rfl rfl) rfl (ltb rfl) ?_
  refine yR rfl ?_
  refine yN ?_
  refine run_blk ?_
  refine run_region ?_
  refine yL rfl ?_
  refine yB rfl ?_
  refine yR rfl ?_
  refine yN ?_
  exact run_loop_end ⟨m, _, Nat.lt_succ_self _, ⟨(imax i8 y11), (IntKind.i64.wrap (i9 + 1)), tkg_Max_X_L1, (show tk ≤ tkg_Max_X_L1 by omega), hM, rfl⟩, Sub.pk [0, 2, 3, 4] rfl⟩
 replace hM := ite_f hb10 hM
 refine run_exit_to rfl ?_
 refine run_sr ?_
 refine yL rfl ?_
 refine yR rfl ?_
 refine yN ?_
 refine run_ret_to ?_
 obtain rfl := some_t hM
 refine fin_x hG rfl rfl rfl (v' := .int .i64 i8) (by rfl) ⟨rfl, (show tk ≤ tkg_Max_X_L1 by omega), _, rfl, rfl⟩

def i_longLists (n : Nat) (l1 : List Int) : Option Bool :=
 (g_Max_X n l1).bind fun r2 =>
 some (decide (r2 > 4096))

set_option maxRecDepth 100000 in
theorem i_longLists_ok (n : Nat) : ∀ (q1 : Nat) (f1 : Bool) (l1 : List Int) {r : Bool}, i_longLists n l1 = some r → ∀ (O : Heap) (tk : Nat), ACalls Go.Proofs.Try.prog 55 [.imm q1 1 f1 ((l1 : List Int).map fun n => [AV.int .i64 n])] O tk (RetX O tk (fun v tk' => v = .bool r)) := by
 intro q1 f1 l1 r hM O tk
 unfold i_longLists at hM
 refine acalls_of_run Go.Proofs.Try.func55 rfl rfl [] [] (Bor.nil _) [(0, .imm q1 1 f1 ((l1 : List Int).map fun n => [AV.int .i64 n]))] (.cons (entS rfl) (.nil _)) (leb rfl) (fun _ h => by cases h) (fun S0 hO htk hfz => ?_)
 refine run_sr ?_
 refine yR rfl ?_
 refine yN ?_
 refine run_sr ?_
 refine yL rfl ?_
 obtain ⟨r2, hg3, hM⟩ := bind_t hM
 refine yK rfl (g_Max_X_ok n q1 f1 l1 hg3 _ _) (callK_retX (fun v tk4 (hle5 : tk ≤ tk4) h6 => ?_))
 subst h6
 refine yB rfl ?_
 refine yR rfl ?_
 refine yN ?_
 refine run_ret_to ?_
 obtain rfl := some_t hM
 refine fin_x hG rfl rfl rfl (v' := .bool (decide (r2 > 4096))) (by rfl) ⟨rfl, (show tk ≤ tk4 by omega), _, rfl, rfl⟩

def i_typesOK_c1 (n : Nat) (x1 : F) : Option Bool :=
 (i_TypeOK n x1).bind fun r2 =>
 some (!r2)

set_option maxRecDepth 100000 in
theorem i_typesOK_c1_ok (n : Nat) : ∀ (k1 : Int) (n1 : Int) (q1 : Nat) (f1 : Bool) (ks1 : List LF) {r : Bool}, i_typesOK_c1 n (F.mk k1 n1 (fers ks1)) = some r → ∀ (O : Heap) (tk : Nat), ACalls Go.Proofs.Try.prog 145 [.agg [.int .i64 k1, .int .i64 n1, .imm q1 3 f1 (fcellss ks1)]] O tk (RetX O tk (fun v tk' => v = .bool r)) := by
 intro k1 n1 q1 f1 ks1 r hM O tk
 unfold i_typesOK_c1 at hM
 refine acalls_of_run Go.Proofs.Try.func145 rfl rfl [] [] (Bor.nil _) [(0, .agg [.int .i64 k1, .int .i64 n1, .imm q1 3 f1 (fcellss ks1)])] (.cons (.agg _) (.nil _)) (leb rfl) (fun _ h => by cases h) (fun S0 hO htk hfz => ?_)
 refine run_sr ?_
 refine run_op rfl (box_step (d := 1) rfl rfl rfl rfl rfl) rfl (ltb rfl) ?_
 refine yR rfl ?_
 refine yN ?_
 refine run_sr ?_
 refine yD hG rfl ?_
 obtain ⟨r2, hg3, hM⟩ := bind_t hM
 refine yK rfl (i_TypeOK_ok n k1 n1 q1 f1 ks1 hg3 _ _) (callK_retX (fun v tk4 (hle5 : tk ≤ tk4) h6 => ?_))
 subst h6
 refine run_pu rfl (aun_step rfl rfl rfl) rfl (ltb rfl) ?_
 refine yR rfl ?_
 refine yN ?_
 refine run_ret_to ?_
 obtain rfl := some_t hM
 refine fin_x hG rfl rfl rfl (v' := .bool (!r2)) (by rfl) ⟨rfl, (show tk ≤ tk4 by omega), _, rfl, rfl⟩

def g_IndexFunc_Type__fn_i_typesOK_c1_L1 (n : Nat) (l1 : List F) : Nat → Int → Option Int
 | 0, _ => none
 | m + 1, i2 =>
  if i2 < ((l1).length : Int) then
   (idx l1 i2).bind fun y4 =>
   (i_typesOK_c1 n y4).bind fun r9 =>
   if r9 = true then
    some i2
   else
    g_IndexFunc_Type__fn_i_typesOK_c1_L1 n l1 m (IntKind.i64.wrap (i2 + 1))
  else
   some (-1)

def g_IndexFunc_Type__fn_i_typesOK_c1 (n : Nat) (l1 : List F) : Option Int :=
 g_IndexFunc_Type__fn_i_typesOK_c1_L1 n l1 n 0

set_option maxRecDepth 100000 in
theorem g_IndexFunc_Type__fn_i_typesOK_c1_ok (n : Nat) : ∀ (q1 : Nat) (f1 : Bool) (ks1 : List LF) {r : Int}, g_IndexFunc_Type__fn_i_typesOK_c1 n (fers ks1) = some r → ∀ (O : Heap) (tk : Nat), ACalls Go.Proofs.Try.prog 198 [.imm q1 3 f1 (fcellss ks1), .fn (.func 145) [] []] O tk (RetX O tk (fun v tk' => v = .int .i64 r)) := by
 intro q1 f1 ks1 r hM O tk
 unfold g_IndexFunc_Type__fn_i_typesOK_c1 at hM
 refine acalls_of_run Go.Proofs.Try.func198 rfl rfl [] [] (Bor.nil _) [(0, .imm q1 3 f1 (fcellss ks1)), (1, .fn (.func 145) [] [])] (.cons (entS rfl) (.cons (entS rfl) (.nil _))) (leb rfl) (fun _ h => by cases h) (fun S0 hO htk hfz => ?_)
 refine run_sr ?_
 refine yR rfl ?_
 refine yN ?_
 refine run_seq ?_
 refine run_sr ?_
 refine yL rfl ?_
 refine run_pu rfl (lenImm_step hG rfl rfl rfl rfl (flen _)) rfl (ltb rfl) ?_
 refine yL rfl ?_
 refine yN ?_
 refine run_block ?_
 refine run_rounds (fun m σ => ∃ (i2 : Int) (tkg_IndexFunc_Type__fn_i_typesOK_c1_L1 : Nat), tk ≤ tkg_IndexFunc_Type__fn_i_typesOK_c1_L1 ∧ g_IndexFunc_Type__fn_i_typesOK_c1_L1 n (fers ks1) m i2 = some r ∧ σ = ⟨[(0, .imm q1 3 f1 (fcellss ks1)), (1, .fn (.func 145) [] []), (4, .int .i64 0), (7, .int .i64 (((fers ks1)).length : Int)), (8, .int .i64 i2)], [], [], O, tkg_IndexFunc_Type__fn_i_typesOK_c1_L1⟩) n (Sub.pk [0, 1, 4, 7, 8] rfl) ⟨0, tk, Nat.le_refl _, hM, rfl⟩ (fun m σ hI => ?_)
 clear hM
 obtain ⟨i2, tkg_IndexFunc_Type__fn_i_typesOK_c1_L1, hle17, hM, rfl⟩ := hI
 obtain _ | m := m
 ·exact absurd hM (by rw [g_IndexFunc_Type__fn_i_typesOK_c1_L1]; exact fun h => by cases h)
 rw [g_IndexFunc_Type__fn_i_typesOK_c1_L1] at hM
 refine run_sr ?_
 refine yB rfl ?_
 refine yN ?_
 refine run_seq ?_
 refine run_ifd rfl rfl (fun hb3 => ?_) (fun hb3 => ?_)
 ·replace hM := ite_t hb3 hM
  refine run_skip ?_
  refine run_seq ?_
  refine run_block ?_
  refine run_sr ?_
  refine yL rfl ?_
  refine yR rfl ?_
  refine yN ?_
  refine run_sr ?_
  refine yL rfl ?_
  refine yL rfl ?_
  refine yL rfl ?_
  obtain ⟨y4, hy5, hM⟩ := bind_t hM
  obtain ⟨k6, n6, q6, f6, ks6, rfl, hc7, hi8⟩ := fidx (ks := ks1) hy5
  refine run_pu rfl (indexImm_step hG rfl rfl rfl hi8 rfl rfl rfl rfl hc7) rfl (ltb rfl) ?_
  refine yD hG rfl ?_
  obtain ⟨r9, hg10, hM⟩ := bind_t hM
  refine yK rfl (i_typesOK_c1_ok n k6 n6 q6 f6 ks6 hg10 _ _) (callK_retX (fun v tk11 (hle12 : tkg_IndexFunc_Type__fn_i_typesOK_c1_L1 ≤ tk11) h13 => ?_))
  subst h13
  refine yN ?_
  refine run_ifb rfl rfl (fun hb16 => ?_) (fun hb16 => ?_)
  ·replace hM := ite_t hb16 hM
   refine run_sr ?_
   refine yL rfl ?_
   refine yR rfl ?_
   refine yN ?_
   refine run_ret_to ?_
   obtain rfl := some_t hM
   refine fin_x hG rfl rfl rfl (v' := .int .i64 i2) (by rfl) ⟨rfl, (show tk ≤ tk11 by omega), _, rfl, rfl⟩
  replace hM := ite_f hb16 hM
  refine run_skip ?_
  refine run_blk ?_
  refine run_region ?_
  refine yB rfl ?_
  refine yL rfl ?_
  refine yN ?_
  exact run_loop_end ⟨m, _, Nat.lt_succ_self _, ⟨(IntKind.i64.wrap (i2 + 1)), tk11, (show tk ≤ tk11 by omega), hM, rfl⟩, Sub.pk [0, 1, 4, 7, 8] rfl⟩
 replace hM := ite_f hb3 hM
 refine run_exit_to rfl ?_
 refine run_sr ?_
 refine yR rfl ?_
 refine yN ?_
 refine run_ret_to ?_
 obtain rfl := some_t hM
 refine fin_x hG rfl rfl rfl (v' := .int .i64 (-1)) (by rfl) ⟨rfl, (show tk ≤ tkg_IndexFunc_Type__fn_i_typesOK_c1_L1 by omega), _, rfl, rfl⟩

def g_ContainsFunc_Type__fn_i_typesOK_c1 (n : Nat) (l1 : List F) : Option Bool :=
 (g_IndexFunc_Type__fn_i_typesOK_c1 n l1).bind fun r2 =>
 some (decide (r2 ≥ 0))

set_option maxRecDepth 100000 in
theorem g_ContainsFunc_Type__fn_i_typesOK_c1_ok (n : Nat) : ∀ (q1 : Nat) (f1 : Bool) (ks1 : List LF) {r : Bool}, g_ContainsFunc_Type__fn_i_typesOK_c1 n (fers ks1) = some r → ∀ (O : Heap) (tk : Nat), ACalls Go.Proofs.Try.prog 144 [.imm q1 3 f1 (fcellss ks1), .fn (.func 145) [] []] O tk (RetX O tk (fun v tk' => v = .bool r)) := by
 intro q1 f1 ks1 r hM O tk
 unfold g_ContainsFunc_Type__fn_i_typesOK_c1 at hM
 refine acalls_of_run Go.Proofs.Try.func144 rfl rfl [] [] (Bor.nil _) [(0, .imm q1 3 f1 (fcellss ks1)), (1, .fn (.func 145) [] [])] (.cons (entS rfl) (.cons (entS rfl) (.nil _))) (leb rfl) (fun _ h => by cases h) (fun S0 hO htk hfz => ?_)
 refine run_sr ?_
 refine yR rfl ?_
 refine yN ?_
 refine run_sr ?_
 refine yL rfl ?_
 refine yL rfl ?_
 obtain ⟨r2, hg3, hM⟩ := bind_t hM
 refine yK rfl (g_IndexFunc_Type__fn_i_typesOK_c1_ok n q1 f1 ks1 hg3 _ _) (callK_retX (fun v tk4 (hle5 : tk ≤ tk4) h6 => ?_))
 subst h6
 refine yB rfl ?_
 refine yR rfl ?_
 refine yN ?_
 refine run_ret_to ?_
 obtain rfl := some_t hM
 refine fin_x hG rfl rfl rfl (v' := .bool (decide (r2 ≥ 0))) (by rfl) ⟨rfl, (show tk ≤ tk4 by omega), _, rfl, rfl⟩

def i_typesOK (n : Nat) (l1 : List F) : Option Bool :=
 if ((l1).length : Int) ≤ 12 then
  (g_ContainsFunc_Type__fn_i_typesOK_c1 n l1).bind fun r3 =>
  some (!r3)
 else
  some false

set_option maxRecDepth 100000 in
theorem i_typesOK_ok (n : Nat) : ∀ (q1 : Nat) (f1 : Bool) (ks1 : List LF) {r : Bool}, i_typesOK n (fers ks1) = some r → ∀ (O : Heap) (tk : Nat), ACalls Go.Proofs.Try.prog 67 [.imm q1 3 f1 (fcellss ks1)] O tk (RetX O tk (fun v tk' => v = .bool r)) := by
 intro q1 f1 ks1 r hM O tk
 unfold i_typesOK at hM
 refine acalls_of_run Go.Proofs.Try.func67 rfl rfl [] [] (Bor.nil _) [(0, .imm q1 3 f1 (fcellss ks1))] (.cons (entS rfl) (.nil _)) (leb rfl) (fun _ h => by cases h) (fun S0 hO htk hfz => ?_)
 refine run_sr ?_
 refine yR rfl ?_
 refine yN ?_
 refine run_sr ?_
 refine yL rfl ?_
 refine run_pu rfl (lenImm_step hG rfl rfl rfl rfl (flen _)) rfl (ltb rfl) ?_
 refine yB rfl ?_
 refine yL rfl ?_
 refine run_splitd (i := 6) rfl (fun hb2 => ?_) (fun hb2 => ?_)
 ·replace hM := ite_t hb2 hM
  refine run_puG (on_of rfl rfl rfl rfl) (move_step (.inl rfl) rfl) rfl (ltb rfl) ?_
  obtain ⟨r3, hg4, hM⟩ := bind_t hM
  refine yG (on_of rfl rfl rfl rfl) rfl (g_ContainsFunc_Type__fn_i_typesOK_c1_ok n q1 f1 ks1 hg4 _ _) (callK_retX (fun v tk5 (hle6 : tk ≤ tk5) h7 => ?_))
  subst h7
  refine run_puG (on_of rfl rfl rfl rfl) (aun_step rfl rfl rfl) rfl (ltb rfl) ?_
  refine yP rfl ?_
  refine yR rfl ?_
  refine yN ?_
  refine run_ret_to ?_
  obtain rfl := some_t hM
  refine fin_x hG rfl rfl rfl (v' := .bool (!r3)) (by rfl) ⟨rfl, (show tk ≤ tk5 by omega), _, rfl, rfl⟩
 replace hM := ite_f hb2 hM
 refine yO rfl ?_
 refine yO rfl ?_
 refine yO rfl ?_
 refine yP rfl ?_
 refine yR rfl ?_
 refine yN ?_
 refine run_ret_to ?_
 obtain rfl := some_t hM
 refine fin_x hG rfl rfl rfl (v' := .bool false) (by rfl) ⟨rfl, (show tk ≤ tk by omega), _, rfl, rfl⟩

def s_l09Ctx_L1 (n : Nat) (l1 : List F) : Nat → Int → Option Bool
 | 0, _ => none
 | m + 1, i3 =>
  if i3 < ((l1).length : Int) then
   (idx l1 i3).bind fun y5 =>
   (s_TypeOK n y5).bind fun r10 =>
   if (!r10) = true then
    some false
   else
    s_l09Ctx_L1 n l1 m (IntKind.i64.wrap (i3 + 1))
  else
   some true

def s_l09Ctx (n : Nat) (l1 : List F) : Option Bool :=
 if ((l1).length : Int) > 12 then
  some false
 else
  s_l09Ctx_L1 n l1 n 0

set_option maxRecDepth 100000 in
theorem s_l09Ctx_ok (n : Nat) : ∀ (q1 : Nat) (f1 : Bool) (ks1 : List LF) {r : Bool}, s_l09Ctx n (fers ks1) = some r → ∀ (O : Heap) (tk : Nat), ACalls Go.Proofs.Try.prog 79 [.imm q1 3 f1 (fcellss ks1)] O tk (RetX O tk (fun v tk' => v = .bool r)) := by
 intro q1 f1 ks1 r hM O tk
 unfold s_l09Ctx at hM
 refine acalls_of_run Go.Proofs.Try.func79 rfl rfl [] [] (Bor.nil _) [(0, .imm q1 3 f1 (fcellss ks1))] (.cons (entS rfl) (.nil _)) (leb rfl) (fun _ h => by cases h) (fun S0 hO htk hfz => ?_)
 refine run_sr ?_
 refine yR rfl ?_
 refine yN ?_
 refine run_seq ?_
 refine run_sr ?_
 refine yL rfl ?_
 refine run_pu rfl (lenImm_step hG rfl rfl rfl rfl (flen _)) rfl (ltb rfl) ?_
 refine yB rfl ?_
 refine yN ?_
 refine run_ifd rfl rfl (fun hb2 => ?_) (fun hb2 => ?_)
 ·replace hM := ite_t hb2 hM
  refine run_sr ?_
  refine yR rfl ?_
  refine yN ?_
  refine run_ret_to ?_
  obtain rfl := some_t hM
  refine fin_x hG rfl rfl rfl (v' := .bool false) (by rfl) ⟨rfl, (show tk ≤ tk by omega), _, rfl, rfl⟩
 replace hM := ite_f hb2 hM
 refine run_skip ?_
 refine run_seq ?_
 refine run_sr ?_
 refine yR rfl ?_
 refine yN ?_
 refine run_block ?_
 refine run_rounds (fun m σ => ∃ (i3 : Int) (tks_l09Ctx_L1 : Nat), tk ≤ tks_l09Ctx_L1 ∧ s_l09Ctx_L1 n (fers ks1) m i3 = some r ∧ σ = ⟨[(0, .imm q1 3 f1 (fcellss ks1)), (2, .bool false), (3, .int .i64 i3)], [], [], O, tks_l09Ctx_L1⟩) n (Sub.pk [0, 2, 3] rfl) ⟨0, tk, Nat.le_refl _, hM, rfl⟩ (fun m σ hI => ?_)
 clear hM
 obtain ⟨i3, tks_l09Ctx_L1, hle18, hM, rfl⟩ := hI
 obtain _ | m := m
 ·exact absurd hM (by rw [s_l09Ctx_L1]; exact fun h => by cases h)
 rw [s_l09Ctx_L1] at hM
 refine run_seq ?_
 refine run_sr ?_
 refine yL rfl ?_
 refine yL rfl ?_
 refine run_pu rfl (lenImm_step hG rfl rfl rfl rfl (flen _)) rfl (ltb rfl) ?_
 refine yB rfl ?_
 refine yN ?_
 refine run_ifd rfl rfl (fun hb4 => ?_) (fun hb4 => ?_)
 ·replace hM := ite_t hb4 hM
  refine run_skip ?_
  refine run_seq ?_
  refine run_block ?_
  refine run_sr ?_
  refine yL rfl ?_
  refine yL rfl ?_
  obtain ⟨y5, hy6, hM⟩ := bind_t hM
  obtain ⟨k7, n7, q7, f7, ks7, rfl, hc8, hi9⟩ := fidx (ks := ks1) hy6
  refine run_pu rfl (indexImm_step hG rfl rfl rfl hi9 rfl rfl rfl rfl hc8) rfl (ltb rfl) ?_
  refine yD hG rfl ?_
  obtain ⟨r10, hg11, hM⟩ := bind_t hM
  refine yK rfl (s_TypeOK_ok n k7 n7 q7 f7 ks7 hg11 _ _) (callK_retX (fun v tk12 (hle13 : tks_l09Ctx_L1 ≤ tk12) h14 => ?_))
  subst h14
  refine run_pu rfl (aun_step rfl rfl rfl) rfl (ltb rfl) ?_
  refine yN ?_
  refine run_ifb rfl rfl (fun hb17 => ?_) (fun hb17 => ?_)
  ·replace hM := ite_t hb17 hM
   refine run_sr ?_
   refine yR rfl ?_
   refine yN ?_
   refine run_ret_to ?_
   obtain rfl := some_t hM
   refine fin_x hG rfl rfl rfl (v' := .bool false) (by rfl) ⟨rfl, (show tk ≤ tk12 by omega), _, rfl, rfl⟩
  replace hM := ite_f hb17 hM
  refine run_skip ?_
  refine run_blk ?_
  refine run_region ?_
  refine yL rfl ?_
  refine yB rfl ?_
  refine yR rfl ?_
  refine yN ?_
  exact run_loop_end ⟨m, _, Nat.lt_succ_self _, ⟨(IntKind.i64.wrap (i3 + 1)), tk12, (show tk ≤ tk12 by omega), hM, rfl⟩, Sub.pk [0, 2, 3] rfl⟩
 replace hM := ite_f hb4 hM
 refine run_exit_to rfl ?_
 refine run_sr ?_
 refine yR rfl ?_
 refine yN ?_
 refine run_ret_to ?_
 obtain rfl := some_t hM
 refine fin_x hG rfl rfl rfl (v' := .bool true) (by rfl) ⟨rfl, (show tk ≤ tks_l09Ctx_L1 by omega), _, rfl, rfl⟩

def i_cloneType_L1 (rec_i_cloneType : F → Option F) (x1 : F) : Nat → Int → List F → Option F
 | 0, _, _ => none
 | m + 1, i2, l3 =>
  if i2 < ((x1.kids).length : Int) then
   (idx x1.kids i2).bind fun y5 =>
   (rec_i_cloneType y5).bind fun r10 =>
   chk ((l3).length + ([r10]).length ≤ 1099511627776) <|
   i_cloneType_L1 rec_i_cloneType x1 m (IntKind.i64.wrap (i2 + 1)) (l3 ++ [r10])
  else
   some (F.mk x1.kind x1.n l3)

def i_cloneType : Nat → F → Option F
 | 0, _ => none
 | n + 1, x1 =>
  i_cloneType_L1 (i_cloneType n) x1 n 0 ([])

def i_cloneType_P (n : Nat) : Prop := ∀ (k1 : Int) (n1 : Int) (q1 : Nat) (f1 : Bool) (ks1 : List LF) {r : F}, i_cloneType n (F.mk k1 n1 (fers ks1)) = some r → ∀ (O : Heap) (tk : Nat), ACalls Go.Proofs.Try.prog 71 [.agg [.int .i64 k1, .int .i64 n1, .imm q1 3 f1 (fcellss ks1)]] O tk (RetX O tk (fun v tk' => VF true tk tk' r v))

set_option maxRecDepth 100000 in
theorem i_cloneType_st (n : Nat) (ih_i_cloneType : i_cloneType_P n) : i_cloneType_P (n + 1) := by
 intro k1 n1 q1 f1 ks1 r hM O tk
 rw [i_cloneType] at hM
 refine acalls_of_run Go.Proofs.Try.func71 rfl rfl [] [] (Bor.nil _) [(0, .agg [.int .i64 k1, .int .i64 n1, .imm q1 3 f1 (fcellss ks1)])] (.cons (.agg _) (.nil _)) (leb rfl) (fun _ h => by cases h) (fun S0 hO htk hfz => ?_)
 refine run_sr ?_
 refine run_op rfl (box_step (d := 1) rfl rfl rfl rfl rfl) rfl (ltb rfl) ?_
 refine run_op rfl (alloc_step (d := 2) hG rfl rfl rfl) rfl (ltb rfl) ?_
 refine yN ?_
 refine run_sr ?_
 refine run_op rfl (buildSlice_step (d := 6) hG rfl rfl rfl rfl rfl (by rfl) (by rfl) (by rfl) (by decide)) rfl (ltb rfl) ?_
 refine yR rfl ?_
 refine yN ?_
 refine run_seq ?_
 refine run_sr ?_
 refine yF hG rfl ?_
 refine yD hG rfl ?_
 refine run_pu rfl (lenImm_step hG rfl rfl rfl rfl (flen _)) rfl (ltb rfl) ?_
 refine yL rfl ?_
 refine yN ?_
 refine run_block ?_
 refine run_rounds (fun m σ => ∃ (i2 : Int) (ks3 : List LF) (tki_cloneType_L1 : Nat), tk ≤ tki_cloneType_L1 ∧ Fr tk tki_cloneType_L1 (ftoks ks3) ∧ i_cloneType_L1 (i_cloneType n) (F.mk k1 n1 (fers ks1)) m i2 (fers ks3) = some r ∧ σ = ⟨[(1, .optr (.loc 1) 0 0), (2, .optr (.loc 2) 0 0), (3, .osl (.loc 6)), (8, .imm q1 3 f1 (fcellss ks1)), (9, .int .i64 (((fers ks1)).length : Int)), (10, .int .i64 i2)], [(6, ⟨42, 3, false, fcellss ks3⟩), (2, ⟨42, 3, true, [[.int .i64 0, .int .i64 0, .imm 0 3 true []]]⟩), (1, ⟨42, 3, true, [[.int .i64 k1, .int .i64 n1, .imm q1 3 f1 (fcellss ks1)]]⟩)], [], O, tki_cloneType_L1⟩) n (Sub.pk [1, 2, 3, 8, 9, 10] rfl) ⟨0, [], tk, Nat.le_refl _, Fr.nil _ _, hM, rfl⟩ (fun m σ hI => ?_)
 clear hM
 obtain ⟨i2, ks3, tki_cloneType_L1, hle18, hfr3, hM, rfl⟩ := hI
 obtain _ | m := m
 ·exact absurd hM (by rw [i_cloneType_L1]; exact fun h => by cases h)
 rw [i_cloneType_L1] at hM
 refine run_sr ?_
 refine yB rfl ?_
 refine yN ?_
 refine run_seq ?_
 refine run_ifd rfl rfl (fun hb4 => ?_) (fun hb4 => ?_)
 ·replace hM := ite_t hb4 hM
  refine run_skip ?_
  refine run_seq ?_
  refine run_block ?_
  refine run_sr ?_
  obtain ⟨y5, hy6, hM⟩ := bind_t hM
  obtain ⟨k7, n7, q7, f7, ks7, rfl, hc8, hi9⟩ := fidx (ks := ks1) hy6
  refine run_pu rfl (indexImm_step hG rfl rfl rfl hi9 rfl rfl rfl rfl hc8) rfl (ltb rfl) ?_
  refine yD hG rfl ?_
  refine run_op rfl (alloc_step (d := 5) hG rfl rfl rfl) rfl (ltb rfl) ?_
  refine yS hG rfl ?_
  refine yN ?_
  refine run_region ?_
  refine yL rfl ?_
  refine yD hG rfl ?_
  obtain ⟨r10, hg11, hM⟩ := bind_t hM
  refine yK rfl (ih_i_cloneType k7 n7 q7 f7 ks7 hg11 _ _) (callK_retX (fun v tk12 (hle13 : tki_cloneType_L1 ≤ tk12) h14 => ?_))
  obtain ⟨k15, n15, q15, f15, ks15, rfl, rfl, hf16⟩ := h14
  refine run_op rfl (buildSlice_step (d := 17) hG rfl rfl rfl rfl rfl (by rfl) (by rfl) (by rfl) (by decide)) rfl (ltb rfl) ?_
  obtain ⟨hc17, hM⟩ := chk_t hM
  try rw [show ((fers ks3) ++ [(F.mk k15 n15 (fers ks15))] : List F) = (fers (ks3 ++ [LF.mk k15 n15 q15 f15 ks15])) from fers_app ks3 [LF.mk k15 n15 q15 f15 ks15]] at hM
  refine run_op rfl (appendM_step hG rfl rfl rfl rfl rfl rfl rfl rfl rfl rfl rfl (fcellss_sz ([LF.mk k15 n15 q15 f15 ks15])) (flen ks3) (flen ([LF.mk k15 n15 q15 f15 ks15])) hc17 (by decide) (fcellss_app _ _)) rfl (ltb rfl) ?_
  refine yR rfl ?_
  refine yN ?_
  refine run_blk ?_
  refine run_region ?_
  refine yB rfl ?_
  refine yL rfl ?_
  refine yN ?_
  exact run_loop_end ⟨m, _, Nat.lt_succ_self _, ⟨(IntKind.i64.wrap (i2 + 1)), (ks3 ++ [LF.mk k15 n15 q15 f15 ks15]), tk12, (show tk ≤ tk12 by omega), (show Fr tk tk12 _ from (Fr.fsnoc (show Fr tk tki_cloneType_L1 _ from (hfr3).mono (by omega) (by omega)) ((show Fr tki_cloneType_L1 tk12 _ from hf16 rfl)) (by omega) (by omega)).mono (by omega) (by omega)), hM, rfl⟩, Sub.trans (Sub.drop (k := 17) rfl) (Sub.trans (Sub.drop (k := 5) rfl) (Sub.pk [1, 2, 3, 8, 9, 10] rfl))⟩
 replace hM := ite_f hb4 hM
 refine run_exit_to rfl ?_
 refine run_sr ?_
 refine yL rfl ?_
 refine yF hG rfl ?_
 refine yS hG rfl ?_
 refine yN ?_
 refine run_sr ?_
 refine yD hG rfl ?_
 refine yS hG rfl ?_
 refine yN ?_
 refine run_ret_to ?_
 refine fin_sub (Sub.freeze (k := 6) rfl rfl) ?_
 obtain rfl := some_t hM
 refine fin_x hG rfl rfl rfl (v' := .agg [.int .i64 k1, .int .i64 n1, .imm tki_cloneType_L1 3 false (fcellss ks3)]) (by rfl) ⟨rfl, (show tk ≤ (tki_cloneType_L1 + 1) by omega), _, rfl, ⟨k1, n1, tki_cloneType_L1, false, ks3, rfl, rfl, fun _ => (show Fr tk (tki_cloneType_L1 + 1) _ from (show Fr tk (tki_cloneType_L1 + 1) _ from Fr.fstop (show Fr tk tki_cloneType_L1 _ from (hfr3).mono (by omega) (by omega)) (by omega) (by omega)).mono (by omega) (by omega))⟩⟩

theorem i_cloneType_all : ∀ (n : Nat), (i_cloneType_P n)
 | 0 => by intro k1 n1 q1 f1 ks1 r hM; rw [i_cloneType] at hM; cases hM
 | n + 1 => have ih := i_cloneType_all n; i_cloneType_st n (ih)

theorem i_cloneType_ok (n : Nat) : i_cloneType_P n := i_cloneType_all n

def g_EqualFunc_Type__fn_i_sameType_L1 (rec_i_sameType : F → F → Option Bool) (l1 : List F) (l2 : List F) : Nat → Int → Option Bool
 | 0, _ => none
 | m + 1, i4 =>
  if i4 < ((l1).length : Int) then
   (idx l1 i4).bind fun y6 =>
   (idx l2 i4).bind fun y11 =>
   (rec_i_sameType y6 y11).bind fun r16 =>
   if (!r16) = true then
    some false
   else
    g_EqualFunc_Type__fn_i_sameType_L1 rec_i_sameType l1 l2 m (IntKind.i64.wrap (i4 + 1))
  else
   some true

mutual

def i_sameType : Nat → F → F → Option Bool
 | 0, _, _ => none
 | n + 1, x1, x2 =>
  if x1.kind = x2.kind then
   if x1.n = x2.n then
    (g_EqualFunc_Type__fn_i_sameType n x1.kids x2.kids).bind fun r5 =>
    some r5
   else
    some false
  else
   some false

def g_EqualFunc_Type__fn_i_sameType : Nat → List F → List F → Option Bool
 | 0, _, _ => none
 | n + 1, l1, l2 =>
  if (((l1).length : Int) != ((l2).length : Int)) = true then
   some false
  else
   g_EqualFunc_Type__fn_i_sameType_L1 (i_sameType n) l1 l2 n 0

end

def i_sameType_P (n : Nat) : Prop := ∀ (k1 : Int) (n1 : Int) (q1 : Nat) (f1 : Bool) (ks1 : List LF) (k2 : Int) (n2 : Int) (q2 : Nat) (f2 : Bool) (ks2 : List LF) {r : Bool}, i_sameType n (F.mk k1 n1 (fers ks1)) (F.mk k2 n2 (fers ks2)) = some r → ∀ (O : Heap) (tk : Nat), ACalls Go.Proofs.Try.prog 151 [.agg [.int .i64 k1, .int .i64 n1, .imm q1 3 f1 (fcellss ks1)], .agg [.int .i64 k2, .int .i64 n2, .imm q2 3 f2 (fcellss ks2)]] O tk (RetX O tk (fun v tk' => v = .bool r))

set_option maxRecDepth 100000 in
theorem i_sameType_st (n : Nat) (ih_g_EqualFunc_Type__fn_i_sameType : ∀ (q1 : Nat) (f1 : Bool) (ks1 : List LF) (q2 : Nat) (f2 : Bool) (ks2 : List LF) {r : Bool}, g_EqualFunc_Type__fn_i_sameType n (fers ks1) (fers ks2) = some r → ∀ (O : Heap) (tk : Nat), ACalls Go.Proofs.Try.prog 200 [.imm q1 3 f1 (fcellss ks1), .imm q2 3 f2 (fcellss ks2), .fn (.func 151) [] []] O tk (RetX O tk (fun v tk' => v = .bool r))) : i_sameType_P (n + 1) := by
 intro k1 n1 q1 f1 ks1 k2 n2 q2 f2 ks2 r hM O tk
 rw [i_sameType] at hM
 refine acalls_of_run Go.Proofs.Try.func151 rfl rfl [] [] (Bor.nil _) [(0, .agg [.int .i64 k1, .int .i64 n1, .imm q1 3 f1 (fcellss ks1)]), (1, .agg [.int .i64 k2, .int .i64 n2, .imm q2 3 f2 (fcellss ks2)])] (.cons (.agg _) (.cons (.agg _) (.nil _))) (leb rfl) (fun _ h => by cases h) (fun S0 hO htk hfz => ?_)
 refine run_sr ?_
 refine run_op rfl (box_step (d := 2) rfl rfl rfl rfl rfl) rfl (ltb rfl) ?_
 refine run_op rfl (box_step (d := 3) rfl rfl rfl rfl rfl) rfl (ltb rfl) ?_
 refine yR rfl ?_
 refine yN ?_
 refine run_sr ?_
 refine yF hG rfl ?_
 refine yD hG rfl ?_
 refine yF hG rfl ?_
 refine yD hG rfl ?_
 refine yB rfl ?_
 refine yL rfl ?_
 refine run_splitd (i := 10) rfl (fun hb3 => ?_) (fun hb3 => ?_)
 ·replace hM := ite_t hb3 hM
  refine run_puG (on_of rfl rfl rfl rfl) (fieldAddr_step hG rfl rfl rfl rfl rfl) rfl (ltb rfl) ?_
  refine run_rdG (on_of rfl rfl rfl rfl) (aload_rd hG rfl rfl rfl (by first | (simp [ldok]; done) | exact List.not_mem_nil | trivial)) rfl (ltb rfl) ?_
  refine run_puG (on_of rfl rfl rfl rfl) (fieldAddr_step hG rfl rfl rfl rfl rfl) rfl (ltb rfl) ?_
  refine run_rdG (on_of rfl rfl rfl rfl) (aload_rd hG rfl rfl rfl (by first | (simp [ldok]; done) | exact List.not_mem_nil | trivial)) rfl (ltb rfl) ?_
  refine run_puG (on_of rfl rfl rfl rfl) (abin_step rfl rfl rfl rfl (fun _ h => by cases h)) rfl (ltb rfl) ?_
  refine yP rfl ?_
  refine yL rfl ?_
  refine run_splitd (i := 17) rfl (fun hb4 => ?_) (fun hb4 => ?_)
  ·replace hM := ite_t hb4 hM
   refine run_puG (on_of rfl rfl rfl rfl) (fieldAddr_step hG rfl rfl rfl rfl rfl) rfl (ltb rfl) ?_
   refine run_rdG (on_of rfl rfl rfl rfl) (aload_rd hG rfl rfl rfl (by first | (simp [ldok]; done) | exact List.not_mem_nil | trivial)) rfl (ltb rfl) ?_
   refine run_puG (on_of rfl rfl rfl rfl) (fieldAddr_step hG rfl rfl rfl rfl rfl) rfl (ltb rfl) ?_
   refine run_rdG (on_of rfl rfl rfl rfl) (aload_rd hG rfl rfl rfl (by first | (simp [ldok]; done) | exact List.not_mem_nil | trivial)) rfl (ltb rfl) ?_
   obtain ⟨r5, hg6, hM⟩ := bind_t hM
   refine yG (on_of rfl rfl rfl rfl) rfl (ih_g_EqualFunc_Type__fn_i_sameType q1 f1 ks1 q2 f2 ks2 hg6 _ _) (callK_retX (fun v tk7 (hle8 : tk ≤ tk7) h9 => ?_))
   subst h9
   refine yP rfl ?_
   refine yR rfl ?_
   refine yN ?_
   refine run_ret_to ?_
   obtain rfl := some_t hM
   refine fin_x hG rfl rfl rfl (v' := .bool r5) (by rfl) ⟨rfl, (show tk ≤ tk7 by omega), _, rfl, rfl⟩
  replace hM := ite_f hb4 hM
  refine yO rfl ?_
  refine yO rfl ?_
  refine yO rfl ?_
  refine yO rfl ?_
  refine yO rfl ?_
  refine yP rfl ?_
  refine yR rfl ?_
  refine yN ?_
  refine run_ret_to ?_
  obtain rfl := some_t hM
  refine fin_x hG rfl rfl rfl (v' := .bool false) (by rfl) ⟨rfl, (show tk ≤ tk by omega), _, rfl, rfl⟩
 replace hM := ite_f hb3 hM
 refine yO rfl ?_
 refine yO rfl ?_
 refine yO rfl ?_
 refine yO rfl ?_
 refine yO rfl ?_
 refine yP rfl ?_
 refine yL rfl ?_
 refine yO rfl ?_
 refine yO rfl ?_
 refine yO rfl ?_
 refine yO rfl ?_
 refine yO rfl ?_
 refine yP rfl ?_
 refine yR rfl ?_
 refine yN ?_
 refine run_ret_to ?_
 obtain rfl := some_t hM
 refine fin_x hG rfl rfl rfl (v' := .bool false) (by rfl) ⟨rfl, (show tk ≤ tk by omega), _, rfl, rfl⟩

set_option maxRecDepth 100000 in
theorem g_EqualFunc_Type__fn_i_sameType_st (n : Nat) (ih_i_sameType : i_sameType_P n) : ∀ (q1 : Nat) (f1 : Bool) (ks1 : List LF) (q2 : Nat) (f2 : Bool) (ks2 : List LF) {r : Bool}, g_EqualFunc_Type__fn_i_sameType (n + 1) (fers ks1) (fers ks2) = some r → ∀ (O : Heap) (tk : Nat), ACalls Go.Proofs.Try.prog 200 [.imm q1 3 f1 (fcellss ks1), .imm q2 3 f2 (fcellss ks2), .fn (.func 151) [] []] O tk (RetX O tk (fun v tk' => v = .bool r)) := by
 intro q1 f1 ks1 q2 f2 ks2 r hM O tk
 rw [g_EqualFunc_Type__fn_i_sameType] at hM
 refine acalls_of_run Go.Proofs.Try.func200 rfl rfl [] [] (Bor.nil _) [(0, .imm q1 3 f1 (fcellss ks1)), (1, .imm q2 3 f2 (fcellss ks2)), (2, .fn (.func 151) [] [])] (.cons (entS rfl) (.cons (entS rfl) (.cons (entS rfl) (.nil _)))) (leb rfl) (fun _ h => by cases h) (fun S0 hO htk hfz => ?_)
 refine run_sr ?_
 refine yR rfl ?_
 refine yN ?_
 refine run_seq ?_
 refine run_sr ?_
 refine yL rfl ?_
 refine run_pu rfl (lenImm_step hG rfl rfl rfl rfl (flen _)) rfl (ltb rfl) ?_
 refine yL rfl ?_
 refine run_pu rfl (lenImm_step hG rfl rfl rfl rfl (flen _)) rfl (ltb rfl) ?_
 refine yB rfl ?_
 refine yN ?_
 refine run_ifb rfl rfl (fun hb3 => ?_) (fun hb3 => ?_)
 ·replace hM := ite_t hb3 hM
  refine run_sr ?_
  refine yR rfl ?_
  refine yN ?_
  refine run_ret_to ?_
  obtain rfl := some_t hM
  refine fin_x hG rfl rfl rfl (v' := .bool false) (by rfl) ⟨rfl, (show tk ≤ tk by omega), _, rfl, rfl⟩
 replace hM := ite_f hb3 hM
 refine run_skip ?_
 refine run_seq ?_
 refine run_sr ?_
 refine yL rfl ?_
 refine run_pu rfl (lenImm_step hG rfl rfl rfl rfl (flen _)) rfl (ltb rfl) ?_
 refine yL rfl ?_
 refine yN ?_
 refine run_block ?_
 refine run_rounds (fun m σ => ∃ (i4 : Int) (tkg_EqualFunc_Type__fn_i_sameType_L1 : Nat), tk ≤ tkg_EqualFunc_Type__fn_i_sameType_L1 ∧ g_EqualFunc_Type__fn_i_sameType_L1 (i_sameType n) (fers ks1) (fers ks2) m i4 = some r ∧ σ = ⟨[(1, .imm q2 3 f2 (fcellss ks2)), (2, .fn (.func 151) [] []), (6, .bool false), (15, .imm q1 3 f1 (fcellss ks1)), (16, .int .i64 (((fers ks1)).length : Int)), (17, .int .i64 i4)], [], [], O, tkg_EqualFunc_Type__fn_i_sameType_L1⟩) n (Sub.pk [1, 2, 6, 15, 16, 17] rfl) ⟨0, tk, Nat.le_refl _, hM, rfl⟩ (fun m σ hI => ?_)
 clear hM
 obtain ⟨i4, tkg_EqualFunc_Type__fn_i_sameType_L1, hle24, hM, rfl⟩ := hI
 obtain _ | m := m
 ·exact absurd hM (by rw [g_EqualFunc_Type__fn_i_sameType_L1]; exact fun h => by cases h)
 rw [g_EqualFunc_Type__fn_i_sameType_L1] at hM
 refine run_sr ?_
 refine yB rfl ?_
 refine yN ?_
 refine run_seq ?_
 refine run_ifd rfl rfl (fun hb5 => ?_) (fun hb5 => ?_)
 ·replace hM := ite_t hb5 hM
  refine run_skip ?_
  refine run_seq ?_
  refine run_block ?_
  refine run_sr ?_
  refine yL rfl ?_
  obtain ⟨y6, hy7, hM⟩ := bind_t hM
  obtain ⟨k8, n8, q8, f8, ks8, rfl, hc9, hi10⟩ := fidx (ks := ks1) hy7
  refine run_pu rfl (indexImm_step hG rfl rfl rfl hi10 rfl rfl rfl rfl hc9) rfl (ltb rfl) ?_
  refine yD hG rfl ?_
  refine run_op rfl (alloc_step (d := 8) hG rfl rfl rfl) rfl (ltb rfl) ?_
  refine yR rfl ?_
  refine yS hG rfl ?_
  refine yN ?_
  refine run_sr ?_
  refine yL rfl ?_
  refine yL rfl ?_
  obtain ⟨y11, hy12, hM⟩ := bind_t hM
  obtain ⟨k13, n13, q13, f13, ks13, rfl, hc14, hi15⟩ := fidx (ks := ks2) hy12
  refine run_pu rfl (indexImm_step hG rfl rfl rfl hi15 rfl rfl rfl rfl hc14) rfl (ltb rfl) ?_
  refine yD hG rfl ?_
  refine run_op rfl (alloc_step (d := 9) hG rfl rfl rfl) rfl (ltb rfl) ?_
  refine yS hG rfl ?_
  refine yN ?_
  refine run_sr ?_
  refine yL rfl ?_
  refine yD hG rfl ?_
  refine yD hG rfl ?_
  obtain ⟨r16, hg17, hM⟩ := bind_t hM
  refine yK rfl (ih_i_sameType k8 n8 q8 f8 ks8 k13 n13 q13 f13 ks13 hg17 _ _) (callK_retX (fun v tk18 (hle19 : tkg_EqualFunc_Type__fn_i_sameType_L1 ≤ tk18) h20 => ?_))
  subst h20
  refine run_pu rfl (aun_step rfl rfl rfl) rfl (ltb rfl) ?_
  refine yN ?_
  refine run_sub_code (σ' := ⟨[(1, .imm q2 3 f2 (fcellss ks2)), (2, .fn (.func 151) [] []), (6, .bool false), (15, .imm q1 3 f1 (fcellss ks1)), (16, .int .i64 (((fers ks1)).length : Int)), (17, .int .i64 i4), (30, .bool (!r16))], [], [], O, tk18⟩) (Sub.trans (Sub.drop (k := 9) rfl) (Sub.trans (Sub.drop (k := 8) rfl) (Sub.env _ ⟨rfl, rfl, rfl, rfl, rfl, rfl, rfl, trivial⟩))) ?_
  refine run_ifb rfl rfl (fun hb23 => ?_) (fun hb23 => ?_)
  ·replace hM := ite_t hb23 hM
   refine run_sr ?_
   refine yR rfl ?_
   refine yN ?_
   refine run_ret_to ?_
   obtain rfl := some_t hM
   refine fin_x hG rfl rfl rfl (v' := .bool false) (by rfl) ⟨rfl, (show tk ≤ tk18 by omega), _, rfl, rfl⟩
  replace hM := ite_f hb23 hM
  refine run_skip ?_
  refine run_blk ?_
  refine run_region ?_
  refine yB rfl ?_
  refine yL rfl ?_
  refine yN ?_
  exact run_loop_end ⟨m, _, Nat.lt_succ_self _, ⟨(IntKind.i64.wrap (i4 + 1)), tk18, (show tk ≤ tk18 by omega), hM, rfl⟩, Sub.pk [1, 2, 6, 15, 16, 17] rfl⟩
 replace hM := ite_f hb5 hM
 refine run_exit_to rfl ?_
 refine run_sr ?_
 refine yR rfl ?_
 refine yN ?_
 refine run_ret_to ?_
 obtain rfl := some_t hM
 refine fin_x hG rfl rfl rfl (v' := .bool true) (by rfl) ⟨rfl, (show tk ≤ tkg_EqualFunc_Type__fn_i_sameType_L1 by omega), _, rfl, rfl⟩

theorem i_sameType_all : ∀ (n : Nat), (i_sameType_P n) ∧ (∀ (q1 : Nat) (f1 : Bool) (ks1 : List LF) (q2 : Nat) (f2 : Bool) (ks2 : List LF) {r : Bool}, g_EqualFunc_Type__fn_i_sameType n (fers ks1) (fers ks2) = some r → ∀ (O : Heap) (tk : Nat), ACalls Go.Proofs.Try.prog 200 [.imm q1 3 f1 (fcellss ks1), .imm q2 3 f2 (fcellss ks2), .fn (.func 151) [] []] O tk (RetX O tk (fun v tk' => v = .bool r)))
 | 0 => ⟨(by intro k1 n1 q1 f1 ks1 k2 n2 q2 f2 ks2 r hM; rw [i_sameType] at hM; cases hM), (by intro q1 f1 ks1 q2 f2 ks2 r hM; rw [g_EqualFunc_Type__fn_i_sameType] at hM; cases hM)⟩
 | n + 1 => have ih := i_sameType_all n; ⟨i_sameType_st n (ih.2), g_EqualFunc_Type__fn_i_sameType_st n (ih.1)⟩

theorem i_sameType_ok (n : Nat) : i_sameType_P n := (i_sameType_all n).1

def s_l09Same_L1 (rec_s_l09Same : F → F → Option Bool) (x1 : F) (x2 : F) : Nat → Int → Option Bool
 | 0, _ => none
 | m + 1, i6 =>
  if i6 < ((x1.kids).length : Int) then
   (idx x1.kids i6).bind fun y8 =>
   (idx x2.kids i6).bind fun y13 =>
   (rec_s_l09Same y8 y13).bind fun r18 =>
   if (!r18) = true then
    some false
   else
    s_l09Same_L1 rec_s_l09Same x1 x2 m (IntKind.i64.wrap (i6 + 1))
  else
   some true

def s_l09Same : Nat → F → F → Option Bool
 | 0, _, _ => none
 | n + 1, x1, x2 =>
  if (x1.kind != x2.kind) = true then
   some false
  else
   if (x1.n != x2.n) = true then
    some false
   else
    if (((x1.kids).length : Int) != ((x2.kids).length : Int)) = true then
     some false
    else
     s_l09Same_L1 (s_l09Same n) x1 x2 n 0

def s_l09Same_P (n : Nat) : Prop := ∀ (k1 : Int) (n1 : Int) (q1 : Nat) (f1 : Bool) (ks1 : List LF) (k2 : Int) (n2 : Int) (q2 : Nat) (f2 : Bool) (ks2 : List LF) {r : Bool}, s_l09Same n (F.mk k1 n1 (fers ks1)) (F.mk k2 n2 (fers ks2)) = some r → ∀ (O : Heap) (tk : Nat), ACalls Go.Proofs.Try.prog 139 [.agg [.int .i64 k1, .int .i64 n1, .imm q1 3 f1 (fcellss ks1)], .agg [.int .i64 k2, .int .i64 n2, .imm q2 3 f2 (fcellss ks2)]] O tk (RetX O tk (fun v tk' => v = .bool r))

set_option maxHeartbeats 20000000 in
set_option maxRecDepth 100000 in
theorem s_l09Same_st (n : Nat) (ih_s_l09Same : s_l09Same_P n) : s_l09Same_P (n + 1) := by
 intro k1 n1 q1 f1 ks1 k2 n2 q2 f2 ks2 r hM O tk
 rw [s_l09Same] at hM
 refine acalls_of_run Go.Proofs.Try.func139 rfl rfl [] [] (Bor.nil _) [(0, .agg [.int .i64 k1, .int .i64 n1, .imm q1 3 f1 (fcellss ks1)]), (1, .agg [.int .i64 k2, .int .i64 n2, .imm q2 3 f2 (fcellss ks2)])] (.cons (.agg _) (.cons (.agg _) (.nil _))) (leb rfl) (fun _ h => by cases h) (fun S0 hO htk hfz => ?_)
 refine run_sr ?_
 refine run_op rfl (box_step (d := 2) rfl rfl rfl rfl rfl) rfl (ltb rfl) ?_
 refine run_op rfl (box_step (d := 3) rfl rfl rfl rfl rfl) rfl (ltb rfl) ?_
 refine yR rfl ?_
 refine yN ?_
 refine run_seq ?_
 refine run_sr ?_
 refine yF hG rfl ?_
 refine yD hG rfl ?_
 refine yF hG rfl ?_
 refine yD hG rfl ?_
 refine yB rfl ?_
 refine yL rfl ?_
 refine run_splitb (i := 11) rfl (fun hb3 => ?_) (fun hb3 => ?_)
 ·replace hM := ite_t hb3 hM
  refine yO rfl ?_
  refine yO rfl ?_
  refine yO rfl ?_
  refine yO rfl ?_
  refine yO rfl ?_
  refine yP rfl ?_
  refine yL rfl ?_
  refine yO rfl ?_
  refine yO rfl ?_
  refine yO rfl ?_
  refine yO rfl ?_
  refine yO rfl ?_
  refine yO rfl ?_
  refine yO rfl ?_
  refine yP rfl ?_
  refine yN ?_
  refine run_if rfl rfl (fun _ => ?_) (fun h => by cases h)
  refine run_sr ?_
  refine yR rfl ?_
  refine yN ?_
  refine run_ret_to ?_
  obtain rfl := some_t hM
  refine fin_x hG rfl rfl rfl (v' := .bool false) (by rfl) ⟨rfl, (show tk ≤ tk by omega), _, rfl, rfl⟩
 replace hM := ite_f hb3 hM
 refine run_puG (on_of rfl rfl rfl rfl) (fieldAddr_step hG rfl rfl rfl rfl rfl) rfl (ltb rfl) ?_
 refine run_rdG (on_of rfl rfl rfl rfl) (aload_rd hG rfl rfl rfl (by first | (simp [ldok]; done) | exact List.not_mem_nil | trivial)) rfl (ltb rfl) ?_
 refine run_puG (on_of rfl rfl rfl rfl) (fieldAddr_step hG rfl rfl rfl rfl rfl) rfl (ltb rfl) ?_
 refine run_rdG (on_of rfl rfl rfl rfl) (aload_rd hG rfl rfl rfl (by first | (simp [ldok]; done) | exact List.not_mem_nil | trivial)) rfl (ltb rfl) ?_
 refine run_puG (on_of rfl rfl rfl rfl) (abin_step rfl rfl rfl rfl (fun _ h => by cases h)) rfl (ltb rfl) ?_
 refine yP rfl ?_
 refine yL rfl ?_
 refine run_splitb (i := 18) rfl (fun hb4 => ?_) (fun hb4 => ?_)
 ·replace hM := ite_t hb4 hM
  refine yO rfl ?_
  refine yO rfl ?_
  refine yO rfl ?_
  refine yO rfl ?_
  refine yO rfl ?_
  refine yO rfl ?_
  refine yO rfl ?_
  refine yP rfl ?_
  refine yN ?_
  refine run_sub_code (σ' := ⟨[(2, .optr (.loc 2) 0 0), (3, .optr (.loc 3) 0 0), (4, .bool false), (26, .bool true)], [(3, ⟨42, 3, true, [[.int .i64 k2, .int .i64 n2, .imm q2 3 f2 (fcellss ks2)]]⟩), (2, ⟨42, 3, true, [[.int .i64 k1, .int .i64 n1, .imm q1 3 f1 (fcellss ks1)]]⟩)], [], O, tk⟩) (Sub.env _ ⟨rfl, rfl, rfl, rfl, trivial⟩) ?_
  refine run_if rfl rfl (fun _ => ?_) (fun h => by cases h)
  refine run_sr ?_
  refine yR rfl ?_
  refine yN ?_
  refine run_ret_to ?_
  obtain rfl := some_t hM
  refine fin_x hG rfl rfl rfl (v' := .bool false) (by rfl) ⟨rfl, (show tk ≤ tk by omega), _, rfl, rfl⟩
 replace hM := ite_f hb4 hM
 refine run_puG (on_of rfl rfl rfl rfl) (fieldAddr_step hG rfl rfl rfl rfl rfl) rfl (ltb rfl) ?_
 refine run_rdG (on_of rfl rfl rfl rfl) (aload_rd hG rfl rfl rfl (by first | (simp [ldok]; done) | exact List.not_mem_nil | trivial)) rfl (ltb rfl) ?_
 refine run_puG (on_of rfl rfl rfl rfl) (lenImm_step hG rfl rfl rfl rfl (flen _)) rfl (ltb rfl) ?_
 refine run_puG (on_of rfl rfl rfl rfl) (fieldAddr_step hG rfl rfl rfl rfl rfl) rfl (ltb rfl) ?_
 refine run_rdG (on_of rfl rfl rfl rfl) (aload_rd hG rfl rfl rfl (by first | (simp [ldok]; done) | exact List.not_mem_nil | trivial)) rfl (ltb rfl) ?_
 refine run_puG (on_of rfl rfl rfl rfl) (lenImm_step hG rfl rfl rfl rfl (flen _)) rfl (ltb rfl) ?_
 refine run_puG (on_of rfl rfl rfl rfl) (abin_step rfl rfl rfl rfl (fun _ h => by cases h)) rfl (ltb rfl) ?_
 refine yP rfl ?_
 refine yN ?_
 refine run_sub_code (σ' := ⟨[(2, .optr (.loc 2) 0 0), (3, .optr (.loc 3) 0 0), (4, .bool false), (26, .bool ((((fers ks1)).length : Int) != (((fers ks2)).length : Int)))], [(3, ⟨42, 3, true, [[.int .i64 k2, .int .i64 n2, .imm q2 3 f2 (fcellss ks2)]]⟩), (2, ⟨42, 3, true, [[.int .i64 k1, .int .i64 n1, .imm q1 3 f1 (fcellss ks1)]]⟩)], [], O, tk⟩) (Sub.env _ ⟨rfl, rfl, rfl, rfl, trivial⟩) ?_
 refine run_ifb rfl rfl (fun hb5 => ?_) (fun hb5 => ?_)
 ·replace hM := ite_t hb5 hM
  refine run_sr ?_
  refine yR rfl ?_
  refine yN ?_
  refine run_ret_to ?_
  obtain rfl := some_t hM
  refine fin_x hG rfl rfl rfl (v' := .bool false) (by rfl) ⟨rfl, (show tk ≤ tk by omega), _, rfl, rfl⟩
 replace hM := ite_f hb5 hM
 refine run_skip ?_
 refine run_seq ?_
 refine run_sr ?_
 refine yR rfl ?_
 refine yN ?_
 refine run_block ?_
 refine run_rounds (fun m σ => ∃ (i6 : Int) (tks_l09Same_L1 : Nat), tk ≤ tks_l09Same_L1 ∧ s_l09Same_L1 (s_l09Same n) (F.mk k1 n1 (fers ks1)) (F.mk k2 n2 (fers ks2)) m i6 = some r ∧ σ = ⟨[(2, .optr (.loc 2) 0 0), (3, .optr (.loc 3) 0 0), (4, .bool false), (5, .int .i64 i6)], [(3, ⟨42, 3, true, [[.int .i64 k2, .int .i64 n2, .imm q2 3 f2 (fcellss ks2)]]⟩), (2, ⟨42, 3, true, [[.int .i64 k1, .int .i64 n1, .imm q1 3 f1 (fcellss ks1)]]⟩)], [], O, tks_l09Same_L1⟩) n (Sub.pk [2, 3, 4, 5] rfl) ⟨0, tk, Nat.le_refl _, hM, rfl⟩ (fun m σ hI => ?_)
 clear hM
 obtain ⟨i6, tks_l09Same_L1, hle26, hM, rfl⟩ := hI
 obtain _ | m := m
 ·exact absurd hM (by rw [s_l09Same_L1]; exact fun h => by cases h)
 rw [s_l09Same_L1] at hM
 refine run_seq ?_
 refine run_sr ?_
 refine yL rfl ?_
 refine yF hG rfl ?_
 refine yD hG rfl ?_
 refine run_pu rfl (lenImm_step hG rfl rfl rfl rfl (flen _)) rfl (ltb rfl) ?_
 refine yB rfl ?_
 refine yN ?_
 refine run_ifd rfl rfl (fun hb7 => ?_) (fun hb7 => ?_)
 ·replace hM := ite_t hb7 hM
  refine run_skip ?_
  refine run_seq ?_
  refine run_block ?_
  refine run_seq ?_
  refine run_draw [] (n := 12) mixed rfl yE ?_
  refine yTF hG 0 (by kernel_rfl) rfl ?_
  refine yTL hG 1 (by kernel_rfl) rfl ?_
  refine yTV 2 (by kernel_rfl) rfl ?_
  obtain ⟨y8, hy9, hM⟩ := bind_t hM
  obtain ⟨k10, n10, q10, f10, ks10, rfl, hc11, hi12⟩ := fidx (ks := ks1) hy9
  refine yT 3 (by kernel_rfl) rfl rfl rfl (ltb rfl) ((indexImm_step hG rfl rfl rfl hi12 rfl rfl rfl rfl hc11).rd _) ?_
  refine yTL hG 4 (by kernel_rfl) rfl ?_
  refine yTF hG 5 (by kernel_rfl) rfl ?_
  refine yTL hG 6 (by kernel_rfl) rfl ?_
  refine yTV 7 (by kernel_rfl) rfl ?_
  obtain ⟨y13, hy14, hM⟩ := bind_t hM
  obtain ⟨k15, n15, q15, f15, ks15, rfl, hc16, hi17⟩ := fidx (ks := ks2) hy14
  refine yT 8 (by kernel_rfl) rfl rfl rfl (ltb rfl) ((indexImm_step hG rfl rfl rfl hi17 rfl rfl rfl rfl hc16).rd _) ?_
  refine yTL hG 9 (by kernel_rfl) rfl ?_
  obtain ⟨r18, hg19, hM⟩ := bind_t hM
  refine yC 10 (by kernel_rfl) rfl rfl (ih_s_l09Same k10 n10 q10 f10 ks10 k15 n15 q15 f15 ks15 hg19 _ _) (callK_retX (fun v tk20 (hle21 : tks_l09Same_L1 ≤ tk20) h22 => ?_))
  subst h22
  refine yT 11 (by kernel_rfl) rfl rfl rfl (ltb rfl) ((aun_step rfl rfl rfl).rd _) ?_
  refine AAny.done (by kernel_rfl) ?_
  refine run_sub_code (σ' := ⟨[(2, .optr (.loc 2) 0 0), (3, .optr (.loc 3) 0 0), (4, .bool false), (5, .int .i64 i6), (45, .bool (!r18))], [(3, ⟨42, 3, true, [[.int .i64 k2, .int .i64 n2, .imm q2 3 f2 (fcellss ks2)]]⟩), (2, ⟨42, 3, true, [[.int .i64 k1, .int .i64 n1, .imm q1 3 f1 (fcellss ks1)]]⟩)], [], O, tk20⟩) (Sub.env _ ⟨rfl, rfl, rfl, rfl, rfl, trivial⟩) ?_
  refine run_ifb rfl rfl (fun hb25 => ?_) (fun hb25 => ?_)
  ·replace hM := ite_t hb25 hM
   refine run_sr ?_
   refine yR rfl ?_
   refine yN ?_
   refine run_ret_to ?_
   obtain rfl := some_t hM
   refine fin_x hG rfl rfl rfl (v' := .bool false) (by rfl) ⟨rfl, (show tk ≤ tk20 by omega), _, rfl, rfl⟩
  replace hM := ite_f hb25 hM
  refine run_skip ?_
  refine run_blk ?_
  refine run_region ?_
  refine yL rfl ?_
  refine yB rfl ?_
  refine yR rfl ?_
  refine yN ?_
  exact run_loop_end ⟨m, _, Nat.lt_succ_self _, ⟨(IntKind.i64.wrap (i6 + 1)), tk20, (show tk ≤ tk20 by omega), hM, rfl⟩, Sub.pk [2, 3, 4, 5] rfl⟩
 replace hM := ite_f hb7 hM
 refine run_exit_to rfl ?_
 refine run_sr ?_
 refine yR rfl ?_
 refine yN ?_
 refine run_ret_to ?_
 obtain rfl := some_t hM
 refine fin_x hG rfl rfl rfl (v' := .bool true) (by rfl) ⟨rfl, (show tk ≤ tks_l09Same_L1 by omega), _, rfl, rfl⟩

theorem s_l09Same_all : ∀ (n : Nat), (s_l09Same_P n)
 | 0 => by intro k1 n1 q1 f1 ks1 k2 n2 q2 f2 ks2 r hM; rw [s_l09Same] at hM; cases hM
 | n + 1 => have ih := s_l09Same_all n; s_l09Same_st n (ih)

theorem s_l09Same_ok (n : Nat) : s_l09Same_P n := s_l09Same_all n

def s_l09Copy_L1 (rec_s_l09Copy : F → Option F) (x1 : F) : Nat → Int → List F → Option F
 | 0, _, _ => none
 | m + 1, i2, l3 =>
  if i2 < ((x1.kids).length : Int) then
   (idx x1.kids i2).bind fun y5 =>
   (rec_s_l09Copy y5).bind fun r10 =>
   chk ((l3).length + ([r10]).length ≤ 1099511627776) <|
   s_l09Copy_L1 rec_s_l09Copy x1 m (IntKind.i64.wrap (i2 + 1)) (l3 ++ [r10])
  else
   some (F.mk x1.kind x1.n l3)

def s_l09Copy : Nat → F → Option F
 | 0, _ => none
 | n + 1, x1 =>
  s_l09Copy_L1 (s_l09Copy n) x1 n 0 ([])

def s_l09Copy_P (n : Nat) : Prop := ∀ (k1 : Int) (n1 : Int) (q1 : Nat) (f1 : Bool) (ks1 : List LF) {r : F}, s_l09Copy n (F.mk k1 n1 (fers ks1)) = some r → ∀ (O : Heap) (tk : Nat), ACalls Go.Proofs.Try.prog 81 [.agg [.int .i64 k1, .int .i64 n1, .imm q1 3 f1 (fcellss ks1)]] O tk (RetX O tk (fun v tk' => VF true tk tk' r v))

set_option maxRecDepth 100000 in
theorem s_l09Copy_st (n : Nat) (ih_s_l09Copy : s_l09Copy_P n) : s_l09Copy_P (n + 1) := by
 intro k1 n1 q1 f1 ks1 r hM O tk
 rw [s_l09Copy] at hM
 refine acalls_of_run Go.Proofs.Try.func81 rfl rfl [] [] (Bor.nil _) [(0, .agg [.int .i64 k1, .int .i64 n1, .imm q1 3 f1 (fcellss ks1)])] (.cons (.agg _) (.nil _)) (leb rfl) (fun _ h => by cases h) (fun S0 hO htk hfz => ?_)
 refine run_sr ?_
 refine run_op rfl (box_step (d := 1) rfl rfl rfl rfl rfl) rfl (ltb rfl) ?_
 refine run_op rfl (alloc_step (d := 2) hG rfl rfl rfl) rfl (ltb rfl) ?_
 refine yN ?_
 refine run_sr ?_
 refine run_op rfl (buildSlice_step (d := 5) hG rfl rfl rfl rfl rfl (by rfl) (by rfl) (by rfl) (by decide)) rfl (ltb rfl) ?_
 refine yR rfl ?_
 refine yN ?_
 refine run_seq ?_
 refine run_sr ?_
 refine yR rfl ?_
 refine yN ?_
 refine run_block ?_
 refine run_rounds (fun m σ => ∃ (i2 : Int) (ks3 : List LF) (tks_l09Copy_L1 : Nat), tk ≤ tks_l09Copy_L1 ∧ Fr tk tks_l09Copy_L1 (ftoks ks3) ∧ s_l09Copy_L1 (s_l09Copy n) (F.mk k1 n1 (fers ks1)) m i2 (fers ks3) = some r ∧ σ = ⟨[(1, .optr (.loc 1) 0 0), (2, .optr (.loc 2) 0 0), (3, .osl (.loc 5)), (4, .int .i64 i2)], [(5, ⟨42, 3, false, fcellss ks3⟩), (2, ⟨42, 3, true, [[.int .i64 0, .int .i64 0, .imm 0 3 true []]]⟩), (1, ⟨42, 3, true, [[.int .i64 k1, .int .i64 n1, .imm q1 3 f1 (fcellss ks1)]]⟩)], [], O, tks_l09Copy_L1⟩) n (Sub.pk [1, 2, 3, 4] rfl) ⟨0, [], tk, Nat.le_refl _, Fr.nil _ _, hM, rfl⟩ (fun m σ hI => ?_)
 clear hM
 obtain ⟨i2, ks3, tks_l09Copy_L1, hle18, hfr3, hM, rfl⟩ := hI
 obtain _ | m := m
 ·exact absurd hM (by rw [s_l09Copy_L1]; exact fun h => by cases h)
 rw [s_l09Copy_L1] at hM
 refine run_seq ?_
 refine run_sr ?_
 refine yL rfl ?_
 refine yF hG rfl ?_
 refine yD hG rfl ?_
 refine run_pu rfl (lenImm_step hG rfl rfl rfl rfl (flen _)) rfl (ltb rfl) ?_
 refine yB rfl ?_
 refine yN ?_
 refine run_ifd rfl rfl (fun hb4 => ?_) (fun hb4 => ?_)
 ·replace hM := ite_t hb4 hM
  refine run_skip ?_
  refine run_seq ?_
  refine run_block ?_
  refine run_region ?_
  refine yL rfl ?_
  refine yF hG rfl ?_
  refine yD hG rfl ?_
  refine yL rfl ?_
  obtain ⟨y5, hy6, hM⟩ := bind_t hM
  obtain ⟨k7, n7, q7, f7, ks7, rfl, hc8, hi9⟩ := fidx (ks := ks1) hy6
  refine run_pu rfl (indexImm_step hG rfl rfl rfl hi9 rfl rfl rfl rfl hc8) rfl (ltb rfl) ?_
  refine yD hG rfl ?_
  obtain ⟨r10, hg11, hM⟩ := bind_t hM
  refine yK rfl (ih_s_l09Copy k7 n7 q7 f7 ks7 hg11 _ _) (callK_retX (fun v tk12 (hle13 : tks_l09Copy_L1 ≤ tk12) h14 => ?_))
  obtain ⟨k15, n15, q15, f15, ks15, rfl, rfl, hf16⟩ := h14
  refine run_op rfl (buildSlice_step (d := 20) hG rfl rfl rfl rfl rfl (by rfl) (by rfl) (by rfl) (by decide)) rfl (ltb rfl) ?_
  obtain ⟨hc17, hM⟩ := chk_t hM
  try rw [show ((fers ks3) ++ [(F.mk k15 n15 (fers ks15))] : List F) = (fers (ks3 ++ [LF.mk k15 n15 q15 f15 ks15])) from fers_app ks3 [LF.mk k15 n15 q15 f15 ks15]] at hM
  refine run_op rfl (appendM_step hG rfl rfl rfl rfl rfl rfl rfl rfl rfl rfl rfl (fcellss_sz ([LF.mk k15 n15 q15 f15 ks15])) (flen ks3) (flen ([LF.mk k15 n15 q15 f15 ks15])) hc17 (by decide) (fcellss_app _ _)) rfl (ltb rfl) ?_
  refine yR rfl ?_
  refine yN ?_
  refine run_blk ?_
  refine run_sub_code (σ' := ⟨[(1, .optr (.loc 1) 0 0), (2, .optr (.loc 2) 0 0), (3, .osl (.loc 5)), (4, .int .i64 i2)], [(5, ⟨42, 3, false, fcellss (ks3 ++ [LF.mk k15 n15 q15 f15 ks15])⟩), (2, ⟨42, 3, true, [[.int .i64 0, .int .i64 0, .imm 0 3 true []]]⟩), (1, ⟨42, 3, true, [[.int .i64 k1, .int .i64 n1, .imm q1 3 f1 (fcellss ks1)]]⟩)], [], O, tk12⟩) (Sub.trans (Sub.drop (k := 20) rfl) (Sub.env _ ⟨rfl, rfl, rfl, rfl, trivial⟩)) ?_
  refine run_region ?_
  refine yL rfl ?_
  refine yB rfl ?_
  refine yR rfl ?_
  refine yN ?_
  exact run_loop_end ⟨m, _, Nat.lt_succ_self _, ⟨(IntKind.i64.wrap (i2 + 1)), (ks3 ++ [LF.mk k15 n15 q15 f15 ks15]), tk12, (show tk ≤ tk12 by omega), (show Fr tk tk12 _ from (Fr.fsnoc (show Fr tk tks_l09Copy_L1 _ from (hfr3).mono (by omega) (by omega)) ((show Fr tks_l09Copy_L1 tk12 _ from hf16 rfl)) (by omega) (by omega)).mono (by omega) (by omega)), hM, rfl⟩, Sub.pk [1, 2, 3, 4] rfl⟩
 replace hM := ite_f hb4 hM
 refine run_exit_to rfl ?_
 refine run_sr ?_
 refine yF hG rfl ?_
 refine yD hG rfl ?_
 refine yF hG rfl ?_
 refine yD hG rfl ?_
 refine yL rfl ?_
 refine run_pu rfl (build_step hG rfl (by rfl) rfl (fun h => by cases h) (by rfl)) rfl (ltb rfl) ?_
 refine yS hG rfl ?_
 refine yN ?_
 refine run_ret_to ?_
 refine fin_sub (Sub.freeze (k := 5) rfl rfl) ?_
 obtain rfl := some_t hM
 refine fin_x hG rfl rfl rfl (v' := .agg [.int .i64 k1, .int .i64 n1, .imm tks_l09Copy_L1 3 false (fcellss ks3)]) (by rfl) ⟨rfl, (show tk ≤ (tks_l09Copy_L1 + 1) by omega), _, rfl, ⟨k1, n1, tks_l09Copy_L1, false, ks3, rfl, rfl, fun _ => (show Fr tk (tks_l09Copy_L1 + 1) _ from (show Fr tk (tks_l09Copy_L1 + 1) _ from Fr.fstop (show Fr tk tks_l09Copy_L1 _ from (hfr3).mono (by omega) (by omega)) (by omega) (by omega)).mono (by omega) (by omega))⟩⟩

theorem s_l09Copy_all : ∀ (n : Nat), (s_l09Copy_P n)
 | 0 => by intro k1 n1 q1 f1 ks1 r hM; rw [s_l09Copy] at hM; cases hM
 | n + 1 => have ih := s_l09Copy_all n; s_l09Copy_st n (ih)

theorem s_l09Copy_ok (n : Nat) : s_l09Copy_P n := s_l09Copy_all n

def s_l09More (l1 : List F) (x2 : F) : Option (List F) :=
 chk ((([] : List F)).length + (l1).length ≤ 1099511627776) <|
 chk ((l1).length + ([x2]).length ≤ 1099511627776) <|
 some (l1 ++ [x2])

set_option maxRecDepth 100000 in
theorem s_l09More_ok : ∀ (q1 : Nat) (f1 : Bool) (ks1 : List LF) (k2 : Int) (n2 : Int) (q2 : Nat) (f2 : Bool) (ks2 : List LF) {r : (List F)}, s_l09More (fers ks1) (F.mk k2 n2 (fers ks2)) = some r → ∀ (O : Heap) (tk : Nat), ACalls Go.Proofs.Try.prog 140 [.imm q1 3 f1 (fcellss ks1), .agg [.int .i64 k2, .int .i64 n2, .imm q2 3 f2 (fcellss ks2)]] O tk (RetX O tk (fun v tk' => VFs false tk tk' r v)) := by
 intro q1 f1 ks1 k2 n2 q2 f2 ks2 r hM O tk
 unfold s_l09More at hM
 refine acalls_of_run Go.Proofs.Try.func140 rfl rfl [] [] (Bor.nil _) [(0, .imm q1 3 f1 (fcellss ks1)), (1, .agg [.int .i64 k2, .int .i64 n2, .imm q2 3 f2 (fcellss ks2)])] (.cons (entS rfl) (.cons (.agg _) (.nil _))) (leb rfl) (fun _ h => by cases h) (fun S0 hO htk hfz => ?_)
 refine run_sr ?_
 refine run_op rfl (box_step (d := 3) rfl rfl rfl rfl rfl) rfl (ltb rfl) ?_
 refine yR rfl ?_
 refine yN ?_
 refine run_seq ?_
 refine run_draw [] (n := 7) mixed rfl yE ?_
 refine yTV 1 (by kernel_rfl) rfl ?_
 refine yTL hG 3 (by kernel_rfl) rfl ?_
 refine AAny.eachN (rs := [0, 4]) (by kernel_rfl) (fun h => by cases h) (fun i hi => ?_)
 simp only [List.mem_cons, List.not_mem_nil, or_false] at hi
 rcases hi with rfl | rfl
 ·refine AOpN.build0 hG rfl rfl rfl (ltb rfl) rfl rfl rfl rfl rfl ?_
  refine AAny.each (rs := [2, 4]) (by kernel_rfl) (fun h => by cases h) (fun i hi => ?_)
  simp only [List.mem_cons, List.not_mem_nil, or_false] at hi
  rcases hi with rfl | rfl
  ·obtain ⟨hc3, hM⟩ := chk_t hM
   refine AOp.step rfl rfl rfl (ltb rfl) (appendM_step hG rfl rfl rfl rfl rfl rfl rfl rfl rfl rfl rfl (fcellss_sz ks1) (flen ([] : List LF)) (flen ks1) (by first | exact hc3 | simpa [fers] using hc3) (by decide) (List.nil_append _)) (by intro x hx; simp only [List.mem_cons, List.not_mem_nil, or_false] at hx; subst hx; simp) ?_
   refine AAny.one (i := 4) (by kernel_rfl) (AOp.step rfl rfl rfl (ltb rfl) (buildSlice_step (d := 9) hG rfl rfl rfl rfl rfl (by rfl) (by rfl) (by rfl) (by decide)) yE ?_)
   obtain ⟨hc4, hM⟩ := chk_t hM
   try rw [show ((fers ks1) ++ [(F.mk k2 n2 (fers ks2))] : List F) = (fers (ks1 ++ [LF.mk k2 n2 q2 f2 ks2])) from fers_app ks1 [LF.mk k2 n2 q2 f2 ks2]] at hM
   refine AAny.one (i := 5) (by kernel_rfl) (AOp.step rfl rfl rfl (ltb rfl) (appendM_step hG rfl rfl rfl rfl rfl rfl rfl rfl rfl rfl rfl (fcellss_sz ([LF.mk k2 n2 q2 f2 ks2])) (flen ks1) (flen ([LF.mk k2 n2 q2 f2 ks2])) hc4 (by decide) (fcellss_app _ _)) (by intro x hx; simp only [List.mem_cons, List.not_mem_nil, or_false] at hx; subst hx; simp) ?_)
   refine yTW 6 (by kernel_rfl) rfl ?_
   refine AAny.done (by kernel_rfl) ?_
   refine run_ret_to ?_
   refine fin_sub (Sub.freeze (k := 5) rfl rfl) ?_
   obtain rfl := some_t hM
   refine fin_x hG rfl rfl rfl (v' := .imm tk 3 false (fcellss (ks1 ++ [LF.mk k2 n2 q2 f2 ks2]))) (by rfl) ⟨rfl, (show tk ≤ (tk + 1) by omega), _, rfl, ⟨tk, false, (ks1 ++ [LF.mk k2 n2 q2 f2 ks2]), rfl, rfl, fun h => by cases h⟩⟩
  refine AOp.step rfl rfl rfl (ltb rfl) (buildSlice_step (d := 9) hG rfl rfl rfl rfl rfl (by rfl) (by rfl) (by rfl) (by decide)) yE ?_
  obtain ⟨hc5, hM⟩ := chk_t hM
  refine AAny.one (i := 2) (by kernel_rfl) (AOp.step rfl rfl rfl (ltb rfl) (appendM_step hG rfl rfl rfl rfl rfl rfl rfl rfl rfl rfl rfl (fcellss_sz ks1) (flen ([] : List LF)) (flen ks1) (by first | exact hc5 | simpa [fers] using hc5) (by decide) (List.nil_append _)) (by intro x hx; simp only [List.mem_cons, List.not_mem_nil, or_false] at hx; subst hx; simp) ?_)
  obtain ⟨hc6, hM⟩ := chk_t hM
  try rw [show ((fers ks1) ++ [(F.mk k2 n2 (fers ks2))] : List F) = (fers (ks1 ++ [LF.mk k2 n2 q2 f2 ks2])) from fers_app ks1 [LF.mk k2 n2 q2 f2 ks2]] at hM
  refine AAny.one (i := 5) (by kernel_rfl) (AOp.step rfl rfl rfl (ltb rfl) (appendM_step hG rfl rfl rfl rfl rfl rfl rfl rfl rfl rfl rfl (fcellss_sz ([LF.mk k2 n2 q2 f2 ks2])) (flen ks1) (flen ([LF.mk k2 n2 q2 f2 ks2])) hc6 (by decide) (fcellss_app _ _)) (by intro x hx; simp only [List.mem_cons, List.not_mem_nil, or_false] at hx; subst hx; simp) ?_)
  refine yTW 6 (by kernel_rfl) rfl ?_
  refine AAny.done (by kernel_rfl) ?_
  refine run_ret_to ?_
  refine fin_sub (Sub.freeze (k := 5) rfl rfl) ?_
  obtain rfl := some_t hM
  refine fin_x hG rfl rfl rfl (v' := .imm tk 3 false (fcellss (ks1 ++ [LF.mk k2 n2 q2 f2 ks2]))) (by rfl) ⟨rfl, (show tk ≤ (tk + 1) by omega), _, rfl, ⟨tk, false, (ks1 ++ [LF.mk k2 n2 q2 f2 ks2]), rfl, rfl, fun h => by cases h⟩⟩
 refine AOpN.of ?_
 refine AOp.step rfl rfl rfl (ltb rfl) (buildSlice_step (d := 9) hG rfl rfl rfl rfl rfl (by rfl) (by rfl) (by rfl) (by decide)) yE ?_
 refine AAny.eachN (rs := [0]) (by kernel_rfl) (fun h => by cases h) (fun i hi => ?_)
 simp only [List.mem_cons, List.not_mem_nil, or_false] at hi
 subst hi
 ·refine AOpN.build0 hG rfl rfl rfl (ltb rfl) rfl rfl rfl rfl rfl ?_
  obtain ⟨hc7, hM⟩ := chk_t hM
  refine AAny.one (i := 2) (by kernel_rfl) (AOp.step rfl rfl rfl (ltb rfl) (appendM_step hG rfl rfl rfl rfl rfl rfl rfl rfl rfl rfl rfl (fcellss_sz ks1) (flen ([] : List LF)) (flen ks1) (by first | exact hc7 | simpa [fers] using hc7) (by decide) (List.nil_append _)) (by intro x hx; simp only [List.mem_cons, List.not_mem_nil, or_false] at hx; subst hx; simp) ?_)
  obtain ⟨hc8, hM⟩ := chk_t hM
  try rw [show ((fers ks1) ++ [(F.mk k2 n2 (fers ks2))] : List F) = (fers (ks1 ++ [LF.mk k2 n2 q2 f2 ks2])) from fers_app ks1 [LF.mk k2 n2 q2 f2 ks2]] at hM
  refine AAny.one (i := 5) (by kernel_rfl) (AOp.step rfl rfl rfl (ltb rfl) (appendM_step hG rfl rfl rfl rfl rfl rfl rfl rfl rfl rfl rfl (fcellss_sz ([LF.mk k2 n2 q2 f2 ks2])) (flen ks1) (flen ([LF.mk k2 n2 q2 f2 ks2])) hc8 (by decide) (fcellss_app _ _)) (by intro x hx; simp only [List.mem_cons, List.not_mem_nil, or_false] at hx; subst hx; simp) ?_)
  refine yTW 6 (by kernel_rfl) rfl ?_
  refine AAny.done (by kernel_rfl) ?_
  refine run_ret_to ?_
  refine fin_sub (Sub.freeze (k := 5) rfl rfl) ?_
  obtain rfl := some_t hM
  refine fin_x hG rfl rfl rfl (v' := .imm tk 3 false (fcellss (ks1 ++ [LF.mk k2 n2 q2 f2 ks2]))) (by rfl) ⟨rfl, (show tk ≤ (tk + 1) by omega), _, rfl, ⟨tk, false, (ks1 ++ [LF.mk k2 n2 q2 f2 ks2]), rfl, rfl, fun h => by cases h⟩⟩

end Go.Am.Ytpkeophkdemcpaa
