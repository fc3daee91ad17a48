/- Printed by a program of ours: Lean functions that do what the Go functions do, and the contracts. -/
import Derived.Test.YtgbmcnmepfpjiaaMi1
import Derived.Test.YtgbmcnmepfpjiaaTypes
import Derived.Test.YtgbmcnmepfpjiaaMkForm
import Derived.Test.YtgbmcnmepfpjiaaMxB
namespace Go.Am.Ytgbmcnmepfpjiaa
open Go Go.Am

def g_Max_X_L1 (l1 : List Int) : Nat → Int → Int → Option Int
  | 0, _, _ => none
  | m + 1, i8, i9 =>
    if i9 < ((l1).length : Int) then
      (idx l1 i9).bind fun y11 =>
      g_Max_X_L1 l1 m (imax i8 y11) (IntKind.i64.wrap (i9 + 1))
    else
      some i8

def g_Max_X (n : Nat) (l1 : List Int) : Option Int :=
  if ((l1).length : Int) < 1 then
    none
  else
    (idx l1 0).bind fun y3 =>
    g_Max_X_L1 l1 n y3 1

set_option maxRecDepth 100000 in
theorem g_Max_X_ok (n : Nat) : ∀ (q1 : Nat) (f1 : Bool) (l1 : List Int) {r : Int}, g_Max_X n l1 = some r → ∀ (O : Heap) (tk : Nat), ACalls Go.Proofs.Try.prog 81 [.imm q1 1 f1 ((l1 : List Int).map fun n => [AV.int .i64 n])] O tk (RetX O tk (fun v tk' => v = .int .i64 r)) := by
  intro q1 f1 l1 r hM O tk
  unfold g_Max_X at hM
  refine acalls_of_run Go.Proofs.Try.func81 rfl rfl [] [] (Bor.nil _) [(0, .imm q1 1 f1 ((l1 : List Int).map fun n => [AV.int .i64 n]))] (.cons (entS rfl) (.nil _)) (leb rfl) (fun _ h => by cases h) (fun S0 hO htk hfz => ?_)
  refine run_seq ?_
  refine run_region ?_
  refine run_pu rfl (move_step (.inr rfl) rfl) rfl (ltb rfl) ?_
  refine run_ops_nil ?_
  refine run_seq ?_
  refine run_seq ?_
  refine run_region ?_
  refine run_pu rfl (move_step (.inl rfl) rfl) rfl (ltb rfl) ?_
  refine run_pu rfl (lenImm_step hG rfl rfl rfl rfl (ilen _)) rfl (ltb rfl) ?_
  refine run_pu rfl (abin_step rfl rfl rfl rfl (fun _ h => by cases h)) rfl (ltb rfl) ?_
  refine run_ops_nil ?_
  refine run_ifd rfl rfl (fun hb2 => ?_) (fun hb2 => ?_)
  · replace hM := ite_t hb2 hM
    refine run_region ?_
    cases hM
  · replace hM := ite_f hb2 hM
    refine run_skip ?_
    refine run_seq ?_
    refine run_region ?_
    refine run_pu rfl (move_step (.inl rfl) rfl) rfl (ltb rfl) ?_
    obtain ⟨y3, hy4, hM⟩ := bind_t hM
    obtain ⟨hc6, hi7⟩ := iidx (k := .i64) hy4
    refine run_pu rfl (indexImm_step hG rfl rfl rfl hi7 rfl rfl rfl rfl hc6) rfl (ltb rfl) ?_
    refine run_rd rfl (aload_rd hG rfl rfl rfl (by simp [ldok])) rfl (ltb rfl) ?_
    refine run_pu rfl (move_step (.inr rfl) rfl) rfl (ltb rfl) ?_
    refine run_ops_nil ?_
    refine run_seq ?_
    refine run_seq ?_
    refine run_region ?_
    refine run_pu rfl (move_step (.inr rfl) rfl) rfl (ltb rfl) ?_
    refine run_ops_nil ?_
    refine run_block ?_
    refine run_rounds (fun m σ => ∃ (i8 : Int) (i9 : Int) (tkg_Max_X_L1 : Nat), tk ≤ tkg_Max_X_L1 ∧ g_Max_X_L1 l1 m i8 i9 = some r ∧ σ = ⟨[(0, .imm q1 1 f1 ((l1 : List Int).map fun n => [AV.int .i64 n])), (2, .int .i64 0), (3, .int .i64 i8), (4, .int .i64 i9)], [], [], O, tkg_Max_X_L1⟩) n (Sub.env [(0, .imm q1 1 f1 ((l1 : List Int).map fun n => [AV.int .i64 n])), (2, .int .i64 0), (3, .int .i64 y3), (4, .int .i64 1)] ⟨rfl, rfl, rfl, rfl, trivial⟩) ⟨y3, 1, tk, Nat.le_refl _, hM, rfl⟩ (fun m σ hI => ?_)
    clear hM
    obtain ⟨i8, i9, tkg_Max_X_L1, hle16, hM, rfl⟩ := hI
    obtain _ | m := m
    · exact absurd hM (by rw [g_Max_X_L1]; exact fun h => by cases h)
    rw [g_Max_X_L1] at hM
    refine run_seq ?_
    refine run_seq ?_
    refine run_region ?_
    refine run_pu rfl (move_step (.inl rfl) rfl) rfl (ltb rfl) ?_
    refine run_pu rfl (move_step (.inl rfl) rfl) rfl (ltb rfl) ?_
    refine run_pu rfl (lenImm_step hG rfl rfl rfl rfl (ilen _)) rfl (ltb rfl) ?_
    refine run_pu rfl (abin_step rfl rfl rfl rfl (fun _ h => by cases h)) rfl (ltb rfl) ?_
    refine run_ops_nil ?_
    refine run_ifd rfl rfl (fun hb10 => ?_) (fun hb10 => ?_)
    · replace hM := ite_t hb10 hM
      refine run_skip ?_
      refine run_seq ?_
      refine run_block ?_
      refine run_region ?_
      refine run_pu rfl (move_step (.inl rfl) rfl) rfl (ltb rfl) ?_
      refine run_pu rfl (move_step (.inl rfl) rfl) rfl (ltb rfl) ?_
      refine run_pu rfl (move_step (.inl rfl) rfl) rfl (ltb rfl) ?_
      obtain ⟨y11, hy12, hM⟩ := bind_t hM
      obtain ⟨hc14, hi15⟩ := iidx (k := .i64) hy12
      refine run_pu rfl (indexImm_step hG rfl rfl rfl hi15 rfl rfl rfl rfl hc14) rfl (ltb rfl) ?_
      refine run_rd rfl (aload_rd hG rfl rfl rfl (by simp [ldok])) rfl (ltb rfl) ?_
      refine run_pu rfl (max_step rfl rfl rfl) rfl (ltb rfl) ?_
      refine run_pu rfl (move_step (.inr rfl) rfl) rfl (ltb rfl) ?_
      refine run_ops_nil ?_
      refine run_blk ?_
      refine run_region ?_
      refine run_pu rfl (move_step (.inl rfl) rfl) rfl (ltb rfl) ?_
      refine run_pu rfl (abin_step rfl rfl rfl rfl (fun _ h => by cases h)) rfl (ltb rfl) ?_
      refine run_pu rfl (move_step (.inr rfl) rfl) rfl (ltb rfl) ?_
      refine run_ops_nil ?_
      exact run_loop_end ⟨m, _, Nat.lt_succ_self _, ⟨(imax i8 y11), (IntKind.i64.wrap (i9 + 1)), tkg_Max_X_L1, (show tk ≤ tkg_Max_X_L1 by omega), hM, rfl⟩, Sub.env [(0, .imm q1 1 f1 ((l1 : List Int).map fun n => [AV.int .i64 n])), (2, .int .i64 0), (3, .int .i64 (imax i8 y11)), (4, .int .i64 (IntKind.i64.wrap (i9 + 1)))] ⟨rfl, rfl, rfl, rfl, trivial⟩⟩
    · replace hM := ite_f hb10 hM
      refine run_exit_to rfl ?_
      refine run_seq ?_
      refine run_region ?_
      refine run_pu rfl (move_step (.inl rfl) rfl) rfl (ltb rfl) ?_
      refine run_pu rfl (move_step (.inr rfl) rfl) rfl (ltb rfl) ?_
      refine run_ops_nil ?_
      refine run_ret_to ?_
      obtain rfl := some_t hM
      refine fin_x hG rfl rfl rfl (v' := .int .i64 i8) (by rfl) ⟨rfl, (show tk ≤ tkg_Max_X_L1 by omega), _, rfl, rfl⟩

def i_longLists (n : Nat) (l1 : List Int) : Option Bool :=
  (g_Max_X n l1).bind fun r2 =>
  some (decide (r2 > 4096))

set_option maxRecDepth 100000 in
theorem i_longLists_ok (n : Nat) : ∀ (q1 : Nat) (f1 : Bool) (l1 : List Int) {r : Bool}, i_longLists n l1 = some r → ∀ (O : Heap) (tk : Nat), ACalls Go.Proofs.Try.prog 59 [.imm q1 1 f1 ((l1 : List Int).map fun n => [AV.int .i64 n])] O tk (RetX O tk (fun v tk' => v = .bool r)) := by
  intro q1 f1 l1 r hM O tk
  unfold i_longLists at hM
  refine acalls_of_run Go.Proofs.Try.func59 rfl rfl [] [] (Bor.nil _) [(0, .imm q1 1 f1 ((l1 : List Int).map fun n => [AV.int .i64 n]))] (.cons (entS rfl) (.nil _)) (leb rfl) (fun _ h => by cases h) (fun S0 hO htk hfz => ?_)
  refine run_seq ?_
  refine run_region ?_
  refine run_pu rfl (move_step (.inr rfl) rfl) rfl (ltb rfl) ?_
  refine run_ops_nil ?_
  refine run_seq ?_
  refine run_region ?_
  refine run_pu rfl (move_step (.inl rfl) rfl) rfl (ltb rfl) ?_
  obtain ⟨r2, hg3, hM⟩ := bind_t hM
  refine run_call rfl rfl rfl (ltb rfl) rfl rfl rfl (fun _ h => absurd h List.not_mem_nil) (g_Max_X_ok n q1 f1 l1 hg3 _ _) (callK_retX (fun v tk4 (hle5 : tk ≤ tk4) h6 => ?_))
  subst h6
  refine run_pu rfl (abin_step rfl rfl rfl rfl (fun _ h => by cases h)) rfl (ltb rfl) ?_
  refine run_pu rfl (move_step (.inr rfl) rfl) rfl (ltb rfl) ?_
  refine run_ops_nil ?_
  refine run_ret_to ?_
  obtain rfl := some_t hM
  refine fin_x hG rfl rfl rfl (v' := .bool (decide (r2 > 4096))) (by rfl) ⟨rfl, (show tk ≤ tk4 by omega), _, rfl, rfl⟩

def i_badForm (n : Nat) (x1 : F) : Option Bool :=
  (i_FormOK n x1).bind fun r2 =>
  some (!r2)

set_option maxRecDepth 100000 in
theorem i_badForm_ok (n : Nat) : ∀ (k1 : Int) (n1 : Int) (q1 : Nat) (f1 : Bool) (ks1 : List LF) {r : Bool}, i_badForm n (F.mk k1 n1 (fers ks1)) = some r → ∀ (O : Heap) (tk : Nat), ACalls Go.Proofs.Try.prog 88 [.agg [.int .i64 k1, .int .i64 n1, .imm q1 3 f1 (fcellss ks1)]] O tk (RetX O tk (fun v tk' => v = .bool r)) := by
  intro k1 n1 q1 f1 ks1 r hM O tk
  unfold i_badForm at hM
  refine acalls_of_run Go.Proofs.Try.func88 rfl rfl [] [] (Bor.nil _) [(0, .agg [.int .i64 k1, .int .i64 n1, .imm q1 3 f1 (fcellss ks1)])] (.cons (.agg _) (.nil _)) (leb rfl) (fun _ h => by cases h) (fun S0 hO htk hfz => ?_)
  refine run_seq ?_
  refine run_region ?_
  refine run_op rfl (box_step (d := 1) rfl rfl rfl rfl rfl) rfl (ltb rfl) ?_
  refine run_pu rfl (move_step (.inr rfl) rfl) rfl (ltb rfl) ?_
  refine run_ops_nil ?_
  refine run_seq ?_
  refine run_region ?_
  refine run_rd rfl (aload_rd hG rfl rfl rfl (by simp [ldok])) rfl (ltb rfl) ?_
  obtain ⟨r2, hg3, hM⟩ := bind_t hM
  refine run_call rfl rfl rfl (ltb rfl) rfl rfl rfl (fun _ h => absurd h List.not_mem_nil) (i_FormOK_ok n k1 n1 q1 f1 ks1 hg3 _ _) (callK_retX (fun v tk4 (hle5 : tk ≤ tk4) h6 => ?_))
  subst h6
  refine run_pu rfl (aun_step rfl rfl rfl) rfl (ltb rfl) ?_
  refine run_pu rfl (move_step (.inr rfl) rfl) rfl (ltb rfl) ?_
  refine run_ops_nil ?_
  refine run_ret_to ?_
  obtain rfl := some_t hM
  refine fin_x hG rfl rfl rfl (v' := .bool (!r2)) (by rfl) ⟨rfl, (show tk ≤ tk4 by omega), _, rfl, rfl⟩

def g_IndexFunc_Form__fn_i_badForm_L1 (n : Nat) (l1 : List F) : Nat → Int → Option Int
  | 0, _ => none
  | m + 1, i2 =>
    if i2 < ((l1).length : Int) then
      (idx l1 i2).bind fun y4 =>
      (i_badForm n y4).bind fun r9 =>
      if r9 = true then
        some i2
      else
        g_IndexFunc_Form__fn_i_badForm_L1 n l1 m (IntKind.i64.wrap (i2 + 1))
    else
      some (-1)

def g_IndexFunc_Form__fn_i_badForm (n : Nat) (l1 : List F) : Option Int :=
  g_IndexFunc_Form__fn_i_badForm_L1 n l1 n 0

set_option maxRecDepth 100000 in
theorem g_IndexFunc_Form__fn_i_badForm_ok (n : Nat) : ∀ (q1 : Nat) (f1 : Bool) (ks1 : List LF) {r : Int}, g_IndexFunc_Form__fn_i_badForm n (fers ks1) = some r → ∀ (O : Heap) (tk : Nat), ACalls Go.Proofs.Try.prog 94 [.imm q1 3 f1 (fcellss ks1), .fn (.func 88) [] []] O tk (RetX O tk (fun v tk' => v = .int .i64 r)) := by
  intro q1 f1 ks1 r hM O tk
  unfold g_IndexFunc_Form__fn_i_badForm at hM
  refine acalls_of_run Go.Proofs.Try.func94 rfl rfl [] [] (Bor.nil _) [(0, .imm q1 3 f1 (fcellss ks1)), (1, .fn (.func 88) [] [])] (.cons (entS rfl) (.cons (entS rfl) (.nil _))) (leb rfl) (fun _ h => by cases h) (fun S0 hO htk hfz => ?_)
  refine run_seq ?_
  refine run_region ?_
  refine run_pu rfl (move_step (.inr rfl) rfl) rfl (ltb rfl) ?_
  refine run_ops_nil ?_
  refine run_seq ?_
  refine run_seq ?_
  refine run_region ?_
  refine run_pu rfl (move_step (.inl rfl) rfl) rfl (ltb rfl) ?_
  refine run_pu rfl (lenImm_step hG rfl rfl rfl rfl (flen _)) rfl (ltb rfl) ?_
  refine run_pu rfl (move_step (.inl rfl) rfl) rfl (ltb rfl) ?_
  refine run_ops_nil ?_
  refine run_block ?_
  refine run_rounds (fun m σ => ∃ (i2 : Int) (tkg_IndexFunc_Form__fn_i_badForm_L1 : Nat), tk ≤ tkg_IndexFunc_Form__fn_i_badForm_L1 ∧ g_IndexFunc_Form__fn_i_badForm_L1 n (fers ks1) m i2 = some r ∧ σ = ⟨[(0, .imm q1 3 f1 (fcellss ks1)), (1, .fn (.func 88) [] []), (4, .int .i64 0), (7, .int .i64 (((fers ks1)).length : Int)), (8, .int .i64 i2)], [], [], O, tkg_IndexFunc_Form__fn_i_badForm_L1⟩) n (Sub.env [(0, .imm q1 3 f1 (fcellss ks1)), (1, .fn (.func 88) [] []), (4, .int .i64 0), (7, .int .i64 (((fers ks1)).length : Int)), (8, .int .i64 0)] ⟨rfl, rfl, rfl, rfl, rfl, trivial⟩) ⟨0, tk, Nat.le_refl _, hM, rfl⟩ (fun m σ hI => ?_)
  clear hM
  obtain ⟨i2, tkg_IndexFunc_Form__fn_i_badForm_L1, hle17, hM, rfl⟩ := hI
  obtain _ | m := m
  · exact absurd hM (by rw [g_IndexFunc_Form__fn_i_badForm_L1]; exact fun h => by cases h)
  rw [g_IndexFunc_Form__fn_i_badForm_L1] at hM
  refine run_seq ?_
  refine run_region ?_
  refine run_pu rfl (abin_step rfl rfl rfl rfl (fun _ h => by cases h)) rfl (ltb rfl) ?_
  refine run_ops_nil ?_
  refine run_seq ?_
  refine run_ifd rfl rfl (fun hb3 => ?_) (fun hb3 => ?_)
  · replace hM := ite_t hb3 hM
    refine run_skip ?_
    refine run_seq ?_
    refine run_block ?_
    refine run_seq ?_
    refine run_region ?_
    refine run_pu rfl (move_step (.inl rfl) rfl) rfl (ltb rfl) ?_
    refine run_pu rfl (move_step (.inr rfl) rfl) rfl (ltb rfl) ?_
    refine run_ops_nil ?_
    refine run_seq ?_
    refine run_region ?_
    refine run_pu rfl (move_step (.inl rfl) rfl) rfl (ltb rfl) ?_
    refine run_pu rfl (move_step (.inl rfl) rfl) rfl (ltb rfl) ?_
    refine run_pu rfl (move_step (.inl rfl) rfl) rfl (ltb rfl) ?_
    obtain ⟨y4, hy5, hM⟩ := bind_t hM
    obtain ⟨k6, n6, q6, f6, ks6, rfl, hc7, hi8⟩ := fidx hy5
    refine run_pu rfl (indexImm_step hG rfl rfl rfl hi8 rfl rfl rfl rfl hc7) rfl (ltb rfl) ?_
    refine run_rd rfl (aload_rd hG rfl rfl rfl (by simp [ldok])) rfl (ltb rfl) ?_
    obtain ⟨r9, hg10, hM⟩ := bind_t hM
    refine run_call rfl rfl rfl (ltb rfl) rfl rfl rfl (fun _ h => absurd h List.not_mem_nil) (i_badForm_ok n k6 n6 q6 f6 ks6 hg10 _ _) (callK_retX (fun v tk11 (hle12 : tkg_IndexFunc_Form__fn_i_badForm_L1 ≤ tk11) h13 => ?_))
    subst h13
    refine run_ops_nil ?_
    refine run_ifb rfl rfl (fun hb16 => ?_) (fun hb16 => ?_)
    · replace hM := ite_t hb16 hM
      refine run_seq ?_
      refine run_region ?_
      refine run_pu rfl (move_step (.inl rfl) rfl) rfl (ltb rfl) ?_
      refine run_pu rfl (move_step (.inr rfl) rfl) rfl (ltb rfl) ?_
      refine run_ops_nil ?_
      refine run_ret_to ?_
      obtain rfl := some_t hM
      refine fin_x hG rfl rfl rfl (v' := .int .i64 i2) (by rfl) ⟨rfl, (show tk ≤ tk11 by omega), _, rfl, rfl⟩
    · replace hM := ite_f hb16 hM
      refine run_skip ?_
      refine run_blk ?_
      refine run_region ?_
      refine run_pu rfl (abin_step rfl rfl rfl rfl (fun _ h => by cases h)) rfl (ltb rfl) ?_
      refine run_pu rfl (move_step (.inl rfl) rfl) rfl (ltb rfl) ?_
      refine run_ops_nil ?_
      exact run_loop_end ⟨m, _, Nat.lt_succ_self _, ⟨(IntKind.i64.wrap (i2 + 1)), tk11, (show tk ≤ tk11 by omega), hM, rfl⟩, Sub.env [(0, .imm q1 3 f1 (fcellss ks1)), (1, .fn (.func 88) [] []), (4, .int .i64 0), (7, .int .i64 (((fers ks1)).length : Int)), (8, .int .i64 (IntKind.i64.wrap (i2 + 1)))] ⟨rfl, rfl, rfl, rfl, rfl, trivial⟩⟩
  · replace hM := ite_f hb3 hM
    refine run_exit_to rfl ?_
    refine run_seq ?_
    refine run_region ?_
    refine run_pu rfl (move_step (.inr rfl) rfl) rfl (ltb rfl) ?_
    refine run_ops_nil ?_
    refine run_ret_to ?_
    obtain rfl := some_t hM
    refine fin_x hG rfl rfl rfl (v' := .int .i64 (-1)) (by rfl) ⟨rfl, (show tk ≤ tkg_IndexFunc_Form__fn_i_badForm_L1 by omega), _, rfl, rfl⟩

def g_ContainsFunc_Form__fn_i_badForm (n : Nat) (l1 : List F) : Option Bool :=
  (g_IndexFunc_Form__fn_i_badForm n l1).bind fun r2 =>
  some (decide (r2 ≥ 0))

set_option maxRecDepth 100000 in
theorem g_ContainsFunc_Form__fn_i_badForm_ok (n : Nat) : ∀ (q1 : Nat) (f1 : Bool) (ks1 : List LF) {r : Bool}, g_ContainsFunc_Form__fn_i_badForm n (fers ks1) = some r → ∀ (O : Heap) (tk : Nat), ACalls Go.Proofs.Try.prog 87 [.imm q1 3 f1 (fcellss ks1), .fn (.func 88) [] []] O tk (RetX O tk (fun v tk' => v = .bool r)) := by
  intro q1 f1 ks1 r hM O tk
  unfold g_ContainsFunc_Form__fn_i_badForm at hM
  refine acalls_of_run Go.Proofs.Try.func87 rfl rfl [] [] (Bor.nil _) [(0, .imm q1 3 f1 (fcellss ks1)), (1, .fn (.func 88) [] [])] (.cons (entS rfl) (.cons (entS rfl) (.nil _))) (leb rfl) (fun _ h => by cases h) (fun S0 hO htk hfz => ?_)
  refine run_seq ?_
  refine run_region ?_
  refine run_pu rfl (move_step (.inr rfl) rfl) rfl (ltb rfl) ?_
  refine run_ops_nil ?_
  refine run_seq ?_
  refine run_region ?_
  refine run_pu rfl (move_step (.inl rfl) rfl) rfl (ltb rfl) ?_
  refine run_pu rfl (move_step (.inl rfl) rfl) rfl (ltb rfl) ?_
  obtain ⟨r2, hg3, hM⟩ := bind_t hM
  refine run_call rfl rfl rfl (ltb rfl) rfl rfl rfl (fun _ h => absurd h List.not_mem_nil) (g_IndexFunc_Form__fn_i_badForm_ok n q1 f1 ks1 hg3 _ _) (callK_retX (fun v tk4 (hle5 : tk ≤ tk4) h6 => ?_))
  subst h6
  refine run_pu rfl (abin_step rfl rfl rfl rfl (fun _ h => by cases h)) rfl (ltb rfl) ?_
  refine run_pu rfl (move_step (.inr rfl) rfl) rfl (ltb rfl) ?_
  refine run_ops_nil ?_
  refine run_ret_to ?_
  obtain rfl := some_t hM
  refine fin_x hG rfl rfl rfl (v' := .bool (decide (r2 ≥ 0))) (by rfl) ⟨rfl, (show tk ≤ tk4 by omega), _, rfl, rfl⟩

def i_hypsOK (n : Nat) (l1 : List F) : Option Bool :=
  if ((l1).length : Int) ≤ 12 then
    (g_ContainsFunc_Form__fn_i_badForm n l1).bind fun r3 =>
    some (!r3)
  else
    some false

set_option maxRecDepth 100000 in
theorem i_hypsOK_ok (n : Nat) : ∀ (q1 : Nat) (f1 : Bool) (ks1 : List LF) {r : Bool}, i_hypsOK n (fers ks1) = some r → ∀ (O : Heap) (tk : Nat), ACalls Go.Proofs.Try.prog 67 [.imm q1 3 f1 (fcellss ks1)] O tk (RetX O tk (fun v tk' => v = .bool r)) := by
  intro q1 f1 ks1 r hM O tk
  unfold i_hypsOK at hM
  refine acalls_of_run Go.Proofs.Try.func67 rfl rfl [] [] (Bor.nil _) [(0, .imm q1 3 f1 (fcellss ks1))] (.cons (entS rfl) (.nil _)) (leb rfl) (fun _ h => by cases h) (fun S0 hO htk hfz => ?_)
  refine run_seq ?_
  refine run_region ?_
  refine run_pu rfl (move_step (.inr rfl) rfl) rfl (ltb rfl) ?_
  refine run_ops_nil ?_
  refine run_seq ?_
  refine run_region ?_
  refine run_pu rfl (move_step (.inl rfl) rfl) rfl (ltb rfl) ?_
  refine run_pu rfl (lenImm_step hG rfl rfl rfl rfl (flen _)) rfl (ltb rfl) ?_
  refine run_pu rfl (abin_step rfl rfl rfl rfl (fun _ h => by cases h)) rfl (ltb rfl) ?_
  refine run_pu rfl (move_step (.inl rfl) rfl) rfl (ltb rfl) ?_
  refine run_splitd (i := 6) rfl (fun hb2 => ?_) (fun hb2 => ?_)
  · replace hM := ite_t hb2 hM
    refine run_puG (on_of rfl rfl rfl rfl) (move_step (.inl rfl) rfl) rfl (ltb rfl) ?_
    obtain ⟨r3, hg4, hM⟩ := bind_t hM
    refine run_callG (on_of rfl rfl rfl rfl) rfl rfl (ltb rfl) rfl rfl rfl (fun _ h => absurd h List.not_mem_nil) (g_ContainsFunc_Form__fn_i_badForm_ok n q1 f1 ks1 hg4 _ _) (callK_retX (fun v tk5 (hle6 : tk ≤ tk5) h7 => ?_))
    subst h7
    refine run_puG (on_of rfl rfl rfl rfl) (aun_step rfl rfl rfl) rfl (ltb rfl) ?_
    refine run_pu rfl (pick_step rfl rfl rfl) rfl (ltb rfl) ?_
    refine run_pu rfl (move_step (.inr rfl) rfl) rfl (ltb rfl) ?_
    refine run_ops_nil ?_
    refine run_ret_to ?_
    obtain rfl := some_t hM
    refine fin_x hG rfl rfl rfl (v' := .bool (!r3)) (by rfl) ⟨rfl, (show tk ≤ tk5 by omega), _, rfl, rfl⟩
  · replace hM := ite_f hb2 hM
    refine run_off (on_of rfl rfl rfl rfl) rfl (ltb rfl) ?_
    refine run_off (on_of rfl rfl rfl rfl) rfl (ltb rfl) ?_
    refine run_off (on_of rfl rfl rfl rfl) rfl (ltb rfl) ?_
    refine run_pu rfl (pick_step rfl rfl rfl) rfl (ltb rfl) ?_
    refine run_pu rfl (move_step (.inr rfl) rfl) rfl (ltb rfl) ?_
    refine run_ops_nil ?_
    refine run_ret_to ?_
    obtain rfl := some_t hM
    refine fin_x hG rfl rfl rfl (v' := .bool false) (by rfl) ⟨rfl, (show tk ≤ tk by omega), _, rfl, rfl⟩

def s_l08Hyps_L1 (n : Nat) (l1 : List F) : Nat → Int → Option Bool
  | 0, _ => none
  | m + 1, i3 =>
    if i3 < ((l1).length : Int) then
      (idx l1 i3).bind fun y5 =>
      (s_FormOK n y5).bind fun r10 =>
      if (!r10) = true then
        some false
      else
        s_l08Hyps_L1 n l1 m (IntKind.i64.wrap (i3 + 1))
    else
      some true

def s_l08Hyps (n : Nat) (l1 : List F) : Option Bool :=
  if ((l1).length : Int) > 12 then
    some false
  else
    s_l08Hyps_L1 n l1 n 0

set_option maxRecDepth 100000 in
theorem s_l08Hyps_ok (n : Nat) : ∀ (q1 : Nat) (f1 : Bool) (ks1 : List LF) {r : Bool}, s_l08Hyps n (fers ks1) = some r → ∀ (O : Heap) (tk : Nat), ACalls Go.Proofs.Try.prog 66 [.imm q1 3 f1 (fcellss ks1)] O tk (RetX O tk (fun v tk' => v = .bool r)) := by
  intro q1 f1 ks1 r hM O tk
  unfold s_l08Hyps at hM
  refine acalls_of_run Go.Proofs.Try.func66 rfl rfl [] [] (Bor.nil _) [(0, .imm q1 3 f1 (fcellss ks1))] (.cons (entS rfl) (.nil _)) (leb rfl) (fun _ h => by cases h) (fun S0 hO htk hfz => ?_)
  refine run_seq ?_
  refine run_region ?_
  refine run_pu rfl (move_step (.inr rfl) rfl) rfl (ltb rfl) ?_
  refine run_ops_nil ?_
  refine run_seq ?_
  refine run_seq ?_
  refine run_region ?_
  refine run_pu rfl (move_step (.inl rfl) rfl) rfl (ltb rfl) ?_
  refine run_pu rfl (lenImm_step hG rfl rfl rfl rfl (flen _)) rfl (ltb rfl) ?_
  refine run_pu rfl (abin_step rfl rfl rfl rfl (fun _ h => by cases h)) rfl (ltb rfl) ?_
  refine run_ops_nil ?_
  refine run_ifd rfl rfl (fun hb2 => ?_) (fun hb2 => ?_)
  · replace hM := ite_t hb2 hM
    refine run_seq ?_
    refine run_region ?_
    refine run_pu rfl (move_step (.inr rfl) rfl) rfl (ltb rfl) ?_
    refine run_ops_nil ?_
    refine run_ret_to ?_
    obtain rfl := some_t hM
    refine fin_x hG rfl rfl rfl (v' := .bool false) (by rfl) ⟨rfl, (show tk ≤ tk by omega), _, rfl, rfl⟩
  · replace hM := ite_f hb2 hM
    refine run_skip ?_
    refine run_seq ?_
    refine run_seq ?_
    refine run_region ?_
    refine run_pu rfl (move_step (.inr rfl) rfl) rfl (ltb rfl) ?_
    refine run_ops_nil ?_
    refine run_block ?_
    refine run_rounds (fun m σ => ∃ (i3 : Int) (tks_l08Hyps_L1 : Nat), tk ≤ tks_l08Hyps_L1 ∧ s_l08Hyps_L1 n (fers ks1) m i3 = some r ∧ σ = ⟨[(0, .imm q1 3 f1 (fcellss ks1)), (2, .bool false), (3, .int .i64 i3)], [], [], O, tks_l08Hyps_L1⟩) n (Sub.env [(0, .imm q1 3 f1 (fcellss ks1)), (2, .bool false), (3, .int .i64 0)] ⟨rfl, rfl, rfl, trivial⟩) ⟨0, tk, Nat.le_refl _, hM, rfl⟩ (fun m σ hI => ?_)
    clear hM
    obtain ⟨i3, tks_l08Hyps_L1, hle18, hM, rfl⟩ := hI
    obtain _ | m := m
    · exact absurd hM (by rw [s_l08Hyps_L1]; exact fun h => by cases h)
    rw [s_l08Hyps_L1] at hM
    refine run_seq ?_
    refine run_seq ?_
    refine run_region ?_
    refine run_pu rfl (move_step (.inl rfl) rfl) rfl (ltb rfl) ?_
    refine run_pu rfl (move_step (.inl rfl) rfl) rfl (ltb rfl) ?_
    refine run_pu rfl (lenImm_step hG rfl rfl rfl rfl (flen _)) rfl (ltb rfl) ?_
    refine run_pu rfl (abin_step rfl rfl rfl rfl (fun _ h => by cases h)) rfl (ltb rfl) ?_
    refine run_ops_nil ?_
    refine run_ifd rfl rfl (fun hb4 => ?_) (fun hb4 => ?_)
    · replace hM := ite_t hb4 hM
      refine run_skip ?_
      refine run_seq ?_
      refine run_block ?_
      refine run_seq ?_
      refine run_region ?_
      refine run_pu rfl (move_step (.inl rfl) rfl) rfl (ltb rfl) ?_
      refine run_pu rfl (move_step (.inl rfl) rfl) rfl (ltb rfl) ?_
      obtain ⟨y5, hy6, hM⟩ := bind_t hM
      obtain ⟨k7, n7, q7, f7, ks7, rfl, hc8, hi9⟩ := fidx hy6
      refine run_pu rfl (indexImm_step hG rfl rfl rfl hi9 rfl rfl rfl rfl hc8) rfl (ltb rfl) ?_
      refine run_rd rfl (aload_rd hG rfl rfl rfl (by simp [ldok])) rfl (ltb rfl) ?_
      obtain ⟨r10, hg11, hM⟩ := bind_t hM
      refine run_call rfl rfl rfl (ltb rfl) rfl rfl rfl (fun _ h => absurd h List.not_mem_nil) (s_FormOK_ok n k7 n7 q7 f7 ks7 hg11 _ _) (callK_retX (fun v tk12 (hle13 : tks_l08Hyps_L1 ≤ tk12) h14 => ?_))
      subst h14
      refine run_pu rfl (aun_step rfl rfl rfl) rfl (ltb rfl) ?_
      refine run_ops_nil ?_
      refine run_ifb rfl rfl (fun hb17 => ?_) (fun hb17 => ?_)
      · replace hM := ite_t hb17 hM
        refine run_seq ?_
        refine run_region ?_
        refine run_pu rfl (move_step (.inr rfl) rfl) rfl (ltb rfl) ?_
        refine run_ops_nil ?_
        refine run_ret_to ?_
        obtain rfl := some_t hM
        refine fin_x hG rfl rfl rfl (v' := .bool false) (by rfl) ⟨rfl, (show tk ≤ tk12 by omega), _, rfl, rfl⟩
      · replace hM := ite_f hb17 hM
        refine run_skip ?_
        refine run_blk ?_
        refine run_region ?_
        refine run_pu rfl (move_step (.inl rfl) rfl) rfl (ltb rfl) ?_
        refine run_pu rfl (abin_step rfl rfl rfl rfl (fun _ h => by cases h)) rfl (ltb rfl) ?_
        refine run_pu rfl (move_step (.inr rfl) rfl) rfl (ltb rfl) ?_
        refine run_ops_nil ?_
        exact run_loop_end ⟨m, _, Nat.lt_succ_self _, ⟨(IntKind.i64.wrap (i3 + 1)), tk12, (show tk ≤ tk12 by omega), hM, rfl⟩, Sub.env [(0, .imm q1 3 f1 (fcellss ks1)), (2, .bool false), (3, .int .i64 (IntKind.i64.wrap (i3 + 1)))] ⟨rfl, rfl, rfl, trivial⟩⟩
    · replace hM := ite_f hb4 hM
      refine run_exit_to rfl ?_
      refine run_seq ?_
      refine run_region ?_
      refine run_pu rfl (move_step (.inr rfl) rfl) rfl (ltb rfl) ?_
      refine run_ops_nil ?_
      refine run_ret_to ?_
      obtain rfl := some_t hM
      refine fin_x hG rfl rfl rfl (v' := .bool true) (by rfl) ⟨rfl, (show tk ≤ tks_l08Hyps_L1 by omega), _, rfl, rfl⟩

def g_IndexFunc_Tree__fn_i_tooBig_L1 (n : Nat) (l1 : List T) : Nat → Int → Option Int
  | 0, _ => none
  | m + 1, i2 =>
    if i2 < ((l1).length : Int) then
      (idx l1 i2).bind fun y4 =>
      (i_tooBig n y4).bind fun r9 =>
      if r9 = true then
        some i2
      else
        g_IndexFunc_Tree__fn_i_tooBig_L1 n l1 m (IntKind.i64.wrap (i2 + 1))
    else
      some (-1)

def g_IndexFunc_Tree__fn_i_tooBig (n : Nat) (l1 : List T) : Option Int :=
  g_IndexFunc_Tree__fn_i_tooBig_L1 n l1 n 0

set_option maxRecDepth 100000 in
theorem g_IndexFunc_Tree__fn_i_tooBig_ok (n : Nat) : ∀ (q1 : Nat) (f1 : Bool) (ks1 : List LT) {r : Int}, g_IndexFunc_Tree__fn_i_tooBig n (ers ks1) = some r → ∀ (O : Heap) (tk : Nat), ACalls Go.Proofs.Try.prog 84 [.imm q1 4 f1 (cellss ks1), .fn (.func 64) [] []] O tk (RetX O tk (fun v tk' => v = .int .i64 r)) := by
  intro q1 f1 ks1 r hM O tk
  unfold g_IndexFunc_Tree__fn_i_tooBig at hM
  refine acalls_of_run Go.Proofs.Try.func84 rfl rfl [] [] (Bor.nil _) [(0, .imm q1 4 f1 (cellss ks1)), (1, .fn (.func 64) [] [])] (.cons (entS rfl) (.cons (entS rfl) (.nil _))) (leb rfl) (fun _ h => by cases h) (fun S0 hO htk hfz => ?_)
  refine run_seq ?_
  refine run_region ?_
  refine run_pu rfl (move_step (.inr rfl) rfl) rfl (ltb rfl) ?_
  refine run_ops_nil ?_
  refine run_seq ?_
  refine run_seq ?_
  refine run_region ?_
  refine run_pu rfl (move_step (.inl rfl) rfl) rfl (ltb rfl) ?_
  refine run_pu rfl (lenImm_step hG rfl rfl rfl rfl (tlen _)) rfl (ltb rfl) ?_
  refine run_pu rfl (move_step (.inl rfl) rfl) rfl (ltb rfl) ?_
  refine run_ops_nil ?_
  refine run_block ?_
  refine run_rounds (fun m σ => ∃ (i2 : Int) (tkg_IndexFunc_Tree__fn_i_tooBig_L1 : Nat), tk ≤ tkg_IndexFunc_Tree__fn_i_tooBig_L1 ∧ g_IndexFunc_Tree__fn_i_tooBig_L1 n (ers ks1) m i2 = some r ∧ σ = ⟨[(0, .imm q1 4 f1 (cellss ks1)), (1, .fn (.func 64) [] []), (4, .int .i64 0), (7, .int .i64 (((ers ks1)).length : Int)), (8, .int .i64 i2)], [], [], O, tkg_IndexFunc_Tree__fn_i_tooBig_L1⟩) n (Sub.env [(0, .imm q1 4 f1 (cellss ks1)), (1, .fn (.func 64) [] []), (4, .int .i64 0), (7, .int .i64 (((ers ks1)).length : Int)), (8, .int .i64 0)] ⟨rfl, rfl, rfl, rfl, rfl, trivial⟩) ⟨0, tk, Nat.le_refl _, hM, rfl⟩ (fun m σ hI => ?_)
  clear hM
  obtain ⟨i2, tkg_IndexFunc_Tree__fn_i_tooBig_L1, hle17, hM, rfl⟩ := hI
  obtain _ | m := m
  · exact absurd hM (by rw [g_IndexFunc_Tree__fn_i_tooBig_L1]; exact fun h => by cases h)
  rw [g_IndexFunc_Tree__fn_i_tooBig_L1] at hM
  refine run_seq ?_
  refine run_region ?_
  refine run_pu rfl (abin_step rfl rfl rfl rfl (fun _ h => by cases h)) rfl (ltb rfl) ?_
  refine run_ops_nil ?_
  refine run_seq ?_
  refine run_ifd rfl rfl (fun hb3 => ?_) (fun hb3 => ?_)
  · replace hM := ite_t hb3 hM
    refine run_skip ?_
    refine run_seq ?_
    refine run_block ?_
    refine run_seq ?_
    refine run_region ?_
    refine run_pu rfl (move_step (.inl rfl) rfl) rfl (ltb rfl) ?_
    refine run_pu rfl (move_step (.inr rfl) rfl) rfl (ltb rfl) ?_
    refine run_ops_nil ?_
    refine run_seq ?_
    refine run_region ?_
    refine run_pu rfl (move_step (.inl rfl) rfl) rfl (ltb rfl) ?_
    refine run_pu rfl (move_step (.inl rfl) rfl) rfl (ltb rfl) ?_
    refine run_pu rfl (move_step (.inl rfl) rfl) rfl (ltb rfl) ?_
    obtain ⟨y4, hy5, hM⟩ := bind_t hM
    obtain ⟨k6, n6, s6, q6, f6, ks6, rfl, hc7, hi8⟩ := tidx hy5
    refine run_pu rfl (indexImm_step hG rfl rfl rfl hi8 rfl rfl rfl rfl hc7) rfl (ltb rfl) ?_
    refine run_rd rfl (aload_rd hG rfl rfl rfl (by simp [ldok])) rfl (ltb rfl) ?_
    obtain ⟨r9, hg10, hM⟩ := bind_t hM
    refine run_call rfl rfl rfl (ltb rfl) rfl rfl rfl (fun _ h => absurd h List.not_mem_nil) (i_tooBig_ok n k6 n6 s6 q6 f6 ks6 hg10 _ _) (callK_retX (fun v tk11 (hle12 : tkg_IndexFunc_Tree__fn_i_tooBig_L1 ≤ tk11) h13 => ?_))
    subst h13
    refine run_ops_nil ?_
    refine run_ifb rfl rfl (fun hb16 => ?_) (fun hb16 => ?_)
    · replace hM := ite_t hb16 hM
      refine run_seq ?_
      refine run_region ?_
      refine run_pu rfl (move_step (.inl rfl) rfl) rfl (ltb rfl) ?_
      refine run_pu rfl (move_step (.inr rfl) rfl) rfl (ltb rfl) ?_
      refine run_ops_nil ?_
      refine run_ret_to ?_
      obtain rfl := some_t hM
      refine fin_x hG rfl rfl rfl (v' := .int .i64 i2) (by rfl) ⟨rfl, (show tk ≤ tk11 by omega), _, rfl, rfl⟩
    · replace hM := ite_f hb16 hM
      refine run_skip ?_
      refine run_blk ?_
      refine run_region ?_
      refine run_pu rfl (abin_step rfl rfl rfl rfl (fun _ h => by cases h)) rfl (ltb rfl) ?_
      refine run_pu rfl (move_step (.inl rfl) rfl) rfl (ltb rfl) ?_
      refine run_ops_nil ?_
      exact run_loop_end ⟨m, _, Nat.lt_succ_self _, ⟨(IntKind.i64.wrap (i2 + 1)), tk11, (show tk ≤ tk11 by omega), hM, rfl⟩, Sub.env [(0, .imm q1 4 f1 (cellss ks1)), (1, .fn (.func 64) [] []), (4, .int .i64 0), (7, .int .i64 (((ers ks1)).length : Int)), (8, .int .i64 (IntKind.i64.wrap (i2 + 1)))] ⟨rfl, rfl, rfl, rfl, rfl, trivial⟩⟩
  · replace hM := ite_f hb3 hM
    refine run_exit_to rfl ?_
    refine run_seq ?_
    refine run_region ?_
    refine run_pu rfl (move_step (.inr rfl) rfl) rfl (ltb rfl) ?_
    refine run_ops_nil ?_
    refine run_ret_to ?_
    obtain rfl := some_t hM
    refine fin_x hG rfl rfl rfl (v' := .int .i64 (-1)) (by rfl) ⟨rfl, (show tk ≤ tkg_IndexFunc_Tree__fn_i_tooBig_L1 by omega), _, rfl, rfl⟩

def g_ContainsFunc_Tree__fn_i_tooBig (n : Nat) (l1 : List T) : Option Bool :=
  (g_IndexFunc_Tree__fn_i_tooBig n l1).bind fun r2 =>
  some (decide (r2 ≥ 0))

set_option maxRecDepth 100000 in
theorem g_ContainsFunc_Tree__fn_i_tooBig_ok (n : Nat) : ∀ (q1 : Nat) (f1 : Bool) (ks1 : List LT) {r : Bool}, g_ContainsFunc_Tree__fn_i_tooBig n (ers ks1) = some r → ∀ (O : Heap) (tk : Nat), ACalls Go.Proofs.Try.prog 63 [.imm q1 4 f1 (cellss ks1), .fn (.func 64) [] []] O tk (RetX O tk (fun v tk' => v = .bool r)) := by
  intro q1 f1 ks1 r hM O tk
  unfold g_ContainsFunc_Tree__fn_i_tooBig at hM
  refine acalls_of_run Go.Proofs.Try.func63 rfl rfl [] [] (Bor.nil _) [(0, .imm q1 4 f1 (cellss ks1)), (1, .fn (.func 64) [] [])] (.cons (entS rfl) (.cons (entS rfl) (.nil _))) (leb rfl) (fun _ h => by cases h) (fun S0 hO htk hfz => ?_)
  refine run_seq ?_
  refine run_region ?_
  refine run_pu rfl (move_step (.inr rfl) rfl) rfl (ltb rfl) ?_
  refine run_ops_nil ?_
  refine run_seq ?_
  refine run_region ?_
  refine run_pu rfl (move_step (.inl rfl) rfl) rfl (ltb rfl) ?_
  refine run_pu rfl (move_step (.inl rfl) rfl) rfl (ltb rfl) ?_
  obtain ⟨r2, hg3, hM⟩ := bind_t hM
  refine run_call rfl rfl rfl (ltb rfl) rfl rfl rfl (fun _ h => absurd h List.not_mem_nil) (g_IndexFunc_Tree__fn_i_tooBig_ok n q1 f1 ks1 hg3 _ _) (callK_retX (fun v tk4 (hle5 : tk ≤ tk4) h6 => ?_))
  subst h6
  refine run_pu rfl (abin_step rfl rfl rfl rfl (fun _ h => by cases h)) rfl (ltb rfl) ?_
  refine run_pu rfl (move_step (.inr rfl) rfl) rfl (ltb rfl) ?_
  refine run_ops_nil ?_
  refine run_ret_to ?_
  obtain rfl := some_t hM
  refine fin_x hG rfl rfl rfl (v' := .bool (decide (r2 ≥ 0))) (by rfl) ⟨rfl, (show tk ≤ tk4 by omega), _, rfl, rfl⟩

def i_EncodeHyps_L1 (n : Nat) (l1 : List F) : Nat → Int → List T → Option (List T × Int)
  | 0, _, _ => none
  | m + 1, i18, l19 =>
    if i18 < ((l1).length : Int) then
      (idx l1 i18).bind fun y21 =>
      (i_judgement n y21).bind fun r26 =>
      chk ((l19).length + ([r26]).length ≤ 1099511627776) <|
      i_EncodeHyps_L1 n l1 m (IntKind.i64.wrap (i18 + 1)) (l19 ++ [r26])
    else
      (g_ContainsFunc_Tree__fn_i_tooBig n l19).bind fun r34 =>
      if r34 = true then
        some ([], 11)
      else
        some (l19, 0)

def i_EncodeHyps (n : Nat) (l1 : List F) : Option (List T × Int) :=
  (i_longLists n ([((l1).length : Int)])).bind fun r2 =>
  if r2 = true then
    some ([], 2)
  else
    (i_hypsOK n l1).bind fun r10 =>
    if (!r10) = true then
      some ([], 1)
    else
      i_EncodeHyps_L1 n l1 n 0 ([])

set_option maxRecDepth 100000 in
theorem i_EncodeHyps_ok (n : Nat) : ∀ (q1 : Nat) (f1 : Bool) (ks1 : List LF) {r : (List T × Int)}, i_EncodeHyps n (fers ks1) = some r → ∀ (O : Heap) (tk : Nat), ACalls Go.Proofs.Try.prog 37 [.imm q1 3 f1 (fcellss ks1)] O tk (RetX O tk (fun v tk' => ∃ r0' r1' v0' v1', r = (r0', r1') ∧ v = .tup [v0', v1'] ∧ VTs true tk tk' r0' v0' ∧ v1' = .int .i64 r1')) := by
  intro q1 f1 ks1 r hM O tk
  unfold i_EncodeHyps at hM
  refine acalls_of_run Go.Proofs.Try.func37 rfl rfl [] [] (Bor.nil _) [(0, .imm q1 3 f1 (fcellss ks1))] (.cons (entS rfl) (.nil _)) (leb rfl) (fun _ h => by cases h) (fun S0 hO htk hfz => ?_)
  refine run_seq ?_
  refine run_region ?_
  refine run_pu rfl (move_step (.inr rfl) rfl) rfl (ltb rfl) ?_
  refine run_pu rfl (move_step (.inr rfl) rfl) rfl (ltb rfl) ?_
  refine run_ops_nil ?_
  refine run_seq ?_
  refine run_block ?_
  refine run_seq ?_
  refine run_region ?_
  refine run_pu rfl (move_step (.inl rfl) rfl) rfl (ltb rfl) ?_
  refine run_pu rfl (lenImm_step hG rfl rfl rfl rfl (flen _)) rfl (ltb rfl) ?_
  refine run_op rfl (buildSlice_step (d := 10) hG rfl rfl rfl rfl rfl (by rfl) (by rfl) (by rfl) (by decide)) rfl (ltb rfl) ?_
  refine run_sub_ops (Sub.freeze (k := 10) rfl rfl) ?_
  obtain ⟨r2, hg3, hM⟩ := bind_t hM
  refine run_call rfl rfl rfl (ltb rfl) rfl rfl rfl (fun _ h => absurd h List.not_mem_nil) (i_longLists_ok n tk false [(((fers ks1)).length : Int)] hg3 _ _) (callK_retX (fun v tk4 (hle5 : (tk + 1) ≤ tk4) h6 => ?_))
  subst h6
  refine run_pu rfl (move_step (.inr rfl) rfl) rfl (ltb rfl) ?_
  refine run_ops_nil ?_
  refine run_ifb rfl rfl (fun hb9 => ?_) (fun hb9 => ?_)
  · replace hM := ite_t hb9 hM
    refine run_seq ?_
    refine run_region ?_
    refine run_pu rfl (move_step (.inr rfl) rfl) rfl (ltb rfl) ?_
    refine run_pu rfl (move_step (.inr rfl) rfl) rfl (ltb rfl) ?_
    refine run_ops_nil ?_
    refine run_ret_to ?_
    obtain rfl := some_t hM
    refine fin_x hG rfl rfl rfl (v' := .tup [.imm 0 4 true (cellss []), .int .i64 2]) (by rfl) ⟨rfl, (show tk ≤ tk4 by omega), _, rfl, ⟨_, _, _, _, rfl, rfl, ⟨0, true, [], rfl, rfl, fun _ => Fr.nil _ _⟩, rfl⟩⟩
  · replace hM := ite_f hb9 hM
    refine run_seq ?_
    refine run_region ?_
    refine run_pu rfl (move_step (.inl rfl) rfl) rfl (ltb rfl) ?_
    obtain ⟨r10, hg11, hM⟩ := bind_t hM
    refine run_call rfl rfl rfl (ltb rfl) rfl rfl rfl (fun _ h => absurd h List.not_mem_nil) (i_hypsOK_ok n q1 f1 ks1 hg11 _ _) (callK_retX (fun v tk12 (hle13 : tk4 ≤ tk12) h14 => ?_))
    subst h14
    refine run_pu rfl (aun_step rfl rfl rfl) rfl (ltb rfl) ?_
    refine run_pu rfl (move_step (.inr rfl) rfl) rfl (ltb rfl) ?_
    refine run_ops_nil ?_
    refine run_ifb rfl rfl (fun hb17 => ?_) (fun hb17 => ?_)
    · replace hM := ite_t hb17 hM
      refine run_seq ?_
      refine run_region ?_
      refine run_pu rfl (move_step (.inr rfl) rfl) rfl (ltb rfl) ?_
      refine run_pu rfl (move_step (.inr rfl) rfl) rfl (ltb rfl) ?_
      refine run_ops_nil ?_
      refine run_ret_to ?_
      obtain rfl := some_t hM
      refine fin_x hG rfl rfl rfl (v' := .tup [.imm 0 4 true (cellss []), .int .i64 1]) (by rfl) ⟨rfl, (show tk ≤ tk12 by omega), _, rfl, ⟨_, _, _, _, rfl, rfl, ⟨0, true, [], rfl, rfl, fun _ => Fr.nil _ _⟩, rfl⟩⟩
    · replace hM := ite_f hb17 hM
      refine run_skip ?_
      refine run_blk ?_
      refine run_seq ?_
      refine run_region ?_
      refine run_op rfl (buildSlice_step (d := 16) hG rfl rfl rfl rfl rfl (by rfl) (by rfl) (by rfl) (by decide)) rfl (ltb rfl) ?_
      refine run_pu rfl (move_step (.inr rfl) rfl) rfl (ltb rfl) ?_
      refine run_ops_nil ?_
      refine run_seq ?_
      refine run_seq ?_
      refine run_region ?_
      refine run_pu rfl (move_step (.inl rfl) rfl) rfl (ltb rfl) ?_
      refine run_pu rfl (lenImm_step hG rfl rfl rfl rfl (flen _)) rfl (ltb rfl) ?_
      refine run_pu rfl (move_step (.inl rfl) rfl) rfl (ltb rfl) ?_
      refine run_ops_nil ?_
      refine run_block ?_
      refine run_sub_code (σ' := ⟨[(2, .imm 0 0 true []), (3, .int .i64 0), (4, .osl (.loc 16)), (17, .imm q1 3 f1 (fcellss ks1)), (18, .int .i64 (((fers ks1)).length : Int)), (19, .int .i64 0)], [(16, ⟨28, 4, false, cellss []⟩)], [], O, tk12⟩) (Sub.env [(2, .imm 0 0 true []), (3, .int .i64 0), (4, .osl (.loc 16)), (17, .imm q1 3 f1 (fcellss ks1)), (18, .int .i64 (((fers ks1)).length : Int)), (19, .int .i64 0)] ⟨rfl, rfl, rfl, rfl, rfl, rfl, trivial⟩) ?_
      refine run_rounds (fun m σ => ∃ (i18 : Int) (ks19 : List LT) (tki_EncodeHyps_L1 : Nat), tk12 ≤ tki_EncodeHyps_L1 ∧ Fr tk12 tki_EncodeHyps_L1 (ttoks ks19) ∧ i_EncodeHyps_L1 n (fers ks1) m i18 (ers ks19) = some r ∧ σ = ⟨[(2, .imm 0 0 true []), (3, .int .i64 0), (4, .osl (.loc 16)), (17, .imm q1 3 f1 (fcellss ks1)), (18, .int .i64 (((fers ks1)).length : Int)), (19, .int .i64 i18)], [(16, ⟨28, 4, false, cellss ks19⟩)], [], O, tki_EncodeHyps_L1⟩) n (Sub.env [(2, .imm 0 0 true []), (3, .int .i64 0), (4, .osl (.loc 16)), (17, .imm q1 3 f1 (fcellss ks1)), (18, .int .i64 (((fers ks1)).length : Int)), (19, .int .i64 0)] ⟨rfl, rfl, rfl, rfl, rfl, rfl, trivial⟩) ⟨0, [], tk12, Nat.le_refl _, Fr.nil _ _, hM, rfl⟩ (fun m σ hI => ?_)
      clear hM
      obtain ⟨i18, ks19, tki_EncodeHyps_L1, hle42, hfr19, hM, rfl⟩ := hI
      obtain _ | m := m
      · exact absurd hM (by rw [i_EncodeHyps_L1]; exact fun h => by cases h)
      rw [i_EncodeHyps_L1] at hM
      refine run_seq ?_
      refine run_region ?_
      refine run_pu rfl (abin_step rfl rfl rfl rfl (fun _ h => by cases h)) rfl (ltb rfl) ?_
      refine run_ops_nil ?_
      refine run_seq ?_
      refine run_ifd rfl rfl (fun hb20 => ?_) (fun hb20 => ?_)
      · replace hM := ite_t hb20 hM
        refine run_skip ?_
        refine run_seq ?_
        refine run_block ?_
        refine run_seq ?_
        refine run_region ?_
        obtain ⟨y21, hy22, hM⟩ := bind_t hM
        obtain ⟨k23, n23, q23, f23, ks23, rfl, hc24, hi25⟩ := fidx hy22
        refine run_pu rfl (indexImm_step hG rfl rfl rfl hi25 rfl rfl rfl rfl hc24) rfl (ltb rfl) ?_
        refine run_rd rfl (aload_rd hG rfl rfl rfl (by simp [ldok])) rfl (ltb rfl) ?_
        refine run_op rfl (alloc_step (d := 6) hG rfl rfl rfl) rfl (ltb rfl) ?_
        refine run_op0 rfl (store_step hG rfl rfl rfl rfl rfl rfl rfl rfl) rfl ?_
        refine run_ops_nil ?_
        refine run_region ?_
        refine run_pu rfl (move_step (.inl rfl) rfl) rfl (ltb rfl) ?_
        refine run_rd rfl (aload_rd hG rfl rfl rfl (by simp [ldok])) rfl (ltb rfl) ?_
        obtain ⟨r26, hg27, hM⟩ := bind_t hM
        refine run_call rfl rfl rfl (ltb rfl) rfl rfl rfl (fun _ h => absurd h List.not_mem_nil) (i_judgement_ok n k23 n23 q23 f23 ks23 hg27 _ _) (callK_retX (fun v tk28 (hle29 : tki_EncodeHyps_L1 ≤ tk28) h30 => ?_))
        obtain ⟨k31, n31, s31, q31, f31, ks31, rfl, rfl, hf32⟩ := h30
        refine run_op rfl (buildSlice_step (d := 26) hG rfl rfl rfl rfl rfl (by rfl) (by rfl) (by rfl) (by decide)) rfl (ltb rfl) ?_
        obtain ⟨hc33, hM⟩ := chk_t hM
        try rw [show ((ers ks19) ++ [(T.mk k31 n31 s31 (ers ks31))] : List T) = (ers (ks19 ++ [LT.mk k31 n31 s31 q31 f31 ks31])) from ers_app ks19 [LT.mk k31 n31 s31 q31 f31 ks31]] at hM
        refine run_op rfl (appendM_step hG rfl rfl rfl rfl rfl rfl rfl rfl rfl rfl rfl (cellss_sz ([LT.mk k31 n31 s31 q31 f31 ks31])) (tlen _) (tlen ([LT.mk k31 n31 s31 q31 f31 ks31])) hc33 (by decide) (cellss_app _ _)) rfl (ltb rfl) ?_
        refine run_pu rfl (move_step (.inr rfl) rfl) rfl (ltb rfl) ?_
        refine run_ops_nil ?_
        refine run_blk ?_
        refine run_region ?_
        refine run_pu rfl (abin_step rfl rfl rfl rfl (fun _ h => by cases h)) rfl (ltb rfl) ?_
        refine run_pu rfl (move_step (.inl rfl) rfl) rfl (ltb rfl) ?_
        refine run_ops_nil ?_
        exact run_loop_end ⟨m, _, Nat.lt_succ_self _, ⟨(IntKind.i64.wrap (i18 + 1)), (ks19 ++ [LT.mk k31 n31 s31 q31 f31 ks31]), tk28, (show tk12 ≤ tk28 by omega), (show Fr tk12 tk28 _ from (Fr.tsnoc (show Fr tk12 tki_EncodeHyps_L1 _ from (hfr19).mono (by omega) (by omega)) ((show Fr tki_EncodeHyps_L1 tk28 _ from hf32 rfl)) (by omega) (by omega)).mono (by omega) (by omega)), hM, rfl⟩, Sub.trans (Sub.drop (k := 26) rfl) (Sub.trans (Sub.drop (k := 6) rfl) (Sub.env [(2, .imm 0 0 true []), (3, .int .i64 0), (4, .osl (.loc 16)), (17, .imm q1 3 f1 (fcellss ks1)), (18, .int .i64 (((fers ks1)).length : Int)), (19, .int .i64 (IntKind.i64.wrap (i18 + 1)))] ⟨rfl, rfl, rfl, rfl, rfl, rfl, trivial⟩))⟩
      · replace hM := ite_f hb20 hM
        refine run_exit_to rfl ?_
        refine run_seq ?_
        refine run_seq ?_
        refine run_region ?_
        refine run_pu rfl (move_step (.inl rfl) rfl) rfl (ltb rfl) ?_
        refine run_sub_ops (Sub.freeze (k := 16) rfl rfl) ?_
        obtain ⟨r34, hg35, hM⟩ := bind_t hM
        refine run_call rfl rfl rfl (ltb rfl) rfl rfl rfl (fun _ h => absurd h List.not_mem_nil) (g_ContainsFunc_Tree__fn_i_tooBig_ok n tki_EncodeHyps_L1 false ks19 hg35 _ _) (callK_retX (fun v tk36 (hle37 : (tki_EncodeHyps_L1 + 1) ≤ tk36) h38 => ?_))
        subst h38
        refine run_ops_nil ?_
        refine run_ifb rfl rfl (fun hb41 => ?_) (fun hb41 => ?_)
        · replace hM := ite_t hb41 hM
          refine run_seq ?_
          refine run_region ?_
          refine run_pu rfl (move_step (.inr rfl) rfl) rfl (ltb rfl) ?_
          refine run_pu rfl (move_step (.inr rfl) rfl) rfl (ltb rfl) ?_
          refine run_ops_nil ?_
          refine run_ret_to ?_
          obtain rfl := some_t hM
          refine fin_x hG rfl rfl rfl (v' := .tup [.imm 0 4 true (cellss []), .int .i64 11]) (by rfl) ⟨rfl, (show tk ≤ tk36 by omega), _, rfl, ⟨_, _, _, _, rfl, rfl, ⟨0, true, [], rfl, rfl, fun _ => Fr.nil _ _⟩, rfl⟩⟩
        · replace hM := ite_f hb41 hM
          refine run_skip ?_
          refine run_seq ?_
          refine run_region ?_
          refine run_pu rfl (move_step (.inl rfl) rfl) rfl (ltb rfl) ?_
          refine run_pu rfl (move_step (.inr rfl) rfl) rfl (ltb rfl) ?_
          refine run_pu rfl (move_step (.inr rfl) rfl) rfl (ltb rfl) ?_
          refine run_ops_nil ?_
          refine run_ret_to ?_
          obtain rfl := some_t hM
          refine fin_x hG rfl rfl rfl (v' := .tup [.imm tki_EncodeHyps_L1 4 false (cellss ks19), .int .i64 0]) (by rfl) ⟨rfl, (show tk ≤ tk36 by omega), _, rfl, ⟨_, _, _, _, rfl, rfl, ⟨tki_EncodeHyps_L1, false, ks19, rfl, rfl, fun _ => (show Fr tk tk36 _ from (show Fr tk12 (tki_EncodeHyps_L1 + 1) _ from Fr.tstop (show Fr tk12 tki_EncodeHyps_L1 _ from (hfr19).mono (by omega) (by omega)) (by omega) (by omega)).mono (by omega) (by omega))⟩, rfl⟩⟩

def s_EncodeHyps_L1 (n : Nat) (l1 : List F) : Nat → Int → List T → Option (List T × Int)
  | 0, _, _ => none
  | m + 1, i11, l12 =>
    if i11 < ((l1).length : Int) then
      (idx l1 i11).bind fun y14 =>
      (s_l08Tree n y14).bind fun r19 =>
      (s_l03Big n (T.mk 3 0 ⟨#[112, 102]⟩ [r19])).bind fun r26 =>
      if r26 = true then
        some ([], 11)
      else
        chk ((l12).length + ([(T.mk 3 0 ⟨#[112, 102]⟩ [r19])]).length ≤ 1099511627776) <|
        s_EncodeHyps_L1 n l1 m (IntKind.i64.wrap (i11 + 1)) (l12 ++ [(T.mk 3 0 ⟨#[112, 102]⟩ [r19])])
    else
      some (l12, 0)

def s_EncodeHyps (n : Nat) (l1 : List F) : Option (List T × Int) :=
  if ((l1).length : Int) > 4096 then
    some ([], 2)
  else
    (s_l08Hyps n l1).bind fun r3 =>
    if (!r3) = true then
      some ([], 1)
    else
      s_EncodeHyps_L1 n l1 n 0 ([])

set_option maxRecDepth 100000 in
theorem s_EncodeHyps_ok (n : Nat) : ∀ (q1 : Nat) (f1 : Bool) (ks1 : List LF) {r : (List T × Int)}, s_EncodeHyps n (fers ks1) = some r → ∀ (O : Heap) (tk : Nat), ACalls Go.Proofs.Try.prog 35 [.imm q1 3 f1 (fcellss ks1)] O tk (RetX O tk (fun v tk' => ∃ r0' r1' v0' v1', r = (r0', r1') ∧ v = .tup [v0', v1'] ∧ VTs true tk tk' r0' v0' ∧ v1' = .int .i64 r1')) := by
  intro q1 f1 ks1 r hM O tk
  unfold s_EncodeHyps at hM
  refine acalls_of_run Go.Proofs.Try.func35 rfl rfl [] [] (Bor.nil _) [(0, .imm q1 3 f1 (fcellss ks1))] (.cons (entS rfl) (.nil _)) (leb rfl) (fun _ h => by cases h) (fun S0 hO htk hfz => ?_)
  refine run_seq ?_
  refine run_region ?_
  refine run_pu rfl (move_step (.inr rfl) rfl) rfl (ltb rfl) ?_
  refine run_pu rfl (move_step (.inr rfl) rfl) rfl (ltb rfl) ?_
  refine run_ops_nil ?_
  refine run_seq ?_
  refine run_seq ?_
  refine run_region ?_
  refine run_pu rfl (move_step (.inl rfl) rfl) rfl (ltb rfl) ?_
  refine run_pu rfl (lenImm_step hG rfl rfl rfl rfl (flen _)) rfl (ltb rfl) ?_
  refine run_pu rfl (abin_step rfl rfl rfl rfl (fun _ h => by cases h)) rfl (ltb rfl) ?_
  refine run_ops_nil ?_
  refine run_ifd rfl rfl (fun hb2 => ?_) (fun hb2 => ?_)
  · replace hM := ite_t hb2 hM
    refine run_seq ?_
    refine run_region ?_
    refine run_op rfl (buildSlice_step (d := 10) hG rfl rfl rfl rfl rfl (by rfl) (by rfl) (by rfl) (by decide)) rfl (ltb rfl) ?_
    refine run_pu rfl (move_step (.inr rfl) rfl) rfl (ltb rfl) ?_
    refine run_pu rfl (move_step (.inr rfl) rfl) rfl (ltb rfl) ?_
    refine run_ops_nil ?_
    refine run_ret_to ?_
    refine fin_sub (Sub.freeze (k := 10) rfl rfl) ?_
    obtain rfl := some_t hM
    refine fin_x hG rfl rfl rfl (v' := .tup [.imm tk 4 false (cellss []), .int .i64 2]) (by rfl) ⟨rfl, (show tk ≤ (tk + 1) by omega), _, rfl, ⟨_, _, _, _, rfl, rfl, ⟨tk, false, [], rfl, rfl, fun _ => Fr.nil _ _⟩, rfl⟩⟩
  · replace hM := ite_f hb2 hM
    refine run_skip ?_
    refine run_seq ?_
    refine run_seq ?_
    refine run_region ?_
    refine run_pu rfl (move_step (.inl rfl) rfl) rfl (ltb rfl) ?_
    obtain ⟨r3, hg4, hM⟩ := bind_t hM
    refine run_call rfl rfl rfl (ltb rfl) rfl rfl rfl (fun _ h => absurd h List.not_mem_nil) (s_l08Hyps_ok n q1 f1 ks1 hg4 _ _) (callK_retX (fun v tk5 (hle6 : tk ≤ tk5) h7 => ?_))
    subst h7
    refine run_pu rfl (aun_step rfl rfl rfl) rfl (ltb rfl) ?_
    refine run_ops_nil ?_
    refine run_ifb rfl rfl (fun hb10 => ?_) (fun hb10 => ?_)
    · replace hM := ite_t hb10 hM
      refine run_seq ?_
      refine run_region ?_
      refine run_op rfl (buildSlice_step (d := 14) hG rfl rfl rfl rfl rfl (by rfl) (by rfl) (by rfl) (by decide)) rfl (ltb rfl) ?_
      refine run_pu rfl (move_step (.inr rfl) rfl) rfl (ltb rfl) ?_
      refine run_pu rfl (move_step (.inr rfl) rfl) rfl (ltb rfl) ?_
      refine run_ops_nil ?_
      refine run_ret_to ?_
      refine fin_sub (Sub.freeze (k := 14) rfl rfl) ?_
      obtain rfl := some_t hM
      refine fin_x hG rfl rfl rfl (v' := .tup [.imm tk5 4 false (cellss []), .int .i64 1]) (by rfl) ⟨rfl, (show tk ≤ (tk5 + 1) by omega), _, rfl, ⟨_, _, _, _, rfl, rfl, ⟨tk5, false, [], rfl, rfl, fun _ => Fr.nil _ _⟩, rfl⟩⟩
    · replace hM := ite_f hb10 hM
      refine run_skip ?_
      refine run_seq ?_
      refine run_region ?_
      refine run_op rfl (buildSlice_step (d := 15) hG rfl rfl rfl rfl rfl (by rfl) (by rfl) (by rfl) (by decide)) rfl (ltb rfl) ?_
      refine run_pu rfl (move_step (.inr rfl) rfl) rfl (ltb rfl) ?_
      refine run_ops_nil ?_
      refine run_seq ?_
      refine run_seq ?_
      refine run_region ?_
      refine run_pu rfl (move_step (.inr rfl) rfl) rfl (ltb rfl) ?_
      refine run_ops_nil ?_
      refine run_block ?_
      refine run_rounds (fun m σ => ∃ (i11 : Int) (ks12 : List LT) (tks_EncodeHyps_L1 : Nat), tk5 ≤ tks_EncodeHyps_L1 ∧ Fr tk5 tks_EncodeHyps_L1 (ttoks ks12) ∧ s_EncodeHyps_L1 n (fers ks1) m i11 (ers ks12) = some r ∧ σ = ⟨[(0, .imm q1 3 f1 (fcellss ks1)), (2, .imm 0 0 true []), (3, .int .i64 0), (4, .osl (.loc 15)), (5, .int .i64 i11)], [(15, ⟨28, 4, false, cellss ks12⟩)], [], O, tks_EncodeHyps_L1⟩) n (Sub.env [(0, .imm q1 3 f1 (fcellss ks1)), (2, .imm 0 0 true []), (3, .int .i64 0), (4, .osl (.loc 15)), (5, .int .i64 0)] ⟨rfl, rfl, rfl, rfl, rfl, trivial⟩) ⟨0, [], tk5, Nat.le_refl _, Fr.nil _ _, hM, rfl⟩ (fun m σ hI => ?_)
      clear hM
      obtain ⟨i11, ks12, tks_EncodeHyps_L1, hle35, hfr12, hM, rfl⟩ := hI
      obtain _ | m := m
      · exact absurd hM (by rw [s_EncodeHyps_L1]; exact fun h => by cases h)
      rw [s_EncodeHyps_L1] at hM
      refine run_seq ?_
      refine run_seq ?_
      refine run_region ?_
      refine run_pu rfl (move_step (.inl rfl) rfl) rfl (ltb rfl) ?_
      refine run_pu rfl (move_step (.inl rfl) rfl) rfl (ltb rfl) ?_
      refine run_pu rfl (lenImm_step hG rfl rfl rfl rfl (flen _)) rfl (ltb rfl) ?_
      refine run_pu rfl (abin_step rfl rfl rfl rfl (fun _ h => by cases h)) rfl (ltb rfl) ?_
      refine run_ops_nil ?_
      refine run_ifd rfl rfl (fun hb13 => ?_) (fun hb13 => ?_)
      · replace hM := ite_t hb13 hM
        refine run_skip ?_
        refine run_seq ?_
        refine run_block ?_
        refine run_seq ?_
        refine run_region ?_
        refine run_pu rfl (move_step (.inl rfl) rfl) rfl (ltb rfl) ?_
        refine run_pu rfl (move_step (.inl rfl) rfl) rfl (ltb rfl) ?_
        obtain ⟨y14, hy15, hM⟩ := bind_t hM
        obtain ⟨k16, n16, q16, f16, ks16, rfl, hc17, hi18⟩ := fidx hy15
        refine run_pu rfl (indexImm_step hG rfl rfl rfl hi18 rfl rfl rfl rfl hc17) rfl (ltb rfl) ?_
        refine run_rd rfl (aload_rd hG rfl rfl rfl (by simp [ldok])) rfl (ltb rfl) ?_
        obtain ⟨r19, hg20, hM⟩ := bind_t hM
        refine run_call rfl rfl rfl (ltb rfl) rfl rfl rfl (fun _ h => absurd h List.not_mem_nil) (s_l08Tree_ok n k16 n16 q16 f16 ks16 hg20 _ _) (callK_retX (fun v tk21 (hle22 : tks_EncodeHyps_L1 ≤ tk21) h23 => ?_))
        obtain ⟨k24, n24, s24, q24, f24, ks24, rfl, rfl, hf25⟩ := h23
        refine run_call rfl rfl rfl (ltb rfl) rfl rfl rfl (fun _ h => absurd h List.not_mem_nil) (s_l08Pf_ex k24 n24 s24 q24 f24 ks24 _ _) (callK_retN ?_)
        skip
        refine run_op rfl (alloc_step (d := 6) hG rfl rfl rfl) rfl (ltb rfl) ?_
        refine run_op0 rfl (store_step hG rfl rfl rfl rfl rfl rfl rfl rfl) rfl ?_
        refine run_ops_nil ?_
        refine run_seq ?_
        refine run_seq ?_
        refine run_region ?_
        refine run_rd rfl (aload_rd hG rfl rfl rfl (by simp [ldok])) rfl (ltb rfl) ?_
        obtain ⟨r26, hg27, hM⟩ := bind_t hM
        refine run_call rfl rfl rfl (ltb rfl) rfl rfl rfl (fun _ h => absurd h List.not_mem_nil) (s_l03Big_ok n 3 0 ⟨#[112, 102]⟩ tk21 false [LT.mk k24 n24 s24 q24 f24 ks24] hg27 _ _) (callK_retX (fun v tk28 (hle29 : (tk21 + 1) ≤ tk28) h30 => ?_))
        subst h30
        refine run_ops_nil ?_
        refine run_sub_code (σ' := ⟨[(0, .imm q1 3 f1 (fcellss ks1)), (2, .imm 0 0 true []), (3, .int .i64 0), (4, .osl (.loc 15)), (5, .int .i64 i11), (6, .optr (.loc 6) 0 0), (29, .bool r26)], [(6, ⟨28, 4, true, [[.int .i64 3, .int .i64 0, .str ⟨#[112, 102]⟩, .imm tk21 4 false (cellss [LT.mk k24 n24 s24 q24 f24 ks24])]]⟩), (15, ⟨28, 4, false, cellss ks12⟩)], [], O, tk28⟩) (Sub.env [(0, .imm q1 3 f1 (fcellss ks1)), (2, .imm 0 0 true []), (3, .int .i64 0), (4, .osl (.loc 15)), (5, .int .i64 i11), (6, .optr (.loc 6) 0 0), (29, .bool r26)] ⟨rfl, rfl, rfl, rfl, rfl, rfl, rfl, trivial⟩) ?_
        refine run_ifb rfl rfl (fun hb33 => ?_) (fun hb33 => ?_)
        · replace hM := ite_t hb33 hM
          refine run_seq ?_
          refine run_region ?_
          refine run_op rfl (buildSlice_step (d := 30) hG rfl rfl rfl rfl rfl (by rfl) (by rfl) (by rfl) (by decide)) rfl (ltb rfl) ?_
          refine run_pu rfl (move_step (.inr rfl) rfl) rfl (ltb rfl) ?_
          refine run_pu rfl (move_step (.inr rfl) rfl) rfl (ltb rfl) ?_
          refine run_ops_nil ?_
          refine run_ret_to ?_
          refine fin_sub (Sub.freeze (k := 30) rfl rfl) ?_
          obtain rfl := some_t hM
          refine fin_x hG rfl rfl rfl (v' := .tup [.imm tk28 4 false (cellss []), .int .i64 11]) (by rfl) ⟨rfl, (show tk ≤ (tk28 + 1) by omega), _, rfl, ⟨_, _, _, _, rfl, rfl, ⟨tk28, false, [], rfl, rfl, fun _ => Fr.nil _ _⟩, rfl⟩⟩
        · replace hM := ite_f hb33 hM
          refine run_skip ?_
          refine run_region ?_
          refine run_pu rfl (move_step (.inl rfl) rfl) rfl (ltb rfl) ?_
          refine run_rd rfl (aload_rd hG rfl rfl rfl (by simp [ldok])) rfl (ltb rfl) ?_
          refine run_op rfl (buildSlice_step (d := 33) hG rfl rfl rfl rfl rfl (by rfl) (by rfl) (by rfl) (by decide)) rfl (ltb rfl) ?_
          obtain ⟨hc34, hM⟩ := chk_t hM
          try rw [show ((ers ks12) ++ [(T.mk 3 0 ⟨#[112, 102]⟩ [(T.mk k24 n24 s24 (ers ks24))])] : List T) = (ers (ks12 ++ [LT.mk 3 0 ⟨#[112, 102]⟩ tk21 false [LT.mk k24 n24 s24 q24 f24 ks24]])) from ers_app ks12 [LT.mk 3 0 ⟨#[112, 102]⟩ tk21 false [LT.mk k24 n24 s24 q24 f24 ks24]]] at hM
          refine run_op rfl (appendM_step hG rfl rfl rfl rfl rfl rfl rfl rfl rfl rfl rfl (cellss_sz ([LT.mk 3 0 ⟨#[112, 102]⟩ tk21 false [LT.mk k24 n24 s24 q24 f24 ks24]])) (tlen _) (tlen ([LT.mk 3 0 ⟨#[112, 102]⟩ tk21 false [LT.mk k24 n24 s24 q24 f24 ks24]])) hc34 (by decide) (cellss_app _ _)) rfl (ltb rfl) ?_
          refine run_pu rfl (move_step (.inr rfl) rfl) rfl (ltb rfl) ?_
          refine run_ops_nil ?_
          refine run_blk ?_
          refine run_region ?_
          refine run_pu rfl (move_step (.inl rfl) rfl) rfl (ltb rfl) ?_
          refine run_pu rfl (abin_step rfl rfl rfl rfl (fun _ h => by cases h)) rfl (ltb rfl) ?_
          refine run_pu rfl (move_step (.inr rfl) rfl) rfl (ltb rfl) ?_
          refine run_ops_nil ?_
          exact run_loop_end ⟨m, _, Nat.lt_succ_self _, ⟨(IntKind.i64.wrap (i11 + 1)), (ks12 ++ [LT.mk 3 0 ⟨#[112, 102]⟩ tk21 false [LT.mk k24 n24 s24 q24 f24 ks24]]), tk28, (show tk5 ≤ tk28 by omega), (show Fr tk5 tk28 _ from (Fr.tsnoc (show Fr tk5 tks_EncodeHyps_L1 _ from (hfr12).mono (by omega) (by omega)) (show Fr tks_EncodeHyps_L1 (tk21 + 1) _ from Fr.tstop (show Fr tks_EncodeHyps_L1 tk21 _ from (Fr.tcons ((show Fr tks_EncodeHyps_L1 tk21 _ from hf25 rfl)) (show Fr tk21 tk21 _ from Fr.nil _ _) (by omega) (by omega)).mono (by omega) (by omega)) (by omega) (by omega)) (by omega) (by omega)).mono (by omega) (by omega)), hM, rfl⟩, Sub.trans (Sub.drop (k := 33) rfl) (Sub.trans (Sub.drop (k := 6) rfl) (Sub.env [(0, .imm q1 3 f1 (fcellss ks1)), (2, .imm 0 0 true []), (3, .int .i64 0), (4, .osl (.loc 15)), (5, .int .i64 (IntKind.i64.wrap (i11 + 1)))] ⟨rfl, rfl, rfl, rfl, rfl, trivial⟩))⟩
      · replace hM := ite_f hb13 hM
        refine run_exit_to rfl ?_
        refine run_seq ?_
        refine run_region ?_
        refine run_pu rfl (move_step (.inl rfl) rfl) rfl (ltb rfl) ?_
        refine run_pu rfl (move_step (.inr rfl) rfl) rfl (ltb rfl) ?_
        refine run_pu rfl (move_step (.inr rfl) rfl) rfl (ltb rfl) ?_
        refine run_ops_nil ?_
        refine run_ret_to ?_
        refine fin_sub (Sub.freeze (k := 15) rfl rfl) ?_
        obtain rfl := some_t hM
        refine fin_x hG rfl rfl rfl (v' := .tup [.imm tks_EncodeHyps_L1 4 false (cellss ks12), .int .i64 0]) (by rfl) ⟨rfl, (show tk ≤ (tks_EncodeHyps_L1 + 1) by omega), _, rfl, ⟨_, _, _, _, rfl, rfl, ⟨tks_EncodeHyps_L1, false, ks12, rfl, rfl, fun _ => (show Fr tk (tks_EncodeHyps_L1 + 1) _ from (show Fr tk5 (tks_EncodeHyps_L1 + 1) _ from Fr.tstop (show Fr tk5 tks_EncodeHyps_L1 _ from (hfr12).mono (by omega) (by omega)) (by omega) (by omega)).mono (by omega) (by omega))⟩, rfl⟩⟩

end Go.Am.Ytgbmcnmepfpjiaa
