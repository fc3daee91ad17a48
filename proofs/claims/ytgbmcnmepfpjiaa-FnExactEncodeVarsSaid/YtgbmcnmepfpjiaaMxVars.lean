/- Printed by a program of ours: Lean functions that do what the Go functions do, and the contracts. -/
import Derived.Test.YtgbmcnmepfpjiaaMi1
import Derived.Test.YtgbmcnmepfpjiaaTypes
import Derived.Test.YtgbmcnmepfpjiaaMkType
import Derived.Test.YtgbmcnmepfpjiaaMxB
namespace Go.Am.Ytgbmcnmepfpjiaa
open Go Go.Am

def g_Max_X_L1 (l1 : List Int) : Nat → Int → Int → Option Int
  | 0, _, _ => none
  | m + 1, i8, i9 =>
    if i9 < ((l1).length : Int) then
      (idx l1 i9).bind fun y11 =>
      g_Max_X_L1 l1 m (imax i8 y11) (IntKind.i64.wrap (i9 + 1))
    else
      some i8

def g_Max_X (n : Nat) (l1 : List Int) : Option Int :=
  if ((l1).length : Int) < 1 then
    none
  else
    (idx l1 0).bind fun y3 =>
    g_Max_X_L1 l1 n y3 1

set_option maxRecDepth 100000 in
theorem g_Max_X_ok (n : Nat) : ∀ (q1 : Nat) (f1 : Bool) (l1 : List Int) {r : Int}, g_Max_X n l1 = some r → ∀ (O : Heap) (tk : Nat), ACalls Go.Proofs.Try.prog 81 [.imm q1 1 f1 ((l1 : List Int).map fun n => [AV.int .i64 n])] O tk (RetX O tk (fun v tk' => v = .int .i64 r)) := by
  intro q1 f1 l1 r hM O tk
  unfold g_Max_X at hM
  refine acalls_of_run Go.Proofs.Try.func81 rfl rfl [] [] (Bor.nil _) [(0, .imm q1 1 f1 ((l1 : List Int).map fun n => [AV.int .i64 n]))] (.cons (entS rfl) (.nil _)) (leb rfl) (fun _ h => by cases h) (fun S0 hO htk hfz => ?_)
  refine run_seq ?_
  refine run_region ?_
  refine run_pu rfl (move_step (.inr rfl) rfl) rfl (ltb rfl) ?_
  refine run_ops_nil ?_
  refine run_seq ?_
  refine run_seq ?_
  refine run_region ?_
  refine run_pu rfl (move_step (.inl rfl) rfl) rfl (ltb rfl) ?_
  refine run_pu rfl (lenImm_step hG rfl rfl rfl rfl (ilen _)) rfl (ltb rfl) ?_
  refine run_pu rfl (abin_step rfl rfl rfl rfl (fun _ h => by cases h)) rfl (ltb rfl) ?_
  refine run_ops_nil ?_
  refine run_ifd rfl rfl (fun hb2 => ?_) (fun hb2 => ?_)
  · replace hM := ite_t hb2 hM
    refine run_region ?_
    cases hM
  · replace hM := ite_f hb2 hM
    refine run_skip ?_
    refine run_seq ?_
    refine run_region ?_
    refine run_pu rfl (move_step (.inl rfl) rfl) rfl (ltb rfl) ?_
    obtain ⟨y3, hy4, hM⟩ := bind_t hM
    obtain ⟨hc6, hi7⟩ := iidx (k := .i64) hy4
    refine run_pu rfl (indexImm_step hG rfl rfl rfl hi7 rfl rfl rfl rfl hc6) rfl (ltb rfl) ?_
    refine run_rd rfl (aload_rd hG rfl rfl rfl (by simp [ldok])) rfl (ltb rfl) ?_
    refine run_pu rfl (move_step (.inr rfl) rfl) rfl (ltb rfl) ?_
    refine run_ops_nil ?_
    refine run_seq ?_
    refine run_seq ?_
    refine run_region ?_
    refine run_pu rfl (move_step (.inr rfl) rfl) rfl (ltb rfl) ?_
    refine run_ops_nil ?_
    refine run_block ?_
    refine run_rounds (fun m σ => ∃ (i8 : Int) (i9 : Int) (tkg_Max_X_L1 : Nat), tk ≤ tkg_Max_X_L1 ∧ g_Max_X_L1 l1 m i8 i9 = some r ∧ σ = ⟨[(0, .imm q1 1 f1 ((l1 : List Int).map fun n => [AV.int .i64 n])), (2, .int .i64 0), (3, .int .i64 i8), (4, .int .i64 i9)], [], [], O, tkg_Max_X_L1⟩) n (Sub.env [(0, .imm q1 1 f1 ((l1 : List Int).map fun n => [AV.int .i64 n])), (2, .int .i64 0), (3, .int .i64 y3), (4, .int .i64 1)] ⟨rfl, rfl, rfl, rfl, trivial⟩) ⟨y3, 1, tk, Nat.le_refl _, hM, rfl⟩ (fun m σ hI => ?_)
    clear hM
    obtain ⟨i8, i9, tkg_Max_X_L1, hle16, hM, rfl⟩ := hI
    obtain _ | m := m
    · exact absurd hM (by rw [g_Max_X_L1]; exact fun h => by cases h)
    rw [g_Max_X_L1] at hM
    refine run_seq ?_
    refine run_seq ?_
    refine run_region ?_
    refine run_pu rfl (move_step (.inl rfl) rfl) rfl (ltb rfl) ?_
    refine run_pu rfl (move_step (.inl rfl) rfl) rfl (ltb rfl) ?_
    refine run_pu rfl (lenImm_step hG rfl rfl rfl rfl (ilen _)) rfl (ltb rfl) ?_
    refine run_pu rfl (abin_step rfl rfl rfl rfl (fun _ h => by cases h)) rfl (ltb rfl) ?_
    refine run_ops_nil ?_
    refine run_ifd rfl rfl (fun hb10 => ?_) (fun hb10 => ?_)
    · replace hM := ite_t hb10 hM
      refine run_skip ?_
      refine run_seq ?_
      refine run_block ?_
      refine run_region ?_
      refine run_pu rfl (move_step (.inl rfl) rfl) rfl (ltb rfl) ?_
      refine run_pu rfl (move_step (.inl rfl) rfl) rfl (ltb rfl) ?_
      refine run_pu rfl (move_step (.inl rfl) rfl) rfl (ltb rfl) ?_
      obtain ⟨y11, hy12, hM⟩ := bind_t hM
      obtain ⟨hc14, hi15⟩ := iidx (k := .i64) hy12
      refine run_pu rfl (indexImm_step hG rfl rfl rfl hi15 rfl rfl rfl rfl hc14) rfl (ltb rfl) ?_
      refine run_rd rfl (aload_rd hG rfl rfl rfl (by simp [ldok])) rfl (ltb rfl) ?_
      refine run_pu rfl (max_step rfl rfl rfl) rfl (ltb rfl) ?_
      refine run_pu rfl (move_step (.inr rfl) rfl) rfl (ltb rfl) ?_
      refine run_ops_nil ?_
      refine run_blk ?_
      refine run_region ?_
      refine run_pu rfl (move_step (.inl rfl) rfl) rfl (ltb rfl) ?_
      refine run_pu rfl (abin_step rfl rfl rfl rfl (fun _ h => by cases h)) rfl (ltb rfl) ?_
      refine run_pu rfl (move_step (.inr rfl) rfl) rfl (ltb rfl) ?_
      refine run_ops_nil ?_
      exact run_loop_end ⟨m, _, Nat.lt_succ_self _, ⟨(imax i8 y11), (IntKind.i64.wrap (i9 + 1)), tkg_Max_X_L1, (show tk ≤ tkg_Max_X_L1 by omega), hM, rfl⟩, Sub.env [(0, .imm q1 1 f1 ((l1 : List Int).map fun n => [AV.int .i64 n])), (2, .int .i64 0), (3, .int .i64 (imax i8 y11)), (4, .int .i64 (IntKind.i64.wrap (i9 + 1)))] ⟨rfl, rfl, rfl, rfl, trivial⟩⟩
    · replace hM := ite_f hb10 hM
      refine run_exit_to rfl ?_
      refine run_seq ?_
      refine run_region ?_
      refine run_pu rfl (move_step (.inl rfl) rfl) rfl (ltb rfl) ?_
      refine run_pu rfl (move_step (.inr rfl) rfl) rfl (ltb rfl) ?_
      refine run_ops_nil ?_
      refine run_ret_to ?_
      obtain rfl := some_t hM
      refine fin_x hG rfl rfl rfl (v' := .int .i64 i8) (by rfl) ⟨rfl, (show tk ≤ tkg_Max_X_L1 by omega), _, rfl, rfl⟩

def i_longLists (n : Nat) (l1 : List Int) : Option Bool :=
  (g_Max_X n l1).bind fun r2 =>
  some (decide (r2 > 4096))

set_option maxRecDepth 100000 in
theorem i_longLists_ok (n : Nat) : ∀ (q1 : Nat) (f1 : Bool) (l1 : List Int) {r : Bool}, i_longLists n l1 = some r → ∀ (O : Heap) (tk : Nat), ACalls Go.Proofs.Try.prog 59 [.imm q1 1 f1 ((l1 : List Int).map fun n => [AV.int .i64 n])] O tk (RetX O tk (fun v tk' => v = .bool r)) := by
  intro q1 f1 l1 r hM O tk
  unfold i_longLists at hM
  refine acalls_of_run Go.Proofs.Try.func59 rfl rfl [] [] (Bor.nil _) [(0, .imm q1 1 f1 ((l1 : List Int).map fun n => [AV.int .i64 n]))] (.cons (entS rfl) (.nil _)) (leb rfl) (fun _ h => by cases h) (fun S0 hO htk hfz => ?_)
  refine run_seq ?_
  refine run_region ?_
  refine run_pu rfl (move_step (.inr rfl) rfl) rfl (ltb rfl) ?_
  refine run_ops_nil ?_
  refine run_seq ?_
  refine run_region ?_
  refine run_pu rfl (move_step (.inl rfl) rfl) rfl (ltb rfl) ?_
  obtain ⟨r2, hg3, hM⟩ := bind_t hM
  refine run_call rfl rfl rfl (ltb rfl) rfl rfl rfl (fun _ h => absurd h List.not_mem_nil) (g_Max_X_ok n q1 f1 l1 hg3 _ _) (callK_retX (fun v tk4 (hle5 : tk ≤ tk4) h6 => ?_))
  subst h6
  refine run_pu rfl (abin_step rfl rfl rfl rfl (fun _ h => by cases h)) rfl (ltb rfl) ?_
  refine run_pu rfl (move_step (.inr rfl) rfl) rfl (ltb rfl) ?_
  refine run_ops_nil ?_
  refine run_ret_to ?_
  obtain rfl := some_t hM
  refine fin_x hG rfl rfl rfl (v' := .bool (decide (r2 > 4096))) (by rfl) ⟨rfl, (show tk ≤ tk4 by omega), _, rfl, rfl⟩

def i_typesOK_c1 (n : Nat) (x1 : F) : Option Bool :=
  (i_TypeOK n x1).bind fun r2 =>
  some (!r2)

set_option maxRecDepth 100000 in
theorem i_typesOK_c1_ok (n : Nat) : ∀ (k1 : Int) (n1 : Int) (q1 : Nat) (f1 : Bool) (ks1 : List LF) {r : Bool}, i_typesOK_c1 n (F.mk k1 n1 (fers ks1)) = some r → ∀ (O : Heap) (tk : Nat), ACalls Go.Proofs.Try.prog 83 [.agg [.int .i64 k1, .int .i64 n1, .imm q1 3 f1 (fcellss ks1)]] O tk (RetX O tk (fun v tk' => v = .bool r)) := by
  intro k1 n1 q1 f1 ks1 r hM O tk
  unfold i_typesOK_c1 at hM
  refine acalls_of_run Go.Proofs.Try.func83 rfl rfl [] [] (Bor.nil _) [(0, .agg [.int .i64 k1, .int .i64 n1, .imm q1 3 f1 (fcellss ks1)])] (.cons (.agg _) (.nil _)) (leb rfl) (fun _ h => by cases h) (fun S0 hO htk hfz => ?_)
  refine run_seq ?_
  refine run_region ?_
  refine run_op rfl (box_step (d := 1) rfl rfl rfl rfl rfl) rfl (ltb rfl) ?_
  refine run_pu rfl (move_step (.inr rfl) rfl) rfl (ltb rfl) ?_
  refine run_ops_nil ?_
  refine run_seq ?_
  refine run_region ?_
  refine run_rd rfl (aload_rd hG rfl rfl rfl (by simp [ldok])) rfl (ltb rfl) ?_
  obtain ⟨r2, hg3, hM⟩ := bind_t hM
  refine run_call rfl rfl rfl (ltb rfl) rfl rfl rfl (fun _ h => absurd h List.not_mem_nil) (i_TypeOK_ok n k1 n1 q1 f1 ks1 hg3 _ _) (callK_retX (fun v tk4 (hle5 : tk ≤ tk4) h6 => ?_))
  subst h6
  refine run_pu rfl (aun_step rfl rfl rfl) rfl (ltb rfl) ?_
  refine run_pu rfl (move_step (.inr rfl) rfl) rfl (ltb rfl) ?_
  refine run_ops_nil ?_
  refine run_ret_to ?_
  obtain rfl := some_t hM
  refine fin_x hG rfl rfl rfl (v' := .bool (!r2)) (by rfl) ⟨rfl, (show tk ≤ tk4 by omega), _, rfl, rfl⟩

def g_IndexFunc_Type__fn_i_typesOK_c1_L1 (n : Nat) (l1 : List F) : Nat → Int → Option Int
  | 0, _ => none
  | m + 1, i2 =>
    if i2 < ((l1).length : Int) then
      (idx l1 i2).bind fun y4 =>
      (i_typesOK_c1 n y4).bind fun r9 =>
      if r9 = true then
        some i2
      else
        g_IndexFunc_Type__fn_i_typesOK_c1_L1 n l1 m (IntKind.i64.wrap (i2 + 1))
    else
      some (-1)

def g_IndexFunc_Type__fn_i_typesOK_c1 (n : Nat) (l1 : List F) : Option Int :=
  g_IndexFunc_Type__fn_i_typesOK_c1_L1 n l1 n 0

set_option maxRecDepth 100000 in
theorem g_IndexFunc_Type__fn_i_typesOK_c1_ok (n : Nat) : ∀ (q1 : Nat) (f1 : Bool) (ks1 : List LF) {r : Int}, g_IndexFunc_Type__fn_i_typesOK_c1 n (fers ks1) = some r → ∀ (O : Heap) (tk : Nat), ACalls Go.Proofs.Try.prog 92 [.imm q1 3 f1 (fcellss ks1), .fn (.func 83) [] []] O tk (RetX O tk (fun v tk' => v = .int .i64 r)) := by
  intro q1 f1 ks1 r hM O tk
  unfold g_IndexFunc_Type__fn_i_typesOK_c1 at hM
  refine acalls_of_run Go.Proofs.Try.func92 rfl rfl [] [] (Bor.nil _) [(0, .imm q1 3 f1 (fcellss ks1)), (1, .fn (.func 83) [] [])] (.cons (entS rfl) (.cons (entS rfl) (.nil _))) (leb rfl) (fun _ h => by cases h) (fun S0 hO htk hfz => ?_)
  refine run_seq ?_
  refine run_region ?_
  refine run_pu rfl (move_step (.inr rfl) rfl) rfl (ltb rfl) ?_
  refine run_ops_nil ?_
  refine run_seq ?_
  refine run_seq ?_
  refine run_region ?_
  refine run_pu rfl (move_step (.inl rfl) rfl) rfl (ltb rfl) ?_
  refine run_pu rfl (lenImm_step hG rfl rfl rfl rfl (flen _)) rfl (ltb rfl) ?_
  refine run_pu rfl (move_step (.inl rfl) rfl) rfl (ltb rfl) ?_
  refine run_ops_nil ?_
  refine run_block ?_
  refine run_rounds (fun m σ => ∃ (i2 : Int) (tkg_IndexFunc_Type__fn_i_typesOK_c1_L1 : Nat), tk ≤ tkg_IndexFunc_Type__fn_i_typesOK_c1_L1 ∧ g_IndexFunc_Type__fn_i_typesOK_c1_L1 n (fers ks1) m i2 = some r ∧ σ = ⟨[(0, .imm q1 3 f1 (fcellss ks1)), (1, .fn (.func 83) [] []), (4, .int .i64 0), (7, .int .i64 (((fers ks1)).length : Int)), (8, .int .i64 i2)], [], [], O, tkg_IndexFunc_Type__fn_i_typesOK_c1_L1⟩) n (Sub.env [(0, .imm q1 3 f1 (fcellss ks1)), (1, .fn (.func 83) [] []), (4, .int .i64 0), (7, .int .i64 (((fers ks1)).length : Int)), (8, .int .i64 0)] ⟨rfl, rfl, rfl, rfl, rfl, trivial⟩) ⟨0, tk, Nat.le_refl _, hM, rfl⟩ (fun m σ hI => ?_)
  clear hM
  obtain ⟨i2, tkg_IndexFunc_Type__fn_i_typesOK_c1_L1, hle17, hM, rfl⟩ := hI
  obtain _ | m := m
  · exact absurd hM (by rw [g_IndexFunc_Type__fn_i_typesOK_c1_L1]; exact fun h => by cases h)
  rw [g_IndexFunc_Type__fn_i_typesOK_c1_L1] at hM
  refine run_seq ?_
  refine run_region ?_
  refine run_pu rfl (abin_step rfl rfl rfl rfl (fun _ h => by cases h)) rfl (ltb rfl) ?_
  refine run_ops_nil ?_
  refine run_seq ?_
  refine run_ifd rfl rfl (fun hb3 => ?_) (fun hb3 => ?_)
  · replace hM := ite_t hb3 hM
    refine run_skip ?_
    refine run_seq ?_
    refine run_block ?_
    refine run_seq ?_
    refine run_region ?_
    refine run_pu rfl (move_step (.inl rfl) rfl) rfl (ltb rfl) ?_
    refine run_pu rfl (move_step (.inr rfl) rfl) rfl (ltb rfl) ?_
    refine run_ops_nil ?_
    refine run_seq ?_
    refine run_region ?_
    refine run_pu rfl (move_step (.inl rfl) rfl) rfl (ltb rfl) ?_
    refine run_pu rfl (move_step (.inl rfl) rfl) rfl (ltb rfl) ?_
    refine run_pu rfl (move_step (.inl rfl) rfl) rfl (ltb rfl) ?_
    obtain ⟨y4, hy5, hM⟩ := bind_t hM
    obtain ⟨k6, n6, q6, f6, ks6, rfl, hc7, hi8⟩ := fidx hy5
    refine run_pu rfl (indexImm_step hG rfl rfl rfl hi8 rfl rfl rfl rfl hc7) rfl (ltb rfl) ?_
    refine run_rd rfl (aload_rd hG rfl rfl rfl (by simp [ldok])) rfl (ltb rfl) ?_
    obtain ⟨r9, hg10, hM⟩ := bind_t hM
    refine run_call rfl rfl rfl (ltb rfl) rfl rfl rfl (fun _ h => absurd h List.not_mem_nil) (i_typesOK_c1_ok n k6 n6 q6 f6 ks6 hg10 _ _) (callK_retX (fun v tk11 (hle12 : tkg_IndexFunc_Type__fn_i_typesOK_c1_L1 ≤ tk11) h13 => ?_))
    subst h13
    refine run_ops_nil ?_
    refine run_ifb rfl rfl (fun hb16 => ?_) (fun hb16 => ?_)
    · replace hM := ite_t hb16 hM
      refine run_seq ?_
      refine run_region ?_
      refine run_pu rfl (move_step (.inl rfl) rfl) rfl (ltb rfl) ?_
      refine run_pu rfl (move_step (.inr rfl) rfl) rfl (ltb rfl) ?_
      refine run_ops_nil ?_
      refine run_ret_to ?_
      obtain rfl := some_t hM
      refine fin_x hG rfl rfl rfl (v' := .int .i64 i2) (by rfl) ⟨rfl, (show tk ≤ tk11 by omega), _, rfl, rfl⟩
    · replace hM := ite_f hb16 hM
      refine run_skip ?_
      refine run_blk ?_
      refine run_region ?_
      refine run_pu rfl (abin_step rfl rfl rfl rfl (fun _ h => by cases h)) rfl (ltb rfl) ?_
      refine run_pu rfl (move_step (.inl rfl) rfl) rfl (ltb rfl) ?_
      refine run_ops_nil ?_
      exact run_loop_end ⟨m, _, Nat.lt_succ_self _, ⟨(IntKind.i64.wrap (i2 + 1)), tk11, (show tk ≤ tk11 by omega), hM, rfl⟩, Sub.env [(0, .imm q1 3 f1 (fcellss ks1)), (1, .fn (.func 83) [] []), (4, .int .i64 0), (7, .int .i64 (((fers ks1)).length : Int)), (8, .int .i64 (IntKind.i64.wrap (i2 + 1)))] ⟨rfl, rfl, rfl, rfl, rfl, trivial⟩⟩
  · replace hM := ite_f hb3 hM
    refine run_exit_to rfl ?_
    refine run_seq ?_
    refine run_region ?_
    refine run_pu rfl (move_step (.inr rfl) rfl) rfl (ltb rfl) ?_
    refine run_ops_nil ?_
    refine run_ret_to ?_
    obtain rfl := some_t hM
    refine fin_x hG rfl rfl rfl (v' := .int .i64 (-1)) (by rfl) ⟨rfl, (show tk ≤ tkg_IndexFunc_Type__fn_i_typesOK_c1_L1 by omega), _, rfl, rfl⟩

def g_ContainsFunc_Type__fn_i_typesOK_c1 (n : Nat) (l1 : List F) : Option Bool :=
  (g_IndexFunc_Type__fn_i_typesOK_c1 n l1).bind fun r2 =>
  some (decide (r2 ≥ 0))

set_option maxRecDepth 100000 in
theorem g_ContainsFunc_Type__fn_i_typesOK_c1_ok (n : Nat) : ∀ (q1 : Nat) (f1 : Bool) (ks1 : List LF) {r : Bool}, g_ContainsFunc_Type__fn_i_typesOK_c1 n (fers ks1) = some r → ∀ (O : Heap) (tk : Nat), ACalls Go.Proofs.Try.prog 82 [.imm q1 3 f1 (fcellss ks1), .fn (.func 83) [] []] O tk (RetX O tk (fun v tk' => v = .bool r)) := by
  intro q1 f1 ks1 r hM O tk
  unfold g_ContainsFunc_Type__fn_i_typesOK_c1 at hM
  refine acalls_of_run Go.Proofs.Try.func82 rfl rfl [] [] (Bor.nil _) [(0, .imm q1 3 f1 (fcellss ks1)), (1, .fn (.func 83) [] [])] (.cons (entS rfl) (.cons (entS rfl) (.nil _))) (leb rfl) (fun _ h => by cases h) (fun S0 hO htk hfz => ?_)
  refine run_seq ?_
  refine run_region ?_
  refine run_pu rfl (move_step (.inr rfl) rfl) rfl (ltb rfl) ?_
  refine run_ops_nil ?_
  refine run_seq ?_
  refine run_region ?_
  refine run_pu rfl (move_step (.inl rfl) rfl) rfl (ltb rfl) ?_
  refine run_pu rfl (move_step (.inl rfl) rfl) rfl (ltb rfl) ?_
  obtain ⟨r2, hg3, hM⟩ := bind_t hM
  refine run_call rfl rfl rfl (ltb rfl) rfl rfl rfl (fun _ h => absurd h List.not_mem_nil) (g_IndexFunc_Type__fn_i_typesOK_c1_ok n q1 f1 ks1 hg3 _ _) (callK_retX (fun v tk4 (hle5 : tk ≤ tk4) h6 => ?_))
  subst h6
  refine run_pu rfl (abin_step rfl rfl rfl rfl (fun _ h => by cases h)) rfl (ltb rfl) ?_
  refine run_pu rfl (move_step (.inr rfl) rfl) rfl (ltb rfl) ?_
  refine run_ops_nil ?_
  refine run_ret_to ?_
  obtain rfl := some_t hM
  refine fin_x hG rfl rfl rfl (v' := .bool (decide (r2 ≥ 0))) (by rfl) ⟨rfl, (show tk ≤ tk4 by omega), _, rfl, rfl⟩

def i_typesOK (n : Nat) (l1 : List F) : Option Bool :=
  if ((l1).length : Int) ≤ 12 then
    (g_ContainsFunc_Type__fn_i_typesOK_c1 n l1).bind fun r3 =>
    some (!r3)
  else
    some false

set_option maxRecDepth 100000 in
theorem i_typesOK_ok (n : Nat) : ∀ (q1 : Nat) (f1 : Bool) (ks1 : List LF) {r : Bool}, i_typesOK n (fers ks1) = some r → ∀ (O : Heap) (tk : Nat), ACalls Go.Proofs.Try.prog 60 [.imm q1 3 f1 (fcellss ks1)] O tk (RetX O tk (fun v tk' => v = .bool r)) := by
  intro q1 f1 ks1 r hM O tk
  unfold i_typesOK at hM
  refine acalls_of_run Go.Proofs.Try.func60 rfl rfl [] [] (Bor.nil _) [(0, .imm q1 3 f1 (fcellss ks1))] (.cons (entS rfl) (.nil _)) (leb rfl) (fun _ h => by cases h) (fun S0 hO htk hfz => ?_)
  refine run_seq ?_
  refine run_region ?_
  refine run_pu rfl (move_step (.inr rfl) rfl) rfl (ltb rfl) ?_
  refine run_ops_nil ?_
  refine run_seq ?_
  refine run_region ?_
  refine run_pu rfl (move_step (.inl rfl) rfl) rfl (ltb rfl) ?_
  refine run_pu rfl (lenImm_step hG rfl rfl rfl rfl (flen _)) rfl (ltb rfl) ?_
  refine run_pu rfl (abin_step rfl rfl rfl rfl (fun _ h => by cases h)) rfl (ltb rfl) ?_
  refine run_pu rfl (move_step (.inl rfl) rfl) rfl (ltb rfl) ?_
  refine run_splitd (i := 6) rfl (fun hb2 => ?_) (fun hb2 => ?_)
  · replace hM := ite_t hb2 hM
    refine run_puG (on_of rfl rfl rfl rfl) (move_step (.inl rfl) rfl) rfl (ltb rfl) ?_
    obtain ⟨r3, hg4, hM⟩ := bind_t hM
    refine run_callG (on_of rfl rfl rfl rfl) rfl rfl (ltb rfl) rfl rfl rfl (fun _ h => absurd h List.not_mem_nil) (g_ContainsFunc_Type__fn_i_typesOK_c1_ok n q1 f1 ks1 hg4 _ _) (callK_retX (fun v tk5 (hle6 : tk ≤ tk5) h7 => ?_))
    subst h7
    refine run_puG (on_of rfl rfl rfl rfl) (aun_step rfl rfl rfl) rfl (ltb rfl) ?_
    refine run_pu rfl (pick_step rfl rfl rfl) rfl (ltb rfl) ?_
    refine run_pu rfl (move_step (.inr rfl) rfl) rfl (ltb rfl) ?_
    refine run_ops_nil ?_
    refine run_ret_to ?_
    obtain rfl := some_t hM
    refine fin_x hG rfl rfl rfl (v' := .bool (!r3)) (by rfl) ⟨rfl, (show tk ≤ tk5 by omega), _, rfl, rfl⟩
  · replace hM := ite_f hb2 hM
    refine run_off (on_of rfl rfl rfl rfl) rfl (ltb rfl) ?_
    refine run_off (on_of rfl rfl rfl rfl) rfl (ltb rfl) ?_
    refine run_off (on_of rfl rfl rfl rfl) rfl (ltb rfl) ?_
    refine run_pu rfl (pick_step rfl rfl rfl) rfl (ltb rfl) ?_
    refine run_pu rfl (move_step (.inr rfl) rfl) rfl (ltb rfl) ?_
    refine run_ops_nil ?_
    refine run_ret_to ?_
    obtain rfl := some_t hM
    refine fin_x hG rfl rfl rfl (v' := .bool false) (by rfl) ⟨rfl, (show tk ≤ tk by omega), _, rfl, rfl⟩

def s_l09Ctx_L1 (n : Nat) (l1 : List F) : Nat → Int → Option Bool
  | 0, _ => none
  | m + 1, i3 =>
    if i3 < ((l1).length : Int) then
      (idx l1 i3).bind fun y5 =>
      (s_TypeOK n y5).bind fun r10 =>
      if (!r10) = true then
        some false
      else
        s_l09Ctx_L1 n l1 m (IntKind.i64.wrap (i3 + 1))
    else
      some true

def s_l09Ctx (n : Nat) (l1 : List F) : Option Bool :=
  if ((l1).length : Int) > 12 then
    some false
  else
    s_l09Ctx_L1 n l1 n 0

set_option maxRecDepth 100000 in
theorem s_l09Ctx_ok (n : Nat) : ∀ (q1 : Nat) (f1 : Bool) (ks1 : List LF) {r : Bool}, s_l09Ctx n (fers ks1) = some r → ∀ (O : Heap) (tk : Nat), ACalls Go.Proofs.Try.prog 55 [.imm q1 3 f1 (fcellss ks1)] O tk (RetX O tk (fun v tk' => v = .bool r)) := by
  intro q1 f1 ks1 r hM O tk
  unfold s_l09Ctx at hM
  refine acalls_of_run Go.Proofs.Try.func55 rfl rfl [] [] (Bor.nil _) [(0, .imm q1 3 f1 (fcellss ks1))] (.cons (entS rfl) (.nil _)) (leb rfl) (fun _ h => by cases h) (fun S0 hO htk hfz => ?_)
  refine run_seq ?_
  refine run_region ?_
  refine run_pu rfl (move_step (.inr rfl) rfl) rfl (ltb rfl) ?_
  refine run_ops_nil ?_
  refine run_seq ?_
  refine run_seq ?_
  refine run_region ?_
  refine run_pu rfl (move_step (.inl rfl) rfl) rfl (ltb rfl) ?_
  refine run_pu rfl (lenImm_step hG rfl rfl rfl rfl (flen _)) rfl (ltb rfl) ?_
  refine run_pu rfl (abin_step rfl rfl rfl rfl (fun _ h => by cases h)) rfl (ltb rfl) ?_
  refine run_ops_nil ?_
  refine run_ifd rfl rfl (fun hb2 => ?_) (fun hb2 => ?_)
  · replace hM := ite_t hb2 hM
    refine run_seq ?_
    refine run_region ?_
    refine run_pu rfl (move_step (.inr rfl) rfl) rfl (ltb rfl) ?_
    refine run_ops_nil ?_
    refine run_ret_to ?_
    obtain rfl := some_t hM
    refine fin_x hG rfl rfl rfl (v' := .bool false) (by rfl) ⟨rfl, (show tk ≤ tk by omega), _, rfl, rfl⟩
  · replace hM := ite_f hb2 hM
    refine run_skip ?_
    refine run_seq ?_
    refine run_seq ?_
    refine run_region ?_
    refine run_pu rfl (move_step (.inr rfl) rfl) rfl (ltb rfl) ?_
    refine run_ops_nil ?_
    refine run_block ?_
    refine run_rounds (fun m σ => ∃ (i3 : Int) (tks_l09Ctx_L1 : Nat), tk ≤ tks_l09Ctx_L1 ∧ s_l09Ctx_L1 n (fers ks1) m i3 = some r ∧ σ = ⟨[(0, .imm q1 3 f1 (fcellss ks1)), (2, .bool false), (3, .int .i64 i3)], [], [], O, tks_l09Ctx_L1⟩) n (Sub.env [(0, .imm q1 3 f1 (fcellss ks1)), (2, .bool false), (3, .int .i64 0)] ⟨rfl, rfl, rfl, trivial⟩) ⟨0, tk, Nat.le_refl _, hM, rfl⟩ (fun m σ hI => ?_)
    clear hM
    obtain ⟨i3, tks_l09Ctx_L1, hle18, hM, rfl⟩ := hI
    obtain _ | m := m
    · exact absurd hM (by rw [s_l09Ctx_L1]; exact fun h => by cases h)
    rw [s_l09Ctx_L1] at hM
    refine run_seq ?_
    refine run_seq ?_
    refine run_region ?_
    refine run_pu rfl (move_step (.inl rfl) rfl) rfl (ltb rfl) ?_
    refine run_pu rfl (move_step (.inl rfl) rfl) rfl (ltb rfl) ?_
    refine run_pu rfl (lenImm_step hG rfl rfl rfl rfl (flen _)) rfl (ltb rfl) ?_
    refine run_pu rfl (abin_step rfl rfl rfl rfl (fun _ h => by cases h)) rfl (ltb rfl) ?_
    refine run_ops_nil ?_
    refine run_ifd rfl rfl (fun hb4 => ?_) (fun hb4 => ?_)
    · replace hM := ite_t hb4 hM
      refine run_skip ?_
      refine run_seq ?_
      refine run_block ?_
      refine run_seq ?_
      refine run_region ?_
      refine run_pu rfl (move_step (.inl rfl) rfl) rfl (ltb rfl) ?_
      refine run_pu rfl (move_step (.inl rfl) rfl) rfl (ltb rfl) ?_
      obtain ⟨y5, hy6, hM⟩ := bind_t hM
      obtain ⟨k7, n7, q7, f7, ks7, rfl, hc8, hi9⟩ := fidx hy6
      refine run_pu rfl (indexImm_step hG rfl rfl rfl hi9 rfl rfl rfl rfl hc8) rfl (ltb rfl) ?_
      refine run_rd rfl (aload_rd hG rfl rfl rfl (by simp [ldok])) rfl (ltb rfl) ?_
      obtain ⟨r10, hg11, hM⟩ := bind_t hM
      refine run_call rfl rfl rfl (ltb rfl) rfl rfl rfl (fun _ h => absurd h List.not_mem_nil) (s_TypeOK_ok n k7 n7 q7 f7 ks7 hg11 _ _) (callK_retX (fun v tk12 (hle13 : tks_l09Ctx_L1 ≤ tk12) h14 => ?_))
      subst h14
      refine run_pu rfl (aun_step rfl rfl rfl) rfl (ltb rfl) ?_
      refine run_ops_nil ?_
      refine run_ifb rfl rfl (fun hb17 => ?_) (fun hb17 => ?_)
      · replace hM := ite_t hb17 hM
        refine run_seq ?_
        refine run_region ?_
        refine run_pu rfl (move_step (.inr rfl) rfl) rfl (ltb rfl) ?_
        refine run_ops_nil ?_
        refine run_ret_to ?_
        obtain rfl := some_t hM
        refine fin_x hG rfl rfl rfl (v' := .bool false) (by rfl) ⟨rfl, (show tk ≤ tk12 by omega), _, rfl, rfl⟩
      · replace hM := ite_f hb17 hM
        refine run_skip ?_
        refine run_blk ?_
        refine run_region ?_
        refine run_pu rfl (move_step (.inl rfl) rfl) rfl (ltb rfl) ?_
        refine run_pu rfl (abin_step rfl rfl rfl rfl (fun _ h => by cases h)) rfl (ltb rfl) ?_
        refine run_pu rfl (move_step (.inr rfl) rfl) rfl (ltb rfl) ?_
        refine run_ops_nil ?_
        exact run_loop_end ⟨m, _, Nat.lt_succ_self _, ⟨(IntKind.i64.wrap (i3 + 1)), tk12, (show tk ≤ tk12 by omega), hM, rfl⟩, Sub.env [(0, .imm q1 3 f1 (fcellss ks1)), (2, .bool false), (3, .int .i64 (IntKind.i64.wrap (i3 + 1)))] ⟨rfl, rfl, rfl, trivial⟩⟩
    · replace hM := ite_f hb4 hM
      refine run_exit_to rfl ?_
      refine run_seq ?_
      refine run_region ?_
      refine run_pu rfl (move_step (.inr rfl) rfl) rfl (ltb rfl) ?_
      refine run_ops_nil ?_
      refine run_ret_to ?_
      obtain rfl := some_t hM
      refine fin_x hG rfl rfl rfl (v' := .bool true) (by rfl) ⟨rfl, (show tk ≤ tks_l09Ctx_L1 by omega), _, rfl, rfl⟩

def g_IndexFunc_Tree__fn_i_tooBig_L1 (n : Nat) (l1 : List T) : Nat → Int → Option Int
  | 0, _ => none
  | m + 1, i2 =>
    if i2 < ((l1).length : Int) then
      (idx l1 i2).bind fun y4 =>
      (i_tooBig n y4).bind fun r9 =>
      if r9 = true then
        some i2
      else
        g_IndexFunc_Tree__fn_i_tooBig_L1 n l1 m (IntKind.i64.wrap (i2 + 1))
    else
      some (-1)

def g_IndexFunc_Tree__fn_i_tooBig (n : Nat) (l1 : List T) : Option Int :=
  g_IndexFunc_Tree__fn_i_tooBig_L1 n l1 n 0

set_option maxRecDepth 100000 in
theorem g_IndexFunc_Tree__fn_i_tooBig_ok (n : Nat) : ∀ (q1 : Nat) (f1 : Bool) (ks1 : List LT) {r : Int}, g_IndexFunc_Tree__fn_i_tooBig n (ers ks1) = some r → ∀ (O : Heap) (tk : Nat), ACalls Go.Proofs.Try.prog 84 [.imm q1 4 f1 (cellss ks1), .fn (.func 64) [] []] O tk (RetX O tk (fun v tk' => v = .int .i64 r)) := by
  intro q1 f1 ks1 r hM O tk
  unfold g_IndexFunc_Tree__fn_i_tooBig at hM
  refine acalls_of_run Go.Proofs.Try.func84 rfl rfl [] [] (Bor.nil _) [(0, .imm q1 4 f1 (cellss ks1)), (1, .fn (.func 64) [] [])] (.cons (entS rfl) (.cons (entS rfl) (.nil _))) (leb rfl) (fun _ h => by cases h) (fun S0 hO htk hfz => ?_)
  refine run_seq ?_
  refine run_region ?_
  refine run_pu rfl (move_step (.inr rfl) rfl) rfl (ltb rfl) ?_
  refine run_ops_nil ?_
  refine run_seq ?_
  refine run_seq ?_
  refine run_region ?_
  refine run_pu rfl (move_step (.inl rfl) rfl) rfl (ltb rfl) ?_
  refine run_pu rfl (lenImm_step hG rfl rfl rfl rfl (tlen _)) rfl (ltb rfl) ?_
  refine run_pu rfl (move_step (.inl rfl) rfl) rfl (ltb rfl) ?_
  refine run_ops_nil ?_
  refine run_block ?_
  refine run_rounds (fun m σ => ∃ (i2 : Int) (tkg_IndexFunc_Tree__fn_i_tooBig_L1 : Nat), tk ≤ tkg_IndexFunc_Tree__fn_i_tooBig_L1 ∧ g_IndexFunc_Tree__fn_i_tooBig_L1 n (ers ks1) m i2 = some r ∧ σ = ⟨[(0, .imm q1 4 f1 (cellss ks1)), (1, .fn (.func 64) [] []), (4, .int .i64 0), (7, .int .i64 (((ers ks1)).length : Int)), (8, .int .i64 i2)], [], [], O, tkg_IndexFunc_Tree__fn_i_tooBig_L1⟩) n (Sub.env [(0, .imm q1 4 f1 (cellss ks1)), (1, .fn (.func 64) [] []), (4, .int .i64 0), (7, .int .i64 (((ers ks1)).length : Int)), (8, .int .i64 0)] ⟨rfl, rfl, rfl, rfl, rfl, trivial⟩) ⟨0, tk, Nat.le_refl _, hM, rfl⟩ (fun m σ hI => ?_)
  clear hM
  obtain ⟨i2, tkg_IndexFunc_Tree__fn_i_tooBig_L1, hle17, hM, rfl⟩ := hI
  obtain _ | m := m
  · exact absurd hM (by rw [g_IndexFunc_Tree__fn_i_tooBig_L1]; exact fun h => by cases h)
  rw [g_IndexFunc_Tree__fn_i_tooBig_L1] at hM
  refine run_seq ?_
  refine run_region ?_
  refine run_pu rfl (abin_step rfl rfl rfl rfl (fun _ h => by cases h)) rfl (ltb rfl) ?_
  refine run_ops_nil ?_
  refine run_seq ?_
  refine run_ifd rfl rfl (fun hb3 => ?_) (fun hb3 => ?_)
  · replace hM := ite_t hb3 hM
    refine run_skip ?_
    refine run_seq ?_
    refine run_block ?_
    refine run_seq ?_
    refine run_region ?_
    refine run_pu rfl (move_step (.inl rfl) rfl) rfl (ltb rfl) ?_
    refine run_pu rfl (move_step (.inr rfl) rfl) rfl (ltb rfl) ?_
    refine run_ops_nil ?_
    refine run_seq ?_
    refine run_region ?_
    refine run_pu rfl (move_step (.inl rfl) rfl) rfl (ltb rfl) ?_
    refine run_pu rfl (move_step (.inl rfl) rfl) rfl (ltb rfl) ?_
    refine run_pu rfl (move_step (.inl rfl) rfl) rfl (ltb rfl) ?_
    obtain ⟨y4, hy5, hM⟩ := bind_t hM
    obtain ⟨k6, n6, s6, q6, f6, ks6, rfl, hc7, hi8⟩ := tidx hy5
    refine run_pu rfl (indexImm_step hG rfl rfl rfl hi8 rfl rfl rfl rfl hc7) rfl (ltb rfl) ?_
    refine run_rd rfl (aload_rd hG rfl rfl rfl (by simp [ldok])) rfl (ltb rfl) ?_
    obtain ⟨r9, hg10, hM⟩ := bind_t hM
    refine run_call rfl rfl rfl (ltb rfl) rfl rfl rfl (fun _ h => absurd h List.not_mem_nil) (i_tooBig_ok n k6 n6 s6 q6 f6 ks6 hg10 _ _) (callK_retX (fun v tk11 (hle12 : tkg_IndexFunc_Tree__fn_i_tooBig_L1 ≤ tk11) h13 => ?_))
    subst h13
    refine run_ops_nil ?_
    refine run_ifb rfl rfl (fun hb16 => ?_) (fun hb16 => ?_)
    · replace hM := ite_t hb16 hM
      refine run_seq ?_
      refine run_region ?_
      refine run_pu rfl (move_step (.inl rfl) rfl) rfl (ltb rfl) ?_
      refine run_pu rfl (move_step (.inr rfl) rfl) rfl (ltb rfl) ?_
      refine run_ops_nil ?_
      refine run_ret_to ?_
      obtain rfl := some_t hM
      refine fin_x hG rfl rfl rfl (v' := .int .i64 i2) (by rfl) ⟨rfl, (show tk ≤ tk11 by omega), _, rfl, rfl⟩
    · replace hM := ite_f hb16 hM
      refine run_skip ?_
      refine run_blk ?_
      refine run_region ?_
      refine run_pu rfl (abin_step rfl rfl rfl rfl (fun _ h => by cases h)) rfl (ltb rfl) ?_
      refine run_pu rfl (move_step (.inl rfl) rfl) rfl (ltb rfl) ?_
      refine run_ops_nil ?_
      exact run_loop_end ⟨m, _, Nat.lt_succ_self _, ⟨(IntKind.i64.wrap (i2 + 1)), tk11, (show tk ≤ tk11 by omega), hM, rfl⟩, Sub.env [(0, .imm q1 4 f1 (cellss ks1)), (1, .fn (.func 64) [] []), (4, .int .i64 0), (7, .int .i64 (((ers ks1)).length : Int)), (8, .int .i64 (IntKind.i64.wrap (i2 + 1)))] ⟨rfl, rfl, rfl, rfl, rfl, trivial⟩⟩
  · replace hM := ite_f hb3 hM
    refine run_exit_to rfl ?_
    refine run_seq ?_
    refine run_region ?_
    refine run_pu rfl (move_step (.inr rfl) rfl) rfl (ltb rfl) ?_
    refine run_ops_nil ?_
    refine run_ret_to ?_
    obtain rfl := some_t hM
    refine fin_x hG rfl rfl rfl (v' := .int .i64 (-1)) (by rfl) ⟨rfl, (show tk ≤ tkg_IndexFunc_Tree__fn_i_tooBig_L1 by omega), _, rfl, rfl⟩

def g_ContainsFunc_Tree__fn_i_tooBig (n : Nat) (l1 : List T) : Option Bool :=
  (g_IndexFunc_Tree__fn_i_tooBig n l1).bind fun r2 =>
  some (decide (r2 ≥ 0))

set_option maxRecDepth 100000 in
theorem g_ContainsFunc_Tree__fn_i_tooBig_ok (n : Nat) : ∀ (q1 : Nat) (f1 : Bool) (ks1 : List LT) {r : Bool}, g_ContainsFunc_Tree__fn_i_tooBig n (ers ks1) = some r → ∀ (O : Heap) (tk : Nat), ACalls Go.Proofs.Try.prog 63 [.imm q1 4 f1 (cellss ks1), .fn (.func 64) [] []] O tk (RetX O tk (fun v tk' => v = .bool r)) := by
  intro q1 f1 ks1 r hM O tk
  unfold g_ContainsFunc_Tree__fn_i_tooBig at hM
  refine acalls_of_run Go.Proofs.Try.func63 rfl rfl [] [] (Bor.nil _) [(0, .imm q1 4 f1 (cellss ks1)), (1, .fn (.func 64) [] [])] (.cons (entS rfl) (.cons (entS rfl) (.nil _))) (leb rfl) (fun _ h => by cases h) (fun S0 hO htk hfz => ?_)
  refine run_seq ?_
  refine run_region ?_
  refine run_pu rfl (move_step (.inr rfl) rfl) rfl (ltb rfl) ?_
  refine run_ops_nil ?_
  refine run_seq ?_
  refine run_region ?_
  refine run_pu rfl (move_step (.inl rfl) rfl) rfl (ltb rfl) ?_
  refine run_pu rfl (move_step (.inl rfl) rfl) rfl (ltb rfl) ?_
  obtain ⟨r2, hg3, hM⟩ := bind_t hM
  refine run_call rfl rfl rfl (ltb rfl) rfl rfl rfl (fun _ h => absurd h List.not_mem_nil) (g_IndexFunc_Tree__fn_i_tooBig_ok n q1 f1 ks1 hg3 _ _) (callK_retX (fun v tk4 (hle5 : tk ≤ tk4) h6 => ?_))
  subst h6
  refine run_pu rfl (abin_step rfl rfl rfl rfl (fun _ h => by cases h)) rfl (ltb rfl) ?_
  refine run_pu rfl (move_step (.inr rfl) rfl) rfl (ltb rfl) ?_
  refine run_ops_nil ?_
  refine run_ret_to ?_
  obtain rfl := some_t hM
  refine fin_x hG rfl rfl rfl (v' := .bool (decide (r2 ≥ 0))) (by rfl) ⟨rfl, (show tk ≤ tk4 by omega), _, rfl, rfl⟩

set_option maxRecDepth 100000 in
theorem i_variable_ex (i1 : Int) (q2 : Nat) (f2 : Bool) (ks2 : List LT) (O : Heap) (tk : Nat) : ACalls Go.Proofs.Try.prog 62 [.int .i64 i1, .imm q2 4 f2 (cellss ks2)] O tk (RetN O (.agg [.int .i64 5, .int .i64 i1, .str ⟨#[]⟩, .imm q2 4 f2 (cellss ks2)]) tk) := by
  refine acalls_of_run Go.Proofs.Try.func62 rfl rfl [] [] (Bor.nil _) [(0, .int .i64 i1), (1, .imm q2 4 f2 (cellss ks2))] (.cons (entS rfl) (.cons (entS rfl) (.nil _))) (leb rfl) (fun _ h => by cases h) (fun S0 hO htk hfz => ?_)
  refine run_seq ?_
  refine run_region ?_
  refine run_op rfl (alloc_step (d := 4) hG rfl rfl rfl) rfl (ltb rfl) ?_
  refine run_ops_nil ?_
  refine run_seq ?_
  refine run_region ?_
  refine run_pu rfl (move_step (.inl rfl) rfl) rfl (ltb rfl) ?_
  refine run_pu rfl (move_step (.inl rfl) rfl) rfl (ltb rfl) ?_
  refine run_pu rfl (build_step hG rfl (by rfl) rfl (fun h => by cases h) (by rfl)) rfl (ltb rfl) ?_
  refine run_op0 rfl (store_step hG rfl rfl rfl rfl rfl rfl rfl rfl) rfl ?_
  refine run_ops_nil ?_
  refine run_ret_to ?_
  refine fin_x hG rfl rfl rfl (v' := .agg [.int .i64 5, .int .i64 i1, .str ⟨#[]⟩, .imm q2 4 f2 (cellss ks2)]) (by rfl) ⟨rfl, rfl, rfl⟩

set_option maxRecDepth 100000 in
theorem i_ofFamily_ex (k1 : Int) (n1 : Int) (s1 : ByteArray) (q1 : Nat) (f1 : Bool) (ks1 : List LT) (k2 : Int) (n2 : Int) (s2 : ByteArray) (q2 : Nat) (f2 : Bool) (ks2 : List LT) (O : Heap) (tk : Nat) : ACalls Go.Proofs.Try.prog 61 [.agg [.int .i64 k1, .int .i64 n1, .str s1, .imm q1 4 f1 (cellss ks1)], .agg [.int .i64 k2, .int .i64 n2, .str s2, .imm q2 4 f2 (cellss ks2)]] O tk (RetN O (.agg [.int .i64 3, .int .i64 0, .str ⟨#[111, 102]⟩, .imm tk 4 false (cellss [LT.mk k1 n1 s1 q1 f1 ks1, LT.mk k2 n2 s2 q2 f2 ks2])]) (tk + 1)) := by
  refine acalls_of_run Go.Proofs.Try.func61 rfl rfl [] [] (Bor.nil _) [(0, .agg [.int .i64 k1, .int .i64 n1, .str s1, .imm q1 4 f1 (cellss ks1)]), (1, .agg [.int .i64 k2, .int .i64 n2, .str s2, .imm q2 4 f2 (cellss ks2)])] (.cons (.agg _) (.cons (.agg _) (.nil _))) (leb rfl) (fun _ h => by cases h) (fun S0 hO htk hfz => ?_)
  refine run_seq ?_
  refine run_region ?_
  refine run_op rfl (box_step (d := 2) rfl rfl rfl rfl rfl) rfl (ltb rfl) ?_
  refine run_op rfl (box_step (d := 3) rfl rfl rfl rfl rfl) rfl (ltb rfl) ?_
  refine run_op rfl (alloc_step (d := 4) hG rfl rfl rfl) rfl (ltb rfl) ?_
  refine run_ops_nil ?_
  refine run_seq ?_
  refine run_region ?_
  refine run_rd rfl (aload_rd hG rfl rfl rfl (by simp [ldok])) rfl (ltb rfl) ?_
  refine run_rd rfl (aload_rd hG rfl rfl rfl (by simp [ldok])) rfl (ltb rfl) ?_
  refine run_op rfl (buildSlice_step (d := 7) hG rfl rfl rfl rfl rfl (by rfl) (by rfl) (by rfl) (by decide)) rfl (ltb rfl) ?_
  refine run_pu rfl (build_step hG rfl (by rfl) rfl (fun h => by cases h) (by rfl)) rfl (ltb rfl) ?_
  refine run_op0 rfl (store_step hG rfl rfl rfl rfl rfl rfl rfl rfl) rfl ?_
  refine run_ops_nil ?_
  refine run_ret_to ?_
  refine fin_sub (Sub.freeze (k := 7) rfl rfl) ?_
  refine fin_x hG rfl rfl rfl (v' := .agg [.int .i64 3, .int .i64 0, .str ⟨#[111, 102]⟩, .imm tk 4 false (cellss [LT.mk k1 n1 s1 q1 f1 ks1, LT.mk k2 n2 s2 q2 f2 ks2])]) (by rfl) ⟨rfl, rfl, rfl⟩

def i_EncodeVars_L1 (n : Nat) (l1 : List F) : Nat → Int → List T → Option (List T × Int)
  | 0, _, _ => none
  | m + 1, i18, l19 =>
    if i18 < ((l1).length : Int) then
      (idx l1 i18).bind fun y21 =>
      (i_typeTerm n y21).bind fun r26 =>
      chk ((l19).length + ([(T.mk 3 0 ⟨#[116, 109]⟩ []), (T.mk 3 0 ⟨#[111, 102]⟩ [(T.mk 5 0 ⟨#[]⟩ []), r26])]).length ≤ 1099511627776) <|
      i_EncodeVars_L1 n l1 m (IntKind.i64.wrap (i18 + 1)) (l19 ++ [(T.mk 3 0 ⟨#[116, 109]⟩ []), (T.mk 3 0 ⟨#[111, 102]⟩ [(T.mk 5 0 ⟨#[]⟩ []), r26])])
    else
      (g_ContainsFunc_Tree__fn_i_tooBig n l19).bind fun r34 =>
      if r34 = true then
        some ([], 11)
      else
        some (l19, 0)

def i_EncodeVars (n : Nat) (l1 : List F) : Option (List T × Int) :=
  (i_longLists n ([((l1).length : Int)])).bind fun r2 =>
  if r2 = true then
    some ([], 2)
  else
    (i_typesOK n l1).bind fun r10 =>
    if (!r10) = true then
      some ([], 1)
    else
      i_EncodeVars_L1 n l1 n 0 ([])

set_option maxRecDepth 100000 in
theorem i_EncodeVars_ok (n : Nat) : ∀ (q1 : Nat) (f1 : Bool) (ks1 : List LF) {r : (List T × Int)}, i_EncodeVars n (fers ks1) = some r → ∀ (O : Heap) (tk : Nat), ACalls Go.Proofs.Try.prog 28 [.imm q1 3 f1 (fcellss ks1)] O tk (RetX O tk (fun v tk' => ∃ r0' r1' v0' v1', r = (r0', r1') ∧ v = .tup [v0', v1'] ∧ VTs true tk tk' r0' v0' ∧ v1' = .int .i64 r1')) := by
  intro q1 f1 ks1 r hM O tk
  unfold i_EncodeVars at hM
  refine acalls_of_run Go.Proofs.Try.func28 rfl rfl [] [] (Bor.nil _) [(0, .imm q1 3 f1 (fcellss ks1))] (.cons (entS rfl) (.nil _)) (leb rfl) (fun _ h => by cases h) (fun S0 hO htk hfz => ?_)
  refine run_seq ?_
  refine run_region ?_
  refine run_pu rfl (move_step (.inr rfl) rfl) rfl (ltb rfl) ?_
  refine run_pu rfl (move_step (.inr rfl) rfl) rfl (ltb rfl) ?_
  refine run_ops_nil ?_
  refine run_seq ?_
  refine run_block ?_
  refine run_seq ?_
  refine run_region ?_
  refine run_pu rfl (move_step (.inl rfl) rfl) rfl (ltb rfl) ?_
  refine run_pu rfl (lenImm_step hG rfl rfl rfl rfl (flen _)) rfl (ltb rfl) ?_
  refine run_op rfl (buildSlice_step (d := 10) hG rfl rfl rfl rfl rfl (by rfl) (by rfl) (by rfl) (by decide)) rfl (ltb rfl) ?_
  refine run_sub_ops (Sub.freeze (k := 10) rfl rfl) ?_
  obtain ⟨r2, hg3, hM⟩ := bind_t hM
  refine run_call rfl rfl rfl (ltb rfl) rfl rfl rfl (fun _ h => absurd h List.not_mem_nil) (i_longLists_ok n tk false [(((fers ks1)).length : Int)] hg3 _ _) (callK_retX (fun v tk4 (hle5 : (tk + 1) ≤ tk4) h6 => ?_))
  subst h6
  refine run_pu rfl (move_step (.inr rfl) rfl) rfl (ltb rfl) ?_
  refine run_ops_nil ?_
  refine run_ifb rfl rfl (fun hb9 => ?_) (fun hb9 => ?_)
  · replace hM := ite_t hb9 hM
    refine run_seq ?_
    refine run_region ?_
    refine run_pu rfl (move_step (.inr rfl) rfl) rfl (ltb rfl) ?_
    refine run_pu rfl (move_step (.inr rfl) rfl) rfl (ltb rfl) ?_
    refine run_ops_nil ?_
    refine run_ret_to ?_
    obtain rfl := some_t hM
    refine fin_x hG rfl rfl rfl (v' := .tup [.imm 0 4 true (cellss []), .int .i64 2]) (by rfl) ⟨rfl, (show tk ≤ tk4 by omega), _, rfl, ⟨_, _, _, _, rfl, rfl, ⟨0, true, [], rfl, rfl, fun _ => Fr.nil _ _⟩, rfl⟩⟩
  · replace hM := ite_f hb9 hM
    refine run_seq ?_
    refine run_region ?_
    refine run_pu rfl (move_step (.inl rfl) rfl) rfl (ltb rfl) ?_
    obtain ⟨r10, hg11, hM⟩ := bind_t hM
    refine run_call rfl rfl rfl (ltb rfl) rfl rfl rfl (fun _ h => absurd h List.not_mem_nil) (i_typesOK_ok n q1 f1 ks1 hg11 _ _) (callK_retX (fun v tk12 (hle13 : tk4 ≤ tk12) h14 => ?_))
    subst h14
    refine run_pu rfl (aun_step rfl rfl rfl) rfl (ltb rfl) ?_
    refine run_pu rfl (move_step (.inr rfl) rfl) rfl (ltb rfl) ?_
    refine run_ops_nil ?_
    refine run_ifb rfl rfl (fun hb17 => ?_) (fun hb17 => ?_)
    · replace hM := ite_t hb17 hM
      refine run_seq ?_
      refine run_region ?_
      refine run_pu rfl (move_step (.inr rfl) rfl) rfl (ltb rfl) ?_
      refine run_pu rfl (move_step (.inr rfl) rfl) rfl (ltb rfl) ?_
      refine run_ops_nil ?_
      refine run_ret_to ?_
      obtain rfl := some_t hM
      refine fin_x hG rfl rfl rfl (v' := .tup [.imm 0 4 true (cellss []), .int .i64 1]) (by rfl) ⟨rfl, (show tk ≤ tk12 by omega), _, rfl, ⟨_, _, _, _, rfl, rfl, ⟨0, true, [], rfl, rfl, fun _ => Fr.nil _ _⟩, rfl⟩⟩
    · replace hM := ite_f hb17 hM
      refine run_skip ?_
      refine run_blk ?_
      refine run_seq ?_
      refine run_region ?_
      refine run_op rfl (buildSlice_step (d := 16) hG rfl rfl rfl rfl rfl (by rfl) (by rfl) (by rfl) (by decide)) rfl (ltb rfl) ?_
      refine run_pu rfl (move_step (.inr rfl) rfl) rfl (ltb rfl) ?_
      refine run_ops_nil ?_
      refine run_seq ?_
      refine run_seq ?_
      refine run_region ?_
      refine run_pu rfl (move_step (.inl rfl) rfl) rfl (ltb rfl) ?_
      refine run_pu rfl (lenImm_step hG rfl rfl rfl rfl (flen _)) rfl (ltb rfl) ?_
      refine run_pu rfl (move_step (.inl rfl) rfl) rfl (ltb rfl) ?_
      refine run_ops_nil ?_
      refine run_block ?_
      refine run_sub_code (σ' := ⟨[(2, .imm 0 0 true []), (3, .int .i64 0), (4, .osl (.loc 16)), (17, .imm q1 3 f1 (fcellss ks1)), (18, .int .i64 (((fers ks1)).length : Int)), (19, .int .i64 0)], [(16, ⟨28, 4, false, cellss []⟩)], [], O, tk12⟩) (Sub.env [(2, .imm 0 0 true []), (3, .int .i64 0), (4, .osl (.loc 16)), (17, .imm q1 3 f1 (fcellss ks1)), (18, .int .i64 (((fers ks1)).length : Int)), (19, .int .i64 0)] ⟨rfl, rfl, rfl, rfl, rfl, rfl, trivial⟩) ?_
      refine run_rounds (fun m σ => ∃ (i18 : Int) (ks19 : List LT) (tki_EncodeVars_L1 : Nat), tk12 ≤ tki_EncodeVars_L1 ∧ Fr tk12 tki_EncodeVars_L1 (ttoks ks19) ∧ i_EncodeVars_L1 n (fers ks1) m i18 (ers ks19) = some r ∧ σ = ⟨[(2, .imm 0 0 true []), (3, .int .i64 0), (4, .osl (.loc 16)), (17, .imm q1 3 f1 (fcellss ks1)), (18, .int .i64 (((fers ks1)).length : Int)), (19, .int .i64 i18)], [(16, ⟨28, 4, false, cellss ks19⟩)], [], O, tki_EncodeVars_L1⟩) n (Sub.env [(2, .imm 0 0 true []), (3, .int .i64 0), (4, .osl (.loc 16)), (17, .imm q1 3 f1 (fcellss ks1)), (18, .int .i64 (((fers ks1)).length : Int)), (19, .int .i64 0)] ⟨rfl, rfl, rfl, rfl, rfl, rfl, trivial⟩) ⟨0, [], tk12, Nat.le_refl _, Fr.nil _ _, hM, rfl⟩ (fun m σ hI => ?_)
      clear hM
      obtain ⟨i18, ks19, tki_EncodeVars_L1, hle42, hfr19, hM, rfl⟩ := hI
      obtain _ | m := m
      · exact absurd hM (by rw [i_EncodeVars_L1]; exact fun h => by cases h)
      rw [i_EncodeVars_L1] at hM
      refine run_seq ?_
      refine run_region ?_
      refine run_pu rfl (abin_step rfl rfl rfl rfl (fun _ h => by cases h)) rfl (ltb rfl) ?_
      refine run_ops_nil ?_
      refine run_seq ?_
      refine run_ifd rfl rfl (fun hb20 => ?_) (fun hb20 => ?_)
      · replace hM := ite_t hb20 hM
        refine run_skip ?_
        refine run_seq ?_
        refine run_block ?_
        refine run_seq ?_
        refine run_region ?_
        obtain ⟨y21, hy22, hM⟩ := bind_t hM
        obtain ⟨k23, n23, q23, f23, ks23, rfl, hc24, hi25⟩ := fidx hy22
        refine run_pu rfl (indexImm_step hG rfl rfl rfl hi25 rfl rfl rfl rfl hc24) rfl (ltb rfl) ?_
        refine run_rd rfl (aload_rd hG rfl rfl rfl (by simp [ldok])) rfl (ltb rfl) ?_
        refine run_op rfl (alloc_step (d := 6) hG rfl rfl rfl) rfl (ltb rfl) ?_
        refine run_op0 rfl (store_step hG rfl rfl rfl rfl rfl rfl rfl rfl) rfl ?_
        refine run_ops_nil ?_
        refine run_draw [.loc 16] (n := 9) mixed rfl (by intro x hx; simp only [List.mem_cons, List.not_mem_nil, or_false] at hx; rcases hx with rfl <;> rfl) ?_
        refine AAny.take (i := 0) rfl (by kernel_rfl) (by kernel_rfl) (by kernel_rfl) rfl rfl (ltb rfl) ((move_step (.inl rfl) rfl).rd _) ?_
        refine AAny.take (i := 1) rfl (by kernel_rfl) (by kernel_rfl) (by kernel_rfl) rfl rfl (ltb rfl) ((build_step hG rfl (by rfl) rfl (fun h => by cases h) (by rfl)).rd _) ?_
        refine AAny.take (i := 3) rfl (by kernel_rfl) (by kernel_rfl) (by kernel_rfl) rfl rfl (ltb rfl) (aload_rd hG rfl rfl rfl (by simp [ldok])) ?_
        refine AAny.one (i := 2) (by kernel_rfl) (AOp.call rfl rfl rfl rfl (ltb rfl) rfl rfl rfl (fun _ h => absurd h List.not_mem_nil) (fun _ h => absurd h List.not_mem_nil) (ACalls.args (args' := [.int .i64 0, .imm 0 4 true (cellss [])]) rfl (i_variable_ex 0 0 true [] _ _)) (callK_retN ?_))
        skip
        obtain ⟨r26, hg27, hM⟩ := bind_t hM
        refine AAny.one (i := 4) (by kernel_rfl) (AOp.call rfl rfl rfl rfl (ltb rfl) rfl rfl rfl (fun _ h => absurd h List.not_mem_nil) (fun _ h => absurd h List.not_mem_nil) (i_typeTerm_ok n k23 n23 q23 f23 ks23 hg27 _ _) (callK_retX (fun v tk28 (hle29 : tki_EncodeVars_L1 ≤ tk28) h30 => ?_)))
        obtain ⟨k31, n31, s31, q31, f31, ks31, rfl, rfl, hf32⟩ := h30
        refine AAny.one (i := 5) (by kernel_rfl) (AOp.call rfl rfl rfl rfl (ltb rfl) rfl rfl rfl (fun _ h => absurd h List.not_mem_nil) (fun _ h => absurd h List.not_mem_nil) (i_ofFamily_ex 5 0 ⟨#[]⟩ 0 true [] k31 n31 s31 q31 f31 ks31 _ _) (callK_retN ?_))
        skip
        refine AAny.one (i := 6) (by kernel_rfl) (AOp.step rfl rfl rfl (ltb rfl) (buildSlice_step (d := 29) hG rfl rfl rfl rfl rfl (by rfl) (by rfl) (by rfl) (by decide)) (fun _ h => absurd h List.not_mem_nil) ?_)
        obtain ⟨hc33, hM⟩ := chk_t hM
        try rw [show ((ers ks19) ++ [(T.mk 3 0 ⟨#[116, 109]⟩ []), (T.mk 3 0 ⟨#[111, 102]⟩ [(T.mk 5 0 ⟨#[]⟩ []), (T.mk k31 n31 s31 (ers ks31))])] : List T) = (ers (ks19 ++ [LT.mk 3 0 ⟨#[116, 109]⟩ 0 true [], LT.mk 3 0 ⟨#[111, 102]⟩ tk28 false [LT.mk 5 0 ⟨#[]⟩ 0 true [], LT.mk k31 n31 s31 q31 f31 ks31]])) from ers_app ks19 [LT.mk 3 0 ⟨#[116, 109]⟩ 0 true [], LT.mk 3 0 ⟨#[111, 102]⟩ tk28 false [LT.mk 5 0 ⟨#[]⟩ 0 true [], LT.mk k31 n31 s31 q31 f31 ks31]]] at hM
        refine AAny.one (i := 7) (by kernel_rfl) (AOp.step rfl rfl rfl (ltb rfl) (appendM_step hG rfl rfl rfl rfl rfl rfl rfl rfl rfl rfl rfl (cellss_sz ([LT.mk 3 0 ⟨#[116, 109]⟩ 0 true [], LT.mk 3 0 ⟨#[111, 102]⟩ tk28 false [LT.mk 5 0 ⟨#[]⟩ 0 true [], LT.mk k31 n31 s31 q31 f31 ks31]])) (tlen _) (tlen ([LT.mk 3 0 ⟨#[116, 109]⟩ 0 true [], LT.mk 3 0 ⟨#[111, 102]⟩ tk28 false [LT.mk 5 0 ⟨#[]⟩ 0 true [], LT.mk k31 n31 s31 q31 f31 ks31]])) hc33 (by decide) (cellss_app _ _)) (by intro x hx; simp only [List.mem_cons, List.not_mem_nil, or_false] at hx; subst hx; simp) ?_)
        refine AAny.take (i := 8) rfl (by kernel_rfl) (by kernel_rfl) (by kernel_rfl) rfl rfl (ltb rfl) ((move_step (.inr rfl) rfl).rd _) ?_
        refine AAny.done (by kernel_rfl) ?_
        refine run_blk ?_
        refine run_sub_code (σ' := ⟨[(2, .imm 0 0 true []), (3, .int .i64 0), (4, .osl (.loc 16)), (17, .imm q1 3 f1 (fcellss ks1)), (18, .int .i64 (((fers ks1)).length : Int)), (19, .int .i64 i18)], [(16, ⟨28, 4, false, cellss (ks19 ++ [LT.mk 3 0 ⟨#[116, 109]⟩ 0 true [], LT.mk 3 0 ⟨#[111, 102]⟩ tk28 false [LT.mk 5 0 ⟨#[]⟩ 0 true [], LT.mk k31 n31 s31 q31 f31 ks31]])⟩)], [], O, (tk28 + 1)⟩) (Sub.trans (Sub.drop (k := 29) rfl) (Sub.trans (Sub.drop (k := 6) rfl) (Sub.env [(2, .imm 0 0 true []), (3, .int .i64 0), (4, .osl (.loc 16)), (17, .imm q1 3 f1 (fcellss ks1)), (18, .int .i64 (((fers ks1)).length : Int)), (19, .int .i64 i18)] ⟨rfl, rfl, rfl, rfl, rfl, rfl, trivial⟩))) ?_
        refine run_region ?_
        refine run_pu rfl (abin_step rfl rfl rfl rfl (fun _ h => by cases h)) rfl (ltb rfl) ?_
        refine run_pu rfl (move_step (.inl rfl) rfl) rfl (ltb rfl) ?_
        refine run_ops_nil ?_
        exact run_loop_end ⟨m, _, Nat.lt_succ_self _, ⟨(IntKind.i64.wrap (i18 + 1)), (ks19 ++ [LT.mk 3 0 ⟨#[116, 109]⟩ 0 true [], LT.mk 3 0 ⟨#[111, 102]⟩ tk28 false [LT.mk 5 0 ⟨#[]⟩ 0 true [], LT.mk k31 n31 s31 q31 f31 ks31]]), (tk28 + 1), (show tk12 ≤ (tk28 + 1) by omega), (show Fr tk12 (tk28 + 1) _ from (Fr.tapp (show Fr tk12 tki_EncodeVars_L1 _ from (hfr19).mono (by omega) (by omega)) (Fr.tcons (show Fr tki_EncodeVars_L1 tki_EncodeVars_L1 _ from Fr.nil _ _) (Fr.tcons (show Fr tki_EncodeVars_L1 (tk28 + 1) _ from Fr.tstop (show Fr tki_EncodeVars_L1 tk28 _ from (Fr.tcons (show Fr tki_EncodeVars_L1 tki_EncodeVars_L1 _ from Fr.nil _ _) (Fr.tcons ((show Fr tki_EncodeVars_L1 tk28 _ from hf32 rfl)) (show Fr tk28 tk28 _ from Fr.nil _ _) (by omega) (by omega)) (by omega) (by omega)).mono (by omega) (by omega)) (by omega) (by omega)) (show Fr (tk28 + 1) (tk28 + 1) _ from Fr.nil _ _) (by omega) (by omega)) (by omega) (by omega)) (by omega) (by omega)).mono (by omega) (by omega)), hM, rfl⟩, Sub.env [(2, .imm 0 0 true []), (3, .int .i64 0), (4, .osl (.loc 16)), (17, .imm q1 3 f1 (fcellss ks1)), (18, .int .i64 (((fers ks1)).length : Int)), (19, .int .i64 (IntKind.i64.wrap (i18 + 1)))] ⟨rfl, rfl, rfl, rfl, rfl, rfl, trivial⟩⟩
      · replace hM := ite_f hb20 hM
        refine run_exit_to rfl ?_
        refine run_seq ?_
        refine run_seq ?_
        refine run_region ?_
        refine run_pu rfl (move_step (.inl rfl) rfl) rfl (ltb rfl) ?_
        refine run_sub_ops (Sub.freeze (k := 16) rfl rfl) ?_
        obtain ⟨r34, hg35, hM⟩ := bind_t hM
        refine run_call rfl rfl rfl (ltb rfl) rfl rfl rfl (fun _ h => absurd h List.not_mem_nil) (g_ContainsFunc_Tree__fn_i_tooBig_ok n tki_EncodeVars_L1 false ks19 hg35 _ _) (callK_retX (fun v tk36 (hle37 : (tki_EncodeVars_L1 + 1) ≤ tk36) h38 => ?_))
        subst h38
        refine run_ops_nil ?_
        refine run_ifb rfl rfl (fun hb41 => ?_) (fun hb41 => ?_)
        · replace hM := ite_t hb41 hM
          refine run_seq ?_
          refine run_region ?_
          refine run_pu rfl (move_step (.inr rfl) rfl) rfl (ltb rfl) ?_
          refine run_pu rfl (move_step (.inr rfl) rfl) rfl (ltb rfl) ?_
          refine run_ops_nil ?_
          refine run_ret_to ?_
          obtain rfl := some_t hM
          refine fin_x hG rfl rfl rfl (v' := .tup [.imm 0 4 true (cellss []), .int .i64 11]) (by rfl) ⟨rfl, (show tk ≤ tk36 by omega), _, rfl, ⟨_, _, _, _, rfl, rfl, ⟨0, true, [], rfl, rfl, fun _ => Fr.nil _ _⟩, rfl⟩⟩
        · replace hM := ite_f hb41 hM
          refine run_skip ?_
          refine run_seq ?_
          refine run_region ?_
          refine run_pu rfl (move_step (.inl rfl) rfl) rfl (ltb rfl) ?_
          refine run_pu rfl (move_step (.inr rfl) rfl) rfl (ltb rfl) ?_
          refine run_pu rfl (move_step (.inr rfl) rfl) rfl (ltb rfl) ?_
          refine run_ops_nil ?_
          refine run_ret_to ?_
          obtain rfl := some_t hM
          refine fin_x hG rfl rfl rfl (v' := .tup [.imm tki_EncodeVars_L1 4 false (cellss ks19), .int .i64 0]) (by rfl) ⟨rfl, (show tk ≤ tk36 by omega), _, rfl, ⟨_, _, _, _, rfl, rfl, ⟨tki_EncodeVars_L1, false, ks19, rfl, rfl, fun _ => (show Fr tk tk36 _ from (show Fr tk12 (tki_EncodeVars_L1 + 1) _ from Fr.tstop (show Fr tk12 tki_EncodeVars_L1 _ from (hfr19).mono (by omega) (by omega)) (by omega) (by omega)).mono (by omega) (by omega))⟩, rfl⟩⟩

set_option maxRecDepth 100000 in
theorem s_l01Var_ex (i1 : Int) (q2 : Nat) (f2 : Bool) (ks2 : List LT) (O : Heap) (tk : Nat) : ACalls Go.Proofs.Try.prog 57 [.int .i64 i1, .imm q2 4 f2 (cellss ks2)] O tk (RetN O (.agg [.int .i64 5, .int .i64 i1, .str ⟨#[]⟩, .imm q2 4 f2 (cellss ks2)]) tk) := by
  refine acalls_of_run Go.Proofs.Try.func57 rfl rfl [] [] (Bor.nil _) [(0, .int .i64 i1), (1, .imm q2 4 f2 (cellss ks2))] (.cons (entS rfl) (.cons (entS rfl) (.nil _))) (leb rfl) (fun _ h => by cases h) (fun S0 hO htk hfz => ?_)
  refine run_seq ?_
  refine run_region ?_
  refine run_op rfl (alloc_step (d := 4) hG rfl rfl rfl) rfl (ltb rfl) ?_
  refine run_ops_nil ?_
  refine run_seq ?_
  refine run_region ?_
  refine run_pu rfl (move_step (.inl rfl) rfl) rfl (ltb rfl) ?_
  refine run_pu rfl (move_step (.inl rfl) rfl) rfl (ltb rfl) ?_
  refine run_pu rfl (build_step hG rfl (by rfl) rfl (fun h => by cases h) (by rfl)) rfl (ltb rfl) ?_
  refine run_op0 rfl (store_step hG rfl rfl rfl rfl rfl rfl rfl rfl) rfl ?_
  refine run_ops_nil ?_
  refine run_ret_to ?_
  refine fin_x hG rfl rfl rfl (v' := .agg [.int .i64 5, .int .i64 i1, .str ⟨#[]⟩, .imm q2 4 f2 (cellss ks2)]) (by rfl) ⟨rfl, rfl, rfl⟩

def s_EncodeVars_L1 (n : Nat) (l1 : List F) : Nat → Int → List T → Option (List T × Int)
  | 0, _, _ => none
  | m + 1, i11, l12 =>
    if i11 < ((l1).length : Int) then
      (idx l1 i11).bind fun y14 =>
      (s_l09TypeTree n y14).bind fun r19 =>
      (s_l03Big n (T.mk 3 0 ⟨#[111, 102]⟩ [(T.mk 5 0 ⟨#[]⟩ []), r19])).bind fun r26 =>
      if r26 = true then
        some ([], 11)
      else
        chk ((l12).length + ([(T.mk 3 0 ⟨#[116, 109]⟩ []), (T.mk 3 0 ⟨#[111, 102]⟩ [(T.mk 5 0 ⟨#[]⟩ []), r19])]).length ≤ 1099511627776) <|
        s_EncodeVars_L1 n l1 m (IntKind.i64.wrap (i11 + 1)) (l12 ++ [(T.mk 3 0 ⟨#[116, 109]⟩ []), (T.mk 3 0 ⟨#[111, 102]⟩ [(T.mk 5 0 ⟨#[]⟩ []), r19])])
    else
      some (l12, 0)

def s_EncodeVars (n : Nat) (l1 : List F) : Option (List T × Int) :=
  if ((l1).length : Int) > 4096 then
    some ([], 2)
  else
    (s_l09Ctx n l1).bind fun r3 =>
    if (!r3) = true then
      some ([], 1)
    else
      s_EncodeVars_L1 n l1 n 0 ([])

set_option maxRecDepth 100000 in
theorem s_EncodeVars_ok (n : Nat) : ∀ (q1 : Nat) (f1 : Bool) (ks1 : List LF) {r : (List T × Int)}, s_EncodeVars n (fers ks1) = some r → ∀ (O : Heap) (tk : Nat), ACalls Go.Proofs.Try.prog 26 [.imm q1 3 f1 (fcellss ks1)] O tk (RetX O tk (fun v tk' => ∃ r0' r1' v0' v1', r = (r0', r1') ∧ v = .tup [v0', v1'] ∧ VTs true tk tk' r0' v0' ∧ v1' = .int .i64 r1')) := by
  intro q1 f1 ks1 r hM O tk
  unfold s_EncodeVars at hM
  refine acalls_of_run Go.Proofs.Try.func26 rfl rfl [] [] (Bor.nil _) [(0, .imm q1 3 f1 (fcellss ks1))] (.cons (entS rfl) (.nil _)) (leb rfl) (fun _ h => by cases h) (fun S0 hO htk hfz => ?_)
  refine run_seq ?_
  refine run_region ?_
  refine run_pu rfl (move_step (.inr rfl) rfl) rfl (ltb rfl) ?_
  refine run_pu rfl (move_step (.inr rfl) rfl) rfl (ltb rfl) ?_
  refine run_ops_nil ?_
  refine run_seq ?_
  refine run_seq ?_
  refine run_region ?_
  refine run_pu rfl (move_step (.inl rfl) rfl) rfl (ltb rfl) ?_
  refine run_pu rfl (lenImm_step hG rfl rfl rfl rfl (flen _)) rfl (ltb rfl) ?_
  refine run_pu rfl (abin_step rfl rfl rfl rfl (fun _ h => by cases h)) rfl (ltb rfl) ?_
  refine run_ops_nil ?_
  refine run_ifd rfl rfl (fun hb2 => ?_) (fun hb2 => ?_)
  · replace hM := ite_t hb2 hM
    refine run_seq ?_
    refine run_region ?_
    refine run_op rfl (buildSlice_step (d := 10) hG rfl rfl rfl rfl rfl (by rfl) (by rfl) (by rfl) (by decide)) rfl (ltb rfl) ?_
    refine run_pu rfl (move_step (.inr rfl) rfl) rfl (ltb rfl) ?_
    refine run_pu rfl (move_step (.inr rfl) rfl) rfl (ltb rfl) ?_
    refine run_ops_nil ?_
    refine run_ret_to ?_
    refine fin_sub (Sub.freeze (k := 10) rfl rfl) ?_
    obtain rfl := some_t hM
    refine fin_x hG rfl rfl rfl (v' := .tup [.imm tk 4 false (cellss []), .int .i64 2]) (by rfl) ⟨rfl, (show tk ≤ (tk + 1) by omega), _, rfl, ⟨_, _, _, _, rfl, rfl, ⟨tk, false, [], rfl, rfl, fun _ => Fr.nil _ _⟩, rfl⟩⟩
  · replace hM := ite_f hb2 hM
    refine run_skip ?_
    refine run_seq ?_
    refine run_seq ?_
    refine run_region ?_
    refine run_pu rfl (move_step (.inl rfl) rfl) rfl (ltb rfl) ?_
    obtain ⟨r3, hg4, hM⟩ := bind_t hM
    refine run_call rfl rfl rfl (ltb rfl) rfl rfl rfl (fun _ h => absurd h List.not_mem_nil) (s_l09Ctx_ok n q1 f1 ks1 hg4 _ _) (callK_retX (fun v tk5 (hle6 : tk ≤ tk5) h7 => ?_))
    subst h7
    refine run_pu rfl (aun_step rfl rfl rfl) rfl (ltb rfl) ?_
    refine run_ops_nil ?_
    refine run_ifb rfl rfl (fun hb10 => ?_) (fun hb10 => ?_)
    · replace hM := ite_t hb10 hM
      refine run_seq ?_
      refine run_region ?_
      refine run_op rfl (buildSlice_step (d := 14) hG rfl rfl rfl rfl rfl (by rfl) (by rfl) (by rfl) (by decide)) rfl (ltb rfl) ?_
      refine run_pu rfl (move_step (.inr rfl) rfl) rfl (ltb rfl) ?_
      refine run_pu rfl (move_step (.inr rfl) rfl) rfl (ltb rfl) ?_
      refine run_ops_nil ?_
      refine run_ret_to ?_
      refine fin_sub (Sub.freeze (k := 14) rfl rfl) ?_
      obtain rfl := some_t hM
      refine fin_x hG rfl rfl rfl (v' := .tup [.imm tk5 4 false (cellss []), .int .i64 1]) (by rfl) ⟨rfl, (show tk ≤ (tk5 + 1) by omega), _, rfl, ⟨_, _, _, _, rfl, rfl, ⟨tk5, false, [], rfl, rfl, fun _ => Fr.nil _ _⟩, rfl⟩⟩
    · replace hM := ite_f hb10 hM
      refine run_skip ?_
      refine run_seq ?_
      refine run_region ?_
      refine run_op rfl (buildSlice_step (d := 15) hG rfl rfl rfl rfl rfl (by rfl) (by rfl) (by rfl) (by decide)) rfl (ltb rfl) ?_
      refine run_pu rfl (move_step (.inr rfl) rfl) rfl (ltb rfl) ?_
      refine run_ops_nil ?_
      refine run_seq ?_
      refine run_seq ?_
      refine run_region ?_
      refine run_pu rfl (move_step (.inr rfl) rfl) rfl (ltb rfl) ?_
      refine run_ops_nil ?_
      refine run_block ?_
      refine run_rounds (fun m σ => ∃ (i11 : Int) (ks12 : List LT) (tks_EncodeVars_L1 : Nat), tk5 ≤ tks_EncodeVars_L1 ∧ Fr tk5 tks_EncodeVars_L1 (ttoks ks12) ∧ s_EncodeVars_L1 n (fers ks1) m i11 (ers ks12) = some r ∧ σ = ⟨[(0, .imm q1 3 f1 (fcellss ks1)), (2, .imm 0 0 true []), (3, .int .i64 0), (4, .osl (.loc 15)), (5, .int .i64 i11)], [(15, ⟨28, 4, false, cellss ks12⟩)], [], O, tks_EncodeVars_L1⟩) n (Sub.env [(0, .imm q1 3 f1 (fcellss ks1)), (2, .imm 0 0 true []), (3, .int .i64 0), (4, .osl (.loc 15)), (5, .int .i64 0)] ⟨rfl, rfl, rfl, rfl, rfl, trivial⟩) ⟨0, [], tk5, Nat.le_refl _, Fr.nil _ _, hM, rfl⟩ (fun m σ hI => ?_)
      clear hM
      obtain ⟨i11, ks12, tks_EncodeVars_L1, hle85, hfr12, hM, rfl⟩ := hI
      obtain _ | m := m
      · exact absurd hM (by rw [s_EncodeVars_L1]; exact fun h => by cases h)
      rw [s_EncodeVars_L1] at hM
      refine run_seq ?_
      refine run_seq ?_
      refine run_region ?_
      refine run_pu rfl (move_step (.inl rfl) rfl) rfl (ltb rfl) ?_
      refine run_pu rfl (move_step (.inl rfl) rfl) rfl (ltb rfl) ?_
      refine run_pu rfl (lenImm_step hG rfl rfl rfl rfl (flen _)) rfl (ltb rfl) ?_
      refine run_pu rfl (abin_step rfl rfl rfl rfl (fun _ h => by cases h)) rfl (ltb rfl) ?_
      refine run_ops_nil ?_
      refine run_ifd rfl rfl (fun hb13 => ?_) (fun hb13 => ?_)
      · replace hM := ite_t hb13 hM
        refine run_skip ?_
        refine run_seq ?_
        refine run_block ?_
        refine run_seq ?_
        refine run_draw [] (n := 10) mixed rfl (fun _ h => absurd h List.not_mem_nil) ?_
        refine AAny.take (i := 1) rfl (by kernel_rfl) (by kernel_rfl) (by kernel_rfl) rfl rfl (ltb rfl) ((move_step (.inl rfl) rfl).rd _) ?_
        refine AAny.take (i := 2) rfl (by kernel_rfl) (by kernel_rfl) (by kernel_rfl) rfl rfl (ltb rfl) ((move_step (.inl rfl) rfl).rd _) ?_
        obtain ⟨y14, hy15, hM⟩ := bind_t hM
        obtain ⟨k16, n16, q16, f16, ks16, rfl, hc17, hi18⟩ := fidx hy15
        refine AAny.take (i := 3) rfl (by kernel_rfl) (by kernel_rfl) (by kernel_rfl) rfl rfl (ltb rfl) ((indexImm_step hG rfl rfl rfl hi18 rfl rfl rfl rfl hc17).rd _) ?_
        refine AAny.take (i := 4) rfl (by kernel_rfl) (by kernel_rfl) (by kernel_rfl) rfl rfl (ltb rfl) (aload_rd hG rfl rfl rfl (by simp [ldok])) ?_
        refine AAny.eachN (rs := [0, 8]) (by kernel_rfl) (fun h => by cases h) (fun i hi => ?_)
        simp only [List.mem_cons, List.not_mem_nil, or_false] at hi
        rcases hi with rfl | rfl
        · refine AOpN.of ?_
          refine AOp.call rfl rfl rfl rfl (ltb rfl) rfl rfl rfl (fun _ h => absurd h List.not_mem_nil) (fun _ h => absurd h List.not_mem_nil) (ACalls.args (args' := [.int .i64 0, .imm 0 4 true (cellss [])]) rfl (s_l01Var_ex 0 0 true [] _ _)) (callK_retN ?_)
          skip
          refine AAny.eachN (rs := [5, 8]) (by kernel_rfl) (fun h => by cases h) (fun i hi => ?_)
          simp only [List.mem_cons, List.not_mem_nil, or_false] at hi
          rcases hi with rfl | rfl
          · refine AOpN.of ?_
            obtain ⟨r19, hg20, hM⟩ := bind_t hM
            refine AOp.call rfl rfl rfl rfl (ltb rfl) rfl rfl rfl (fun _ h => absurd h List.not_mem_nil) (fun _ h => absurd h List.not_mem_nil) (s_l09TypeTree_ok n k16 n16 q16 f16 ks16 hg20 _ _) (callK_retX (fun v tk21 (hle22 : tks_EncodeVars_L1 ≤ tk21) h23 => ?_))
            obtain ⟨k24, n24, s24, q24, f24, ks24, rfl, rfl, hf25⟩ := h23
            refine AAny.eachN (rs := [6, 8]) (by kernel_rfl) (fun h => by cases h) (fun i hi => ?_)
            simp only [List.mem_cons, List.not_mem_nil, or_false] at hi
            rcases hi with rfl | rfl
            · refine AOpN.of ?_
              refine AOp.step rfl rfl rfl (ltb rfl) (buildSlice_step (d := 28) hG rfl rfl rfl rfl rfl (by rfl) (by rfl) (by rfl) (by decide)) (fun _ h => absurd h List.not_mem_nil) ?_
              refine AAny.sub (Sub.freeze (k := 28) rfl rfl) (fun _ h => absurd h List.not_mem_nil) ?_
              refine AAny.eachN (rs := [7, 8]) (by kernel_rfl) (fun h => by cases h) (fun i hi => ?_)
              simp only [List.mem_cons, List.not_mem_nil, or_false] at hi
              rcases hi with rfl | rfl
              · refine AOpN.of ?_
                refine AOp.call rfl rfl rfl rfl (ltb rfl) rfl rfl rfl (fun _ h => absurd h List.not_mem_nil) (fun _ h => absurd h List.not_mem_nil) (s_l04Fam_ex ⟨#[111, 102]⟩ tk21 false [LT.mk 5 0 ⟨#[]⟩ 0 true [], LT.mk k24 n24 s24 q24 f24 ks24] _ _) (callK_retN ?_)
                skip
                refine AAny.eachN (rs := [8]) (by kernel_rfl) (fun h => by cases h) (fun i hi => ?_)
                simp only [List.mem_cons, List.not_mem_nil, or_false] at hi
                subst hi
                · refine AOpN.alloc hG rfl rfl rfl (ltb rfl) rfl rfl rfl ?_
                  refine AAny.one (i := 9) (by kernel_rfl) (AOp.step0 rfl rfl rfl (store_step hG rfl rfl rfl rfl rfl rfl rfl rfl) (by intro x hx; simp only [stW, List.mem_cons, List.not_mem_nil, or_false] at hx; subst hx; simp) ?_)
                  refine AAny.done (by kernel_rfl) ?_
                  refine run_sub_code (σ' := ⟨[(0, .imm q1 3 f1 (fcellss ks1)), (2, .imm 0 0 true []), (3, .int .i64 0), (4, .osl (.loc 15)), (5, .int .i64 i11), (6, .optr (.loc 6) 0 0)], [(6, ⟨28, 4, true, [[.int .i64 3, .int .i64 0, .str ⟨#[111, 102]⟩, .imm tk21 4 false (cellss [LT.mk 5 0 ⟨#[]⟩ 0 true [], LT.mk k24 n24 s24 q24 f24 ks24])]]⟩), (15, ⟨28, 4, false, cellss ks12⟩)], [], O, (tk21 + 1)⟩) (Sub.env [(0, .imm q1 3 f1 (fcellss ks1)), (2, .imm 0 0 true []), (3, .int .i64 0), (4, .osl (.loc 15)), (5, .int .i64 i11), (6, .optr (.loc 6) 0 0)] ⟨rfl, rfl, rfl, rfl, rfl, rfl, trivial⟩) ?_
                  refine run_seq ?_
                  refine run_seq ?_
                  refine run_region ?_
                  refine run_rd rfl (aload_rd hG rfl rfl rfl (by simp [ldok])) rfl (ltb rfl) ?_
                  obtain ⟨r26, hg27, hM⟩ := bind_t hM
                  refine run_call rfl rfl rfl (ltb rfl) rfl rfl rfl (fun _ h => absurd h List.not_mem_nil) (s_l03Big_ok n 3 0 ⟨#[111, 102]⟩ tk21 false [LT.mk 5 0 ⟨#[]⟩ 0 true [], LT.mk k24 n24 s24 q24 f24 ks24] hg27 _ _) (callK_retX (fun v tk28 (hle29 : (tk21 + 1) ≤ tk28) h30 => ?_))
                  subst h30
                  refine run_ops_nil ?_
                  refine run_ifb rfl rfl (fun hb33 => ?_) (fun hb33 => ?_)
                  · replace hM := ite_t hb33 hM
                    refine run_seq ?_
                    refine run_region ?_
                    refine run_op rfl (buildSlice_step (d := 32) hG rfl rfl rfl rfl rfl (by rfl) (by rfl) (by rfl) (by decide)) rfl (ltb rfl) ?_
                    refine run_pu rfl (move_step (.inr rfl) rfl) rfl (ltb rfl) ?_
                    refine run_pu rfl (move_step (.inr rfl) rfl) rfl (ltb rfl) ?_
                    refine run_ops_nil ?_
                    refine run_ret_to ?_
                    refine fin_sub (Sub.freeze (k := 32) rfl rfl) ?_
                    obtain rfl := some_t hM
                    refine fin_x hG rfl rfl rfl (v' := .tup [.imm tk28 4 false (cellss []), .int .i64 11]) (by rfl) ⟨rfl, (show tk ≤ (tk28 + 1) by omega), _, rfl, ⟨_, _, _, _, rfl, rfl, ⟨tk28, false, [], rfl, rfl, fun _ => Fr.nil _ _⟩, rfl⟩⟩
                  · replace hM := ite_f hb33 hM
                    refine run_skip ?_
                    refine run_draw [.loc 15] (n := 6) mixed rfl (by intro x hx; simp only [List.mem_cons, List.not_mem_nil, or_false] at hx; rcases hx with rfl <;> rfl) ?_
                    refine AAny.take (i := 0) rfl (by kernel_rfl) (by kernel_rfl) (by kernel_rfl) rfl rfl (ltb rfl) ((move_step (.inl rfl) rfl).rd _) ?_
                    refine AAny.take (i := 2) rfl (by kernel_rfl) (by kernel_rfl) (by kernel_rfl) rfl rfl (ltb rfl) (aload_rd hG rfl rfl rfl (by simp [ldok])) ?_
                    refine AAny.one (i := 1) (by kernel_rfl) (AOp.call rfl rfl rfl rfl (ltb rfl) rfl rfl rfl (fun _ h => absurd h List.not_mem_nil) (fun _ h => absurd h List.not_mem_nil) (ACalls.args (args' := [.str ⟨#[116, 109]⟩, .imm 0 4 true (cellss [])]) rfl (s_l01Fam_ex ⟨#[116, 109]⟩ 0 true [] _ _)) (callK_retN ?_))
                    skip
                    refine AAny.one (i := 3) (by kernel_rfl) (AOp.step rfl rfl rfl (ltb rfl) (buildSlice_step (d := 36) hG rfl rfl rfl rfl rfl (by rfl) (by rfl) (by rfl) (by decide)) (fun _ h => absurd h List.not_mem_nil) ?_)
                    obtain ⟨hc34, hM⟩ := chk_t hM
                    try rw [show ((ers ks12) ++ [(T.mk 3 0 ⟨#[116, 109]⟩ []), (T.mk 3 0 ⟨#[111, 102]⟩ [(T.mk 5 0 ⟨#[]⟩ []), (T.mk k24 n24 s24 (ers ks24))])] : List T) = (ers (ks12 ++ [LT.mk 3 0 ⟨#[116, 109]⟩ 0 true [], LT.mk 3 0 ⟨#[111, 102]⟩ tk21 false [LT.mk 5 0 ⟨#[]⟩ 0 true [], LT.mk k24 n24 s24 q24 f24 ks24]])) from ers_app ks12 [LT.mk 3 0 ⟨#[116, 109]⟩ 0 true [], LT.mk 3 0 ⟨#[111, 102]⟩ tk21 false [LT.mk 5 0 ⟨#[]⟩ 0 true [], LT.mk k24 n24 s24 q24 f24 ks24]]] at hM
                    refine AAny.one (i := 4) (by kernel_rfl) (AOp.step rfl rfl rfl (ltb rfl) (appendM_step hG rfl rfl rfl rfl rfl rfl rfl rfl rfl rfl rfl (cellss_sz ([LT.mk 3 0 ⟨#[116, 109]⟩ 0 true [], LT.mk 3 0 ⟨#[111, 102]⟩ tk21 false [LT.mk 5 0 ⟨#[]⟩ 0 true [], LT.mk k24 n24 s24 q24 f24 ks24]])) (tlen _) (tlen ([LT.mk 3 0 ⟨#[116, 109]⟩ 0 true [], LT.mk 3 0 ⟨#[111, 102]⟩ tk21 false [LT.mk 5 0 ⟨#[]⟩ 0 true [], LT.mk k24 n24 s24 q24 f24 ks24]])) hc34 (by decide) (cellss_app _ _)) (by intro x hx; simp only [List.mem_cons, List.not_mem_nil, or_false] at hx; subst hx; simp) ?_)
                    refine AAny.take (i := 5) rfl (by kernel_rfl) (by kernel_rfl) (by kernel_rfl) rfl rfl (ltb rfl) ((move_step (.inr rfl) rfl).rd _) ?_
                    refine AAny.done (by kernel_rfl) ?_
                    refine run_blk ?_
                    refine run_region ?_
                    refine run_pu rfl (move_step (.inl rfl) rfl) rfl (ltb rfl) ?_
                    refine run_pu rfl (abin_step rfl rfl rfl rfl (fun _ h => by cases h)) rfl (ltb rfl) ?_
                    refine run_pu rfl (move_step (.inr rfl) rfl) rfl (ltb rfl) ?_
                    refine run_ops_nil ?_
                    exact run_loop_end ⟨m, _, Nat.lt_succ_self _, ⟨(IntKind.i64.wrap (i11 + 1)), (ks12 ++ [LT.mk 3 0 ⟨#[116, 109]⟩ 0 true [], LT.mk 3 0 ⟨#[111, 102]⟩ tk21 false [LT.mk 5 0 ⟨#[]⟩ 0 true [], LT.mk k24 n24 s24 q24 f24 ks24]]), tk28, (show tk5 ≤ tk28 by omega), (show Fr tk5 tk28 _ from (Fr.tapp (show Fr tk5 tks_EncodeVars_L1 _ from (hfr12).mono (by omega) (by omega)) (Fr.tcons (show Fr tks_EncodeVars_L1 tks_EncodeVars_L1 _ from Fr.nil _ _) (Fr.tcons (show Fr tks_EncodeVars_L1 (tk21 + 1) _ from Fr.tstop (show Fr tks_EncodeVars_L1 tk21 _ from (Fr.tcons (show Fr tks_EncodeVars_L1 tks_EncodeVars_L1 _ from Fr.nil _ _) (Fr.tcons ((show Fr tks_EncodeVars_L1 tk21 _ from hf25 rfl)) (show Fr tk21 tk21 _ from Fr.nil _ _) (by omega) (by omega)) (by omega) (by omega)).mono (by omega) (by omega)) (by omega) (by omega)) (show Fr (tk21 + 1) (tk21 + 1) _ from Fr.nil _ _) (by omega) (by omega)) (by omega) (by omega)) (by omega) (by omega)).mono (by omega) (by omega)), hM, rfl⟩, Sub.trans (Sub.drop (k := 36) rfl) (Sub.trans (Sub.drop (k := 6) rfl) (Sub.env [(0, .imm q1 3 f1 (fcellss ks1)), (2, .imm 0 0 true []), (3, .int .i64 0), (4, .osl (.loc 15)), (5, .int .i64 (IntKind.i64.wrap (i11 + 1)))] ⟨rfl, rfl, rfl, rfl, rfl, trivial⟩))⟩
              · refine AOpN.alloc hG rfl rfl rfl (ltb rfl) rfl rfl rfl ?_
                refine AAny.one (i := 7) (by kernel_rfl) (AOp.call rfl rfl rfl rfl (ltb rfl) rfl rfl rfl (fun _ h => absurd h List.not_mem_nil) (fun _ h => absurd h List.not_mem_nil) (s_l04Fam_ex ⟨#[111, 102]⟩ tk21 false [LT.mk 5 0 ⟨#[]⟩ 0 true [], LT.mk k24 n24 s24 q24 f24 ks24] _ _) (callK_retN ?_))
                skip
                refine AAny.one (i := 9) (by kernel_rfl) (AOp.step0 rfl rfl rfl (store_step hG rfl rfl rfl rfl rfl rfl rfl rfl) (by intro x hx; exact hx) ?_)
                refine AAny.done (by kernel_rfl) ?_
                refine run_sub_code (σ' := ⟨[(0, .imm q1 3 f1 (fcellss ks1)), (2, .imm 0 0 true []), (3, .int .i64 0), (4, .osl (.loc 15)), (5, .int .i64 i11), (6, .optr (.loc 6) 0 0)], [(6, ⟨28, 4, true, [[.int .i64 3, .int .i64 0, .str ⟨#[111, 102]⟩, .imm tk21 4 false (cellss [LT.mk 5 0 ⟨#[]⟩ 0 true [], LT.mk k24 n24 s24 q24 f24 ks24])]]⟩), (15, ⟨28, 4, false, cellss ks12⟩)], [], O, (tk21 + 1)⟩) (Sub.env [(0, .imm q1 3 f1 (fcellss ks1)), (2, .imm 0 0 true []), (3, .int .i64 0), (4, .osl (.loc 15)), (5, .int .i64 i11), (6, .optr (.loc 6) 0 0)] ⟨rfl, rfl, rfl, rfl, rfl, rfl, trivial⟩) ?_
                refine run_seq ?_
                refine run_seq ?_
                refine run_region ?_
                refine run_rd rfl (aload_rd hG rfl rfl rfl (by simp [ldok])) rfl (ltb rfl) ?_
                obtain ⟨r35, hg36, hM⟩ := bind_t hM
                refine run_call rfl rfl rfl (ltb rfl) rfl rfl rfl (fun _ h => absurd h List.not_mem_nil) (s_l03Big_ok n 3 0 ⟨#[111, 102]⟩ tk21 false [LT.mk 5 0 ⟨#[]⟩ 0 true [], LT.mk k24 n24 s24 q24 f24 ks24] hg36 _ _) (callK_retX (fun v tk37 (hle38 : (tk21 + 1) ≤ tk37) h39 => ?_))
                subst h39
                refine run_ops_nil ?_
                refine run_ifb rfl rfl (fun hb42 => ?_) (fun hb42 => ?_)
                · replace hM := ite_t hb42 hM
                  refine run_seq ?_
                  refine run_region ?_
                  refine run_op rfl (buildSlice_step (d := 32) hG rfl rfl rfl rfl rfl (by rfl) (by rfl) (by rfl) (by decide)) rfl (ltb rfl) ?_
                  refine run_pu rfl (move_step (.inr rfl) rfl) rfl (ltb rfl) ?_
                  refine run_pu rfl (move_step (.inr rfl) rfl) rfl (ltb rfl) ?_
                  refine run_ops_nil ?_
                  refine run_ret_to ?_
                  refine fin_sub (Sub.freeze (k := 32) rfl rfl) ?_
                  obtain rfl := some_t hM
                  refine fin_x hG rfl rfl rfl (v' := .tup [.imm tk37 4 false (cellss []), .int .i64 11]) (by rfl) ⟨rfl, (show tk ≤ (tk37 + 1) by omega), _, rfl, ⟨_, _, _, _, rfl, rfl, ⟨tk37, false, [], rfl, rfl, fun _ => Fr.nil _ _⟩, rfl⟩⟩
                · replace hM := ite_f hb42 hM
                  refine run_skip ?_
                  refine run_draw [.loc 15] (n := 6) mixed rfl (by intro x hx; simp only [List.mem_cons, List.not_mem_nil, or_false] at hx; rcases hx with rfl <;> rfl) ?_
                  refine AAny.take (i := 0) rfl (by kernel_rfl) (by kernel_rfl) (by kernel_rfl) rfl rfl (ltb rfl) ((move_step (.inl rfl) rfl).rd _) ?_
                  refine AAny.take (i := 2) rfl (by kernel_rfl) (by kernel_rfl) (by kernel_rfl) rfl rfl (ltb rfl) (aload_rd hG rfl rfl rfl (by simp [ldok])) ?_
                  refine AAny.one (i := 1) (by kernel_rfl) (AOp.call rfl rfl rfl rfl (ltb rfl) rfl rfl rfl (fun _ h => absurd h List.not_mem_nil) (fun _ h => absurd h List.not_mem_nil) (ACalls.args (args' := [.str ⟨#[116, 109]⟩, .imm 0 4 true (cellss [])]) rfl (s_l01Fam_ex ⟨#[116, 109]⟩ 0 true [] _ _)) (callK_retN ?_))
                  skip
                  refine AAny.one (i := 3) (by kernel_rfl) (AOp.step rfl rfl rfl (ltb rfl) (buildSlice_step (d := 36) hG rfl rfl rfl rfl rfl (by rfl) (by rfl) (by rfl) (by decide)) (fun _ h => absurd h List.not_mem_nil) ?_)
                  obtain ⟨hc43, hM⟩ := chk_t hM
                  try rw [show ((ers ks12) ++ [(T.mk 3 0 ⟨#[116, 109]⟩ []), (T.mk 3 0 ⟨#[111, 102]⟩ [(T.mk 5 0 ⟨#[]⟩ []), (T.mk k24 n24 s24 (ers ks24))])] : List T) = (ers (ks12 ++ [LT.mk 3 0 ⟨#[116, 109]⟩ 0 true [], LT.mk 3 0 ⟨#[111, 102]⟩ tk21 false [LT.mk 5 0 ⟨#[]⟩ 0 true [], LT.mk k24 n24 s24 q24 f24 ks24]])) from ers_app ks12 [LT.mk 3 0 ⟨#[116, 109]⟩ 0 true [], LT.mk 3 0 ⟨#[111, 102]⟩ tk21 false [LT.mk 5 0 ⟨#[]⟩ 0 true [], LT.mk k24 n24 s24 q24 f24 ks24]]] at hM
                  refine AAny.one (i := 4) (by kernel_rfl) (AOp.step rfl rfl rfl (ltb rfl) (appendM_step hG rfl rfl rfl rfl rfl rfl rfl rfl rfl rfl rfl (cellss_sz ([LT.mk 3 0 ⟨#[116, 109]⟩ 0 true [], LT.mk 3 0 ⟨#[111, 102]⟩ tk21 false [LT.mk 5 0 ⟨#[]⟩ 0 true [], LT.mk k24 n24 s24 q24 f24 ks24]])) (tlen _) (tlen ([LT.mk 3 0 ⟨#[116, 109]⟩ 0 true [], LT.mk 3 0 ⟨#[111, 102]⟩ tk21 false [LT.mk 5 0 ⟨#[]⟩ 0 true [], LT.mk k24 n24 s24 q24 f24 ks24]])) hc43 (by decide) (cellss_app _ _)) (by intro x hx; simp only [List.mem_cons, List.not_mem_nil, or_false] at hx; subst hx; simp) ?_)
                  refine AAny.take (i := 5) rfl (by kernel_rfl) (by kernel_rfl) (by kernel_rfl) rfl rfl (ltb rfl) ((move_step (.inr rfl) rfl).rd _) ?_
                  refine AAny.done (by kernel_rfl) ?_
                  refine run_blk ?_
                  refine run_region ?_
                  refine run_pu rfl (move_step (.inl rfl) rfl) rfl (ltb rfl) ?_
                  refine run_pu rfl (abin_step rfl rfl rfl rfl (fun _ h => by cases h)) rfl (ltb rfl) ?_
                  refine run_pu rfl (move_step (.inr rfl) rfl) rfl (ltb rfl) ?_
                  refine run_ops_nil ?_
                  exact run_loop_end ⟨m, _, Nat.lt_succ_self _, ⟨(IntKind.i64.wrap (i11 + 1)), (ks12 ++ [LT.mk 3 0 ⟨#[116, 109]⟩ 0 true [], LT.mk 3 0 ⟨#[111, 102]⟩ tk21 false [LT.mk 5 0 ⟨#[]⟩ 0 true [], LT.mk k24 n24 s24 q24 f24 ks24]]), tk37, (show tk5 ≤ tk37 by omega), (show Fr tk5 tk37 _ from (Fr.tapp (show Fr tk5 tks_EncodeVars_L1 _ from (hfr12).mono (by omega) (by omega)) (Fr.tcons (show Fr tks_EncodeVars_L1 tks_EncodeVars_L1 _ from Fr.nil _ _) (Fr.tcons (show Fr tks_EncodeVars_L1 (tk21 + 1) _ from Fr.tstop (show Fr tks_EncodeVars_L1 tk21 _ from (Fr.tcons (show Fr tks_EncodeVars_L1 tks_EncodeVars_L1 _ from Fr.nil _ _) (Fr.tcons ((show Fr tks_EncodeVars_L1 tk21 _ from hf25 rfl)) (show Fr tk21 tk21 _ from Fr.nil _ _) (by omega) (by omega)) (by omega) (by omega)).mono (by omega) (by omega)) (by omega) (by omega)) (show Fr (tk21 + 1) (tk21 + 1) _ from Fr.nil _ _) (by omega) (by omega)) (by omega) (by omega)) (by omega) (by omega)).mono (by omega) (by omega)), hM, rfl⟩, Sub.trans (Sub.drop (k := 36) rfl) (Sub.trans (Sub.drop (k := 6) rfl) (Sub.env [(0, .imm q1 3 f1 (fcellss ks1)), (2, .imm 0 0 true []), (3, .int .i64 0), (4, .osl (.loc 15)), (5, .int .i64 (IntKind.i64.wrap (i11 + 1)))] ⟨rfl, rfl, rfl, rfl, rfl, trivial⟩))⟩
            · refine AOpN.alloc hG rfl rfl rfl (ltb rfl) rfl rfl rfl ?_
              refine AAny.one (i := 6) (by kernel_rfl) (AOp.step rfl rfl rfl (ltb rfl) (buildSlice_step (d := 28) hG rfl rfl rfl rfl rfl (by rfl) (by rfl) (by rfl) (by decide)) (fun _ h => absurd h List.not_mem_nil) ?_)
              refine AAny.sub (Sub.freeze (k := 28) rfl rfl) (by intro x hx; simp only [List.mem_cons, List.not_mem_nil, or_false] at hx; rcases hx with rfl <;> rfl) ?_
              refine AAny.one (i := 7) (by kernel_rfl) (AOp.call rfl rfl rfl rfl (ltb rfl) rfl rfl rfl (fun _ h => absurd h List.not_mem_nil) (fun _ h => absurd h List.not_mem_nil) (s_l04Fam_ex ⟨#[111, 102]⟩ tk21 false [LT.mk 5 0 ⟨#[]⟩ 0 true [], LT.mk k24 n24 s24 q24 f24 ks24] _ _) (callK_retN ?_))
              skip
              refine AAny.one (i := 9) (by kernel_rfl) (AOp.step0 rfl rfl rfl (store_step hG rfl rfl rfl rfl rfl rfl rfl rfl) (by intro x hx; exact hx) ?_)
              refine AAny.done (by kernel_rfl) ?_
              refine run_sub_code (σ' := ⟨[(0, .imm q1 3 f1 (fcellss ks1)), (2, .imm 0 0 true []), (3, .int .i64 0), (4, .osl (.loc 15)), (5, .int .i64 i11), (6, .optr (.loc 6) 0 0)], [(6, ⟨28, 4, true, [[.int .i64 3, .int .i64 0, .str ⟨#[111, 102]⟩, .imm tk21 4 false (cellss [LT.mk 5 0 ⟨#[]⟩ 0 true [], LT.mk k24 n24 s24 q24 f24 ks24])]]⟩), (15, ⟨28, 4, false, cellss ks12⟩)], [], O, (tk21 + 1)⟩) (Sub.env [(0, .imm q1 3 f1 (fcellss ks1)), (2, .imm 0 0 true []), (3, .int .i64 0), (4, .osl (.loc 15)), (5, .int .i64 i11), (6, .optr (.loc 6) 0 0)] ⟨rfl, rfl, rfl, rfl, rfl, rfl, trivial⟩) ?_
              refine run_seq ?_
              refine run_seq ?_
              refine run_region ?_
              refine run_rd rfl (aload_rd hG rfl rfl rfl (by simp [ldok])) rfl (ltb rfl) ?_
              obtain ⟨r44, hg45, hM⟩ := bind_t hM
              refine run_call rfl rfl rfl (ltb rfl) rfl rfl rfl (fun _ h => absurd h List.not_mem_nil) (s_l03Big_ok n 3 0 ⟨#[111, 102]⟩ tk21 false [LT.mk 5 0 ⟨#[]⟩ 0 true [], LT.mk k24 n24 s24 q24 f24 ks24] hg45 _ _) (callK_retX (fun v tk46 (hle47 : (tk21 + 1) ≤ tk46) h48 => ?_))
              subst h48
              refine run_ops_nil ?_
              refine run_ifb rfl rfl (fun hb51 => ?_) (fun hb51 => ?_)
              · replace hM := ite_t hb51 hM
                refine run_seq ?_
                refine run_region ?_
                refine run_op rfl (buildSlice_step (d := 32) hG rfl rfl rfl rfl rfl (by rfl) (by rfl) (by rfl) (by decide)) rfl (ltb rfl) ?_
                refine run_pu rfl (move_step (.inr rfl) rfl) rfl (ltb rfl) ?_
                refine run_pu rfl (move_step (.inr rfl) rfl) rfl (ltb rfl) ?_
                refine run_ops_nil ?_
                refine run_ret_to ?_
                refine fin_sub (Sub.freeze (k := 32) rfl rfl) ?_
                obtain rfl := some_t hM
                refine fin_x hG rfl rfl rfl (v' := .tup [.imm tk46 4 false (cellss []), .int .i64 11]) (by rfl) ⟨rfl, (show tk ≤ (tk46 + 1) by omega), _, rfl, ⟨_, _, _, _, rfl, rfl, ⟨tk46, false, [], rfl, rfl, fun _ => Fr.nil _ _⟩, rfl⟩⟩
              · replace hM := ite_f hb51 hM
                refine run_skip ?_
                refine run_draw [.loc 15] (n := 6) mixed rfl (by intro x hx; simp only [List.mem_cons, List.not_mem_nil, or_false] at hx; rcases hx with rfl <;> rfl) ?_
                refine AAny.take (i := 0) rfl (by kernel_rfl) (by kernel_rfl) (by kernel_rfl) rfl rfl (ltb rfl) ((move_step (.inl rfl) rfl).rd _) ?_
                refine AAny.take (i := 2) rfl (by kernel_rfl) (by kernel_rfl) (by kernel_rfl) rfl rfl (ltb rfl) (aload_rd hG rfl rfl rfl (by simp [ldok])) ?_
                refine AAny.one (i := 1) (by kernel_rfl) (AOp.call rfl rfl rfl rfl (ltb rfl) rfl rfl rfl (fun _ h => absurd h List.not_mem_nil) (fun _ h => absurd h List.not_mem_nil) (ACalls.args (args' := [.str ⟨#[116, 109]⟩, .imm 0 4 true (cellss [])]) rfl (s_l01Fam_ex ⟨#[116, 109]⟩ 0 true [] _ _)) (callK_retN ?_))
                skip
                refine AAny.one (i := 3) (by kernel_rfl) (AOp.step rfl rfl rfl (ltb rfl) (buildSlice_step (d := 36) hG rfl rfl rfl rfl rfl (by rfl) (by rfl) (by rfl) (by decide)) (fun _ h => absurd h List.not_mem_nil) ?_)
                obtain ⟨hc52, hM⟩ := chk_t hM
                try rw [show ((ers ks12) ++ [(T.mk 3 0 ⟨#[116, 109]⟩ []), (T.mk 3 0 ⟨#[111, 102]⟩ [(T.mk 5 0 ⟨#[]⟩ []), (T.mk k24 n24 s24 (ers ks24))])] : List T) = (ers (ks12 ++ [LT.mk 3 0 ⟨#[116, 109]⟩ 0 true [], LT.mk 3 0 ⟨#[111, 102]⟩ tk21 false [LT.mk 5 0 ⟨#[]⟩ 0 true [], LT.mk k24 n24 s24 q24 f24 ks24]])) from ers_app ks12 [LT.mk 3 0 ⟨#[116, 109]⟩ 0 true [], LT.mk 3 0 ⟨#[111, 102]⟩ tk21 false [LT.mk 5 0 ⟨#[]⟩ 0 true [], LT.mk k24 n24 s24 q24 f24 ks24]]] at hM
                refine AAny.one (i := 4) (by kernel_rfl) (AOp.step rfl rfl rfl (ltb rfl) (appendM_step hG rfl rfl rfl rfl rfl rfl rfl rfl rfl rfl rfl (cellss_sz ([LT.mk 3 0 ⟨#[116, 109]⟩ 0 true [], LT.mk 3 0 ⟨#[111, 102]⟩ tk21 false [LT.mk 5 0 ⟨#[]⟩ 0 true [], LT.mk k24 n24 s24 q24 f24 ks24]])) (tlen _) (tlen ([LT.mk 3 0 ⟨#[116, 109]⟩ 0 true [], LT.mk 3 0 ⟨#[111, 102]⟩ tk21 false [LT.mk 5 0 ⟨#[]⟩ 0 true [], LT.mk k24 n24 s24 q24 f24 ks24]])) hc52 (by decide) (cellss_app _ _)) (by intro x hx; simp only [List.mem_cons, List.not_mem_nil, or_false] at hx; subst hx; simp) ?_)
                refine AAny.take (i := 5) rfl (by kernel_rfl) (by kernel_rfl) (by kernel_rfl) rfl rfl (ltb rfl) ((move_step (.inr rfl) rfl).rd _) ?_
                refine AAny.done (by kernel_rfl) ?_
                refine run_blk ?_
                refine run_region ?_
                refine run_pu rfl (move_step (.inl rfl) rfl) rfl (ltb rfl) ?_
                refine run_pu rfl (abin_step rfl rfl rfl rfl (fun _ h => by cases h)) rfl (ltb rfl) ?_
                refine run_pu rfl (move_step (.inr rfl) rfl) rfl (ltb rfl) ?_
                refine run_ops_nil ?_
                exact run_loop_end ⟨m, _, Nat.lt_succ_self _, ⟨(IntKind.i64.wrap (i11 + 1)), (ks12 ++ [LT.mk 3 0 ⟨#[116, 109]⟩ 0 true [], LT.mk 3 0 ⟨#[111, 102]⟩ tk21 false [LT.mk 5 0 ⟨#[]⟩ 0 true [], LT.mk k24 n24 s24 q24 f24 ks24]]), tk46, (show tk5 ≤ tk46 by omega), (show Fr tk5 tk46 _ from (Fr.tapp (show Fr tk5 tks_EncodeVars_L1 _ from (hfr12).mono (by omega) (by omega)) (Fr.tcons (show Fr tks_EncodeVars_L1 tks_EncodeVars_L1 _ from Fr.nil _ _) (Fr.tcons (show Fr tks_EncodeVars_L1 (tk21 + 1) _ from Fr.tstop (show Fr tks_EncodeVars_L1 tk21 _ from (Fr.tcons (show Fr tks_EncodeVars_L1 tks_EncodeVars_L1 _ from Fr.nil _ _) (Fr.tcons ((show Fr tks_EncodeVars_L1 tk21 _ from hf25 rfl)) (show Fr tk21 tk21 _ from Fr.nil _ _) (by omega) (by omega)) (by omega) (by omega)).mono (by omega) (by omega)) (by omega) (by omega)) (show Fr (tk21 + 1) (tk21 + 1) _ from Fr.nil _ _) (by omega) (by omega)) (by omega) (by omega)) (by omega) (by omega)).mono (by omega) (by omega)), hM, rfl⟩, Sub.trans (Sub.drop (k := 36) rfl) (Sub.trans (Sub.drop (k := 6) rfl) (Sub.env [(0, .imm q1 3 f1 (fcellss ks1)), (2, .imm 0 0 true []), (3, .int .i64 0), (4, .osl (.loc 15)), (5, .int .i64 (IntKind.i64.wrap (i11 + 1)))] ⟨rfl, rfl, rfl, rfl, rfl, trivial⟩))⟩
          · refine AOpN.alloc hG rfl rfl rfl (ltb rfl) rfl rfl rfl ?_
            obtain ⟨r53, hg54, hM⟩ := bind_t hM
            refine AAny.one (i := 5) (by kernel_rfl) (AOp.call rfl rfl rfl rfl (ltb rfl) rfl rfl rfl (fun _ h => absurd h List.not_mem_nil) (fun _ h => absurd h List.not_mem_nil) (s_l09TypeTree_ok n k16 n16 q16 f16 ks16 hg54 _ _) (callK_retX (fun v tk55 (hle56 : tks_EncodeVars_L1 ≤ tk55) h57 => ?_)))
            obtain ⟨k58, n58, s58, q58, f58, ks58, rfl, rfl, hf59⟩ := h57
            refine AAny.one (i := 6) (by kernel_rfl) (AOp.step rfl rfl rfl (ltb rfl) (buildSlice_step (d := 28) hG rfl rfl rfl rfl rfl (by rfl) (by rfl) (by rfl) (by decide)) (fun _ h => absurd h List.not_mem_nil) ?_)
            refine AAny.sub (Sub.freeze (k := 28) rfl rfl) (by intro x hx; simp only [List.mem_cons, List.not_mem_nil, or_false] at hx; rcases hx with rfl <;> rfl) ?_
            refine AAny.one (i := 7) (by kernel_rfl) (AOp.call rfl rfl rfl rfl (ltb rfl) rfl rfl rfl (fun _ h => absurd h List.not_mem_nil) (fun _ h => absurd h List.not_mem_nil) (s_l04Fam_ex ⟨#[111, 102]⟩ tk55 false [LT.mk 5 0 ⟨#[]⟩ 0 true [], LT.mk k58 n58 s58 q58 f58 ks58] _ _) (callK_retN ?_))
            skip
            refine AAny.one (i := 9) (by kernel_rfl) (AOp.step0 rfl rfl rfl (store_step hG rfl rfl rfl rfl rfl rfl rfl rfl) (by intro x hx; exact hx) ?_)
            refine AAny.done (by kernel_rfl) ?_
            refine run_sub_code (σ' := ⟨[(0, .imm q1 3 f1 (fcellss ks1)), (2, .imm 0 0 true []), (3, .int .i64 0), (4, .osl (.loc 15)), (5, .int .i64 i11), (6, .optr (.loc 6) 0 0)], [(6, ⟨28, 4, true, [[.int .i64 3, .int .i64 0, .str ⟨#[111, 102]⟩, .imm tk55 4 false (cellss [LT.mk 5 0 ⟨#[]⟩ 0 true [], LT.mk k58 n58 s58 q58 f58 ks58])]]⟩), (15, ⟨28, 4, false, cellss ks12⟩)], [], O, (tk55 + 1)⟩) (Sub.env [(0, .imm q1 3 f1 (fcellss ks1)), (2, .imm 0 0 true []), (3, .int .i64 0), (4, .osl (.loc 15)), (5, .int .i64 i11), (6, .optr (.loc 6) 0 0)] ⟨rfl, rfl, rfl, rfl, rfl, rfl, trivial⟩) ?_
            refine run_seq ?_
            refine run_seq ?_
            refine run_region ?_
            refine run_rd rfl (aload_rd hG rfl rfl rfl (by simp [ldok])) rfl (ltb rfl) ?_
            obtain ⟨r60, hg61, hM⟩ := bind_t hM
            refine run_call rfl rfl rfl (ltb rfl) rfl rfl rfl (fun _ h => absurd h List.not_mem_nil) (s_l03Big_ok n 3 0 ⟨#[111, 102]⟩ tk55 false [LT.mk 5 0 ⟨#[]⟩ 0 true [], LT.mk k58 n58 s58 q58 f58 ks58] hg61 _ _) (callK_retX (fun v tk62 (hle63 : (tk55 + 1) ≤ tk62) h64 => ?_))
            subst h64
            refine run_ops_nil ?_
            refine run_ifb rfl rfl (fun hb67 => ?_) (fun hb67 => ?_)
            · replace hM := ite_t hb67 hM
              refine run_seq ?_
              refine run_region ?_
              refine run_op rfl (buildSlice_step (d := 32) hG rfl rfl rfl rfl rfl (by rfl) (by rfl) (by rfl) (by decide)) rfl (ltb rfl) ?_
              refine run_pu rfl (move_step (.inr rfl) rfl) rfl (ltb rfl) ?_
              refine run_pu rfl (move_step (.inr rfl) rfl) rfl (ltb rfl) ?_
              refine run_ops_nil ?_
              refine run_ret_to ?_
              refine fin_sub (Sub.freeze (k := 32) rfl rfl) ?_
              obtain rfl := some_t hM
              refine fin_x hG rfl rfl rfl (v' := .tup [.imm tk62 4 false (cellss []), .int .i64 11]) (by rfl) ⟨rfl, (show tk ≤ (tk62 + 1) by omega), _, rfl, ⟨_, _, _, _, rfl, rfl, ⟨tk62, false, [], rfl, rfl, fun _ => Fr.nil _ _⟩, rfl⟩⟩
            · replace hM := ite_f hb67 hM
              refine run_skip ?_
              refine run_draw [.loc 15] (n := 6) mixed rfl (by intro x hx; simp only [List.mem_cons, List.not_mem_nil, or_false] at hx; rcases hx with rfl <;> rfl) ?_
              refine AAny.take (i := 0) rfl (by kernel_rfl) (by kernel_rfl) (by kernel_rfl) rfl rfl (ltb rfl) ((move_step (.inl rfl) rfl).rd _) ?_
              refine AAny.take (i := 2) rfl (by kernel_rfl) (by kernel_rfl) (by kernel_rfl) rfl rfl (ltb rfl) (aload_rd hG rfl rfl rfl (by simp [ldok])) ?_
              refine AAny.one (i := 1) (by kernel_rfl) (AOp.call rfl rfl rfl rfl (ltb rfl) rfl rfl rfl (fun _ h => absurd h List.not_mem_nil) (fun _ h => absurd h List.not_mem_nil) (ACalls.args (args' := [.str ⟨#[116, 109]⟩, .imm 0 4 true (cellss [])]) rfl (s_l01Fam_ex ⟨#[116, 109]⟩ 0 true [] _ _)) (callK_retN ?_))
              skip
              refine AAny.one (i := 3) (by kernel_rfl) (AOp.step rfl rfl rfl (ltb rfl) (buildSlice_step (d := 36) hG rfl rfl rfl rfl rfl (by rfl) (by rfl) (by rfl) (by decide)) (fun _ h => absurd h List.not_mem_nil) ?_)
              obtain ⟨hc68, hM⟩ := chk_t hM
              try rw [show ((ers ks12) ++ [(T.mk 3 0 ⟨#[116, 109]⟩ []), (T.mk 3 0 ⟨#[111, 102]⟩ [(T.mk 5 0 ⟨#[]⟩ []), (T.mk k58 n58 s58 (ers ks58))])] : List T) = (ers (ks12 ++ [LT.mk 3 0 ⟨#[116, 109]⟩ 0 true [], LT.mk 3 0 ⟨#[111, 102]⟩ tk55 false [LT.mk 5 0 ⟨#[]⟩ 0 true [], LT.mk k58 n58 s58 q58 f58 ks58]])) from ers_app ks12 [LT.mk 3 0 ⟨#[116, 109]⟩ 0 true [], LT.mk 3 0 ⟨#[111, 102]⟩ tk55 false [LT.mk 5 0 ⟨#[]⟩ 0 true [], LT.mk k58 n58 s58 q58 f58 ks58]]] at hM
              refine AAny.one (i := 4) (by kernel_rfl) (AOp.step rfl rfl rfl (ltb rfl) (appendM_step hG rfl rfl rfl rfl rfl rfl rfl rfl rfl rfl rfl (cellss_sz ([LT.mk 3 0 ⟨#[116, 109]⟩ 0 true [], LT.mk 3 0 ⟨#[111, 102]⟩ tk55 false [LT.mk 5 0 ⟨#[]⟩ 0 true [], LT.mk k58 n58 s58 q58 f58 ks58]])) (tlen _) (tlen ([LT.mk 3 0 ⟨#[116, 109]⟩ 0 true [], LT.mk 3 0 ⟨#[111, 102]⟩ tk55 false [LT.mk 5 0 ⟨#[]⟩ 0 true [], LT.mk k58 n58 s58 q58 f58 ks58]])) hc68 (by decide) (cellss_app _ _)) (by intro x hx; simp only [List.mem_cons, List.not_mem_nil, or_false] at hx; subst hx; simp) ?_)
              refine AAny.take (i := 5) rfl (by kernel_rfl) (by kernel_rfl) (by kernel_rfl) rfl rfl (ltb rfl) ((move_step (.inr rfl) rfl).rd _) ?_
              refine AAny.done (by kernel_rfl) ?_
              refine run_blk ?_
              refine run_region ?_
              refine run_pu rfl (move_step (.inl rfl) rfl) rfl (ltb rfl) ?_
              refine run_pu rfl (abin_step rfl rfl rfl rfl (fun _ h => by cases h)) rfl (ltb rfl) ?_
              refine run_pu rfl (move_step (.inr rfl) rfl) rfl (ltb rfl) ?_
              refine run_ops_nil ?_
              exact run_loop_end ⟨m, _, Nat.lt_succ_self _, ⟨(IntKind.i64.wrap (i11 + 1)), (ks12 ++ [LT.mk 3 0 ⟨#[116, 109]⟩ 0 true [], LT.mk 3 0 ⟨#[111, 102]⟩ tk55 false [LT.mk 5 0 ⟨#[]⟩ 0 true [], LT.mk k58 n58 s58 q58 f58 ks58]]), tk62, (show tk5 ≤ tk62 by omega), (show Fr tk5 tk62 _ from (Fr.tapp (show Fr tk5 tks_EncodeVars_L1 _ from (hfr12).mono (by omega) (by omega)) (Fr.tcons (show Fr tks_EncodeVars_L1 tks_EncodeVars_L1 _ from Fr.nil _ _) (Fr.tcons (show Fr tks_EncodeVars_L1 (tk55 + 1) _ from Fr.tstop (show Fr tks_EncodeVars_L1 tk55 _ from (Fr.tcons (show Fr tks_EncodeVars_L1 tks_EncodeVars_L1 _ from Fr.nil _ _) (Fr.tcons ((show Fr tks_EncodeVars_L1 tk55 _ from hf59 rfl)) (show Fr tk55 tk55 _ from Fr.nil _ _) (by omega) (by omega)) (by omega) (by omega)).mono (by omega) (by omega)) (by omega) (by omega)) (show Fr (tk55 + 1) (tk55 + 1) _ from Fr.nil _ _) (by omega) (by omega)) (by omega) (by omega)) (by omega) (by omega)).mono (by omega) (by omega)), hM, rfl⟩, Sub.trans (Sub.drop (k := 36) rfl) (Sub.trans (Sub.drop (k := 6) rfl) (Sub.env [(0, .imm q1 3 f1 (fcellss ks1)), (2, .imm 0 0 true []), (3, .int .i64 0), (4, .osl (.loc 15)), (5, .int .i64 (IntKind.i64.wrap (i11 + 1)))] ⟨rfl, rfl, rfl, rfl, rfl, trivial⟩))⟩
        · refine AOpN.alloc hG rfl rfl rfl (ltb rfl) rfl rfl rfl ?_
          refine AAny.one (i := 0) (by kernel_rfl) (AOp.call rfl rfl rfl rfl (ltb rfl) rfl rfl rfl (fun _ h => absurd h List.not_mem_nil) (fun _ h => absurd h List.not_mem_nil) (ACalls.args (args' := [.int .i64 0, .imm 0 4 true (cellss [])]) rfl (s_l01Var_ex 0 0 true [] _ _)) (callK_retN ?_))
          skip
          obtain ⟨r69, hg70, hM⟩ := bind_t hM
          refine AAny.one (i := 5) (by kernel_rfl) (AOp.call rfl rfl rfl rfl (ltb rfl) rfl rfl rfl (fun _ h => absurd h List.not_mem_nil) (fun _ h => absurd h List.not_mem_nil) (s_l09TypeTree_ok n k16 n16 q16 f16 ks16 hg70 _ _) (callK_retX (fun v tk71 (hle72 : tks_EncodeVars_L1 ≤ tk71) h73 => ?_)))
          obtain ⟨k74, n74, s74, q74, f74, ks74, rfl, rfl, hf75⟩ := h73
          refine AAny.one (i := 6) (by kernel_rfl) (AOp.step rfl rfl rfl (ltb rfl) (buildSlice_step (d := 28) hG rfl rfl rfl rfl rfl (by rfl) (by rfl) (by rfl) (by decide)) (fun _ h => absurd h List.not_mem_nil) ?_)
          refine AAny.sub (Sub.freeze (k := 28) rfl rfl) (by intro x hx; simp only [List.mem_cons, List.not_mem_nil, or_false] at hx; rcases hx with rfl <;> rfl) ?_
          refine AAny.one (i := 7) (by kernel_rfl) (AOp.call rfl rfl rfl rfl (ltb rfl) rfl rfl rfl (fun _ h => absurd h List.not_mem_nil) (fun _ h => absurd h List.not_mem_nil) (s_l04Fam_ex ⟨#[111, 102]⟩ tk71 false [LT.mk 5 0 ⟨#[]⟩ 0 true [], LT.mk k74 n74 s74 q74 f74 ks74] _ _) (callK_retN ?_))
          skip
          refine AAny.one (i := 9) (by kernel_rfl) (AOp.step0 rfl rfl rfl (store_step hG rfl rfl rfl rfl rfl rfl rfl rfl) (by intro x hx; exact hx) ?_)
          refine AAny.done (by kernel_rfl) ?_
          refine run_sub_code (σ' := ⟨[(0, .imm q1 3 f1 (fcellss ks1)), (2, .imm 0 0 true []), (3, .int .i64 0), (4, .osl (.loc 15)), (5, .int .i64 i11), (6, .optr (.loc 6) 0 0)], [(6, ⟨28, 4, true, [[.int .i64 3, .int .i64 0, .str ⟨#[111, 102]⟩, .imm tk71 4 false (cellss [LT.mk 5 0 ⟨#[]⟩ 0 true [], LT.mk k74 n74 s74 q74 f74 ks74])]]⟩), (15, ⟨28, 4, false, cellss ks12⟩)], [], O, (tk71 + 1)⟩) (Sub.env [(0, .imm q1 3 f1 (fcellss ks1)), (2, .imm 0 0 true []), (3, .int .i64 0), (4, .osl (.loc 15)), (5, .int .i64 i11), (6, .optr (.loc 6) 0 0)] ⟨rfl, rfl, rfl, rfl, rfl, rfl, trivial⟩) ?_
          refine run_seq ?_
          refine run_seq ?_
          refine run_region ?_
          refine run_rd rfl (aload_rd hG rfl rfl rfl (by simp [ldok])) rfl (ltb rfl) ?_
          obtain ⟨r76, hg77, hM⟩ := bind_t hM
          refine run_call rfl rfl rfl (ltb rfl) rfl rfl rfl (fun _ h => absurd h List.not_mem_nil) (s_l03Big_ok n 3 0 ⟨#[111, 102]⟩ tk71 false [LT.mk 5 0 ⟨#[]⟩ 0 true [], LT.mk k74 n74 s74 q74 f74 ks74] hg77 _ _) (callK_retX (fun v tk78 (hle79 : (tk71 + 1) ≤ tk78) h80 => ?_))
          subst h80
          refine run_ops_nil ?_
          refine run_ifb rfl rfl (fun hb83 => ?_) (fun hb83 => ?_)
          · replace hM := ite_t hb83 hM
            refine run_seq ?_
            refine run_region ?_
            refine run_op rfl (buildSlice_step (d := 32) hG rfl rfl rfl rfl rfl (by rfl) (by rfl) (by rfl) (by decide)) rfl (ltb rfl) ?_
            refine run_pu rfl (move_step (.inr rfl) rfl) rfl (ltb rfl) ?_
            refine run_pu rfl (move_step (.inr rfl) rfl) rfl (ltb rfl) ?_
            refine run_ops_nil ?_
            refine run_ret_to ?_
            refine fin_sub (Sub.freeze (k := 32) rfl rfl) ?_
            obtain rfl := some_t hM
            refine fin_x hG rfl rfl rfl (v' := .tup [.imm tk78 4 false (cellss []), .int .i64 11]) (by rfl) ⟨rfl, (show tk ≤ (tk78 + 1) by omega), _, rfl, ⟨_, _, _, _, rfl, rfl, ⟨tk78, false, [], rfl, rfl, fun _ => Fr.nil _ _⟩, rfl⟩⟩
          · replace hM := ite_f hb83 hM
            refine run_skip ?_
            refine run_draw [.loc 15] (n := 6) mixed rfl (by intro x hx; simp only [List.mem_cons, List.not_mem_nil, or_false] at hx; rcases hx with rfl <;> rfl) ?_
            refine AAny.take (i := 0) rfl (by kernel_rfl) (by kernel_rfl) (by kernel_rfl) rfl rfl (ltb rfl) ((move_step (.inl rfl) rfl).rd _) ?_
            refine AAny.take (i := 2) rfl (by kernel_rfl) (by kernel_rfl) (by kernel_rfl) rfl rfl (ltb rfl) (aload_rd hG rfl rfl rfl (by simp [ldok])) ?_
            refine AAny.one (i := 1) (by kernel_rfl) (AOp.call rfl rfl rfl rfl (ltb rfl) rfl rfl rfl (fun _ h => absurd h List.not_mem_nil) (fun _ h => absurd h List.not_mem_nil) (ACalls.args (args' := [.str ⟨#[116, 109]⟩, .imm 0 4 true (cellss [])]) rfl (s_l01Fam_ex ⟨#[116, 109]⟩ 0 true [] _ _)) (callK_retN ?_))
            skip
            refine AAny.one (i := 3) (by kernel_rfl) (AOp.step rfl rfl rfl (ltb rfl) (buildSlice_step (d := 36) hG rfl rfl rfl rfl rfl (by rfl) (by rfl) (by rfl) (by decide)) (fun _ h => absurd h List.not_mem_nil) ?_)
            obtain ⟨hc84, hM⟩ := chk_t hM
            try rw [show ((ers ks12) ++ [(T.mk 3 0 ⟨#[116, 109]⟩ []), (T.mk 3 0 ⟨#[111, 102]⟩ [(T.mk 5 0 ⟨#[]⟩ []), (T.mk k74 n74 s74 (ers ks74))])] : List T) = (ers (ks12 ++ [LT.mk 3 0 ⟨#[116, 109]⟩ 0 true [], LT.mk 3 0 ⟨#[111, 102]⟩ tk71 false [LT.mk 5 0 ⟨#[]⟩ 0 true [], LT.mk k74 n74 s74 q74 f74 ks74]])) from ers_app ks12 [LT.mk 3 0 ⟨#[116, 109]⟩ 0 true [], LT.mk 3 0 ⟨#[111, 102]⟩ tk71 false [LT.mk 5 0 ⟨#[]⟩ 0 true [], LT.mk k74 n74 s74 q74 f74 ks74]]] at hM
            refine AAny.one (i := 4) (by kernel_rfl) (AOp.step rfl rfl rfl (ltb rfl) (appendM_step hG rfl rfl rfl rfl rfl rfl rfl rfl rfl rfl rfl (cellss_sz ([LT.mk 3 0 ⟨#[116, 109]⟩ 0 true [], LT.mk 3 0 ⟨#[111, 102]⟩ tk71 false [LT.mk 5 0 ⟨#[]⟩ 0 true [], LT.mk k74 n74 s74 q74 f74 ks74]])) (tlen _) (tlen ([LT.mk 3 0 ⟨#[116, 109]⟩ 0 true [], LT.mk 3 0 ⟨#[111, 102]⟩ tk71 false [LT.mk 5 0 ⟨#[]⟩ 0 true [], LT.mk k74 n74 s74 q74 f74 ks74]])) hc84 (by decide) (cellss_app _ _)) (by intro x hx; simp only [List.mem_cons, List.not_mem_nil, or_false] at hx; subst hx; simp) ?_)
            refine AAny.take (i := 5) rfl (by kernel_rfl) (by kernel_rfl) (by kernel_rfl) rfl rfl (ltb rfl) ((move_step (.inr rfl) rfl).rd _) ?_
            refine AAny.done (by kernel_rfl) ?_
            refine run_blk ?_
            refine run_region ?_
            refine run_pu rfl (move_step (.inl rfl) rfl) rfl (ltb rfl) ?_
            refine run_pu rfl (abin_step rfl rfl rfl rfl (fun _ h => by cases h)) rfl (ltb rfl) ?_
            refine run_pu rfl (move_step (.inr rfl) rfl) rfl (ltb rfl) ?_
            refine run_ops_nil ?_
            exact run_loop_end ⟨m, _, Nat.lt_succ_self _, ⟨(IntKind.i64.wrap (i11 + 1)), (ks12 ++ [LT.mk 3 0 ⟨#[116, 109]⟩ 0 true [], LT.mk 3 0 ⟨#[111, 102]⟩ tk71 false [LT.mk 5 0 ⟨#[]⟩ 0 true [], LT.mk k74 n74 s74 q74 f74 ks74]]), tk78, (show tk5 ≤ tk78 by omega), (show Fr tk5 tk78 _ from (Fr.tapp (show Fr tk5 tks_EncodeVars_L1 _ from (hfr12).mono (by omega) (by omega)) (Fr.tcons (show Fr tks_EncodeVars_L1 tks_EncodeVars_L1 _ from Fr.nil _ _) (Fr.tcons (show Fr tks_EncodeVars_L1 (tk71 + 1) _ from Fr.tstop (show Fr tks_EncodeVars_L1 tk71 _ from (Fr.tcons (show Fr tks_EncodeVars_L1 tks_EncodeVars_L1 _ from Fr.nil _ _) (Fr.tcons ((show Fr tks_EncodeVars_L1 tk71 _ from hf75 rfl)) (show Fr tk71 tk71 _ from Fr.nil _ _) (by omega) (by omega)) (by omega) (by omega)).mono (by omega) (by omega)) (by omega) (by omega)) (show Fr (tk71 + 1) (tk71 + 1) _ from Fr.nil _ _) (by omega) (by omega)) (by omega) (by omega)) (by omega) (by omega)).mono (by omega) (by omega)), hM, rfl⟩, Sub.trans (Sub.drop (k := 36) rfl) (Sub.trans (Sub.drop (k := 6) rfl) (Sub.env [(0, .imm q1 3 f1 (fcellss ks1)), (2, .imm 0 0 true []), (3, .int .i64 0), (4, .osl (.loc 15)), (5, .int .i64 (IntKind.i64.wrap (i11 + 1)))] ⟨rfl, rfl, rfl, rfl, rfl, trivial⟩))⟩
      · replace hM := ite_f hb13 hM
        refine run_exit_to rfl ?_
        refine run_seq ?_
        refine run_region ?_
        refine run_pu rfl (move_step (.inl rfl) rfl) rfl (ltb rfl) ?_
        refine run_pu rfl (move_step (.inr rfl) rfl) rfl (ltb rfl) ?_
        refine run_pu rfl (move_step (.inr rfl) rfl) rfl (ltb rfl) ?_
        refine run_ops_nil ?_
        refine run_ret_to ?_
        refine fin_sub (Sub.freeze (k := 15) rfl rfl) ?_
        obtain rfl := some_t hM
        refine fin_x hG rfl rfl rfl (v' := .tup [.imm tks_EncodeVars_L1 4 false (cellss ks12), .int .i64 0]) (by rfl) ⟨rfl, (show tk ≤ (tks_EncodeVars_L1 + 1) by omega), _, rfl, ⟨_, _, _, _, rfl, rfl, ⟨tks_EncodeVars_L1, false, ks12, rfl, rfl, fun _ => (show Fr tk (tks_EncodeVars_L1 + 1) _ from (show Fr tk5 (tks_EncodeVars_L1 + 1) _ from Fr.tstop (show Fr tk5 tks_EncodeVars_L1 _ from (hfr12).mono (by omega) (by omega)) (by omega) (by omega)).mono (by omega) (by omega))⟩, rfl⟩⟩

end Go.Am.Ytgbmcnmepfpjiaa
