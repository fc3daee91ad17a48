/- Printed by a program of ours: Lean functions that do what the Go functions do, and the contracts. -/
import Derived.Test.YtpkeophkdemcpaaMi4
import Derived.Test.YtpkeophkdemcpaaTypes
import Derived.Test.YtpkeophkdemcpaaMc1
import Derived.Test.YtpkeophkdemcpaaMkType
import Derived.Test.YtpkeophkdemcpaaMz
-- packed
namespace Go.Am.Ytpkeophkdemcpaa
open Go Go.Am

def i_cloneType_L1 (rec_i_cloneType : F → Option F) (x1 : F) : Nat → Int → List F → Option F
 | 0, _, _ => none
 | m + 1, i2, l3 =>
  if i2 < ((x1.kids).length : Int) then
   (idx x1.kids i2).bind fun y5 =>
   (rec_i_cloneType y5).bind fun r10 =>
   chk ((l3).length + ([r10]).length ≤ 1099511627776) <|
   i_cloneType_L1 rec_i_cloneType x1 m (IntKind.i64.wrap (i2 + 1)) (l3 ++ [r10])
  else
   some (F.mk x1.kind x1.n l3)

def i_cloneType : Nat → F → Option F
 | 0, _ => none
 | n + 1, x1 =>
  i_cloneType_L1 (i_cloneType n) x1 n 0 ([])

set_option maxRecDepth 100000 in
theorem i_cloneType_st (n : Nat) (ih_i_cloneType : ∀ (k1 : Int) (n1 : Int) (q1 : Nat) (f1 : Bool) (ks1 : List LF) {r : F}, i_cloneType n (F.mk k1 n1 (fers ks1)) = some r → ∀ (O : Heap) (tk : Nat), ACalls Go.Proofs.Try.prog 71 [.agg [.int .i64 k1, .int .i64 n1, .imm q1 3 f1 (fcellss ks1)]] O tk (RetX O tk (fun v tk' => VF true tk tk' r v))) : ∀ (k1 : Int) (n1 : Int) (q1 : Nat) (f1 : Bool) (ks1 : List LF) {r : F}, i_cloneType (n + 1) (F.mk k1 n1 (fers ks1)) = some r → ∀ (O : Heap) (tk : Nat), ACalls Go.Proofs.Try.prog 71 [.agg [.int .i64 k1, .int .i64 n1, .imm q1 3 f1 (fcellss ks1)]] O tk (RetX O tk (fun v tk' => VF true tk tk' r v)) := by
 intro k1 n1 q1 f1 ks1 r hM O tk
 rw [i_cloneType] at hM
 refine acalls_of_run Go.Proofs.Try.func71 rfl rfl [] [] (Bor.nil _) [(0, .agg [.int .i64 k1, .int .i64 n1, .imm q1 3 f1 (fcellss ks1)])] (.cons (.agg _) (.nil _)) (leb rfl) (fun _ h => by cases h) (fun S0 hO htk hfz => ?_)
 refine run_sr ?_
 refine run_op rfl (box_step (d := 1) rfl rfl rfl rfl rfl) rfl (ltb rfl) ?_
 refine run_op rfl (alloc_step (d := 2) hG rfl rfl rfl) rfl (ltb rfl) ?_
 refine run_ops_nil ?_
 refine run_sr ?_
 refine run_op rfl (buildSlice_step (d := 6) hG rfl rfl rfl rfl rfl (by rfl) (by rfl) (by rfl) (by decide)) rfl (ltb rfl) ?_
 refine yR rfl ?_
 refine run_ops_nil ?_
 refine run_seq ?_
 refine run_sr ?_
 refine yF hG rfl ?_
 refine yD hG rfl ?_
 refine run_pu rfl (lenImm_step hG rfl rfl rfl rfl (flen _)) rfl (ltb rfl) ?_
 refine yL rfl ?_
 refine run_ops_nil ?_
 refine run_block ?_
 refine run_rounds (fun m σ => ∃ (i2 : Int) (ks3 : List LF) (tki_cloneType_L1 : Nat), tk ≤ tki_cloneType_L1 ∧ Fr tk tki_cloneType_L1 (ftoks ks3) ∧ i_cloneType_L1 (i_cloneType n) (F.mk k1 n1 (fers ks1)) m i2 (fers ks3) = some r ∧ σ = ⟨[(1, .optr (.loc 1) 0 0), (2, .optr (.loc 2) 0 0), (3, .osl (.loc 6)), (8, .imm q1 3 f1 (fcellss ks1)), (9, .int .i64 (((fers ks1)).length : Int)), (10, .int .i64 i2)], [(6, ⟨42, 3, false, fcellss ks3⟩), (2, ⟨42, 3, true, [[.int .i64 0, .int .i64 0, .imm 0 3 true []]]⟩), (1, ⟨42, 3, true, [[.int .i64 k1, .int .i64 n1, .imm q1 3 f1 (fcellss ks1)]]⟩)], [], O, tki_cloneType_L1⟩) n (Sub.pk [1, 2, 3, 8, 9, 10] rfl) ⟨0, [], tk, Nat.le_refl _, Fr.nil _ _, hM, rfl⟩ (fun m σ hI => ?_)
 clear hM
 obtain ⟨i2, ks3, tki_cloneType_L1, hle18, hfr3, hM, rfl⟩ := hI
 obtain _ | m := m
 ·exact absurd hM (by rw [i_cloneType_L1]; exact fun h => by cases h)
 rw [i_cloneType_L1] at hM
 refine run_sr ?_
 refine yB rfl ?_
 refine run_ops_nil ?_
 refine run_seq ?_
 refine run_ifd rfl rfl (fun hb4 => ?_) (fun hb4 => ?_)
 ·replace hM := ite_t hb4 hM
  refine run_skip ?_
  refine run_seq ?_
  refine run_block ?_
  refine run_sr ?_
  obtain ⟨y5, hy6, hM⟩ := bind_t hM
  obtain ⟨k7, n7, q7, f7, ks7, rfl, hc8, hi9⟩ := fidx (ks := ks1) hy6
  refine run_pu rfl (indexImm_step hG rfl rfl rfl hi9 rfl rfl rfl rfl hc8) rfl (ltb rfl) ?_
  refine yD hG rfl ?_
  refine run_op rfl (alloc_step (d := 5) hG rfl rfl rfl) rfl (ltb rfl) ?_
  refine yS hG rfl ?_
  refine run_ops_nil ?_
  refine run_region ?_
  refine yL rfl ?_
  refine yD hG rfl ?_
  obtain ⟨r10, hg11, hM⟩ := bind_t hM
  refine yK rfl (ih_i_cloneType k7 n7 q7 f7 ks7 hg11 _ _) (callK_retX (fun v tk12 (hle13 : tki_cloneType_L1 ≤ tk12) h14 => ?_))
  obtain ⟨k15, n15, q15, f15, ks15, rfl, rfl, hf16⟩ := h14
  refine run_op rfl (buildSlice_step (d := 17) hG rfl rfl rfl rfl rfl (by rfl) (by rfl) (by rfl) (by decide)) rfl (ltb rfl) ?_
  obtain ⟨hc17, hM⟩ := chk_t hM
  try rw [show ((fers ks3) ++ [(F.mk k15 n15 (fers ks15))] : List F) = (fers (ks3 ++ [LF.mk k15 n15 q15 f15 ks15])) from fers_app ks3 [LF.mk k15 n15 q15 f15 ks15]] at hM
  refine run_op rfl (appendM_step hG rfl rfl rfl rfl rfl rfl rfl rfl rfl rfl rfl (fcellss_sz ([LF.mk k15 n15 q15 f15 ks15])) (flen ks3) (flen ([LF.mk k15 n15 q15 f15 ks15])) hc17 (by decide) (fcellss_app _ _)) rfl (ltb rfl) ?_
  refine yR rfl ?_
  refine run_ops_nil ?_
  refine run_blk ?_
  refine run_region ?_
  refine yB rfl ?_
  refine yL rfl ?_
  refine run_ops_nil ?_
  exact run_loop_end ⟨m, _, Nat.lt_succ_self _, ⟨(IntKind.i64.wrap (i2 + 1)), (ks3 ++ [LF.mk k15 n15 q15 f15 ks15]), tk12, (show tk ≤ tk12 by omega), (show Fr tk tk12 _ from (Fr.fsnoc (show Fr tk tki_cloneType_L1 _ from (hfr3).mono (by omega) (by omega)) ((show Fr tki_cloneType_L1 tk12 _ from hf16 rfl)) (by omega) (by omega)).mono (by omega) (by omega)), hM, rfl⟩, Sub.trans (Sub.drop (k := 17) rfl) (Sub.trans (Sub.drop (k := 5) rfl) (Sub.pk [1, 2, 3, 8, 9, 10] rfl))⟩
 replace hM := ite_f hb4 hM
 refine run_exit_to rfl ?_
 refine run_sr ?_
 refine yL rfl ?_
 refine yF hG rfl ?_
 refine yS hG rfl ?_
 refine run_ops_nil ?_
 refine run_sr ?_
 refine yD hG rfl ?_
 refine yS hG rfl ?_
 refine run_ops_nil ?_
 refine run_ret_to ?_
 refine fin_sub (Sub.freeze (k := 6) rfl rfl) ?_
 obtain rfl := some_t hM
 refine fin_x hG rfl rfl rfl (v' := .agg [.int .i64 k1, .int .i64 n1, .imm tki_cloneType_L1 3 false (fcellss ks3)]) (by rfl) ⟨rfl, (show tk ≤ (tki_cloneType_L1 + 1) by omega), _, rfl, ⟨k1, n1, tki_cloneType_L1, false, ks3, rfl, rfl, fun _ => (show Fr tk (tki_cloneType_L1 + 1) _ from (show Fr tk (tki_cloneType_L1 + 1) _ from Fr.fstop (show Fr tk tki_cloneType_L1 _ from (hfr3).mono (by omega) (by omega)) (by omega) (by omega)).mono (by omega) (by omega))⟩⟩

theorem i_cloneType_all : ∀ (n : Nat), (∀ (k1 : Int) (n1 : Int) (q1 : Nat) (f1 : Bool) (ks1 : List LF) {r : F}, i_cloneType n (F.mk k1 n1 (fers ks1)) = some r → ∀ (O : Heap) (tk : Nat), ACalls Go.Proofs.Try.prog 71 [.agg [.int .i64 k1, .int .i64 n1, .imm q1 3 f1 (fcellss ks1)]] O tk (RetX O tk (fun v tk' => VF true tk tk' r v)))
 | 0 => by intro k1 n1 q1 f1 ks1 r hM; rw [i_cloneType] at hM; cases hM
 | n + 1 => have ih := i_cloneType_all n; i_cloneType_st n (ih)

theorem i_cloneType_ok (n : Nat) : ∀ (k1 : Int) (n1 : Int) (q1 : Nat) (f1 : Bool) (ks1 : List LF) {r : F}, i_cloneType n (F.mk k1 n1 (fers ks1)) = some r → ∀ (O : Heap) (tk : Nat), ACalls Go.Proofs.Try.prog 71 [.agg [.int .i64 k1, .int .i64 n1, .imm q1 3 f1 (fcellss ks1)]] O tk (RetX O tk (fun v tk' => VF true tk tk' r v)) := i_cloneType_all n

def g_EqualFunc_Type__fn_i_sameType_L1 (rec_i_sameType : F → F → Option Bool) (l1 : List F) (l2 : List F) : Nat → Int → Option Bool
 | 0, _ => none
 | m + 1, i4 =>
  if i4 < ((l1).length : Int) then
   (idx l1 i4).bind fun y6 =>
   (idx l2 i4).bind fun y11 =>
   (rec_i_sameType y6 y11).bind fun r16 =>
   if (!r16) = true then
    some false
   else
    g_EqualFunc_Type__fn_i_sameType_L1 rec_i_sameType l1 l2 m (IntKind.i64.wrap (i4 + 1))
  else
   some true

mutual

def i_sameType : Nat → F → F → Option Bool
 | 0, _, _ => none
 | n + 1, x1, x2 =>
  if x1.kind = x2.kind then
   if x1.n = x2.n then
    (g_EqualFunc_Type__fn_i_sameType n x1.kids x2.kids).bind fun r5 =>
    some r5
   else
    some false
  else
   some false

def g_EqualFunc_Type__fn_i_sameType : Nat → List F → List F → Option Bool
 | 0, _, _ => none
 | n + 1, l1, l2 =>
  if (((l1).length : Int) != ((l2).length : Int)) = true then
   some false
  else
   g_EqualFunc_Type__fn_i_sameType_L1 (i_sameType n) l1 l2 n 0

end

def s_l09Copy_L1 (rec_s_l09Copy : F → Option F) (x1 : F) : Nat → Int → List F → Option F
 | 0, _, _ => none
 | m + 1, i2, l3 =>
  if i2 < ((x1.kids).length : Int) then
   (idx x1.kids i2).bind fun y5 =>
   (rec_s_l09Copy y5).bind fun r10 =>
   chk ((l3).length + ([r10]).length ≤ 1099511627776) <|
   s_l09Copy_L1 rec_s_l09Copy x1 m (IntKind.i64.wrap (i2 + 1)) (l3 ++ [r10])
  else
   some (F.mk x1.kind x1.n l3)

def s_l09Copy : Nat → F → Option F
 | 0, _ => none
 | n + 1, x1 =>
  s_l09Copy_L1 (s_l09Copy n) x1 n 0 ([])

set_option maxRecDepth 100000 in
theorem s_l09Copy_st (n : Nat) (ih_s_l09Copy : ∀ (k1 : Int) (n1 : Int) (q1 : Nat) (f1 : Bool) (ks1 : List LF) {r : F}, s_l09Copy n (F.mk k1 n1 (fers ks1)) = some r → ∀ (O : Heap) (tk : Nat), ACalls Go.Proofs.Try.prog 81 [.agg [.int .i64 k1, .int .i64 n1, .imm q1 3 f1 (fcellss ks1)]] O tk (RetX O tk (fun v tk' => VF true tk tk' r v))) : ∀ (k1 : Int) (n1 : Int) (q1 : Nat) (f1 : Bool) (ks1 : List LF) {r : F}, s_l09Copy (n + 1) (F.mk k1 n1 (fers ks1)) = some r → ∀ (O : Heap) (tk : Nat), ACalls Go.Proofs.Try.prog 81 [.agg [.int .i64 k1, .int .i64 n1, .imm q1 3 f1 (fcellss ks1)]] O tk (RetX O tk (fun v tk' => VF true tk tk' r v)) := by
 intro k1 n1 q1 f1 ks1 r hM O tk
 rw [s_l09Copy] at hM
 refine acalls_of_run Go.Proofs.Try.func81 rfl rfl [] [] (Bor.nil _) [(0, .agg [.int .i64 k1, .int .i64 n1, .imm q1 3 f1 (fcellss ks1)])] (.cons (.agg _) (.nil _)) (leb rfl) (fun _ h => by cases h) (fun S0 hO htk hfz => ?_)
 refine run_sr ?_
 refine run_op rfl (box_step (d := 1) rfl rfl rfl rfl rfl) rfl (ltb rfl) ?_
 refine run_op rfl (alloc_step (d := 2) hG rfl rfl rfl) rfl (ltb rfl) ?_
 refine run_ops_nil ?_
 refine run_sr ?_
 refine run_op rfl (buildSlice_step (d := 5) hG rfl rfl rfl rfl rfl (by rfl) (by rfl) (by rfl) (by decide)) rfl (ltb rfl) ?_
 refine yR rfl ?_
 refine run_ops_nil ?_
 refine run_seq ?_
 refine run_sr ?_
 refine yR rfl ?_
 refine run_ops_nil ?_
 refine run_block ?_
 refine run_rounds (fun m σ => ∃ (i2 : Int) (ks3 : List LF) (tks_l09Copy_L1 : Nat), tk ≤ tks_l09Copy_L1 ∧ Fr tk tks_l09Copy_L1 (ftoks ks3) ∧ s_l09Copy_L1 (s_l09Copy n) (F.mk k1 n1 (fers ks1)) m i2 (fers ks3) = some r ∧ σ = ⟨[(1, .optr (.loc 1) 0 0), (2, .optr (.loc 2) 0 0), (3, .osl (.loc 5)), (4, .int .i64 i2)], [(5, ⟨42, 3, false, fcellss ks3⟩), (2, ⟨42, 3, true, [[.int .i64 0, .int .i64 0, .imm 0 3 true []]]⟩), (1, ⟨42, 3, true, [[.int .i64 k1, .int .i64 n1, .imm q1 3 f1 (fcellss ks1)]]⟩)], [], O, tks_l09Copy_L1⟩) n (Sub.pk [1, 2, 3, 4] rfl) ⟨0, [], tk, Nat.le_refl _, Fr.nil _ _, hM, rfl⟩ (fun m σ hI => ?_)
 clear hM
 obtain ⟨i2, ks3, tks_l09Copy_L1, hle18, hfr3, hM, rfl⟩ := hI
 obtain _ | m := m
 ·exact absurd hM (by rw [s_l09Copy_L1]; exact fun h => by cases h)
 rw [s_l09Copy_L1] at hM
 refine run_seq ?_
 refine run_sr ?_
 refine yL rfl ?_
 refine yF hG rfl ?_
 refine yD hG rfl ?_
 refine run_pu rfl (lenImm_step hG rfl rfl rfl rfl (flen _)) rfl (ltb rfl) ?_
 refine yB rfl ?_
 refine run_ops_nil ?_
 refine run_ifd rfl rfl (fun hb4 => ?_) (fun hb4 => ?_)
 ·replace hM := ite_t hb4 hM
  refine run_skip ?_
  refine run_seq ?_
  refine run_block ?_
  refine run_region ?_
  refine yL rfl ?_
  refine yF hG rfl ?_
  refine yD hG rfl ?_
  refine yL rfl ?_
  obtain ⟨y5, hy6, hM⟩ := bind_t hM
  obtain ⟨k7, n7, q7, f7, ks7, rfl, hc8, hi9⟩ := fidx (ks := ks1) hy6
  refine run_pu rfl (indexImm_step hG rfl rfl rfl hi9 rfl rfl rfl rfl hc8) rfl (ltb rfl) ?_
  refine yD hG rfl ?_
  obtain ⟨r10, hg11, hM⟩ := bind_t hM
  refine yK rfl (ih_s_l09Copy k7 n7 q7 f7 ks7 hg11 _ _) (callK_retX (fun v tk12 (hle13 : tks_l09Copy_L1 ≤ tk12) h14 => ?_))
  obtain ⟨k15, n15, q15, f15, ks15, rfl, rfl, hf16⟩ := h14
  refine run_op rfl (buildSlice_step (d := 20) hG rfl rfl rfl rfl rfl (by rfl) (by rfl) (by rfl) (by decide)) rfl (ltb rfl) ?_
  obtain ⟨hc17, hM⟩ := chk_t hM
  try rw [show ((fers ks3) ++ [(F.mk k15 n15 (fers ks15))] : List F) = (fers (ks3 ++ [LF.mk k15 n15 q15 f15 ks15])) from fers_app ks3 [LF.mk k15 n15 q15 f15 ks15]] at hM
  refine run_op rfl (appendM_step hG rfl rfl rfl rfl rfl rfl rfl rfl rfl rfl rfl (fcellss_sz ([LF.mk k15 n15 q15 f15 ks15])) (flen ks3) (flen ([LF.mk k15 n15 q15 f15 ks15])) hc17 (by decide) (fcellss_app _ _)) rfl (ltb rfl) ?_
  refine yR rfl ?_
  refine run_ops_nil ?_
  refine run_blk ?_
  refine run_sub_code (σ' := ⟨[(1, .optr (.loc 1) 0 0), (2, .optr (.loc 2) 0 0), (3, .osl (.loc 5)), (4, .int .i64 i2)], [(5, ⟨42, 3, false, fcellss (ks3 ++ [LF.mk k15 n15 q15 f15 ks15])⟩), (2, ⟨42, 3, true, [[.int .i64 0, .int .i64 0, .imm 0 3 true []]]⟩), (1, ⟨42, 3, true, [[.int .i64 k1, .int .i64 n1, .imm q1 3 f1 (fcellss ks1)]]⟩)], [], O, tk12⟩) (Sub.trans (Sub.drop (k := 20) rfl) (Sub.env _ ⟨rfl, rfl, rfl, rfl, trivial⟩)) ?_
  refine run_region ?_
  refine yL rfl ?_
  refine yB rfl ?_
  refine yR rfl ?_
  refine run_ops_nil ?_
  exact run_loop_end ⟨m, _, Nat.lt_succ_self _, ⟨(IntKind.i64.wrap (i2 + 1)), (ks3 ++ [LF.mk k15 n15 q15 f15 ks15]), tk12, (show tk ≤ tk12 by omega), (show Fr tk tk12 _ from (Fr.fsnoc (show Fr tk tks_l09Copy_L1 _ from (hfr3).mono (by omega) (by omega)) ((show Fr tks_l09Copy_L1 tk12 _ from hf16 rfl)) (by omega) (by omega)).mono (by omega) (by omega)), hM, rfl⟩, Sub.pk [1, 2, 3, 4] rfl⟩
 replace hM := ite_f hb4 hM
 refine run_exit_to rfl ?_
 refine run_sr ?_
 refine yF hG rfl ?_
 refine yD hG rfl ?_
 refine yF hG rfl ?_
 refine yD hG rfl ?_
 refine yL rfl ?_
 refine run_pu rfl (build_step hG rfl (by rfl) rfl (fun h => by cases h) (by rfl)) rfl (ltb rfl) ?_
 refine yS hG rfl ?_
 refine run_ops_nil ?_
 refine run_ret_to ?_
 refine fin_sub (Sub.freeze (k := 5) rfl rfl) ?_
 obtain rfl := some_t hM
 refine fin_x hG rfl rfl rfl (v' := .agg [.int .i64 k1, .int .i64 n1, .imm tks_l09Copy_L1 3 false (fcellss ks3)]) (by rfl) ⟨rfl, (show tk ≤ (tks_l09Copy_L1 + 1) by omega), _, rfl, ⟨k1, n1, tks_l09Copy_L1, false, ks3, rfl, rfl, fun _ => (show Fr tk (tks_l09Copy_L1 + 1) _ from (show Fr tk (tks_l09Copy_L1 + 1) _ from Fr.fstop (show Fr tk tks_l09Copy_L1 _ from (hfr3).mono (by omega) (by omega)) (by omega) (by omega)).mono (by omega) (by omega))⟩⟩

theorem s_l09Copy_all : ∀ (n : Nat), (∀ (k1 : Int) (n1 : Int) (q1 : Nat) (f1 : Bool) (ks1 : List LF) {r : F}, s_l09Copy n (F.mk k1 n1 (fers ks1)) = some r → ∀ (O : Heap) (tk : Nat), ACalls Go.Proofs.Try.prog 81 [.agg [.int .i64 k1, .int .i64 n1, .imm q1 3 f1 (fcellss ks1)]] O tk (RetX O tk (fun v tk' => VF true tk tk' r v)))
 | 0 => by intro k1 n1 q1 f1 ks1 r hM; rw [s_l09Copy] at hM; cases hM
 | n + 1 => have ih := s_l09Copy_all n; s_l09Copy_st n (ih)

theorem s_l09Copy_ok (n : Nat) : ∀ (k1 : Int) (n1 : Int) (q1 : Nat) (f1 : Bool) (ks1 : List LF) {r : F}, s_l09Copy n (F.mk k1 n1 (fers ks1)) = some r → ∀ (O : Heap) (tk : Nat), ACalls Go.Proofs.Try.prog 81 [.agg [.int .i64 k1, .int .i64 n1, .imm q1 3 f1 (fcellss ks1)]] O tk (RetX O tk (fun v tk' => VF true tk tk' r v)) := s_l09Copy_all n

end Go.Am.Ytpkeophkdemcpaa
