/- Printed by a program of ours: Lean functions that do what the Go functions do, and the contracts. -/
import Derived.Test.YtpkeophkdemcpaaMi1
import Derived.Test.YtpkeophkdemcpaaTypes
import Derived.Test.YtpkeophkdemcpaaMlForm
import Derived.Test.YtpkeophkdemcpaaMz
-- packed
namespace Go.Am.Ytpkeophkdemcpaa
open Go Go.Am

def w_szProofS_L1 (rec_w_szProof : Pf → Int → Option Int) (l1 : List Pf) : Nat → Int → Int → Option Int
 | 0, _, _ => none
 | m + 1, i4, i5 =>
  if i5 < ((l1).length : Int) then
   (idx l1 i5).bind fun y7 =>
   (rec_w_szProof y7 i4).bind fun r12 =>
   if r12 < 0 then
    some (-1)
   else
    w_szProofS_L1 rec_w_szProof l1 m r12 (IntKind.i64.wrap (i5 + 1))
  else
   some i4

mutual

def w_szProof : Nat → Pf → Int → Option Int
 | 0, _, _ => none
 | n + 1, x1, i2 =>
  (w_szFormS n x1.forms i2).bind fun r3 =>
  if r3 < 0 then
   some (-1)
  else
   (w_szProofS n x1.kids r3).bind fun r11 =>
   if r11 < 0 then
    some (-1)
   else
    some r11

def w_szProofS : Nat → List Pf → Int → Option Int
 | 0, _, _ => none
 | n + 1, l1, i2 =>
  if (IntKind.i64.wrap (i2 - ((l1).length : Int))) < 0 then
   some (-1)
  else
   w_szProofS_L1 (w_szProof n) l1 n (IntKind.i64.wrap (i2 - ((l1).length : Int))) 0

end

def w_szProof_P (n : Nat) : Prop := ∀ (k1 : Int) (n1 : Int) (p1 : Nat) (e1 : Bool) (fs1 : List LF) (q1 : Nat) (f1 : Bool) (ks1 : List LP) (i2 : Int) {r : Int}, w_szProof n (Pf.mk k1 n1 (fers fs1) (pers ks1)) i2 = some r → ∀ (O : Heap) (tk : Nat), ACalls Go.Proofs.Try.prog 31 [.agg [.int .i64 k1, .int .i64 n1, .imm p1 3 e1 (fcellss fs1), .imm q1 4 f1 (pcellss ks1)], .int .i64 i2] O tk (RetX O tk (fun v tk' => v = .int .i64 r))

set_option maxRecDepth 100000 in
theorem w_szProof_st (n : Nat) (ih_w_szProofS : ∀ (q1 : Nat) (f1 : Bool) (ks1 : List LP) (i2 : Int) {r : Int}, w_szProofS n (pers ks1) i2 = some r → ∀ (O : Heap) (tk : Nat), ACalls Go.Proofs.Try.prog 91 [.imm q1 4 f1 (pcellss ks1), .int .i64 i2] O tk (RetX O tk (fun v tk' => v = .int .i64 r))) : w_szProof_P (n + 1) := by
 intro k1 n1 p1 e1 fs1 q1 f1 ks1 i2 r hM O tk
 rw [w_szProof] at hM
 refine acalls_of_run Go.Proofs.Try.func31 rfl rfl [] [] (Bor.nil _) [(0, .agg [.int .i64 k1, .int .i64 n1, .imm p1 3 e1 (fcellss fs1), .imm q1 4 f1 (pcellss ks1)]), (1, .int .i64 i2)] (.cons (.agg _) (.cons (entS rfl) (.nil _))) (leb rfl) (fun _ h => by cases h) (fun S0 hO htk hfz => ?_)
 refine run_sr ?_
 refine run_op rfl (box_step (d := 2) rfl rfl rfl rfl rfl) rfl (ltb rfl) ?_
 refine yR rfl ?_
 refine yN ?_
 refine run_sr ?_
 refine yF hG rfl ?_
 refine yD hG rfl ?_
 refine yL rfl ?_
 obtain ⟨r3, hg4, hM⟩ := bind_t hM
 refine yK rfl (w_szFormS_ok n p1 e1 fs1 i2 hg4 _ _) (callK_retX (fun v tk5 (hle6 : tk ≤ tk5) h7 => ?_))
 subst h7
 refine yR rfl ?_
 refine yN ?_
 refine run_seq ?_
 refine run_sr ?_
 refine yL rfl ?_
 refine yB rfl ?_
 refine yN ?_
 refine run_ifd rfl rfl (fun hb10 => ?_) (fun hb10 => ?_)
 ·replace hM := ite_t hb10 hM
  refine run_sr ?_
  refine yR rfl ?_
  refine yN ?_
  refine run_ret_to ?_
  obtain rfl := some_t hM
  refine fin_x hG rfl rfl rfl (v' := .int .i64 (-1)) (by rfl) ⟨rfl, (show tk ≤ tk5 by omega), _, rfl, rfl⟩
 replace hM := ite_f hb10 hM
 refine run_skip ?_
 refine run_sr ?_
 refine yF hG rfl ?_
 refine yD hG rfl ?_
 refine yL rfl ?_
 obtain ⟨r11, hg12, hM⟩ := bind_t hM
 refine yK rfl (ih_w_szProofS q1 f1 ks1 r3 hg12 _ _) (callK_retX (fun v tk13 (hle14 : tk5 ≤ tk13) h15 => ?_))
 subst h15
 refine yR rfl ?_
 refine yN ?_
 refine run_sub_code (σ' := ⟨[(1, .int .i64 r11), (4, .int .i64 0)], [], [], O, tk13⟩) (Sub.trans (Sub.drop (k := 2) rfl) (Sub.env _ ⟨rfl, rfl, trivial⟩)) ?_
 refine run_seq ?_
 refine run_sr ?_
 refine yL rfl ?_
 refine yB rfl ?_
 refine yN ?_
 refine run_ifd rfl rfl (fun hb18 => ?_) (fun hb18 => ?_)
 ·replace hM := ite_t hb18 hM
  refine run_sr ?_
  refine yR rfl ?_
  refine yN ?_
  refine run_ret_to ?_
  obtain rfl := some_t hM
  refine fin_x hG rfl rfl rfl (v' := .int .i64 (-1)) (by rfl) ⟨rfl, (show tk ≤ tk13 by omega), _, rfl, rfl⟩
 replace hM := ite_f hb18 hM
 refine run_skip ?_
 refine run_sr ?_
 refine yL rfl ?_
 refine yR rfl ?_
 refine yN ?_
 refine run_ret_to ?_
 obtain rfl := some_t hM
 refine fin_x hG rfl rfl rfl (v' := .int .i64 r11) (by rfl) ⟨rfl, (show tk ≤ tk13 by omega), _, rfl, rfl⟩

set_option maxRecDepth 100000 in
theorem w_szProofS_st (n : Nat) (ih_w_szProof : w_szProof_P n) : ∀ (q1 : Nat) (f1 : Bool) (ks1 : List LP) (i2 : Int) {r : Int}, w_szProofS (n + 1) (pers ks1) i2 = some r → ∀ (O : Heap) (tk : Nat), ACalls Go.Proofs.Try.prog 91 [.imm q1 4 f1 (pcellss ks1), .int .i64 i2] O tk (RetX O tk (fun v tk' => v = .int .i64 r)) := by
 intro q1 f1 ks1 i2 r hM O tk
 rw [w_szProofS] at hM
 refine acalls_of_run Go.Proofs.Try.func91 rfl rfl [] [] (Bor.nil _) [(0, .imm q1 4 f1 (pcellss ks1)), (1, .int .i64 i2)] (.cons (entS rfl) (.cons (entS rfl) (.nil _))) (leb rfl) (fun _ h => by cases h) (fun S0 hO htk hfz => ?_)
 refine run_sr ?_
 refine yR rfl ?_
 refine yN ?_
 refine run_sr ?_
 refine yL rfl ?_
 refine yL rfl ?_
 refine run_pu rfl (lenImm_step hG rfl rfl rfl rfl (plen _)) rfl (ltb rfl) ?_
 refine yB rfl ?_
 refine yR rfl ?_
 refine yN ?_
 refine run_seq ?_
 refine run_sr ?_
 refine yL rfl ?_
 refine yB rfl ?_
 refine yN ?_
 refine run_ifd rfl rfl (fun hb3 => ?_) (fun hb3 => ?_)
 ·replace hM := ite_t hb3 hM
  refine run_sr ?_
  refine yR rfl ?_
  refine yN ?_
  refine run_ret_to ?_
  obtain rfl := some_t hM
  refine fin_x hG rfl rfl rfl (v' := .int .i64 (-1)) (by rfl) ⟨rfl, (show tk ≤ tk by omega), _, rfl, rfl⟩
 replace hM := ite_f hb3 hM
 refine run_skip ?_
 refine run_seq ?_
 refine run_sr ?_
 refine yR rfl ?_
 refine yN ?_
 refine run_block ?_
 refine run_rounds (fun m σ => ∃ (i4 : Int) (i5 : Int) (tkw_szProofS_L1 : Nat), tk ≤ tkw_szProofS_L1 ∧ w_szProofS_L1 (w_szProof n) (pers ks1) m i4 i5 = some r ∧ σ = ⟨[(0, .imm q1 4 f1 (pcellss ks1)), (1, .int .i64 i4), (4, .int .i64 0), (5, .int .i64 i5)], [], [], O, tkw_szProofS_L1⟩) n (Sub.pk [0, 1, 4, 5] rfl) ⟨(IntKind.i64.wrap (i2 - (((pers ks1)).length : Int))), 0, tk, Nat.le_refl _, hM, rfl⟩ (fun m σ hI => ?_)
 clear hM
 obtain ⟨i4, i5, tkw_szProofS_L1, hle20, hM, rfl⟩ := hI
 obtain _ | m := m
 ·exact absurd hM (by rw [w_szProofS_L1]; exact fun h => by cases h)
 rw [w_szProofS_L1] at hM
 refine run_seq ?_
 refine run_sr ?_
 refine yL rfl ?_
 refine yL rfl ?_
 refine run_pu rfl (lenImm_step hG rfl rfl rfl rfl (plen _)) rfl (ltb rfl) ?_
 refine yB rfl ?_
 refine yN ?_
 refine run_ifd rfl rfl (fun hb6 => ?_) (fun hb6 => ?_)
 ·replace hM := ite_t hb6 hM
  refine run_skip ?_
  refine run_seq ?_
  refine run_block ?_
  refine run_sr ?_
  refine yL rfl ?_
  refine yL rfl ?_
  obtain ⟨y7, hy8, hM⟩ := bind_t hM
  obtain ⟨k9, n9, p9, e9, fs9, q9, f9, ks9, rfl, hc10, hi11⟩ := pidx hy8
  refine run_pu rfl (indexImm_step hG rfl rfl rfl hi11 rfl rfl rfl rfl hc10) rfl (ltb rfl) ?_
  refine yD hG rfl ?_
  refine yL rfl ?_
  obtain ⟨r12, hg13, hM⟩ := bind_t hM
  refine yK rfl (ih_w_szProof k9 n9 p9 e9 fs9 q9 f9 ks9 i4 hg13 _ _) (callK_retX (fun v tk14 (hle15 : tkw_szProofS_L1 ≤ tk14) h16 => ?_))
  subst h16
  refine yR rfl ?_
  refine yN ?_
  refine run_sr ?_
  refine yL rfl ?_
  refine yB rfl ?_
  refine yN ?_
  refine run_ifd rfl rfl (fun hb19 => ?_) (fun hb19 => ?_)
  ·replace hM := ite_t hb19 hM
   refine run_sr ?_
   refine yR rfl ?_
   refine yN ?_
   refine run_ret_to ?_
   obtain rfl := some_t hM
   refine fin_x hG rfl rfl rfl (v' := .int .i64 (-1)) (by rfl) ⟨rfl, (show tk ≤ tk14 by omega), _, rfl, rfl⟩
  replace hM := ite_f hb19 hM
  refine run_skip ?_
  refine run_blk ?_
  refine run_region ?_
  refine yL rfl ?_
  refine yB rfl ?_
  refine yR rfl ?_
  refine yN ?_
  exact run_loop_end ⟨m, _, Nat.lt_succ_self _, ⟨r12, (IntKind.i64.wrap (i5 + 1)), tk14, (show tk ≤ tk14 by omega), hM, rfl⟩, Sub.pk [0, 1, 4, 5] rfl⟩
 replace hM := ite_f hb6 hM
 refine run_exit_to rfl ?_
 refine run_sr ?_
 refine yL rfl ?_
 refine yR rfl ?_
 refine yN ?_
 refine run_ret_to ?_
 obtain rfl := some_t hM
 refine fin_x hG rfl rfl rfl (v' := .int .i64 i4) (by rfl) ⟨rfl, (show tk ≤ tkw_szProofS_L1 by omega), _, rfl, rfl⟩

theorem w_szProof_all : ∀ (n : Nat), (w_szProof_P n) ∧ (∀ (q1 : Nat) (f1 : Bool) (ks1 : List LP) (i2 : Int) {r : Int}, w_szProofS n (pers ks1) i2 = some r → ∀ (O : Heap) (tk : Nat), ACalls Go.Proofs.Try.prog 91 [.imm q1 4 f1 (pcellss ks1), .int .i64 i2] O tk (RetX O tk (fun v tk' => v = .int .i64 r)))
 | 0 => ⟨(by intro k1 n1 p1 e1 fs1 q1 f1 ks1 i2 r hM; rw [w_szProof] at hM; cases hM), (by intro q1 f1 ks1 i2 r hM; rw [w_szProofS] at hM; cases hM)⟩
 | n + 1 => have ih := w_szProof_all n; ⟨w_szProof_st n (ih.2), w_szProofS_st n (ih.1)⟩

theorem w_szProof_ok (n : Nat) : w_szProof_P n := (w_szProof_all n).1

def w_toProofS_L1 (rec_w_toProof : Pf → Option Pf) (l1 : List Pf) : Nat → Int → List Pf → Option (List Pf)
 | 0, _, _ => none
 | m + 1, i3, l4 =>
  if i3 < ((l1).length : Int) then
   (idx l1 i3).bind fun y6 =>
   (rec_w_toProof y6).bind fun r11 =>
   chk (i3 = ((l4).length : Int) ∧ (l4).length < (l1).length) <|
   w_toProofS_L1 rec_w_toProof l1 m (IntKind.i64.wrap (i3 + 1)) (l4 ++ [r11])
  else
   chk ((l4).length = (l1).length) <|
   some l4

mutual

def w_toProof : Nat → Pf → Option Pf
 | 0, _ => none
 | n + 1, x1 =>
  (w_toFormS n x1.forms).bind fun r2 =>
  (w_toProofS n x1.kids).bind fun r9 =>
  some (Pf.mk x1.kind x1.n r2 r9)

def w_toProofS : Nat → List Pf → Option (List Pf)
 | 0, _ => none
 | n + 1, l1 =>
  chk ((l1).length ≤ 1099511627776) <|
  w_toProofS_L1 (w_toProof n) l1 n 0 ([])

end

def w_toProof_P (n : Nat) : Prop := ∀ (k1 : Int) (n1 : Int) (p1 : Nat) (e1 : Bool) (fs1 : List LF) (q1 : Nat) (f1 : Bool) (ks1 : List LP) {r : Pf}, w_toProof n (Pf.mk k1 n1 (fers fs1) (pers ks1)) = some r → ∀ (O : Heap) (tk : Nat), ACalls Go.Proofs.Try.prog 34 [.agg [.int .i64 k1, .int .i64 n1, .imm p1 3 e1 (fcellss fs1), .imm q1 4 f1 (pcellss ks1)]] O tk (RetX O tk (fun v tk' => VP true tk tk' r v))

set_option maxRecDepth 100000 in
theorem w_toProof_st (n : Nat) (ih_w_toProofS : ∀ (q1 : Nat) (f1 : Bool) (ks1 : List LP) {r : (List Pf)}, w_toProofS n (pers ks1) = some r → ∀ (O : Heap) (tk : Nat), ACalls Go.Proofs.Try.prog 97 [.imm q1 4 f1 (pcellss ks1)] O tk (RetX O tk (fun v tk' => VPs true tk tk' r v))) : w_toProof_P (n + 1) := by
 intro k1 n1 p1 e1 fs1 q1 f1 ks1 r hM O tk
 rw [w_toProof] at hM
 refine acalls_of_run Go.Proofs.Try.func34 rfl rfl [] [] (Bor.nil _) [(0, .agg [.int .i64 k1, .int .i64 n1, .imm p1 3 e1 (fcellss fs1), .imm q1 4 f1 (pcellss ks1)])] (.cons (.agg _) (.nil _)) (leb rfl) (fun _ h => by cases h) (fun S0 hO htk hfz => ?_)
 refine run_sr ?_
 refine run_op rfl (box_step (d := 1) rfl rfl rfl rfl rfl) rfl (ltb rfl) ?_
 refine run_op rfl (alloc_step (d := 2) hG rfl rfl rfl) rfl (ltb rfl) ?_
 refine yN ?_
 refine run_sr ?_
 refine run_op rfl (alloc_step (d := 3) hG rfl rfl rfl) rfl (ltb rfl) ?_
 refine yN ?_
 refine run_sr ?_
 refine yF hG rfl ?_
 refine yD hG rfl ?_
 refine yF hG rfl ?_
 refine yS hG rfl ?_
 refine yN ?_
 refine run_sr ?_
 refine yF hG rfl ?_
 refine yD hG rfl ?_
 refine yF hG rfl ?_
 refine yS hG rfl ?_
 refine yN ?_
 refine run_sr ?_
 refine yF hG rfl ?_
 refine yD hG rfl ?_
 obtain ⟨r2, hg3, hM⟩ := bind_t hM
 refine yK rfl (w_toFormS_ok n p1 e1 fs1 hg3 _ _) (callK_retX (fun v tk4 (hle5 : tk ≤ tk4) h6 => ?_))
 obtain ⟨q7, f7, ks7, rfl, rfl, hf8⟩ := h6
 refine yF hG rfl ?_
 refine yS hG rfl ?_
 refine yN ?_
 refine run_sub_code (σ' := ⟨[(1, .optr (.loc 1) 0 0), (2, .optr (.loc 2) 0 0), (3, .optr (.loc 3) 0 0)], [(3, ⟨26, 4, true, [[.int .i64 k1, .int .i64 n1, .imm q7 3 f7 (fcellss ks7), .imm 0 4 true []]]⟩), (2, ⟨26, 4, true, [[.int .i64 0, .int .i64 0, .imm 0 3 true [], .imm 0 4 true []]]⟩), (1, ⟨73, 4, true, [[.int .i64 k1, .int .i64 n1, .imm p1 3 e1 (fcellss fs1), .imm q1 4 f1 (pcellss ks1)]]⟩)], [], O, tk4⟩) (Sub.env _ ⟨rfl, rfl, rfl, trivial⟩) ?_
 refine run_sr ?_
 refine yF hG rfl ?_
 refine yD hG rfl ?_
 obtain ⟨r9, hg10, hM⟩ := bind_t hM
 refine yK rfl (ih_w_toProofS q1 f1 ks1 hg10 _ _) (callK_retX (fun v tk11 (hle12 : tk4 ≤ tk11) h13 => ?_))
 obtain ⟨q14, f14, ks14, rfl, rfl, hf15⟩ := h13
 refine yF hG rfl ?_
 refine yS hG rfl ?_
 refine yN ?_
 refine run_sr ?_
 refine yD hG rfl ?_
 refine yS hG rfl ?_
 refine yN ?_
 refine run_ret_to ?_
 obtain rfl := some_t hM
 refine fin_x hG rfl rfl rfl (v' := .agg [.int .i64 k1, .int .i64 n1, .imm q7 3 f7 (fcellss ks7), .imm q14 4 f14 (pcellss ks14)]) (by rfl) ⟨rfl, (show tk ≤ tk11 by omega), _, rfl, ⟨k1, n1, q7, f7, ks7, q14, f14, ks14, rfl, rfl, fun _ => (show Fr tk tk11 _ from (Fr.app (show Fr tk tk4 _ from ((show Fr tk tk4 _ from hf8 rfl)).mono (by omega) (by omega)) ((show Fr tk4 tk11 _ from hf15 rfl)) (by omega) (by omega)).mono (by omega) (by omega))⟩⟩

set_option maxRecDepth 100000 in
theorem w_toProofS_st (n : Nat) (ih_w_toProof : w_toProof_P n) : ∀ (q1 : Nat) (f1 : Bool) (ks1 : List LP) {r : (List Pf)}, w_toProofS (n + 1) (pers ks1) = some r → ∀ (O : Heap) (tk : Nat), ACalls Go.Proofs.Try.prog 97 [.imm q1 4 f1 (pcellss ks1)] O tk (RetX O tk (fun v tk' => VPs true tk tk' r v)) := by
 intro q1 f1 ks1 r hM O tk
 rw [w_toProofS] at hM
 refine acalls_of_run Go.Proofs.Try.func97 rfl rfl [] [] (Bor.nil _) [(0, .imm q1 4 f1 (pcellss ks1))] (.cons (entS rfl) (.nil _)) (leb rfl) (fun _ h => by cases h) (fun S0 hO htk hfz => ?_)
 refine run_sr ?_
 refine yR rfl ?_
 refine yN ?_
 refine run_sr ?_
 refine yL rfl ?_
 refine run_pu rfl (lenImm_step hG rfl rfl rfl rfl (plen _)) rfl (ltb rfl) ?_
 obtain ⟨hc2, hM⟩ := chk_t hM
 refine run_op rfl (makePad_step (d := 7) hG rfl rfl rfl rfl rfl rfl rfl hc2 (by decide) (padP_mk _)) rfl (ltb rfl) ?_
 refine yR rfl ?_
 refine yN ?_
 refine run_seq ?_
 refine run_sr ?_
 refine yR rfl ?_
 refine yN ?_
 refine run_block ?_
 refine run_rounds (fun m σ => ∃ (i3 : Int) (ks4 : List LP) (tkw_toProofS_L1 : Nat), tk ≤ tkw_toProofS_L1 ∧ Fr tk tkw_toProofS_L1 (ptoks ks4) ∧ w_toProofS_L1 (w_toProof n) (pers ks1) m i3 (pers ks4) = some r ∧ σ = ⟨[(0, .imm q1 4 f1 (pcellss ks1)), (2, .imm 0 0 true []), (3, .osl (.loc 7)), (4, .int .i64 i3)], [(7, ⟨26, 4, false, pcellss (pad ((pers ks1)).length zP ks4)⟩)], [], O, tkw_toProofS_L1⟩) n (Sub.pk [0, 2, 3, 4] rfl) ⟨0, [], tk, Nat.le_refl _, Fr.nil _ _, hM, rfl⟩ (fun m σ hI => ?_)
 clear hM
 obtain ⟨i3, ks4, tkw_toProofS_L1, hle20, hfr4, hM, rfl⟩ := hI
 obtain _ | m := m
 ·exact absurd hM (by rw [w_toProofS_L1]; exact fun h => by cases h)
 rw [w_toProofS_L1] at hM
 refine run_seq ?_
 refine run_sr ?_
 refine yL rfl ?_
 refine yL rfl ?_
 refine run_pu rfl (lenImm_step hG rfl rfl rfl rfl (plen _)) rfl (ltb rfl) ?_
 refine yB rfl ?_
 refine yN ?_
 refine run_ifd rfl rfl (fun hb5 => ?_) (fun hb5 => ?_)
 ·replace hM := ite_t hb5 hM
  refine run_skip ?_
  refine run_seq ?_
  refine run_block ?_
  refine run_region ?_
  refine yL rfl ?_
  refine yL rfl ?_
  refine yL rfl ?_
  refine yL rfl ?_
  obtain ⟨y6, hy7, hM⟩ := bind_t hM
  obtain ⟨k8, n8, p8, e8, fs8, q8, f8, ks8, rfl, hc9, hi10⟩ := pidx hy7
  refine run_pu rfl (indexImm_step hG rfl rfl rfl hi10 rfl rfl rfl rfl hc9) rfl (ltb rfl) ?_
  refine yD hG rfl ?_
  obtain ⟨r11, hg12, hM⟩ := bind_t hM
  refine yK rfl (ih_w_toProof k8 n8 p8 e8 fs8 q8 f8 ks8 hg12 _ _) (callK_retX (fun v tk13 (hle14 : tkw_toProofS_L1 ≤ tk13) h15 => ?_))
  obtain ⟨k16, n16, p16, e16, fs16, q16, f16, ks16, rfl, rfl, hf17⟩ := h15
  obtain ⟨hc18, hM⟩ := chk_t hM
  refine run_pu rfl (indexOsl_step hG rfl rfl rfl rfl (nat_of hc18) rfl rfl rfl rfl (padP_len hc18)) rfl (ltb rfl) ?_
  try rw [show ((pers ks4) ++ [(Pf.mk k16 n16 (fers fs16) (pers ks16))] : List Pf) = (pers (ks4 ++ [LP.mk k16 n16 p16 e16 fs16 q16 f16 ks16])) from pers_app ks4 [LP.mk k16 n16 p16 e16 fs16 q16 f16 ks16]] at hM
  refine run_op0 rfl (store_step hG rfl rfl rfl rfl rfl rfl rfl (astore_row (cs := (LP.mk k16 n16 p16 e16 fs16 q16 f16 ks16).cells) (e := zP.cells) rfl (padP_get hc18) rfl (forceP (LP.mk k16 n16 p16 e16 fs16 q16 f16 ks16)) rfl (padP_set (t := LP.mk k16 n16 p16 e16 fs16 q16 f16 ks16) hc18))) rfl ?_
  refine yN ?_
  refine run_blk ?_
  refine run_region ?_
  refine yL rfl ?_
  refine yB rfl ?_
  refine yR rfl ?_
  refine yN ?_
  exact run_loop_end ⟨m, _, Nat.lt_succ_self _, ⟨(IntKind.i64.wrap (i3 + 1)), (ks4 ++ [LP.mk k16 n16 p16 e16 fs16 q16 f16 ks16]), tk13, (show tk ≤ tk13 by omega), (show Fr tk tk13 _ from (Fr.psnoc (show Fr tk tkw_toProofS_L1 _ from (hfr4).mono (by omega) (by omega)) ((show Fr tkw_toProofS_L1 tk13 _ from hf17 rfl)) (by omega) (by omega)).mono (by omega) (by omega)), hM, rfl⟩, Sub.pk [0, 2, 3, 4] rfl⟩
 replace hM := ite_f hb5 hM
 refine run_exit_to rfl ?_
 refine run_sr ?_
 refine yL rfl ?_
 refine yR rfl ?_
 refine yN ?_
 refine run_ret_to ?_
 obtain ⟨hc19, hM⟩ := chk_t hM
 rw [padP_full hc19]
 refine fin_sub (Sub.freeze (k := 7) rfl rfl) ?_
 obtain rfl := some_t hM
 refine fin_x hG rfl rfl rfl (v' := .imm tkw_toProofS_L1 4 false (pcellss ks4)) (by rfl) ⟨rfl, (show tk ≤ (tkw_toProofS_L1 + 1) by omega), _, rfl, ⟨tkw_toProofS_L1, false, ks4, rfl, rfl, fun _ => (show Fr tk (tkw_toProofS_L1 + 1) _ from (show Fr tk (tkw_toProofS_L1 + 1) _ from Fr.pstop (show Fr tk tkw_toProofS_L1 _ from (hfr4).mono (by omega) (by omega)) (by omega) (by omega)).mono (by omega) (by omega))⟩⟩

theorem w_toProof_all : ∀ (n : Nat), (w_toProof_P n) ∧ (∀ (q1 : Nat) (f1 : Bool) (ks1 : List LP) {r : (List Pf)}, w_toProofS n (pers ks1) = some r → ∀ (O : Heap) (tk : Nat), ACalls Go.Proofs.Try.prog 97 [.imm q1 4 f1 (pcellss ks1)] O tk (RetX O tk (fun v tk' => VPs true tk tk' r v)))
 | 0 => ⟨(by intro k1 n1 p1 e1 fs1 q1 f1 ks1 r hM; rw [w_toProof] at hM; cases hM), (by intro q1 f1 ks1 r hM; rw [w_toProofS] at hM; cases hM)⟩
 | n + 1 => have ih := w_toProof_all n; ⟨w_toProof_st n (ih.2), w_toProofS_st n (ih.1)⟩

theorem w_toProof_ok (n : Nat) : w_toProof_P n := (w_toProof_all n).1

def w_eqProofS_L1 (rec_w_eqProof : Pf → Pf → Option Bool) (l1 : List Pf) (l2 : List Pf) : Nat → Int → Option Bool
 | 0, _ => none
 | m + 1, i4 =>
  if i4 < ((l1).length : Int) then
   (idx l1 i4).bind fun y6 =>
   (idx l2 i4).bind fun y11 =>
   (rec_w_eqProof y6 y11).bind fun r16 =>
   if (!r16) = true then
    some false
   else
    w_eqProofS_L1 rec_w_eqProof l1 l2 m (IntKind.i64.wrap (i4 + 1))
  else
   some true

mutual

def w_eqProof : Nat → Pf → Pf → Option Bool
 | 0, _, _ => none
 | n + 1, x1, x2 =>
  if (x1.kind != x2.kind) = true then
   some false
  else
   if (x1.n != x2.n) = true then
    some false
   else
    (w_eqFormS n x1.forms x2.forms).bind fun r5 =>
    if (!r5) = true then
     some false
    else
     (w_eqProofS n x1.kids x2.kids).bind fun r13 =>
     if (!r13) = true then
      some false
     else
      some true

def w_eqProofS : Nat → List Pf → List Pf → Option Bool
 | 0, _, _ => none
 | n + 1, l1, l2 =>
  if (((l1).length : Int) != ((l2).length : Int)) = true then
   some false
  else
   w_eqProofS_L1 (w_eqProof n) l1 l2 n 0

end

def w_eqProof_P (n : Nat) : Prop := ∀ (k1 : Int) (n1 : Int) (p1 : Nat) (e1 : Bool) (fs1 : List LF) (q1 : Nat) (f1 : Bool) (ks1 : List LP) (k2 : Int) (n2 : Int) (p2 : Nat) (e2 : Bool) (fs2 : List LF) (q2 : Nat) (f2 : Bool) (ks2 : List LP) {r : Bool}, w_eqProof n (Pf.mk k1 n1 (fers fs1) (pers ks1)) (Pf.mk k2 n2 (fers fs2) (pers ks2)) = some r → ∀ (O : Heap) (tk : Nat), ACalls Go.Proofs.Try.prog 36 [.agg [.int .i64 k1, .int .i64 n1, .imm p1 3 e1 (fcellss fs1), .imm q1 4 f1 (pcellss ks1)], .agg [.int .i64 k2, .int .i64 n2, .imm p2 3 e2 (fcellss fs2), .imm q2 4 f2 (pcellss ks2)]] O tk (RetX O tk (fun v tk' => v = .bool r))

set_option maxRecDepth 100000 in
theorem w_eqProof_st (n : Nat) (ih_w_eqProofS : ∀ (q1 : Nat) (f1 : Bool) (ks1 : List LP) (q2 : Nat) (f2 : Bool) (ks2 : List LP) {r : Bool}, w_eqProofS n (pers ks1) (pers ks2) = some r → ∀ (O : Heap) (tk : Nat), ACalls Go.Proofs.Try.prog 103 [.imm q1 4 f1 (pcellss ks1), .imm q2 4 f2 (pcellss ks2)] O tk (RetX O tk (fun v tk' => v = .bool r))) : w_eqProof_P (n + 1) := by
 intro k1 n1 p1 e1 fs1 q1 f1 ks1 k2 n2 p2 e2 fs2 q2 f2 ks2 r hM O tk
 rw [w_eqProof] at hM
 refine acalls_of_run Go.Proofs.Try.func36 rfl rfl [] [] (Bor.nil _) [(0, .agg [.int .i64 k1, .int .i64 n1, .imm p1 3 e1 (fcellss fs1), .imm q1 4 f1 (pcellss ks1)]), (1, .agg [.int .i64 k2, .int .i64 n2, .imm p2 3 e2 (fcellss fs2), .imm q2 4 f2 (pcellss ks2)])] (.cons (.agg _) (.cons (.agg _) (.nil _))) (leb rfl) (fun _ h => by cases h) (fun S0 hO htk hfz => ?_)
 refine run_sr ?_
 refine run_op rfl (box_step (d := 2) rfl rfl rfl rfl rfl) rfl (ltb rfl) ?_
 refine run_op rfl (box_step (d := 3) rfl rfl rfl rfl rfl) rfl (ltb rfl) ?_
 refine yR rfl ?_
 refine yN ?_
 refine run_seq ?_
 refine run_sr ?_
 refine yF hG rfl ?_
 refine yD hG rfl ?_
 refine yF hG rfl ?_
 refine yD hG rfl ?_
 refine yB rfl ?_
 refine yN ?_
 refine run_ifb rfl rfl (fun hb3 => ?_) (fun hb3 => ?_)
 ·replace hM := ite_t hb3 hM
  refine run_sr ?_
  refine yR rfl ?_
  refine yN ?_
  refine run_ret_to ?_
  obtain rfl := some_t hM
  refine fin_x hG rfl rfl rfl (v' := .bool false) (by rfl) ⟨rfl, (show tk ≤ tk by omega), _, rfl, rfl⟩
 replace hM := ite_f hb3 hM
 refine run_skip ?_
 refine run_seq ?_
 refine run_sr ?_
 refine yF hG rfl ?_
 refine yD hG rfl ?_
 refine yF hG rfl ?_
 refine yD hG rfl ?_
 refine yB rfl ?_
 refine yN ?_
 refine run_ifb rfl rfl (fun hb4 => ?_) (fun hb4 => ?_)
 ·replace hM := ite_t hb4 hM
  refine run_sr ?_
  refine yR rfl ?_
  refine yN ?_
  refine run_ret_to ?_
  obtain rfl := some_t hM
  refine fin_x hG rfl rfl rfl (v' := .bool false) (by rfl) ⟨rfl, (show tk ≤ tk by omega), _, rfl, rfl⟩
 replace hM := ite_f hb4 hM
 refine run_skip ?_
 refine run_seq ?_
 refine run_sr ?_
 refine yF hG rfl ?_
 refine yD hG rfl ?_
 refine yF hG rfl ?_
 refine yD hG rfl ?_
 obtain ⟨r5, hg6, hM⟩ := bind_t hM
 refine yK rfl (w_eqFormS_ok n p1 e1 fs1 p2 e2 fs2 hg6 _ _) (callK_retX (fun v tk7 (hle8 : tk ≤ tk7) h9 => ?_))
 subst h9
 refine run_pu rfl (aun_step rfl rfl rfl) rfl (ltb rfl) ?_
 refine yN ?_
 refine run_sub_code (σ' := ⟨[(2, .optr (.loc 2) 0 0), (3, .optr (.loc 3) 0 0), (4, .bool false), (20, .bool (!r5))], [(3, ⟨26, 4, true, [[.int .i64 k2, .int .i64 n2, .imm p2 3 e2 (fcellss fs2), .imm q2 4 f2 (pcellss ks2)]]⟩), (2, ⟨26, 4, true, [[.int .i64 k1, .int .i64 n1, .imm p1 3 e1 (fcellss fs1), .imm q1 4 f1 (pcellss ks1)]]⟩)], [], O, tk7⟩) (Sub.env _ ⟨rfl, rfl, rfl, rfl, trivial⟩) ?_
 refine run_ifb rfl rfl (fun hb12 => ?_) (fun hb12 => ?_)
 ·replace hM := ite_t hb12 hM
  refine run_sr ?_
  refine yR rfl ?_
  refine yN ?_
  refine run_ret_to ?_
  obtain rfl := some_t hM
  refine fin_x hG rfl rfl rfl (v' := .bool false) (by rfl) ⟨rfl, (show tk ≤ tk7 by omega), _, rfl, rfl⟩
 replace hM := ite_f hb12 hM
 refine run_skip ?_
 refine run_seq ?_
 refine run_sr ?_
 refine yF hG rfl ?_
 refine yD hG rfl ?_
 refine yF hG rfl ?_
 refine yD hG rfl ?_
 obtain ⟨r13, hg14, hM⟩ := bind_t hM
 refine yK rfl (ih_w_eqProofS q1 f1 ks1 q2 f2 ks2 hg14 _ _) (callK_retX (fun v tk15 (hle16 : tk7 ≤ tk15) h17 => ?_))
 subst h17
 refine run_pu rfl (aun_step rfl rfl rfl) rfl (ltb rfl) ?_
 refine yN ?_
 refine run_ifb rfl rfl (fun hb20 => ?_) (fun hb20 => ?_)
 ·replace hM := ite_t hb20 hM
  refine run_sr ?_
  refine yR rfl ?_
  refine yN ?_
  refine run_ret_to ?_
  obtain rfl := some_t hM
  refine fin_x hG rfl rfl rfl (v' := .bool false) (by rfl) ⟨rfl, (show tk ≤ tk15 by omega), _, rfl, rfl⟩
 replace hM := ite_f hb20 hM
 refine run_skip ?_
 refine run_sr ?_
 refine yR rfl ?_
 refine yN ?_
 refine run_ret_to ?_
 obtain rfl := some_t hM
 refine fin_x hG rfl rfl rfl (v' := .bool true) (by rfl) ⟨rfl, (show tk ≤ tk15 by omega), _, rfl, rfl⟩

set_option maxRecDepth 100000 in
theorem w_eqProofS_st (n : Nat) (ih_w_eqProof : w_eqProof_P n) : ∀ (q1 : Nat) (f1 : Bool) (ks1 : List LP) (q2 : Nat) (f2 : Bool) (ks2 : List LP) {r : Bool}, w_eqProofS (n + 1) (pers ks1) (pers ks2) = some r → ∀ (O : Heap) (tk : Nat), ACalls Go.Proofs.Try.prog 103 [.imm q1 4 f1 (pcellss ks1), .imm q2 4 f2 (pcellss ks2)] O tk (RetX O tk (fun v tk' => v = .bool r)) := by
 intro q1 f1 ks1 q2 f2 ks2 r hM O tk
 rw [w_eqProofS] at hM
 refine acalls_of_run Go.Proofs.Try.func103 rfl rfl [] [] (Bor.nil _) [(0, .imm q1 4 f1 (pcellss ks1)), (1, .imm q2 4 f2 (pcellss ks2))] (.cons (entS rfl) (.cons (entS rfl) (.nil _))) (leb rfl) (fun _ h => by cases h) (fun S0 hO htk hfz => ?_)
 refine run_sr ?_
 refine yR rfl ?_
 refine yN ?_
 refine run_seq ?_
 refine run_sr ?_
 refine yL rfl ?_
 refine run_pu rfl (lenImm_step hG rfl rfl rfl rfl (plen _)) rfl (ltb rfl) ?_
 refine yL rfl ?_
 refine run_pu rfl (lenImm_step hG rfl rfl rfl rfl (plen _)) rfl (ltb rfl) ?_
 refine yB rfl ?_
 refine yN ?_
 refine run_ifb rfl rfl (fun hb3 => ?_) (fun hb3 => ?_)
 ·replace hM := ite_t hb3 hM
  refine run_sr ?_
  refine yR rfl ?_
  refine yN ?_
  refine run_ret_to ?_
  obtain rfl := some_t hM
  refine fin_x hG rfl rfl rfl (v' := .bool false) (by rfl) ⟨rfl, (show tk ≤ tk by omega), _, rfl, rfl⟩
 replace hM := ite_f hb3 hM
 refine run_skip ?_
 refine run_seq ?_
 refine run_sr ?_
 refine yR rfl ?_
 refine yN ?_
 refine run_block ?_
 refine run_rounds (fun m σ => ∃ (i4 : Int) (tkw_eqProofS_L1 : Nat), tk ≤ tkw_eqProofS_L1 ∧ w_eqProofS_L1 (w_eqProof n) (pers ks1) (pers ks2) m i4 = some r ∧ σ = ⟨[(0, .imm q1 4 f1 (pcellss ks1)), (1, .imm q2 4 f2 (pcellss ks2)), (4, .bool false), (5, .int .i64 i4)], [], [], O, tkw_eqProofS_L1⟩) n (Sub.pk [0, 1, 4, 5] rfl) ⟨0, tk, Nat.le_refl _, hM, rfl⟩ (fun m σ hI => ?_)
 clear hM
 obtain ⟨i4, tkw_eqProofS_L1, hle24, hM, rfl⟩ := hI
 obtain _ | m := m
 ·exact absurd hM (by rw [w_eqProofS_L1]; exact fun h => by cases h)
 rw [w_eqProofS_L1] at hM
 refine run_seq ?_
 refine run_sr ?_
 refine yL rfl ?_
 refine yL rfl ?_
 refine run_pu rfl (lenImm_step hG rfl rfl rfl rfl (plen _)) rfl (ltb rfl) ?_
 refine yB rfl ?_
 refine yN ?_
 refine run_ifd rfl rfl (fun hb5 => ?_) (fun hb5 => ?_)
 ·replace hM := ite_t hb5 hM
  refine run_skip ?_
  refine run_seq ?_
  refine run_block ?_
  refine run_seq ?_
  refine run_draw [] (n := 10) mixed rfl yE ?_
  refine yTV 0 (by kernel_rfl) rfl ?_
  refine yTV 1 (by kernel_rfl) rfl ?_
  obtain ⟨y6, hy7, hM⟩ := bind_t hM
  obtain ⟨k8, n8, p8, e8, fs8, q8, f8, ks8, rfl, hc9, hi10⟩ := pidx hy7
  refine yT 2 (by kernel_rfl) rfl rfl rfl (ltb rfl) ((indexImm_step hG rfl rfl rfl hi10 rfl rfl rfl rfl hc9).rd _) ?_
  refine yTL hG 3 (by kernel_rfl) rfl ?_
  refine yTV 4 (by kernel_rfl) rfl ?_
  refine yTV 5 (by kernel_rfl) rfl ?_
  obtain ⟨y11, hy12, hM⟩ := bind_t hM
  obtain ⟨k13, n13, p13, e13, fs13, q13, f13, ks13, rfl, hc14, hi15⟩ := pidx hy12
  refine yT 6 (by kernel_rfl) rfl rfl rfl (ltb rfl) ((indexImm_step hG rfl rfl rfl hi15 rfl rfl rfl rfl hc14).rd _) ?_
  refine yTL hG 7 (by kernel_rfl) rfl ?_
  obtain ⟨r16, hg17, hM⟩ := bind_t hM
  refine yC 8 (by kernel_rfl) rfl rfl (ih_w_eqProof k8 n8 p8 e8 fs8 q8 f8 ks8 k13 n13 p13 e13 fs13 q13 f13 ks13 hg17 _ _) (callK_retX (fun v tk18 (hle19 : tkw_eqProofS_L1 ≤ tk18) h20 => ?_))
  subst h20
  refine yT 9 (by kernel_rfl) rfl rfl rfl (ltb rfl) ((aun_step rfl rfl rfl).rd _) ?_
  refine AAny.done (by kernel_rfl) ?_
  refine run_sub_code (σ' := ⟨[(0, .imm q1 4 f1 (pcellss ks1)), (1, .imm q2 4 f2 (pcellss ks2)), (4, .bool false), (5, .int .i64 i4), (26, .bool (!r16))], [], [], O, tk18⟩) (Sub.env _ ⟨rfl, rfl, rfl, rfl, rfl, trivial⟩) ?_
  refine run_ifb rfl rfl (fun hb23 => ?_) (fun hb23 => ?_)
  ·replace hM := ite_t hb23 hM
   refine run_sr ?_
   refine yR rfl ?_
   refine yN ?_
   refine run_ret_to ?_
   obtain rfl := some_t hM
   refine fin_x hG rfl rfl rfl (v' := .bool false) (by rfl) ⟨rfl, (show tk ≤ tk18 by omega), _, rfl, rfl⟩
  replace hM := ite_f hb23 hM
  refine run_skip ?_
  refine run_blk ?_
  refine run_region ?_
  refine yL rfl ?_
  refine yB rfl ?_
  refine yR rfl ?_
  refine yN ?_
  exact run_loop_end ⟨m, _, Nat.lt_succ_self _, ⟨(IntKind.i64.wrap (i4 + 1)), tk18, (show tk ≤ tk18 by omega), hM, rfl⟩, Sub.pk [0, 1, 4, 5] rfl⟩
 replace hM := ite_f hb5 hM
 refine run_exit_to rfl ?_
 refine run_sr ?_
 refine yR rfl ?_
 refine yN ?_
 refine run_ret_to ?_
 obtain rfl := some_t hM
 refine fin_x hG rfl rfl rfl (v' := .bool true) (by rfl) ⟨rfl, (show tk ≤ tkw_eqProofS_L1 by omega), _, rfl, rfl⟩

theorem w_eqProof_all : ∀ (n : Nat), (w_eqProof_P n) ∧ (∀ (q1 : Nat) (f1 : Bool) (ks1 : List LP) (q2 : Nat) (f2 : Bool) (ks2 : List LP) {r : Bool}, w_eqProofS n (pers ks1) (pers ks2) = some r → ∀ (O : Heap) (tk : Nat), ACalls Go.Proofs.Try.prog 103 [.imm q1 4 f1 (pcellss ks1), .imm q2 4 f2 (pcellss ks2)] O tk (RetX O tk (fun v tk' => v = .bool r)))
 | 0 => ⟨(by intro k1 n1 p1 e1 fs1 q1 f1 ks1 k2 n2 p2 e2 fs2 q2 f2 ks2 r hM; rw [w_eqProof] at hM; cases hM), (by intro q1 f1 ks1 q2 f2 ks2 r hM; rw [w_eqProofS] at hM; cases hM)⟩
 | n + 1 => have ih := w_eqProof_all n; ⟨w_eqProof_st n (ih.2), w_eqProofS_st n (ih.1)⟩

theorem w_eqProof_ok (n : Nat) : w_eqProof_P n := (w_eqProof_all n).1

end Go.Am.Ytpkeophkdemcpaa
