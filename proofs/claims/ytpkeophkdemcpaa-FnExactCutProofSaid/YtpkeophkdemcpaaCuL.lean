/- Printed by a program of ours: Lean functions that do what the Go functions do, and the contracts. -/
import Derived.Test.YtpkeophkdemcpaaTypes
import Derived.Test.YtpkeophkdemcpaaMsProof
import Derived.Test.YtpkeophkdemcpaaCuI
import Derived.Test.YtpkeophkdemcpaaCuS
import Derived.Test.YtpkeophkdemcpaaMlProof
import Derived.Test.YtpkeophkdemcpaaMlForm
import Derived.Test.YtpkeophkdemcpaaMz
-- packed
namespace Go.Am.Ytpkeophkdemcpaa
open Go Go.Am

def w_heldFormS_L1 (rec_w_heldFormS : List F → Int → Option Int) (l1 : List F) : Nat → Int → Int → Option Int
 | 0, _, _ => none
 | m + 1, i3, i4 =>
  if i4 < ((l1).length : Int) then
   (idx l1 i4).bind fun y6 =>
   if (y6.kind != i3) = true then
    some (-1)
   else
    (idx l1 i4).bind fun y12 =>
    if (y12.n != (IntKind.i64.wrap (i3 + 1))) = true then
     some (-1)
    else
     (idx l1 i4).bind fun y18 =>
     (rec_w_heldFormS y18.kids (IntKind.i64.wrap ((IntKind.i64.wrap (i3 + 1)) + 1))).bind fun r23 =>
     if r23 < 0 then
      some (-1)
     else
      w_heldFormS_L1 rec_w_heldFormS l1 m r23 (IntKind.i64.wrap (i4 + 1))
  else
   some i3

def w_heldFormS : Nat → List F → Int → Option Int
 | 0, _, _ => none
 | n + 1, l1, i2 =>
  w_heldFormS_L1 (w_heldFormS n) l1 n i2 0

def w_heldFormS_P (n : Nat) : Prop := ∀ (q1 : Nat) (f1 : Bool) (ks1 : List LF) (i2 : Int) {r : Int}, w_heldFormS n (fers ks1) i2 = some r → ∀ (O : Heap) (tk : Nat), ACalls Go.Proofs.Try.prog 106 [.imm q1 3 f1 (fcellss ks1), .int .i64 i2] O tk (RetX O tk (fun v tk' => v = .int .i64 r))

set_option maxRecDepth 100000 in
theorem w_heldFormS_st (n : Nat) (ih_w_heldFormS : w_heldFormS_P n) : w_heldFormS_P (n + 1) := by
 intro q1 f1 ks1 i2 r hM O tk
 rw [w_heldFormS] at hM
 refine acalls_of_run Go.Proofs.Try.func106 rfl rfl [] [] (Bor.nil _) [(0, .imm q1 3 f1 (fcellss ks1)), (1, .int .i64 i2)] (.cons (entS rfl) (.cons (entS rfl) (.nil _))) (leb rfl) (fun _ h => by cases h) (fun S0 hO htk hfz => ?_)
 refine run_sr ?_
 refine yR rfl ?_
 refine yN ?_
 refine run_seq ?_
 refine run_sr ?_
 refine yR rfl ?_
 refine yN ?_
 refine run_block ?_
 refine run_rounds (fun m σ => ∃ (i3 : Int) (i4 : Int) (tkw_heldFormS_L1 : Nat), tk ≤ tkw_heldFormS_L1 ∧ w_heldFormS_L1 (w_heldFormS n) (fers ks1) m i3 i4 = some r ∧ σ = ⟨[(0, .imm q1 3 f1 (fcellss ks1)), (1, .int .i64 i3), (4, .int .i64 0), (5, .int .i64 i4)], [], [], O, tkw_heldFormS_L1⟩) n (Sub.pk [0, 1, 4, 5] rfl) ⟨i2, 0, tk, Nat.le_refl _, hM, rfl⟩ (fun m σ hI => ?_)
 clear hM
 obtain ⟨i3, i4, tkw_heldFormS_L1, hle31, hM, rfl⟩ := hI
 obtain _ | m := m
 ·exact absurd hM (by rw [w_heldFormS_L1]; exact fun h => by cases h)
 rw [w_heldFormS_L1] at hM
 refine run_seq ?_
 refine run_sr ?_
 refine yL rfl ?_
 refine yL rfl ?_
 refine run_pu rfl (lenImm_step hG rfl rfl rfl rfl (flen _)) rfl (ltb rfl) ?_
 refine yB rfl ?_
 refine yN ?_
 refine run_ifd rfl rfl (fun hb5 => ?_) (fun hb5 => ?_)
 ·replace hM := ite_t hb5 hM
  refine run_skip ?_
  refine run_seq ?_
  refine run_block ?_
  refine run_seq ?_
  refine run_sr ?_
  refine yL rfl ?_
  refine yL rfl ?_
  obtain ⟨y6, hy7, hM⟩ := bind_t hM
  obtain ⟨k8, n8, q8, f8, ks8, rfl, hc9, hi10⟩ := fidx (ks := ks1) hy7
  refine run_pu rfl (indexImm_step hG rfl rfl rfl hi10 rfl rfl rfl rfl hc9) rfl (ltb rfl) ?_
  refine yF hG rfl ?_
  refine yD hG rfl ?_
  refine yL rfl ?_
  refine yB rfl ?_
  refine yN ?_
  refine run_ifb rfl rfl (fun hb11 => ?_) (fun hb11 => ?_)
  ·replace hM := ite_t hb11 hM
   refine run_sr ?_
   refine yR rfl ?_
   refine yN ?_
   refine run_ret_to ?_
   replace hM := some_t hM
   subst hM
   refine fin_x hG rfl rfl rfl (v' := .int .i64 (-1)) (by rfl) ⟨rfl, (show tk ≤ tkw_heldFormS_L1 by omega), _, rfl, rfl⟩
  replace hM := ite_f hb11 hM
  refine run_skip ?_
  refine run_sr ?_
  refine yL rfl ?_
  refine yB rfl ?_
  refine yR rfl ?_
  refine yN ?_
  refine run_sub_code (σ' := ⟨[(0, .imm q1 3 f1 (fcellss ks1)), (1, .int .i64 (IntKind.i64.wrap (i3 + 1))), (4, .int .i64 0), (5, .int .i64 i4)], [], [], O, tkw_heldFormS_L1⟩) (Sub.env _ ⟨rfl, rfl, rfl, rfl, trivial⟩) ?_
  refine run_seq ?_
  refine run_sr ?_
  refine yL rfl ?_
  refine yL rfl ?_
  obtain ⟨y12, hy13, hM⟩ := bind_t hM
  obtain ⟨k14, n14, q14, f14, ks14, rfl, hc15, hi16⟩ := fidx (ks := ks1) hy13
  refine run_pu rfl (indexImm_step hG rfl rfl rfl hi16 rfl rfl rfl rfl hc15) rfl (ltb rfl) ?_
  refine yF hG rfl ?_
  refine yD hG rfl ?_
  refine yL rfl ?_
  refine yB rfl ?_
  refine yN ?_
  refine run_ifb rfl rfl (fun hb17 => ?_) (fun hb17 => ?_)
  ·replace hM := ite_t hb17 hM
   refine run_sr ?_
   refine yR rfl ?_
   refine yN ?_
   refine run_ret_to ?_
   replace hM := some_t hM
   subst hM
   refine fin_x hG rfl rfl rfl (v' := .int .i64 (-1)) (by rfl) ⟨rfl, (show tk ≤ tkw_heldFormS_L1 by omega), _, rfl, rfl⟩
  replace hM := ite_f hb17 hM
  refine run_skip ?_
  refine run_sr ?_
  refine yL rfl ?_
  refine yB rfl ?_
  refine yR rfl ?_
  refine yN ?_
  refine run_sr ?_
  refine yL rfl ?_
  refine yL rfl ?_
  obtain ⟨y18, hy19, hM⟩ := bind_t hM
  obtain ⟨k20, n20, q20, f20, ks20, rfl, hc21, hi22⟩ := fidx (ks := ks1) hy19
  refine run_pu rfl (indexImm_step hG rfl rfl rfl hi22 rfl rfl rfl rfl hc21) rfl (ltb rfl) ?_
  refine yF hG rfl ?_
  refine yD hG rfl ?_
  refine yL rfl ?_
  obtain ⟨r23, hg24, hM⟩ := bind_t hM
  refine yK rfl (ih_w_heldFormS q20 f20 ks20 (IntKind.i64.wrap ((IntKind.i64.wrap (i3 + 1)) + 1)) hg24 _ _) (callK_retX (fun v tk25 (hle26 : tkw_heldFormS_L1 ≤ tk25) h27 => ?_))
  subst h27
  refine yR rfl ?_
  refine yN ?_
  refine run_sub_code (σ' := ⟨[(0, .imm q1 3 f1 (fcellss ks1)), (1, .int .i64 r23), (4, .int .i64 0), (5, .int .i64 i4)], [], [], O, tk25⟩) (Sub.env _ ⟨rfl, rfl, rfl, rfl, trivial⟩) ?_
  refine run_sr ?_
  refine yL rfl ?_
  refine yB rfl ?_
  refine yN ?_
  refine run_ifd rfl rfl (fun hb30 => ?_) (fun hb30 => ?_)
  ·replace hM := ite_t hb30 hM
   refine run_sr ?_
   refine yR rfl ?_
   refine yN ?_
   refine run_ret_to ?_
   replace hM := some_t hM
   subst hM
   refine fin_x hG rfl rfl rfl (v' := .int .i64 (-1)) (by rfl) ⟨rfl, (show tk ≤ tk25 by omega), _, rfl, rfl⟩
  replace hM := ite_f hb30 hM
  refine run_skip ?_
  refine run_blk ?_
  refine run_region ?_
  refine yL rfl ?_
  refine yB rfl ?_
  refine yR rfl ?_
  refine yN ?_
  exact run_loop_end ⟨m, _, Nat.lt_succ_self _, ⟨r23, (IntKind.i64.wrap (i4 + 1)), tk25, (show tk ≤ tk25 by omega), hM, rfl⟩, Sub.pk [0, 1, 4, 5] rfl⟩
 replace hM := ite_f hb5 hM
 refine run_exit_to rfl ?_
 refine run_sr ?_
 refine yL rfl ?_
 refine yR rfl ?_
 refine yN ?_
 refine run_ret_to ?_
 replace hM := some_t hM
 subst hM
 refine fin_x hG rfl rfl rfl (v' := .int .i64 i3) (by rfl) ⟨rfl, (show tk ≤ tkw_heldFormS_L1 by omega), _, rfl, rfl⟩

theorem w_heldFormS_all : ∀ (n : Nat), (w_heldFormS_P n)
 | 0 => by intro q1 f1 ks1 i2 r hM; rw [w_heldFormS] at hM; cases hM
 | n + 1 => have ih := w_heldFormS_all n; w_heldFormS_st n (ih)

theorem w_heldFormS_ok (n : Nat) : w_heldFormS_P n := w_heldFormS_all n

def w_heldProofS_L1 (rec_w_heldProofS : List Pf → Int → Option Int) (n : Nat) (l1 : List Pf) : Nat → Int → Int → Option Int
 | 0, _, _ => none
 | m + 1, i3, i4 =>
  if i4 < ((l1).length : Int) then
   (idx l1 i4).bind fun y6 =>
   if (y6.kind != i3) = true then
    some (-1)
   else
    (idx l1 i4).bind fun y12 =>
    if (y12.n != (IntKind.i64.wrap (i3 + 1))) = true then
     some (-1)
    else
     (idx l1 i4).bind fun y18 =>
     (w_heldFormS n y18.forms (IntKind.i64.wrap ((IntKind.i64.wrap (i3 + 1)) + 1))).bind fun r23 =>
     if r23 < 0 then
      some (-1)
     else
      (idx l1 i4).bind fun y31 =>
      (rec_w_heldProofS y31.kids r23).bind fun r36 =>
      if r36 < 0 then
       some (-1)
      else
       w_heldProofS_L1 rec_w_heldProofS n l1 m r36 (IntKind.i64.wrap (i4 + 1))
  else
   some i3

def w_heldProofS : Nat → List Pf → Int → Option Int
 | 0, _, _ => none
 | n + 1, l1, i2 =>
  w_heldProofS_L1 (w_heldProofS n) n l1 n i2 0

def w_heldProofS_P (n : Nat) : Prop := ∀ (q1 : Nat) (f1 : Bool) (ks1 : List LP) (i2 : Int) {r : Int}, w_heldProofS n (pers ks1) i2 = some r → ∀ (O : Heap) (tk : Nat), ACalls Go.Proofs.Try.prog 107 [.imm q1 4 f1 (pcellss ks1), .int .i64 i2] O tk (RetX O tk (fun v tk' => v = .int .i64 r))

set_option maxHeartbeats 20000000 in
set_option maxRecDepth 100000 in
theorem w_heldProofS_st (n : Nat) (ih_w_heldProofS : w_heldProofS_P n) : w_heldProofS_P (n + 1) := by
 intro q1 f1 ks1 i2 r hM O tk
 rw [w_heldProofS] at hM
 refine acalls_of_run Go.Proofs.Try.func107 rfl rfl [] [] (Bor.nil _) [(0, .imm q1 4 f1 (pcellss ks1)), (1, .int .i64 i2)] (.cons (entS rfl) (.cons (entS rfl) (.nil _))) (leb rfl) (fun _ h => by cases h) (fun S0 hO htk hfz => ?_)
 refine run_sr ?_
 refine yR rfl ?_
 refine yN ?_
 refine run_seq ?_
 refine run_sr ?_
 refine yR rfl ?_
 refine yN ?_
 refine run_block ?_
 refine run_rounds (fun m σ => ∃ (i3 : Int) (i4 : Int) (tkw_heldProofS_L1 : Nat), tk ≤ tkw_heldProofS_L1 ∧ w_heldProofS_L1 (w_heldProofS n) n (pers ks1) m i3 i4 = some r ∧ σ = ⟨[(0, .imm q1 4 f1 (pcellss ks1)), (1, .int .i64 i3), (4, .int .i64 0), (5, .int .i64 i4)], [], [], O, tkw_heldProofS_L1⟩) n (Sub.pk [0, 1, 4, 5] rfl) ⟨i2, 0, tk, Nat.le_refl _, hM, rfl⟩ (fun m σ hI => ?_)
 clear hM
 obtain ⟨i3, i4, tkw_heldProofS_L1, hle44, hM, rfl⟩ := hI
 obtain _ | m := m
 ·exact absurd hM (by rw [w_heldProofS_L1]; exact fun h => by cases h)
 rw [w_heldProofS_L1] at hM
 refine run_seq ?_
 refine run_sr ?_
 refine yL rfl ?_
 refine yL rfl ?_
 refine run_pu rfl (lenImm_step hG rfl rfl rfl rfl (plen _)) rfl (ltb rfl) ?_
 refine yB rfl ?_
 refine yN ?_
 refine run_ifd rfl rfl (fun hb5 => ?_) (fun hb5 => ?_)
 ·replace hM := ite_t hb5 hM
  refine run_skip ?_
  refine run_seq ?_
  refine run_block ?_
  refine run_seq ?_
  refine run_sr ?_
  refine yL rfl ?_
  refine yL rfl ?_
  obtain ⟨y6, hy7, hM⟩ := bind_t hM
  obtain ⟨k8, n8, p8, e8, fs8, q8, f8, ks8, rfl, hc9, hi10⟩ := pidx (ks := ks1) hy7
  refine run_pu rfl (indexImm_step hG rfl rfl rfl hi10 rfl rfl rfl rfl hc9) rfl (ltb rfl) ?_
  refine yF hG rfl ?_
  refine yD hG rfl ?_
  refine yL rfl ?_
  refine yB rfl ?_
  refine yN ?_
  refine run_ifb rfl rfl (fun hb11 => ?_) (fun hb11 => ?_)
  ·replace hM := ite_t hb11 hM
   refine run_sr ?_
   refine yR rfl ?_
   refine yN ?_
   refine run_ret_to ?_
   replace hM := some_t hM
   subst hM
   refine fin_x hG rfl rfl rfl (v' := .int .i64 (-1)) (by rfl) ⟨rfl, (show tk ≤ tkw_heldProofS_L1 by omega), _, rfl, rfl⟩
  replace hM := ite_f hb11 hM
  refine run_skip ?_
  refine run_sr ?_
  refine yL rfl ?_
  refine yB rfl ?_
  refine yR rfl ?_
  refine yN ?_
  refine run_sub_code (σ' := ⟨[(0, .imm q1 4 f1 (pcellss ks1)), (1, .int .i64 (IntKind.i64.wrap (i3 + 1))), (4, .int .i64 0), (5, .int .i64 i4)], [], [], O, tkw_heldProofS_L1⟩) (Sub.env _ ⟨rfl, rfl, rfl, rfl, trivial⟩) ?_
  refine run_seq ?_
  refine run_sr ?_
  refine yL rfl ?_
  refine yL rfl ?_
  obtain ⟨y12, hy13, hM⟩ := bind_t hM
  obtain ⟨k14, n14, p14, e14, fs14, q14, f14, ks14, rfl, hc15, hi16⟩ := pidx (ks := ks1) hy13
  refine run_pu rfl (indexImm_step hG rfl rfl rfl hi16 rfl rfl rfl rfl hc15) rfl (ltb rfl) ?_
  refine yF hG rfl ?_
  refine yD hG rfl ?_
  refine yL rfl ?_
  refine yB rfl ?_
  refine yN ?_
  refine run_ifb rfl rfl (fun hb17 => ?_) (fun hb17 => ?_)
  ·replace hM := ite_t hb17 hM
   refine run_sr ?_
   refine yR rfl ?_
   refine yN ?_
   refine run_ret_to ?_
   replace hM := some_t hM
   subst hM
   refine fin_x hG rfl rfl rfl (v' := .int .i64 (-1)) (by rfl) ⟨rfl, (show tk ≤ tkw_heldProofS_L1 by omega), _, rfl, rfl⟩
  replace hM := ite_f hb17 hM
  refine run_skip ?_
  refine run_sr ?_
  refine yL rfl ?_
  refine yB rfl ?_
  refine yR rfl ?_
  refine yN ?_
  refine run_sr ?_
  refine yL rfl ?_
  refine yL rfl ?_
  obtain ⟨y18, hy19, hM⟩ := bind_t hM
  obtain ⟨k20, n20, p20, e20, fs20, q20, f20, ks20, rfl, hc21, hi22⟩ := pidx (ks := ks1) hy19
  refine run_pu rfl (indexImm_step hG rfl rfl rfl hi22 rfl rfl rfl rfl hc21) rfl (ltb rfl) ?_
  refine yF hG rfl ?_
  refine yD hG rfl ?_
  refine yL rfl ?_
  obtain ⟨r23, hg24, hM⟩ := bind_t hM
  refine yK rfl (w_heldFormS_ok n p20 e20 fs20 (IntKind.i64.wrap ((IntKind.i64.wrap (i3 + 1)) + 1)) hg24 _ _) (callK_retX (fun v tk25 (hle26 : tkw_heldProofS_L1 ≤ tk25) h27 => ?_))
  subst h27
  refine yR rfl ?_
  refine yN ?_
  refine run_sub_code (σ' := ⟨[(0, .imm q1 4 f1 (pcellss ks1)), (1, .int .i64 r23), (4, .int .i64 0), (5, .int .i64 i4)], [], [], O, tk25⟩) (Sub.env _ ⟨rfl, rfl, rfl, rfl, trivial⟩) ?_
  refine run_seq ?_
  refine run_sr ?_
  refine yL rfl ?_
  refine yB rfl ?_
  refine yN ?_
  refine run_ifd rfl rfl (fun hb30 => ?_) (fun hb30 => ?_)
  ·replace hM := ite_t hb30 hM
   refine run_sr ?_
   refine yR rfl ?_
   refine yN ?_
   refine run_ret_to ?_
   replace hM := some_t hM
   subst hM
   refine fin_x hG rfl rfl rfl (v' := .int .i64 (-1)) (by rfl) ⟨rfl, (show tk ≤ tk25 by omega), _, rfl, rfl⟩
  replace hM := ite_f hb30 hM
  refine run_skip ?_
  refine run_sr ?_
  refine yL rfl ?_
  refine yL rfl ?_
  obtain ⟨y31, hy32, hM⟩ := bind_t hM
  obtain ⟨k33, n33, p33, e33, fs33, q33, f33, ks33, rfl, hc34, hi35⟩ := pidx (ks := ks1) hy32
  refine run_pu rfl (indexImm_step hG rfl rfl rfl hi35 rfl rfl rfl rfl hc34) rfl (ltb rfl) ?_
  refine yF hG rfl ?_
  refine yD hG rfl ?_
  refine yL rfl ?_
  obtain ⟨r36, hg37, hM⟩ := bind_t hM
  refine yK rfl (ih_w_heldProofS q33 f33 ks33 r23 hg37 _ _) (callK_retX (fun v tk38 (hle39 : tk25 ≤ tk38) h40 => ?_))
  subst h40
  refine yR rfl ?_
  refine yN ?_
  refine run_sr ?_
  refine yL rfl ?_
  refine yB rfl ?_
  refine yN ?_
  refine run_ifd rfl rfl (fun hb43 => ?_) (fun hb43 => ?_)
  ·replace hM := ite_t hb43 hM
   refine run_sr ?_
   refine yR rfl ?_
   refine yN ?_
   refine run_ret_to ?_
   replace hM := some_t hM
   subst hM
   refine fin_x hG rfl rfl rfl (v' := .int .i64 (-1)) (by rfl) ⟨rfl, (show tk ≤ tk38 by omega), _, rfl, rfl⟩
  replace hM := ite_f hb43 hM
  refine run_skip ?_
  refine run_blk ?_
  refine run_region ?_
  refine yL rfl ?_
  refine yB rfl ?_
  refine yR rfl ?_
  refine yN ?_
  exact run_loop_end ⟨m, _, Nat.lt_succ_self _, ⟨r36, (IntKind.i64.wrap (i4 + 1)), tk38, (show tk ≤ tk38 by omega), hM, rfl⟩, Sub.pk [0, 1, 4, 5] rfl⟩
 replace hM := ite_f hb5 hM
 refine run_exit_to rfl ?_
 refine run_sr ?_
 refine yL rfl ?_
 refine yR rfl ?_
 refine yN ?_
 refine run_ret_to ?_
 replace hM := some_t hM
 subst hM
 refine fin_x hG rfl rfl rfl (v' := .int .i64 i3) (by rfl) ⟨rfl, (show tk ≤ tkw_heldProofS_L1 by omega), _, rfl, rfl⟩

theorem w_heldProofS_all : ∀ (n : Nat), (w_heldProofS_P n)
 | 0 => by intro q1 f1 ks1 i2 r hM; rw [w_heldProofS] at hM; cases hM
 | n + 1 => have ih := w_heldProofS_all n; w_heldProofS_st n (ih)

theorem w_heldProofS_ok (n : Nat) : w_heldProofS_P n := w_heldProofS_all n

def w_heldProof (n : Nat) (x1 : Pf) (i2 : Int) : Option Int :=
 (w_heldFormS n x1.forms i2).bind fun r3 =>
 if r3 < 0 then
  some (-1)
 else
  (w_heldProofS n x1.kids r3).bind fun r11 =>
  if r11 < 0 then
   some (-1)
  else
   some r11

set_option maxRecDepth 100000 in
theorem w_heldProof_ok (n : Nat) : ∀ (k1 : Int) (n1 : Int) (p1 : Nat) (e1 : Bool) (fs1 : List LF) (q1 : Nat) (f1 : Bool) (ks1 : List LP) (i2 : Int) {r : Int}, w_heldProof n (Pf.mk k1 n1 (fers fs1) (pers ks1)) i2 = some r → ∀ (O : Heap) (tk : Nat), ACalls Go.Proofs.Try.prog 40 [.agg [.int .i64 k1, .int .i64 n1, .imm p1 3 e1 (fcellss fs1), .imm q1 4 f1 (pcellss ks1)], .int .i64 i2] O tk (RetX O tk (fun v tk' => v = .int .i64 r)) := by
 intro k1 n1 p1 e1 fs1 q1 f1 ks1 i2 r hM O tk
 unfold w_heldProof at hM
 refine acalls_of_run Go.Proofs.Try.func40 rfl rfl [] [] (Bor.nil _) [(0, .agg [.int .i64 k1, .int .i64 n1, .imm p1 3 e1 (fcellss fs1), .imm q1 4 f1 (pcellss ks1)]), (1, .int .i64 i2)] (.cons (.agg _) (.cons (entS rfl) (.nil _))) (leb rfl) (fun _ h => by cases h) (fun S0 hO htk hfz => ?_)
 refine run_sr ?_
 refine run_op rfl (box_step (d := 2) rfl rfl rfl rfl rfl) rfl (ltb rfl) ?_
 refine yR rfl ?_
 refine yN ?_
 refine run_sr ?_
 refine yF hG rfl ?_
 refine yD hG rfl ?_
 refine yL rfl ?_
 obtain ⟨r3, hg4, hM⟩ := bind_t hM
 refine yK rfl (w_heldFormS_ok n p1 e1 fs1 i2 hg4 _ _) (callK_retX (fun v tk5 (hle6 : tk ≤ tk5) h7 => ?_))
 subst h7
 refine yR rfl ?_
 refine yN ?_
 refine run_seq ?_
 refine run_sr ?_
 refine yL rfl ?_
 refine yB rfl ?_
 refine yN ?_
 refine run_ifd rfl rfl (fun hb10 => ?_) (fun hb10 => ?_)
 ·replace hM := ite_t hb10 hM
  refine run_sr ?_
  refine yR rfl ?_
  refine yN ?_
  refine run_ret_to ?_
  replace hM := some_t hM
  subst hM
  refine fin_x hG rfl rfl rfl (v' := .int .i64 (-1)) (by rfl) ⟨rfl, (show tk ≤ tk5 by omega), _, rfl, rfl⟩
 replace hM := ite_f hb10 hM
 refine run_skip ?_
 refine run_sr ?_
 refine yF hG rfl ?_
 refine yD hG rfl ?_
 refine yL rfl ?_
 obtain ⟨r11, hg12, hM⟩ := bind_t hM
 refine yK rfl (w_heldProofS_ok n q1 f1 ks1 r3 hg12 _ _) (callK_retX (fun v tk13 (hle14 : tk5 ≤ tk13) h15 => ?_))
 subst h15
 refine yR rfl ?_
 refine yN ?_
 refine run_sub_code (σ' := ⟨[(1, .int .i64 r11), (4, .int .i64 0)], [], [], O, tk13⟩) (Sub.trans (Sub.drop (k := 2) rfl) (Sub.env _ ⟨rfl, rfl, trivial⟩)) ?_
 refine run_seq ?_
 refine run_sr ?_
 refine yL rfl ?_
 refine yB rfl ?_
 refine yN ?_
 refine run_ifd rfl rfl (fun hb18 => ?_) (fun hb18 => ?_)
 ·replace hM := ite_t hb18 hM
  refine run_sr ?_
  refine yR rfl ?_
  refine yN ?_
  refine run_ret_to ?_
  replace hM := some_t hM
  subst hM
  refine fin_x hG rfl rfl rfl (v' := .int .i64 (-1)) (by rfl) ⟨rfl, (show tk ≤ tk13 by omega), _, rfl, rfl⟩
 replace hM := ite_f hb18 hM
 refine run_skip ?_
 refine run_sr ?_
 refine yL rfl ?_
 refine yR rfl ?_
 refine yN ?_
 refine run_ret_to ?_
 replace hM := some_t hM
 subst hM
 refine fin_x hG rfl rfl rfl (v' := .int .i64 r11) (by rfl) ⟨rfl, (show tk ≤ tk13 by omega), _, rfl, rfl⟩

def w_FnExactCutProof (n : Nat) (l1 : List F) (x2 : Pf) (x3 : Pf) : Option Bool :=
 (w_szFormS n l1 1048576).bind fun r4 =>
 if r4 < 0 then
  some true
 else
  (w_szProof n x2 r4).bind fun r12 =>
  if r12 < 0 then
   some true
  else
   (w_szProof n x3 r12).bind fun r20 =>
   if r20 < 0 then
    some true
   else
    jn (fun (i29 : Int) (i30 : Int) (i31 : Int) (l32 : List F) (l33 : List Pf) =>
     (w_toFormS n l1).bind fun r164 =>
     (w_toProof n x2).bind fun r171 =>
     (w_toProof n x3).bind fun r178 =>
     (i_CutProof n r164 r171 r178).bind fun r185 =>
     (w_eqProof n r185.1 (Pf.mk i30 i31 l32 l33)).bind fun r198 =>
     if (!r198) = true then
      some false
     else
      if (r185.2 != i29) = true then
       some false
      else
       (w_toFormS n l1).bind fun r207 =>
       (w_eqFormS n r164 r207).bind fun r214 =>
       if (!r214) = true then
        some false
       else
        (w_toProof n x2).bind fun r222 =>
        (w_eqProof n r171 r222).bind fun r229 =>
        if (!r229) = true then
         some false
        else
         (w_toProof n x3).bind fun r237 =>
         (w_eqProof n r178 r237).bind fun r244 =>
         if (!r244) = true then
          some false
         else
          (w_markFormS r164 1).bind fun r252 =>
          (w_markProof r171 r252.2).bind fun r261 =>
          (w_markProof r178 r261.2).bind fun r274 =>
          if r274.2 < 0 then
           some false
          else
           (w_eqProof n r185.1 (Pf.mk i30 i31 l32 l33)).bind fun r288 =>
           if (!r288) = true then
            some false
           else
            if (r185.2 != i29) = true then
             some false
            else
             (w_markProof r185.1 1).bind fun r297 =>
             (w_heldProof n (Pf.mk r185.1.kind r185.1.n r297.1.1 r297.1.2) 1).bind fun r310 =>
             if r310 < 0 then
              some false
             else
              if (r310 != r297.2) = true then
               some false
              else
               jn (fun (i320 : Int) (i321 : Int) (i322 : Int) (l323 : List F) (l324 : List Pf) =>
                (w_eqProof n (Pf.mk i321 i322 l323 l324) (Pf.mk i30 i31 l32 l33)).bind fun r455 =>
                if (!r455) = true then
                 some false
                else
                 if (i320 != i29) = true then
                  some false
                 else
                  (w_heldProof n (Pf.mk r185.1.kind r185.1.n r297.1.1 r297.1.2) 1).bind fun r464 =>
                  if r464 < 0 then
                   some false
                  else
                   if (r464 != r297.2) = true then
                    some false
                   else
                    some true) fun j319 =>
               (w_toFormS n l1).bind fun r327 =>
               (w_toProof n x2).bind fun r334 =>
               (w_toProof n x3).bind fun r341 =>
               (i_CutProof n r327 r334 r341).bind fun r348 =>
               j319 r348.2 r348.1.kind r348.1.n r348.1.forms r348.1.kids) fun j28 =>
    (w_toFormS n l1).bind fun r36 =>
    (w_toProof n x2).bind fun r43 =>
    (w_toProof n x3).bind fun r50 =>
    (s_CutProof n r36 r43 r50).bind fun r57 =>
    j28 r57.2 r57.1.kind r57.1.n r57.1.forms r57.1.kids

set_option maxHeartbeats 20000000 in
set_option maxHeartbeats 20000000 in
set_option maxRecDepth 100000 in
theorem w_FnExactCutProof_ok (n : Nat) : ∀ (q1 : Nat) (f1 : Bool) (ks1 : List LF) (k2 : Int) (n2 : Int) (p2 : Nat) (e2 : Bool) (fs2 : List LF) (q2 : Nat) (f2 : Bool) (ks2 : List LP) (k3 : Int) (n3 : Int) (p3 : Nat) (e3 : Bool) (fs3 : List LF) (q3 : Nat) (f3 : Bool) (ks3 : List LP) {r : Bool}, w_FnExactCutProof n (fers ks1) (Pf.mk k2 n2 (fers fs2) (pers ks2)) (Pf.mk k3 n3 (fers fs3) (pers ks3)) = some r → (∀ x ∈ fstoks q1 ks1, x = 0) → (∀ x ∈ fstoks p2 fs2, x = 0) → (∀ x ∈ pstoks q2 ks2, x = 0) → (∀ x ∈ fstoks p3 fs3, x = 0) → (∀ x ∈ pstoks q3 ks3, x = 0) → ∀ (O : Heap) (tk : Nat), O = (fun _ => none) → 2 ≤ tk → ACalls Go.Proofs.Try.prog 7 [.imm q1 3 f1 (fcellss ks1), .agg [.int .i64 k2, .int .i64 n2, .imm p2 3 e2 (fcellss fs2), .imm q2 4 f2 (pcellss ks2)], .agg [.int .i64 k3, .int .i64 n3, .imm p3 3 e3 (fcellss fs3), .imm q3 4 f3 (pcellss ks3)]] O tk (RetX O tk (fun v tk' => v = .bool r)) := by
 intro q1 f1 ks1 k2 n2 p2 e2 fs2 q2 f2 ks2 k3 n3 p3 e3 fs3 q3 f3 ks3 r hM ho0 ho1 ho2 ho3 ho4 O tk hOn h2tk
 unfold w_FnExactCutProof at hM
 refine acalls_of_run Go.Proofs.Try.func7 rfl rfl [] [] (Bor.nil _) [(0, .imm q1 3 f1 (fcellss ks1)), (1, .agg [.int .i64 k2, .int .i64 n2, .imm p2 3 e2 (fcellss fs2), .imm q2 4 f2 (pcellss ks2)]), (2, .agg [.int .i64 k3, .int .i64 n3, .imm p3 3 e3 (fcellss fs3), .imm q3 4 f3 (pcellss ks3)])] (.cons (entS rfl) (.cons (.agg _) (.cons (.agg _) (.nil _)))) (leb rfl) (fun _ h => by cases h) (fun S0 hO htk hfz => ?_)
 refine run_sr ?_
 refine run_op rfl (box_step (d := 4) rfl rfl rfl rfl rfl) rfl (ltb rfl) ?_
 refine run_op rfl (box_step (d := 5) rfl rfl rfl rfl rfl) rfl (ltb rfl) ?_
 refine yR rfl ?_
 refine yN ?_
 refine run_sr ?_
 refine yR rfl ?_
 refine yN ?_
 refine run_sr ?_
 refine yL rfl ?_
 refine yL rfl ?_
 obtain ⟨r4, hg5, hM⟩ := bind_t hM
 refine yK rfl (w_szFormS_ok n q1 f1 ks1 1048576 hg5 _ _) (callK_retX (fun v tk6 (hle7 : tk ≤ tk6) h8 => ?_))
 subst h8
 refine yR rfl ?_
 refine yN ?_
 refine run_seq ?_
 refine run_sr ?_
 refine yL rfl ?_
 refine yB rfl ?_
 refine yN ?_
 refine run_ifd rfl rfl (fun hb11 => ?_) (fun hb11 => ?_)
 ·replace hM := ite_t hb11 hM
  refine run_sr ?_
  refine yR rfl ?_
  refine yN ?_
  refine run_ret_to ?_
  replace hM := some_t hM
  subst hM
  refine fin_x hG rfl rfl rfl (v' := .bool true) (by rfl) ⟨rfl, (show tk ≤ tk6 by omega), _, rfl, rfl⟩
 replace hM := ite_f hb11 hM
 refine run_skip ?_
 refine run_sr ?_
 refine yD hG rfl ?_
 refine yL rfl ?_
 obtain ⟨r12, hg13, hM⟩ := bind_t hM
 refine yK rfl (w_szProof_ok n k2 n2 p2 e2 fs2 q2 f2 ks2 r4 hg13 _ _) (callK_retX (fun v tk14 (hle15 : tk6 ≤ tk14) h16 => ?_))
 subst h16
 refine yR rfl ?_
 refine yN ?_
 refine run_sub_code (σ' := ⟨[(0, .imm q1 3 f1 (fcellss ks1)), (4, .optr (.loc 4) 0 0), (5, .optr (.loc 5) 0 0), (6, .bool false), (7, .int .i64 r12)], [(5, ⟨73, 4, true, [[.int .i64 k3, .int .i64 n3, .imm p3 3 e3 (fcellss fs3), .imm q3 4 f3 (pcellss ks3)]]⟩), (4, ⟨73, 4, true, [[.int .i64 k2, .int .i64 n2, .imm p2 3 e2 (fcellss fs2), .imm q2 4 f2 (pcellss ks2)]]⟩)], [], O, tk14⟩) (Sub.env _ ⟨rfl, rfl, rfl, rfl, rfl, trivial⟩) ?_
 refine run_seq ?_
 refine run_sr ?_
 refine yL rfl ?_
 refine yB rfl ?_
 refine yN ?_
 refine run_ifd rfl rfl (fun hb19 => ?_) (fun hb19 => ?_)
 ·replace hM := ite_t hb19 hM
  refine run_sr ?_
  refine yR rfl ?_
  refine yN ?_
  refine run_ret_to ?_
  replace hM := some_t hM
  subst hM
  refine fin_x hG rfl rfl rfl (v' := .bool true) (by rfl) ⟨rfl, (show tk ≤ tk14 by omega), _, rfl, rfl⟩
 replace hM := ite_f hb19 hM
 refine run_skip ?_
 refine run_sr ?_
 refine yD hG rfl ?_
 refine yL rfl ?_
 obtain ⟨r20, hg21, hM⟩ := bind_t hM
 refine yK rfl (w_szProof_ok n k3 n3 p3 e3 fs3 q3 f3 ks3 r12 hg21 _ _) (callK_retX (fun v tk22 (hle23 : tk14 ≤ tk22) h24 => ?_))
 subst h24
 refine yR rfl ?_
 refine yN ?_
 refine run_seq ?_
 refine run_sr ?_
 refine yL rfl ?_
 refine yB rfl ?_
 refine yN ?_
 refine run_ifd rfl rfl (fun hb27 => ?_) (fun hb27 => ?_)
 ·replace hM := ite_t hb27 hM
  refine run_sr ?_
  refine yR rfl ?_
  refine yN ?_
  refine run_ret_to ?_
  replace hM := some_t hM
  subst hM
  refine fin_x hG rfl rfl rfl (v' := .bool true) (by rfl) ⟨rfl, (show tk ≤ tk22 by omega), _, rfl, rfl⟩
 replace hM := ite_f hb27 hM
 refine run_skip ?_
 refine run_seq ?_
 obtain ⟨j28, hj476, hM⟩ := jn_t hM
 refine run_cutL [.code _] (fun σ' => ∃ (i29 : Int) (i30 : Int) (i31 : Int) (q32 : Nat) (f32 : Bool) (ks32 : List LF) (q33 : Nat) (f33 : Bool) (ks33 : List LP) (tkj28 : Nat), tk22 ≤ tkj28 ∧ Fr tk22 tkj28 (fstoks q32 ks32) ∧ Fr tk22 tkj28 (pstoks q33 ks33) ∧ j28 i29 i30 i31 (fers ks32) (pers ks33) = some r ∧ Sub ⟨Go.Proofs.Try.prog, S0, Go.Proofs.Try.f7.ntmps, [], fun _ => False, []⟩ σ' ⟨[(0, .imm q1 3 f1 (fcellss ks1)), (4, .optr (.loc 4) 0 0), (5, .optr (.loc 5) 0 0), (6, .bool false), (8, .optr (.loc 8) 0 0), (9, .int .i64 i29)], [(8, ⟨26, 4, true, [[.int .i64 i30, .int .i64 i31, .imm q32 3 f32 (fcellss ks32), .imm q33 4 f33 (pcellss ks33)]]⟩), (5, ⟨73, 4, true, [[.int .i64 k3, .int .i64 n3, .imm p3 3 e3 (fcellss fs3), .imm q3 4 f3 (pcellss ks3)]]⟩), (4, ⟨73, 4, true, [[.int .i64 k2, .int .i64 n2, .imm p2 3 e2 (fcellss fs2), .imm q2 4 f2 (pcellss ks2)]]⟩)], [], O, tkj28⟩) rfl ?_ ?_
 ·refine run_draw [] (n := 13) mixed rfl yE ?_
  refine yTV 0 (by kernel_rfl) rfl ?_
  refine yTL hG 2 (by kernel_rfl) rfl ?_
  refine yTL hG 4 (by kernel_rfl) rfl ?_
  refine AAny.eachN (rs := [1, 10]) (by kernel_rfl) (fun h => by cases h) (fun i hi => ?_)
  simp only [List.mem_cons, List.not_mem_nil, or_false] at hi
  rcases hi with rfl | rfl
  ·refine AOpN.of ?_
   obtain ⟨r36, hg37, hM⟩ := bind_t hM
   refine yI rfl rfl (w_toFormS_ok n q1 f1 ks1 hg37 _ _) (callK_retX (fun v tk38 (hle39 : tk22 ≤ tk38) h40 => ?_))
   obtain ⟨q41, f41, ks41, rfl, rfl, hf42⟩ := h40
   refine AAny.eachN (rs := [3, 10]) (by kernel_rfl) (fun h => by cases h) (fun i hi => ?_)
   simp only [List.mem_cons, List.not_mem_nil, or_false] at hi
   rcases hi with rfl | rfl
   ·refine AOpN.of ?_
    obtain ⟨r43, hg44, hM⟩ := bind_t hM
    refine yI rfl rfl (w_toProof_ok n k2 n2 p2 e2 fs2 q2 f2 ks2 hg44 _ _) (callK_retX (fun v tk45 (hle46 : tk38 ≤ tk45) h47 => ?_))
    obtain ⟨k48, n48, p48, e48, fs48, q48, f48, ks48, rfl, rfl, hf49⟩ := h47
    refine AAny.eachN (rs := [5, 10]) (by kernel_rfl) (fun h => by cases h) (fun i hi => ?_)
    simp only [List.mem_cons, List.not_mem_nil, or_false] at hi
    rcases hi with rfl | rfl
    ·refine AOpN.of ?_
     obtain ⟨r50, hg51, hM⟩ := bind_t hM
     refine yI rfl rfl (w_toProof_ok n k3 n3 p3 e3 fs3 q3 f3 ks3 hg51 _ _) (callK_retX (fun v tk52 (hle53 : tk45 ≤ tk52) h54 => ?_))
     obtain ⟨k55, n55, p55, e55, fs55, q55, f55, ks55, rfl, rfl, hf56⟩ := h54
     refine AAny.eachN (rs := [6, 10]) (by kernel_rfl) (fun h => by cases h) (fun i hi => ?_)
     simp only [List.mem_cons, List.not_mem_nil, or_false] at hi
     rcases hi with rfl | rfl
     ·refine AOpN.of ?_
      obtain ⟨r57, hg58, hM⟩ := bind_t hM
      refine yI rfl rfl (s_CutProof_ok n q41 f41 ks41 k48 n48 p48 e48 fs48 q48 f48 ks48 k55 n55 p55 e55 fs55 q55 f55 ks55 hg58 _ _) (callK_retX (fun v tk59 (hle60 : tk52 ≤ tk59) h61 => ?_))
      obtain ⟨ra66, ra67, va68, va69, rfl, rfl, ⟨k62, n62, p62, e62, fs62, q62, f62, ks62, rfl, rfl, hf63⟩, rfl⟩ := h61
      refine yTV 7 (by kernel_rfl) rfl ?_
      refine yT 8 (by kernel_rfl) rfl rfl rfl (ltb rfl) ((extract_step rfl rfl rfl).rd _) ?_
      refine yT 9 (by kernel_rfl) rfl rfl rfl (ltb rfl) ((extract_step rfl rfl rfl).rd _) ?_
      refine AAny.eachN (rs := [10]) (by kernel_rfl) (fun h => by cases h) (fun i hi => ?_)
      simp only [List.mem_cons, List.not_mem_nil, or_false] at hi
      subst hi
      ·refine AOpN.alloc hG rfl rfl rfl (ltb rfl) rfl rfl rfl ?_
       refine yW hG 11 (by kernel_rfl) rfl (by kernel_rfl) rfl ?_
       refine yTW 12 (by kernel_rfl) rfl ?_
       refine AAny.done (by kernel_rfl) ?_
       exact ⟨ra67, k62, n62, p62, e62, fs62, q62, f62, ks62, tk59, (show tk22 ≤ tk59 by omega), (show Fr tk22 tk59 _ from (Fr.left (show Fr tk52 tk59 _ from (show Fr tk52 tk59 _ from hf63 rfl))).mono (by omega) (by omega)), (show Fr tk22 tk59 _ from (Fr.right (show Fr tk52 tk59 _ from (show Fr tk52 tk59 _ from hf63 rfl))).mono (by omega) (by omega)), hM, Sub.pk [0, 4, 5, 6, 8, 9] rfl⟩
     refine AOpN.alloc hG rfl rfl rfl (ltb rfl) rfl rfl rfl ?_
     obtain ⟨r70, hg71, hM⟩ := bind_t hM
     refine yC 6 (by kernel_rfl) rfl rfl (s_CutProof_ok n q41 f41 ks41 k48 n48 p48 e48 fs48 q48 f48 ks48 k55 n55 p55 e55 fs55 q55 f55 ks55 hg71 _ _) (callK_retX (fun v tk72 (hle73 : tk52 ≤ tk72) h74 => ?_))
     obtain ⟨ra79, ra80, va81, va82, rfl, rfl, ⟨k75, n75, p75, e75, fs75, q75, f75, ks75, rfl, rfl, hf76⟩, rfl⟩ := h74
     refine yTV 7 (by kernel_rfl) rfl ?_
     refine yT 8 (by kernel_rfl) rfl rfl rfl (ltb rfl) ((extract_step rfl rfl rfl).rd _) ?_
     refine yT 9 (by kernel_rfl) rfl rfl rfl (ltb rfl) ((extract_step rfl rfl rfl).rd _) ?_
     refine yW hG 11 (by kernel_rfl) rfl (by kernel_rfl) rfl ?_
     refine yTW 12 (by kernel_rfl) rfl ?_
     refine AAny.done (by kernel_rfl) ?_
     exact ⟨ra80, k75, n75, p75, e75, fs75, q75, f75, ks75, tk72, (show tk22 ≤ tk72 by omega), (show Fr tk22 tk72 _ from (Fr.left (show Fr tk52 tk72 _ from (show Fr tk52 tk72 _ from hf76 rfl))).mono (by omega) (by omega)), (show Fr tk22 tk72 _ from (Fr.right (show Fr tk52 tk72 _ from (show Fr tk52 tk72 _ from hf76 rfl))).mono (by omega) (by omega)), hM, Sub.pk [0, 4, 5, 6, 8, 9] rfl⟩
    refine AOpN.alloc hG rfl rfl rfl (ltb rfl) rfl rfl rfl ?_
    obtain ⟨r83, hg84, hM⟩ := bind_t hM
    refine yC 5 (by kernel_rfl) rfl rfl (w_toProof_ok n k3 n3 p3 e3 fs3 q3 f3 ks3 hg84 _ _) (callK_retX (fun v tk85 (hle86 : tk45 ≤ tk85) h87 => ?_))
    obtain ⟨k88, n88, p88, e88, fs88, q88, f88, ks88, rfl, rfl, hf89⟩ := h87
    obtain ⟨r90, hg91, hM⟩ := bind_t hM
    refine yC 6 (by kernel_rfl) rfl rfl (s_CutProof_ok n q41 f41 ks41 k48 n48 p48 e48 fs48 q48 f48 ks48 k88 n88 p88 e88 fs88 q88 f88 ks88 hg91 _ _) (callK_retX (fun v tk92 (hle93 : tk85 ≤ tk92) h94 => ?_))
    obtain ⟨ra99, ra100, va101, va102, rfl, rfl, ⟨k95, n95, p95, e95, fs95, q95, f95, ks95, rfl, rfl, hf96⟩, rfl⟩ := h94
    refine yTV 7 (by kernel_rfl) rfl ?_
    refine yT 8 (by kernel_rfl) rfl rfl rfl (ltb rfl) ((extract_step rfl rfl rfl).rd _) ?_
    refine yT 9 (by kernel_rfl) rfl rfl rfl (ltb rfl) ((extract_step rfl rfl rfl).rd _) ?_
    refine yW hG 11 (by kernel_rfl) rfl (by kernel_rfl) rfl ?_
    refine yTW 12 (by kernel_rfl) rfl ?_
    refine AAny.done (by kernel_rfl) ?_
    exact ⟨ra100, k95, n95, p95, e95, fs95, q95, f95, ks95, tk92, (show tk22 ≤ tk92 by omega), (show Fr tk22 tk92 _ from (Fr.left (show Fr tk85 tk92 _ from (show Fr tk85 tk92 _ from hf96 rfl))).mono (by omega) (by omega)), (show Fr tk22 tk92 _ from (Fr.right (show Fr tk85 tk92 _ from (show Fr tk85 tk92 _ from hf96 rfl))).mono (by omega) (by omega)), hM, Sub.pk [0, 4, 5, 6, 8, 9] rfl⟩
   refine AOpN.alloc hG rfl rfl rfl (ltb rfl) rfl rfl rfl ?_
   obtain ⟨r103, hg104, hM⟩ := bind_t hM
   refine yC 3 (by kernel_rfl) rfl rfl (w_toProof_ok n k2 n2 p2 e2 fs2 q2 f2 ks2 hg104 _ _) (callK_retX (fun v tk105 (hle106 : tk38 ≤ tk105) h107 => ?_))
   obtain ⟨k108, n108, p108, e108, fs108, q108, f108, ks108, rfl, rfl, hf109⟩ := h107
   obtain ⟨r110, hg111, hM⟩ := bind_t hM
   refine yC 5 (by kernel_rfl) rfl rfl (w_toProof_ok n k3 n3 p3 e3 fs3 q3 f3 ks3 hg111 _ _) (callK_retX (fun v tk112 (hle113 : tk105 ≤ tk112) h114 => ?_))
   obtain ⟨k115, n115, p115, e115, fs115, q115, f115, ks115, rfl, rfl, hf116⟩ := h114
   obtain ⟨r117, hg118, hM⟩ := bind_t hM
   refine yC 6 (by kernel_rfl) rfl rfl (s_CutProof_ok n q41 f41 ks41 k108 n108 p108 e108 fs108 q108 f108 ks108 k115 n115 p115 e115 fs115 q115 f115 ks115 hg118 _ _) (callK_retX (fun v tk119 (hle120 : tk112 ≤ tk119) h121 => ?_))
   obtain ⟨ra126, ra127, va128, va129, rfl, rfl, ⟨k122, n122, p122, e122, fs122, q122, f122, ks122, rfl, rfl, hf123⟩, rfl⟩ := h121
   refine yTV 7 (by kernel_rfl) rfl ?_
   refine yT 8 (by kernel_rfl) rfl rfl rfl (ltb rfl) ((extract_step rfl rfl rfl).rd _) ?_
   refine yT 9 (by kernel_rfl) rfl rfl rfl (ltb rfl) ((extract_step rfl rfl rfl).rd _) ?_
   refine yW hG 11 (by kernel_rfl) rfl (by kernel_rfl) rfl ?_
   refine yTW 12 (by kernel_rfl) rfl ?_
   refine AAny.done (by kernel_rfl) ?_
   exact ⟨ra127, k122, n122, p122, e122, fs122, q122, f122, ks122, tk119, (show tk22 ≤ tk119 by omega), (show Fr tk22 tk119 _ from (Fr.left (show Fr tk112 tk119 _ from (show Fr tk112 tk119 _ from hf123 rfl))).mono (by omega) (by omega)), (show Fr tk22 tk119 _ from (Fr.right (show Fr tk112 tk119 _ from (show Fr tk112 tk119 _ from hf123 rfl))).mono (by omega) (by omega)), hM, Sub.pk [0, 4, 5, 6, 8, 9] rfl⟩
  refine AOpN.alloc hG rfl rfl rfl (ltb rfl) rfl rfl rfl ?_
  obtain ⟨r130, hg131, hM⟩ := bind_t hM
  refine yC 1 (by kernel_rfl) rfl rfl (w_toFormS_ok n q1 f1 ks1 hg131 _ _) (callK_retX (fun v tk132 (hle133 : tk22 ≤ tk132) h134 => ?_))
  obtain ⟨q135, f135, ks135, rfl, rfl, hf136⟩ := h134
  obtain ⟨r137, hg138, hM⟩ := bind_t hM
  refine yC 3 (by kernel_rfl) rfl rfl (w_toProof_ok n k2 n2 p2 e2 fs2 q2 f2 ks2 hg138 _ _) (callK_retX (fun v tk139 (hle140 : tk132 ≤ tk139) h141 => ?_))
  obtain ⟨k142, n142, p142, e142, fs142, q142, f142, ks142, rfl, rfl, hf143⟩ := h141
  obtain ⟨r144, hg145, hM⟩ := bind_t hM
  refine yC 5 (by kernel_rfl) rfl rfl (w_toProof_ok n k3 n3 p3 e3 fs3 q3 f3 ks3 hg145 _ _) (callK_retX (fun v tk146 (hle147 : tk139 ≤ tk146) h148 => ?_))
  obtain ⟨k149, n149, p149, e149, fs149, q149, f149, ks149, rfl, rfl, hf150⟩ := h148
  obtain ⟨r151, hg152, hM⟩ := bind_t hM
  refine yC 6 (by kernel_rfl) rfl rfl (s_CutProof_ok n q135 f135 ks135 k142 n142 p142 e142 fs142 q142 f142 ks142 k149 n149 p149 e149 fs149 q149 f149 ks149 hg152 _ _) (callK_retX (fun v tk153 (hle154 : tk146 ≤ tk153) h155 => ?_))
  obtain ⟨ra160, ra161, va162, va163, rfl, rfl, ⟨k156, n156, p156, e156, fs156, q156, f156, ks156, rfl, rfl, hf157⟩, rfl⟩ := h155
  refine yTV 7 (by kernel_rfl) rfl ?_
  refine yT 8 (by kernel_rfl) rfl rfl rfl (ltb rfl) ((extract_step rfl rfl rfl).rd _) ?_
  refine yT 9 (by kernel_rfl) rfl rfl rfl (ltb rfl) ((extract_step rfl rfl rfl).rd _) ?_
  refine yW hG 11 (by kernel_rfl) rfl (by kernel_rfl) rfl ?_
  refine yTW 12 (by kernel_rfl) rfl ?_
  refine AAny.done (by kernel_rfl) ?_
  exact ⟨ra161, k156, n156, p156, e156, fs156, q156, f156, ks156, tk153, (show tk22 ≤ tk153 by omega), (show Fr tk22 tk153 _ from (Fr.left (show Fr tk146 tk153 _ from (show Fr tk146 tk153 _ from hf157 rfl))).mono (by omega) (by omega)), (show Fr tk22 tk153 _ from (Fr.right (show Fr tk146 tk153 _ from (show Fr tk146 tk153 _ from hf157 rfl))).mono (by omega) (by omega)), hM, Sub.pk [0, 4, 5, 6, 8, 9] rfl⟩
 clear hM
 rintro σ' ⟨i29, i30, i31, q32, f32, ks32, q33, f33, ks33, tkj28, hle475, hfr34, hfr35, hM, hsub⟩
 rw [hj476] at hM
 clear hj476
 refine run_sub_code hsub ?_
 refine run_sr ?_
 refine yL rfl ?_
 obtain ⟨r164, hg165, hM⟩ := bind_t hM
 refine yK rfl (w_toFormS_ok n q1 f1 ks1 hg165 _ _) (callK_retX (fun v tk166 (hle167 : tkj28 ≤ tk166) h168 => ?_))
 obtain ⟨q169, f169, ks169, rfl, rfl, hf170⟩ := h168
 refine yR rfl ?_
 refine yN ?_
 refine run_sr ?_
 refine yD hG rfl ?_
 obtain ⟨r171, hg172, hM⟩ := bind_t hM
 refine yK rfl (w_toProof_ok n k2 n2 p2 e2 fs2 q2 f2 ks2 hg172 _ _) (callK_retX (fun v tk173 (hle174 : tk166 ≤ tk173) h175 => ?_))
 obtain ⟨k176, n176, p176, e176, fs176, q176, f176, ks176, rfl, rfl, hf177⟩ := h175
 refine run_op rfl (alloc_step (d := 11) hG rfl rfl rfl) rfl (ltb rfl) ?_
 refine yS hG rfl ?_
 refine yN ?_
 refine run_sr ?_
 refine yD hG rfl ?_
 obtain ⟨r178, hg179, hM⟩ := bind_t hM
 refine yK rfl (w_toProof_ok n k3 n3 p3 e3 fs3 q3 f3 ks3 hg179 _ _) (callK_retX (fun v tk180 (hle181 : tk173 ≤ tk180) h182 => ?_))
 obtain ⟨k183, n183, p183, e183, fs183, q183, f183, ks183, rfl, rfl, hf184⟩ := h182
 refine run_op rfl (alloc_step (d := 12) hG rfl rfl rfl) rfl (ltb rfl) ?_
 refine yS hG rfl ?_
 refine yN ?_
 refine run_sr ?_
 refine yL rfl ?_
 refine yD hG rfl ?_
 refine yD hG rfl ?_
 obtain ⟨r185, hg186, hM⟩ := bind_t hM
 refine yK rfl (i_CutProof_ok n q169 f169 ks169 k176 n176 p176 e176 fs176 q176 f176 ks176 k183 n183 p183 e183 fs183 q183 f183 ks183 hg186 _ _) (callK_retX (fun v tk187 (hle188 : tk180 ≤ tk187) h189 => ?_))
 obtain ⟨ra194, ra195, va196, va197, rfl, rfl, ⟨k190, n190, p190, e190, fs190, q190, f190, ks190, rfl, rfl, hf191⟩, rfl⟩ := h189
 refine yL rfl ?_
 refine run_pu rfl (extract_step rfl rfl rfl) rfl (ltb rfl) ?_
 refine run_pu rfl (extract_step rfl rfl rfl) rfl (ltb rfl) ?_
 refine run_op rfl (alloc_step (d := 13) hG rfl rfl rfl) rfl (ltb rfl) ?_
 refine yS hG rfl ?_
 refine yR rfl ?_
 refine yN ?_
 refine run_sub_code (σ' := ⟨[(0, .imm q1 3 f1 (fcellss ks1)), (4, .optr (.loc 4) 0 0), (5, .optr (.loc 5) 0 0), (6, .bool false), (8, .optr (.loc 8) 0 0), (9, .int .i64 i29), (10, .imm q169 3 f169 (fcellss ks169)), (11, .optr (.loc 11) 0 0), (12, .optr (.loc 12) 0 0), (13, .optr (.loc 13) 0 0), (14, .int .i64 ra195)], [(13, ⟨26, 4, true, [[.int .i64 k190, .int .i64 n190, .imm p190 3 e190 (fcellss fs190), .imm q190 4 f190 (pcellss ks190)]]⟩), (12, ⟨26, 4, true, [[.int .i64 k183, .int .i64 n183, .imm p183 3 e183 (fcellss fs183), .imm q183 4 f183 (pcellss ks183)]]⟩), (11, ⟨26, 4, true, [[.int .i64 k176, .int .i64 n176, .imm p176 3 e176 (fcellss fs176), .imm q176 4 f176 (pcellss ks176)]]⟩), (8, ⟨26, 4, true, [[.int .i64 i30, .int .i64 i31, .imm q32 3 f32 (fcellss ks32), .imm q33 4 f33 (pcellss ks33)]]⟩), (5, ⟨73, 4, true, [[.int .i64 k3, .int .i64 n3, .imm p3 3 e3 (fcellss fs3), .imm q3 4 f3 (pcellss ks3)]]⟩), (4, ⟨73, 4, true, [[.int .i64 k2, .int .i64 n2, .imm p2 3 e2 (fcellss fs2), .imm q2 4 f2 (pcellss ks2)]]⟩)], [], O, tk187⟩) (Sub.env _ ⟨rfl, rfl, rfl, rfl, rfl, rfl, rfl, rfl, rfl, rfl, rfl, trivial⟩) ?_
 refine run_seq ?_
 refine run_sr ?_
 refine yD hG rfl ?_
 refine yD hG rfl ?_
 obtain ⟨r198, hg199, hM⟩ := bind_t hM
 refine yK rfl (w_eqProof_ok n k190 n190 p190 e190 fs190 q190 f190 ks190 i30 i31 q32 f32 ks32 q33 f33 ks33 hg199 _ _) (callK_retX (fun v tk200 (hle201 : tk187 ≤ tk200) h202 => ?_))
 subst h202
 refine run_pu rfl (aun_step rfl rfl rfl) rfl (ltb rfl) ?_
 refine yL rfl ?_
 refine run_splitb (i := 62) rfl (fun hb205 => ?_) (fun hb205 => ?_)
 ·replace hM := ite_t hb205 hM
  refine yO rfl ?_
  refine yO rfl ?_
  refine yO rfl ?_
  refine yP rfl ?_
  refine yN ?_
  refine run_if rfl rfl (fun _ => ?_) (fun h => by cases h)
  refine run_sr ?_
  refine yR rfl ?_
  refine yN ?_
  refine run_ret_to ?_
  replace hM := some_t hM
  subst hM
  refine fin_x hG rfl rfl rfl (v' := .bool false) (by rfl) ⟨rfl, (show tk ≤ tk200 by omega), _, rfl, rfl⟩
 replace hM := ite_f hb205 hM
 refine run_puG (on_of rfl rfl rfl rfl) (move_step (.inl rfl) rfl) rfl (ltb rfl) ?_
 refine run_puG (on_of rfl rfl rfl rfl) (move_step (.inl rfl) rfl) rfl (ltb rfl) ?_
 refine run_puG (on_of rfl rfl rfl rfl) (abin_step rfl rfl rfl rfl (fun _ h => by cases h)) rfl (ltb rfl) ?_
 refine yP rfl ?_
 refine yN ?_
 refine run_ifb rfl rfl (fun hb206 => ?_) (fun hb206 => ?_)
 ·replace hM := ite_t hb206 hM
  refine run_sr ?_
  refine yR rfl ?_
  refine yN ?_
  refine run_ret_to ?_
  replace hM := some_t hM
  subst hM
  refine fin_x hG rfl rfl rfl (v' := .bool false) (by rfl) ⟨rfl, (show tk ≤ tk200 by omega), _, rfl, rfl⟩
 replace hM := ite_f hb206 hM
 refine run_skip ?_
 refine run_seq ?_
 refine run_sr ?_
 refine yL rfl ?_
 refine yL rfl ?_
 obtain ⟨r207, hg208, hM⟩ := bind_t hM
 refine yK rfl (w_toFormS_ok n q1 f1 ks1 hg208 _ _) (callK_retX (fun v tk209 (hle210 : tk200 ≤ tk209) h211 => ?_))
 obtain ⟨q212, f212, ks212, rfl, rfl, hf213⟩ := h211
 obtain ⟨r214, hg215, hM⟩ := bind_t hM
 refine yK rfl (w_eqFormS_ok n q169 f169 ks169 q212 f212 ks212 hg215 _ _) (callK_retX (fun v tk216 (hle217 : tk209 ≤ tk216) h218 => ?_))
 subst h218
 refine run_pu rfl (aun_step rfl rfl rfl) rfl (ltb rfl) ?_
 refine yN ?_
 refine run_sub_code (σ' := ⟨[(0, .imm q1 3 f1 (fcellss ks1)), (4, .optr (.loc 4) 0 0), (5, .optr (.loc 5) 0 0), (6, .bool false), (8, .optr (.loc 8) 0 0), (9, .int .i64 i29), (10, .imm q169 3 f169 (fcellss ks169)), (11, .optr (.loc 11) 0 0), (12, .optr (.loc 12) 0 0), (13, .optr (.loc 13) 0 0), (14, .int .i64 ra195), (71, .bool (!r214))], [(13, ⟨26, 4, true, [[.int .i64 k190, .int .i64 n190, .imm p190 3 e190 (fcellss fs190), .imm q190 4 f190 (pcellss ks190)]]⟩), (12, ⟨26, 4, true, [[.int .i64 k183, .int .i64 n183, .imm p183 3 e183 (fcellss fs183), .imm q183 4 f183 (pcellss ks183)]]⟩), (11, ⟨26, 4, true, [[.int .i64 k176, .int .i64 n176, .imm p176 3 e176 (fcellss fs176), .imm q176 4 f176 (pcellss ks176)]]⟩), (8, ⟨26, 4, true, [[.int .i64 i30, .int .i64 i31, .imm q32 3 f32 (fcellss ks32), .imm q33 4 f33 (pcellss ks33)]]⟩), (5, ⟨73, 4, true, [[.int .i64 k3, .int .i64 n3, .imm p3 3 e3 (fcellss fs3), .imm q3 4 f3 (pcellss ks3)]]⟩), (4, ⟨73, 4, true, [[.int .i64 k2, .int .i64 n2, .imm p2 3 e2 (fcellss fs2), .imm q2 4 f2 (pcellss ks2)]]⟩)], [], O, tk216⟩) (Sub.env _ ⟨rfl, rfl, rfl, rfl, rfl, rfl, rfl, rfl, rfl, rfl, rfl, rfl, trivial⟩) ?_
 refine run_ifb rfl rfl (fun hb221 => ?_) (fun hb221 => ?_)
 ·replace hM := ite_t hb221 hM
  refine run_sr ?_
  refine yR rfl ?_
  refine yN ?_
  refine run_ret_to ?_
  replace hM := some_t hM
  subst hM
  refine fin_x hG rfl rfl rfl (v' := .bool false) (by rfl) ⟨rfl, (show tk ≤ tk216 by omega), _, rfl, rfl⟩
 replace hM := ite_f hb221 hM
 refine run_skip ?_
 refine run_seq ?_
 refine run_seq ?_
 refine run_draw [] (n := 5) mixed rfl yE ?_
 refine yTL hG 0 (by kernel_rfl) rfl ?_
 refine yTL hG 1 (by kernel_rfl) rfl ?_
 obtain ⟨r222, hg223, hM⟩ := bind_t hM
 refine yC 2 (by kernel_rfl) rfl rfl (w_toProof_ok n k2 n2 p2 e2 fs2 q2 f2 ks2 hg223 _ _) (callK_retX (fun v tk224 (hle225 : tk216 ≤ tk224) h226 => ?_))
 obtain ⟨k227, n227, p227, e227, fs227, q227, f227, ks227, rfl, rfl, hf228⟩ := h226
 obtain ⟨r229, hg230, hM⟩ := bind_t hM
 refine yC 3 (by kernel_rfl) rfl rfl (w_eqProof_ok n k176 n176 p176 e176 fs176 q176 f176 ks176 k227 n227 p227 e227 fs227 q227 f227 ks227 hg230 _ _) (callK_retX (fun v tk231 (hle232 : tk224 ≤ tk231) h233 => ?_))
 subst h233
 refine yT 4 (by kernel_rfl) rfl rfl rfl (ltb rfl) ((aun_step rfl rfl rfl).rd _) ?_
 refine AAny.done (by kernel_rfl) ?_
 refine run_ifb rfl rfl (fun hb236 => ?_) (fun hb236 => ?_)
 ·replace hM := ite_t hb236 hM
  refine run_sr ?_
  refine yR rfl ?_
  refine yN ?_
  refine run_ret_to ?_
  replace hM := some_t hM
  subst hM
  refine fin_x hG rfl rfl rfl (v' := .bool false) (by rfl) ⟨rfl, (show tk ≤ tk231 by omega), _, rfl, rfl⟩
 replace hM := ite_f hb236 hM
 refine run_skip ?_
 refine run_seq ?_
 refine run_seq ?_
 refine run_draw [] (n := 5) mixed rfl yE ?_
 refine yTL hG 0 (by kernel_rfl) rfl ?_
 refine yTL hG 1 (by kernel_rfl) rfl ?_
 obtain ⟨r237, hg238, hM⟩ := bind_t hM
 refine yC 2 (by kernel_rfl) rfl rfl (w_toProof_ok n k3 n3 p3 e3 fs3 q3 f3 ks3 hg238 _ _) (callK_retX (fun v tk239 (hle240 : tk231 ≤ tk239) h241 => ?_))
 obtain ⟨k242, n242, p242, e242, fs242, q242, f242, ks242, rfl, rfl, hf243⟩ := h241
 obtain ⟨r244, hg245, hM⟩ := bind_t hM
 refine yC 3 (by kernel_rfl) rfl rfl (w_eqProof_ok n k183 n183 p183 e183 fs183 q183 f183 ks183 k242 n242 p242 e242 fs242 q242 f242 ks242 hg245 _ _) (callK_retX (fun v tk246 (hle247 : tk239 ≤ tk246) h248 => ?_))
 subst h248
 refine yT 4 (by kernel_rfl) rfl rfl rfl (ltb rfl) ((aun_step rfl rfl rfl).rd _) ?_
 refine AAny.done (by kernel_rfl) ?_
 refine run_ifb rfl rfl (fun hb251 => ?_) (fun hb251 => ?_)
 ·replace hM := ite_t hb251 hM
  refine run_sr ?_
  refine yR rfl ?_
  refine yN ?_
  refine run_ret_to ?_
  replace hM := some_t hM
  subst hM
  refine fin_x hG rfl rfl rfl (v' := .bool false) (by rfl) ⟨rfl, (show tk ≤ tk246 by omega), _, rfl, rfl⟩
 replace hM := ite_f hb251 hM
 refine run_skip ?_
 refine run_sr ?_
 refine yR rfl ?_
 refine yN ?_
 refine run_sr ?_
 refine yL rfl ?_
 refine yL rfl ?_
 obtain ⟨r252, hg253, hM⟩ := bind_t hM
 refine run_callT rfl rfl rfl (ltb rfl) rfl rfl rfl rfl rfl hOn (fun x hx => by have := ((show Fr tkj28 tk166 _ from (show Fr tkj28 tk166 _ from hf170 rfl))).2 x hx; show S0.tk ≤ x; omega) (w_markFormS_m q169 f169 ks169 1 _ (Fr.ge (show Fr tkj28 tk166 _ from (show Fr tkj28 tk166 _ from hf170 rfl)) (by omega)) ((show Fr tkj28 tk166 _ from (show Fr tkj28 tk166 _ from hf170 rfl))).1 hg253) (fun out S' hR (hle255 : tk246 ≤ S'.tk) => ?_)
 obtain ⟨ks256, k257, rfl, rfl, _, hst258, hln259, hu260⟩ := hR
 generalize S'.tk = tk254 at hle255 ⊢
 refine ⟨_, rfl, rfl, GF q169 f169 ks169 ks256, GF.turned (Fr.ge (show Fr tkj28 tk166 _ from (show Fr tkj28 tk166 _ from hf170 rfl)) (by omega)) hst258 hln259 hu260, [(0, .imm q1 3 f1 (fcellss ks1)), (4, .optr (.loc 4) 0 0), (5, .optr (.loc 5) 0 0), (6, .bool false), (8, .optr (.loc 8) 0 0), (9, .int .i64 i29), (10, .imm q169 3 f169 (fcellss ks256)), (11, .optr (.loc 11) 0 0), (12, .optr (.loc 12) 0 0), (13, .optr (.loc 13) 0 0), (14, .int .i64 ra195), (71, .bool (!r214)), (72, .agg [.int .i64 k176, .int .i64 n176, .imm p176 3 e176 (fcellss fs176), .imm q176 4 f176 (pcellss ks176)]), (73, .agg [.int .i64 k2, .int .i64 n2, .imm p2 3 e2 (fcellss fs2), .imm q2 4 f2 (pcellss ks2)]), (74, .agg [.int .i64 k227, .int .i64 n227, .imm p227 3 e227 (fcellss fs227), .imm q227 4 f227 (pcellss ks227)]), (75, .bool r229), (76, .bool (!r229)), (77, .agg [.int .i64 k183, .int .i64 n183, .imm p183 3 e183 (fcellss fs183), .imm q183 4 f183 (pcellss ks183)]), (78, .agg [.int .i64 k3, .int .i64 n3, .imm p3 3 e3 (fcellss fs3), .imm q3 4 f3 (pcellss ks3)]), (79, .agg [.int .i64 k242, .int .i64 n242, .imm p242 3 e242 (fcellss fs242), .imm q242 4 f242 (pcellss ks242)]), (80, .bool r244), (81, .bool (!r244)), (15, .int .i64 1), (82, .imm q169 3 f169 (fcellss ks256)), (83, .int .i64 1)], [(13, ⟨26, 4, true, [[.int .i64 k190, .int .i64 n190, .imm p190 3 e190 (fcellss fs190), .imm q190 4 f190 (pcellss ks190)]]⟩), (12, ⟨26, 4, true, [[.int .i64 k183, .int .i64 n183, .imm p183 3 e183 (fcellss fs183), .imm q183 4 f183 (pcellss ks183)]]⟩), (11, ⟨26, 4, true, [[.int .i64 k176, .int .i64 n176, .imm p176 3 e176 (fcellss fs176), .imm q176 4 f176 (pcellss ks176)]]⟩), (8, ⟨26, 4, true, [[.int .i64 i30, .int .i64 i31, .imm q32 3 f32 (fcellss ks32), .imm q33 4 f33 (pcellss ks33)]]⟩), (5, ⟨73, 4, true, [[.int .i64 k3, .int .i64 n3, .imm p3 3 e3 (fcellss fs3), .imm q3 4 f3 (pcellss ks3)]]⟩), (4, ⟨73, 4, true, [[.int .i64 k2, .int .i64 n2, .imm p2 3 e2 (fcellss fs2), .imm q2 4 f2 (pcellss ks2)]]⟩)], (.cons _ _ _ _ rfl (Tn.av (fs_av (old_av ho0))) (.cons _ _ _ _ rfl (.optr _ _ _) (.cons _ _ _ _ rfl (.optr _ _ _) (.cons _ _ _ _ rfl (Tn.av (.bool _)) (.cons _ _ _ _ rfl (.optr _ _ _) (.cons _ _ _ _ rfl (Tn.av (.int _ _)) (.cons _ _ _ _ rfl (GF.tn hln259) (.cons _ _ _ _ rfl (.optr _ _ _) (.cons _ _ _ _ rfl (.optr _ _ _) (.cons _ _ _ _ rfl (.optr _ _ _) (.cons _ _ _ _ rfl (Tn.av (.int _ _)) (.cons _ _ _ _ rfl (Tn.av (.bool _)) (.cons _ _ _ _ rfl (TnCs.agg (.cons _ _ _ _ (Tn.av (.int _ _)) (.cons _ _ _ _ (Tn.av (.int _ _)) (.cons _ _ _ _ (Tn.av (fs_av (fun x hx => fr_av (show Fr tk166 tk173 _ from (show Fr tk166 tk173 _ from hf177 rfl)) (show Fr tkj28 tk166 _ from (show Fr tkj28 tk166 _ from hf170 rfl)) (by omega) (by omega) x (List.mem_append.2 (.inl hx))))) (.cons _ _ _ _ (Tn.av (ps_av (fun x hx => fr_av (show Fr tk166 tk173 _ from (show Fr tk166 tk173 _ from hf177 rfl)) (show Fr tkj28 tk166 _ from (show Fr tkj28 tk166 _ from hf170 rfl)) (by omega) (by omega) x (List.mem_append.2 (.inr hx))))) .nil)))) rfl) (.cons _ _ _ _ rfl (TnCs.agg (.cons _ _ _ _ (Tn.av (.int _ _)) (.cons _ _ _ _ (Tn.av (.int _ _)) (.cons _ _ _ _ (Tn.av (fs_av (old_av ho1))) (.cons _ _ _ _ (Tn.av (ps_av (old_av ho2))) .nil)))) rfl) (.cons _ _ _ _ rfl (TnCs.agg (.cons _ _ _ _ (Tn.av (.int _ _)) (.cons _ _ _ _ (Tn.av (.int _ _)) (.cons _ _ _ _ (Tn.av (fs_av (fun x hx => fr_av (show Fr tk216 tk224 _ from (show Fr tk216 tk224 _ from hf228 rfl)) (show Fr tkj28 tk166 _ from (show Fr tkj28 tk166 _ from hf170 rfl)) (by omega) (by omega) x (List.mem_append.2 (.inl hx))))) (.cons _ _ _ _ (Tn.av (ps_av (fun x hx => fr_av (show Fr tk216 tk224 _ from (show Fr tk216 tk224 _ from hf228 rfl)) (show Fr tkj28 tk166 _ from (show Fr tkj28 tk166 _ from hf170 rfl)) (by omega) (by omega) x (List.mem_append.2 (.inr hx))))) .nil)))) rfl) (.cons _ _ _ _ rfl (Tn.av (.bool _)) (.cons _ _ _ _ rfl (Tn.av (.bool _)) (.cons _ _ _ _ rfl (TnCs.agg (.cons _ _ _ _ (Tn.av (.int _ _)) (.cons _ _ _ _ (Tn.av (.int _ _)) (.cons _ _ _ _ (Tn.av (fs_av (fun x hx => fr_av (show Fr tk173 tk180 _ from (show Fr tk173 tk180 _ from hf184 rfl)) (show Fr tkj28 tk166 _ from (show Fr tkj28 tk166 _ from hf170 rfl)) (by omega) (by omega) x (List.mem_append.2 (.inl hx))))) (.cons _ _ _ _ (Tn.av (ps_av (fun x hx => fr_av (show Fr tk173 tk180 _ from (show Fr tk173 tk180 _ from hf184 rfl)) (show Fr tkj28 tk166 _ from (show Fr tkj28 tk166 _ from hf170 rfl)) (by omega) (by omega) x (List.mem_append.2 (.inr hx))))) .nil)))) rfl) (.cons _ _ _ _ rfl (TnCs.agg (.cons _ _ _ _ (Tn.av (.int _ _)) (.cons _ _ _ _ (Tn.av (.int _ _)) (.cons _ _ _ _ (Tn.av (fs_av (old_av ho3))) (.cons _ _ _ _ (Tn.av (ps_av (old_av ho4))) .nil)))) rfl) (.cons _ _ _ _ rfl (TnCs.agg (.cons _ _ _ _ (Tn.av (.int _ _)) (.cons _ _ _ _ (Tn.av (.int _ _)) (.cons _ _ _ _ (Tn.av (fs_av (fun x hx => fr_av (show Fr tk231 tk239 _ from (show Fr tk231 tk239 _ from hf243 rfl)) (show Fr tkj28 tk166 _ from (show Fr tkj28 tk166 _ from hf170 rfl)) (by omega) (by omega) x (List.mem_append.2 (.inl hx))))) (.cons _ _ _ _ (Tn.av (ps_av (fun x hx => fr_av (show Fr tk231 tk239 _ from (show Fr tk231 tk239 _ from hf243 rfl)) (show Fr tkj28 tk166 _ from (show Fr tkj28 tk166 _ from hf170 rfl)) (by omega) (by omega) x (List.mem_append.2 (.inr hx))))) .nil)))) rfl) (.cons _ _ _ _ rfl (Tn.av (.bool _)) (.cons _ _ _ _ rfl (Tn.av (.bool _)) (.cons _ _ _ _ rfl (Tn.av (.int _ _)) (.cons _ _ _ _ rfl (GF.tn hln259) (.cons _ _ _ _ rfl (Tn.av (.int _ _)) .nil))))))))))))))))))))))))), (.cons _ _ _ _ _ (TnCs.box (.cons _ _ _ _ (Tn.av (.int _ _)) (.cons _ _ _ _ (Tn.av (.int _ _)) (.cons _ _ _ _ (Tn.av (fs_av (fun x hx => fr_av (show Fr tk180 tk187 _ from (show Fr tk180 tk187 _ from hf191 rfl)) (show Fr tkj28 tk166 _ from (show Fr tkj28 tk166 _ from hf170 rfl)) (by omega) (by omega) x (List.mem_append.2 (.inl hx))))) (.cons _ _ _ _ (Tn.av (ps_av (fun x hx => fr_av (show Fr tk180 tk187 _ from (show Fr tk180 tk187 _ from hf191 rfl)) (show Fr tkj28 tk166 _ from (show Fr tkj28 tk166 _ from hf170 rfl)) (by omega) (by omega) x (List.mem_append.2 (.inr hx))))) .nil)))) rfl) (.cons _ _ _ _ _ (TnCs.box (.cons _ _ _ _ (Tn.av (.int _ _)) (.cons _ _ _ _ (Tn.av (.int _ _)) (.cons _ _ _ _ (Tn.av (fs_av (fun x hx => fr_av (show Fr tk173 tk180 _ from (show Fr tk173 tk180 _ from hf184 rfl)) (show Fr tkj28 tk166 _ from (show Fr tkj28 tk166 _ from hf170 rfl)) (by omega) (by omega) x (List.mem_append.2 (.inl hx))))) (.cons _ _ _ _ (Tn.av (ps_av (fun x hx => fr_av (show Fr tk173 tk180 _ from (show Fr tk173 tk180 _ from hf184 rfl)) (show Fr tkj28 tk166 _ from (show Fr tkj28 tk166 _ from hf170 rfl)) (by omega) (by omega) x (List.mem_append.2 (.inr hx))))) .nil)))) rfl) (.cons _ _ _ _ _ (TnCs.box (.cons _ _ _ _ (Tn.av (.int _ _)) (.cons _ _ _ _ (Tn.av (.int _ _)) (.cons _ _ _ _ (Tn.av (fs_av (fun x hx => fr_av (show Fr tk166 tk173 _ from (show Fr tk166 tk173 _ from hf177 rfl)) (show Fr tkj28 tk166 _ from (show Fr tkj28 tk166 _ from hf170 rfl)) (by omega) (by omega) x (List.mem_append.2 (.inl hx))))) (.cons _ _ _ _ (Tn.av (ps_av (fun x hx => fr_av (show Fr tk166 tk173 _ from (show Fr tk166 tk173 _ from hf177 rfl)) (show Fr tkj28 tk166 _ from (show Fr tkj28 tk166 _ from hf170 rfl)) (by omega) (by omega) x (List.mem_append.2 (.inr hx))))) .nil)))) rfl) (.cons _ _ _ _ _ (TnCs.box (.cons _ _ _ _ (Tn.av (.int _ _)) (.cons _ _ _ _ (Tn.av (.int _ _)) (.cons _ _ _ _ (Tn.av (fs_av (fr_av (show Fr tk22 tkj28 _ from hfr34) (show Fr tkj28 tk166 _ from (show Fr tkj28 tk166 _ from hf170 rfl)) (by omega) (by omega)))) (.cons _ _ _ _ (Tn.av (ps_av (fr_av (show Fr tk22 tkj28 _ from hfr35) (show Fr tkj28 tk166 _ from (show Fr tkj28 tk166 _ from hf170 rfl)) (by omega) (by omega)))) .nil)))) rfl) (.cons _ _ _ _ _ (TnCs.box (.cons _ _ _ _ (Tn.av (.int _ _)) (.cons _ _ _ _ (Tn.av (.int _ _)) (.cons _ _ _ _ (Tn.av (fs_av (old_av ho3))) (.cons _ _ _ _ (Tn.av (ps_av (old_av ho4))) .nil)))) rfl) (.cons _ _ _ _ _ (TnCs.box (.cons _ _ _ _ (Tn.av (.int _ _)) (.cons _ _ _ _ (Tn.av (.int _ _)) (.cons _ _ _ _ (Tn.av (fs_av (old_av ho1))) (.cons _ _ _ _ (Tn.av (ps_av (old_av ho2))) .nil)))) rfl) .nil)))))), ?_⟩
 refine yR rfl ?_
 refine yN ?_
 refine run_sub_code (σ' := ⟨[(0, .imm q1 3 f1 (fcellss ks1)), (4, .optr (.loc 4) 0 0), (5, .optr (.loc 5) 0 0), (6, .bool false), (8, .optr (.loc 8) 0 0), (9, .int .i64 i29), (11, .optr (.loc 11) 0 0), (12, .optr (.loc 12) 0 0), (13, .optr (.loc 13) 0 0), (14, .int .i64 ra195), (15, .int .i64 k257)], [(13, ⟨26, 4, true, [[.int .i64 k190, .int .i64 n190, .imm p190 3 e190 (fcellss fs190), .imm q190 4 f190 (pcellss ks190)]]⟩), (12, ⟨26, 4, true, [[.int .i64 k183, .int .i64 n183, .imm p183 3 e183 (fcellss fs183), .imm q183 4 f183 (pcellss ks183)]]⟩), (11, ⟨26, 4, true, [[.int .i64 k176, .int .i64 n176, .imm p176 3 e176 (fcellss fs176), .imm q176 4 f176 (pcellss ks176)]]⟩), (8, ⟨26, 4, true, [[.int .i64 i30, .int .i64 i31, .imm q32 3 f32 (fcellss ks32), .imm q33 4 f33 (pcellss ks33)]]⟩), (5, ⟨73, 4, true, [[.int .i64 k3, .int .i64 n3, .imm p3 3 e3 (fcellss fs3), .imm q3 4 f3 (pcellss ks3)]]⟩), (4, ⟨73, 4, true, [[.int .i64 k2, .int .i64 n2, .imm p2 3 e2 (fcellss fs2), .imm q2 4 f2 (pcellss ks2)]]⟩)], [], O, tk254⟩) (Sub.env _ ⟨rfl, rfl, rfl, rfl, rfl, rfl, rfl, rfl, rfl, rfl, rfl, trivial⟩) ?_
 refine run_sr ?_
 refine yD hG rfl ?_
 refine yL rfl ?_
 obtain ⟨r261, hg262, hM⟩ := bind_t hM
 refine run_callT rfl rfl rfl (ltb rfl) rfl rfl rfl rfl rfl hOn (fun x hx => by have := ((show Fr tk166 tk173 _ from (show Fr tk166 tk173 _ from hf177 rfl))).2 x hx; show S0.tk ≤ x; omega) (w_markProof_m k176 n176 p176 e176 fs176 q176 f176 ks176 k257 _ (Fr.ge (show Fr tk166 tk173 _ from (show Fr tk166 tk173 _ from hf177 rfl)) (by omega)) ((show Fr tk166 tk173 _ from (show Fr tk166 tk173 _ from hf177 rfl))).1 hg262) (fun out S' hR (hle264 : tk254 ≤ S'.tk) => ?_)
 obtain ⟨fs270, ks265, k266, rfl, rfl, _, hst267, hln268, hst271, hln272, hu269, hu273⟩ := hR
 generalize S'.tk = tk263 at hle264 ⊢
 refine ⟨_, rfl, rfl, GQ p176 e176 fs176 fs270 q176 f176 ks176 ks265, GQ.turned (Fr.ge (show Fr tk166 tk173 _ from (show Fr tk166 tk173 _ from hf177 rfl)) (by omega)) hst267 hln268 hst271 hln272 hu269 hu273, [(0, .imm q1 3 f1 (fcellss ks1)), (4, .optr (.loc 4) 0 0), (5, .optr (.loc 5) 0 0), (6, .bool false), (8, .optr (.loc 8) 0 0), (9, .int .i64 i29), (11, .optr (.loc 11) 0 0), (12, .optr (.loc 12) 0 0), (13, .optr (.loc 13) 0 0), (14, .int .i64 ra195), (15, .int .i64 k257), (85, .agg [.int .i64 k176, .int .i64 n176, .imm p176 3 e176 (fcellss fs270), .imm q176 4 f176 (pcellss ks265)]), (86, .int .i64 k257)], [(13, ⟨26, 4, true, [[.int .i64 k190, .int .i64 n190, .imm p190 3 e190 (fcellss fs190), .imm q190 4 f190 (pcellss ks190)]]⟩), (12, ⟨26, 4, true, [[.int .i64 k183, .int .i64 n183, .imm p183 3 e183 (fcellss fs183), .imm q183 4 f183 (pcellss ks183)]]⟩), (11, ⟨26, 4, true, [[.int .i64 k176, .int .i64 n176, .imm p176 3 e176 (fcellss fs270), .imm q176 4 f176 (pcellss ks265)]]⟩), (8, ⟨26, 4, true, [[.int .i64 i30, .int .i64 i31, .imm q32 3 f32 (fcellss ks32), .imm q33 4 f33 (pcellss ks33)]]⟩), (5, ⟨73, 4, true, [[.int .i64 k3, .int .i64 n3, .imm p3 3 e3 (fcellss fs3), .imm q3 4 f3 (pcellss ks3)]]⟩), (4, ⟨73, 4, true, [[.int .i64 k2, .int .i64 n2, .imm p2 3 e2 (fcellss fs2), .imm q2 4 f2 (pcellss ks2)]]⟩)], (.cons _ _ _ _ rfl (Tn.av (fs_av (old_av ho0))) (.cons _ _ _ _ rfl (.optr _ _ _) (.cons _ _ _ _ rfl (.optr _ _ _) (.cons _ _ _ _ rfl (Tn.av (.bool _)) (.cons _ _ _ _ rfl (.optr _ _ _) (.cons _ _ _ _ rfl (Tn.av (.int _ _)) (.cons _ _ _ _ rfl (.optr _ _ _) (.cons _ _ _ _ rfl (.optr _ _ _) (.cons _ _ _ _ rfl (.optr _ _ _) (.cons _ _ _ _ rfl (Tn.av (.int _ _)) (.cons _ _ _ _ rfl (Tn.av (.int _ _)) (.cons _ _ _ _ rfl (TnCs.agg (.cons _ _ _ _ (Tn.av (.int _ _)) (.cons _ _ _ _ (Tn.av (.int _ _)) (.cons _ _ _ _ (GQ.tnf hln268) (.cons _ _ _ _ (GQ.tnp hln272) .nil)))) rfl) (.cons _ _ _ _ rfl (Tn.av (.int _ _)) .nil))))))))))))), (.cons _ _ _ _ _ (TnCs.box (.cons _ _ _ _ (Tn.av (.int _ _)) (.cons _ _ _ _ (Tn.av (.int _ _)) (.cons _ _ _ _ (Tn.av (fs_av (fun x hx => fr_av (show Fr tk180 tk187 _ from (show Fr tk180 tk187 _ from hf191 rfl)) (show Fr tk166 tk173 _ from (show Fr tk166 tk173 _ from hf177 rfl)) (by omega) (by omega) x (List.mem_append.2 (.inl hx))))) (.cons _ _ _ _ (Tn.av (ps_av (fun x hx => fr_av (show Fr tk180 tk187 _ from (show Fr tk180 tk187 _ from hf191 rfl)) (show Fr tk166 tk173 _ from (show Fr tk166 tk173 _ from hf177 rfl)) (by omega) (by omega) x (List.mem_append.2 (.inr hx))))) .nil)))) rfl) (.cons _ _ _ _ _ (TnCs.box (.cons _ _ _ _ (Tn.av (.int _ _)) (.cons _ _ _ _ (Tn.av (.int _ _)) (.cons _ _ _ _ (Tn.av (fs_av (fun x hx => fr_av (show Fr tk173 tk180 _ from (show Fr tk173 tk180 _ from hf184 rfl)) (show Fr tk166 tk173 _ from (show Fr tk166 tk173 _ from hf177 rfl)) (by omega) (by omega) x (List.mem_append.2 (.inl hx))))) (.cons _ _ _ _ (Tn.av (ps_av (fun x hx => fr_av (show Fr tk173 tk180 _ from (show Fr tk173 tk180 _ from hf184 rfl)) (show Fr tk166 tk173 _ from (show Fr tk166 tk173 _ from hf177 rfl)) (by omega) (by omega) x (List.mem_append.2 (.inr hx))))) .nil)))) rfl) (.cons _ _ _ _ _ (TnCs.box (.cons _ _ _ _ (Tn.av (.int _ _)) (.cons _ _ _ _ (Tn.av (.int _ _)) (.cons _ _ _ _ (GQ.tnf hln268) (.cons _ _ _ _ (GQ.tnp hln272) .nil)))) rfl) (.cons _ _ _ _ _ (TnCs.box (.cons _ _ _ _ (Tn.av (.int _ _)) (.cons _ _ _ _ (Tn.av (.int _ _)) (.cons _ _ _ _ (Tn.av (fs_av (fr_av (show Fr tk22 tkj28 _ from hfr34) (show Fr tk166 tk173 _ from (show Fr tk166 tk173 _ from hf177 rfl)) (by omega) (by omega)))) (.cons _ _ _ _ (Tn.av (ps_av (fr_av (show Fr tk22 tkj28 _ from hfr35) (show Fr tk166 tk173 _ from (show Fr tk166 tk173 _ from hf177 rfl)) (by omega) (by omega)))) .nil)))) rfl) (.cons _ _ _ _ _ (TnCs.box (.cons _ _ _ _ (Tn.av (.int _ _)) (.cons _ _ _ _ (Tn.av (.int _ _)) (.cons _ _ _ _ (Tn.av (fs_av (old_av ho3))) (.cons _ _ _ _ (Tn.av (ps_av (old_av ho4))) .nil)))) rfl) (.cons _ _ _ _ _ (TnCs.box (.cons _ _ _ _ (Tn.av (.int _ _)) (.cons _ _ _ _ (Tn.av (.int _ _)) (.cons _ _ _ _ (Tn.av (fs_av (old_av ho1))) (.cons _ _ _ _ (Tn.av (ps_av (old_av ho2))) .nil)))) rfl) .nil)))))), ?_⟩
 refine yR rfl ?_
 refine yN ?_
 refine run_sr ?_
 refine yD hG rfl ?_
 refine yL rfl ?_
 obtain ⟨r274, hg275, hM⟩ := bind_t hM
 refine run_callT rfl rfl rfl (ltb rfl) rfl rfl rfl rfl rfl hOn (fun x hx => by have := ((show Fr tk173 tk180 _ from (show Fr tk173 tk180 _ from hf184 rfl))).2 x hx; show S0.tk ≤ x; omega) (w_markProof_m k183 n183 p183 e183 fs183 q183 f183 ks183 k266 _ (Fr.ge (show Fr tk173 tk180 _ from (show Fr tk173 tk180 _ from hf184 rfl)) (by omega)) ((show Fr tk173 tk180 _ from (show Fr tk173 tk180 _ from hf184 rfl))).1 hg275) (fun out S' hR (hle277 : tk263 ≤ S'.tk) => ?_)
 obtain ⟨fs283, ks278, k279, rfl, rfl, _, hst280, hln281, hst284, hln285, hu282, hu286⟩ := hR
 generalize S'.tk = tk276 at hle277 ⊢
 refine ⟨_, rfl, rfl, GQ p183 e183 fs183 fs283 q183 f183 ks183 ks278, GQ.turned (Fr.ge (show Fr tk173 tk180 _ from (show Fr tk173 tk180 _ from hf184 rfl)) (by omega)) hst280 hln281 hst284 hln285 hu282 hu286, [(0, .imm q1 3 f1 (fcellss ks1)), (4, .optr (.loc 4) 0 0), (5, .optr (.loc 5) 0 0), (6, .bool false), (8, .optr (.loc 8) 0 0), (9, .int .i64 i29), (11, .optr (.loc 11) 0 0), (12, .optr (.loc 12) 0 0), (13, .optr (.loc 13) 0 0), (14, .int .i64 ra195), (15, .int .i64 k266), (85, .agg [.int .i64 k176, .int .i64 n176, .imm p176 3 e176 (fcellss fs270), .imm q176 4 f176 (pcellss ks265)]), (86, .int .i64 k257), (87, .int .i64 k266), (88, .agg [.int .i64 k183, .int .i64 n183, .imm p183 3 e183 (fcellss fs283), .imm q183 4 f183 (pcellss ks278)]), (89, .int .i64 k266)], [(13, ⟨26, 4, true, [[.int .i64 k190, .int .i64 n190, .imm p190 3 e190 (fcellss fs190), .imm q190 4 f190 (pcellss ks190)]]⟩), (12, ⟨26, 4, true, [[.int .i64 k183, .int .i64 n183, .imm p183 3 e183 (fcellss fs283), .imm q183 4 f183 (pcellss ks278)]]⟩), (11, ⟨26, 4, true, [[.int .i64 k176, .int .i64 n176, .imm p176 3 e176 (fcellss fs270), .imm q176 4 f176 (pcellss ks265)]]⟩), (8, ⟨26, 4, true, [[.int .i64 i30, .int .i64 i31, .imm q32 3 f32 (fcellss ks32), .imm q33 4 f33 (pcellss ks33)]]⟩), (5, ⟨73, 4, true, [[.int .i64 k3, .int .i64 n3, .imm p3 3 e3 (fcellss fs3), .imm q3 4 f3 (pcellss ks3)]]⟩), (4, ⟨73, 4, true, [[.int .i64 k2, .int .i64 n2, .imm p2 3 e2 (fcellss fs2), .imm q2 4 f2 (pcellss ks2)]]⟩)], (.cons _ _ _ _ rfl (Tn.av (fs_av (old_av ho0))) (.cons _ _ _ _ rfl (.optr _ _ _) (.cons _ _ _ _ rfl (.optr _ _ _) (.cons _ _ _ _ rfl (Tn.av (.bool _)) (.cons _ _ _ _ rfl (.optr _ _ _) (.cons _ _ _ _ rfl (Tn.av (.int _ _)) (.cons _ _ _ _ rfl (.optr _ _ _) (.cons _ _ _ _ rfl (.optr _ _ _) (.cons _ _ _ _ rfl (.optr _ _ _) (.cons _ _ _ _ rfl (Tn.av (.int _ _)) (.cons _ _ _ _ rfl (Tn.av (.int _ _)) (.cons _ _ _ _ rfl (TnCs.agg (.cons _ _ _ _ (Tn.av (.int _ _)) (.cons _ _ _ _ (Tn.av (.int _ _)) (.cons _ _ _ _ (Tn.av (fs_av (fun x hx => fr_av (show Fr tk166 tk173 _ from ((show Fr tk166 tk173 _ from (show Fr tk166 tk173 _ from hf177 rfl))).ext (app_ext hst267 hst271)) (show Fr tk173 tk180 _ from (show Fr tk173 tk180 _ from hf184 rfl)) (by omega) (by omega) x (List.mem_append.2 (.inl hx))))) (.cons _ _ _ _ (Tn.av (ps_av (fun x hx => fr_av (show Fr tk166 tk173 _ from ((show Fr tk166 tk173 _ from (show Fr tk166 tk173 _ from hf177 rfl))).ext (app_ext hst267 hst271)) (show Fr tk173 tk180 _ from (show Fr tk173 tk180 _ from hf184 rfl)) (by omega) (by omega) x (List.mem_append.2 (.inr hx))))) .nil)))) rfl) (.cons _ _ _ _ rfl (Tn.av (.int _ _)) (.cons _ _ _ _ rfl (Tn.av (.int _ _)) (.cons _ _ _ _ rfl (TnCs.agg (.cons _ _ _ _ (Tn.av (.int _ _)) (.cons _ _ _ _ (Tn.av (.int _ _)) (.cons _ _ _ _ (GQ.tnf hln281) (.cons _ _ _ _ (GQ.tnp hln285) .nil)))) rfl) (.cons _ _ _ _ rfl (Tn.av (.int _ _)) .nil)))))))))))))))), (.cons _ _ _ _ _ (TnCs.box (.cons _ _ _ _ (Tn.av (.int _ _)) (.cons _ _ _ _ (Tn.av (.int _ _)) (.cons _ _ _ _ (Tn.av (fs_av (fun x hx => fr_av (show Fr tk180 tk187 _ from (show Fr tk180 tk187 _ from hf191 rfl)) (show Fr tk173 tk180 _ from (show Fr tk173 tk180 _ from hf184 rfl)) (by omega) (by omega) x (List.mem_append.2 (.inl hx))))) (.cons _ _ _ _ (Tn.av (ps_av (fun x hx => fr_av (show Fr tk180 tk187 _ from (show Fr tk180 tk187 _ from hf191 rfl)) (show Fr tk173 tk180 _ from (show Fr tk173 tk180 _ from hf184 rfl)) (by omega) (by omega) x (List.mem_append.2 (.inr hx))))) .nil)))) rfl) (.cons _ _ _ _ _ (TnCs.box (.cons _ _ _ _ (Tn.av (.int _ _)) (.cons _ _ _ _ (Tn.av (.int _ _)) (.cons _ _ _ _ (GQ.tnf hln281) (.cons _ _ _ _ (GQ.tnp hln285) .nil)))) rfl) (.cons _ _ _ _ _ (TnCs.box (.cons _ _ _ _ (Tn.av (.int _ _)) (.cons _ _ _ _ (Tn.av (.int _ _)) (.cons _ _ _ _ (Tn.av (fs_av (fun x hx => fr_av (show Fr tk166 tk173 _ from ((show Fr tk166 tk173 _ from (show Fr tk166 tk173 _ from hf177 rfl))).ext (app_ext hst267 hst271)) (show Fr tk173 tk180 _ from (show Fr tk173 tk180 _ from hf184 rfl)) (by omega) (by omega) x (List.mem_append.2 (.inl hx))))) (.cons _ _ _ _ (Tn.av (ps_av (fun x hx => fr_av (show Fr tk166 tk173 _ from ((show Fr tk166 tk173 _ from (show Fr tk166 tk173 _ from hf177 rfl))).ext (app_ext hst267 hst271)) (show Fr tk173 tk180 _ from (show Fr tk173 tk180 _ from hf184 rfl)) (by omega) (by omega) x (List.mem_append.2 (.inr hx))))) .nil)))) rfl) (.cons _ _ _ _ _ (TnCs.box (.cons _ _ _ _ (Tn.av (.int _ _)) (.cons _ _ _ _ (Tn.av (.int _ _)) (.cons _ _ _ _ (Tn.av (fs_av (fr_av (show Fr tk22 tkj28 _ from hfr34) (show Fr tk173 tk180 _ from (show Fr tk173 tk180 _ from hf184 rfl)) (by omega) (by omega)))) (.cons _ _ _ _ (Tn.av (ps_av (fr_av (show Fr tk22 tkj28 _ from hfr35) (show Fr tk173 tk180 _ from (show Fr tk173 tk180 _ from hf184 rfl)) (by omega) (by omega)))) .nil)))) rfl) (.cons _ _ _ _ _ (TnCs.box (.cons _ _ _ _ (Tn.av (.int _ _)) (.cons _ _ _ _ (Tn.av (.int _ _)) (.cons _ _ _ _ (Tn.av (fs_av (old_av ho3))) (.cons _ _ _ _ (Tn.av (ps_av (old_av ho4))) .nil)))) rfl) (.cons _ _ _ _ _ (TnCs.box (.cons _ _ _ _ (Tn.av (.int _ _)) (.cons _ _ _ _ (Tn.av (.int _ _)) (.cons _ _ _ _ (Tn.av (fs_av (old_av ho1))) (.cons _ _ _ _ (Tn.av (ps_av (old_av ho2))) .nil)))) rfl) .nil)))))), ?_⟩
 refine yR rfl ?_
 refine yN ?_
 refine run_seq ?_
 refine run_sr ?_
 refine yL rfl ?_
 refine yB rfl ?_
 refine yL rfl ?_
 refine run_splitd (i := 93) rfl (fun hb287 => ?_) (fun hb287 => ?_)
 ·replace hM := ite_t hb287 hM
  refine yO rfl ?_
  refine yO rfl ?_
  refine yO rfl ?_
  refine yO rfl ?_
  refine yP rfl ?_
  refine yL rfl ?_
  refine yO rfl ?_
  refine yO rfl ?_
  refine yO rfl ?_
  refine yP rfl ?_
  refine yN ?_
  refine run_sub_code (σ' := ⟨[(0, .imm q1 3 f1 (fcellss ks1)), (4, .optr (.loc 4) 0 0), (5, .optr (.loc 5) 0 0), (6, .bool false), (8, .optr (.loc 8) 0 0), (9, .int .i64 i29), (13, .optr (.loc 13) 0 0), (103, .bool true)], [(13, ⟨26, 4, true, [[.int .i64 k190, .int .i64 n190, .imm p190 3 e190 (fcellss fs190), .imm q190 4 f190 (pcellss ks190)]]⟩), (8, ⟨26, 4, true, [[.int .i64 i30, .int .i64 i31, .imm q32 3 f32 (fcellss ks32), .imm q33 4 f33 (pcellss ks33)]]⟩), (5, ⟨73, 4, true, [[.int .i64 k3, .int .i64 n3, .imm p3 3 e3 (fcellss fs3), .imm q3 4 f3 (pcellss ks3)]]⟩), (4, ⟨73, 4, true, [[.int .i64 k2, .int .i64 n2, .imm p2 3 e2 (fcellss fs2), .imm q2 4 f2 (pcellss ks2)]]⟩)], [], O, tk276⟩) (Sub.trans (Sub.drop (k := 12) rfl) (Sub.trans (Sub.drop (k := 11) rfl) (Sub.env _ ⟨rfl, rfl, rfl, rfl, rfl, rfl, rfl, rfl, trivial⟩))) ?_
  refine run_if rfl rfl (fun _ => ?_) (fun h => by cases h)
  refine run_sr ?_
  refine yR rfl ?_
  refine yN ?_
  refine run_ret_to ?_
  replace hM := some_t hM
  subst hM
  refine fin_x hG rfl rfl rfl (v' := .bool false) (by rfl) ⟨rfl, (show tk ≤ tk276 by omega), _, rfl, rfl⟩
 replace hM := ite_f hb287 hM
 refine run_rdG (on_of rfl rfl rfl rfl) (aload_rd hG rfl rfl rfl (by first | (simp [ldok]; done) | exact List.not_mem_nil | trivial)) rfl (ltb rfl) ?_
 refine run_rdG (on_of rfl rfl rfl rfl) (aload_rd hG rfl rfl rfl (by first | (simp [ldok]; done) | exact List.not_mem_nil | trivial)) rfl (ltb rfl) ?_
 obtain ⟨r288, hg289, hM⟩ := bind_t hM
 refine yG (on_of rfl rfl rfl rfl) rfl (w_eqProof_ok n k190 n190 p190 e190 fs190 q190 f190 ks190 i30 i31 q32 f32 ks32 q33 f33 ks33 hg289 _ _) (callK_retX (fun v tk290 (hle291 : tk276 ≤ tk290) h292 => ?_))
 subst h292
 refine run_puG (on_of rfl rfl rfl rfl) (aun_step rfl rfl rfl) rfl (ltb rfl) ?_
 refine yP rfl ?_
 refine yL rfl ?_
 refine run_splitb (i := 99) rfl (fun hb295 => ?_) (fun hb295 => ?_)
 ·replace hM := ite_t hb295 hM
  refine yO rfl ?_
  refine yO rfl ?_
  refine yO rfl ?_
  refine yP rfl ?_
  refine yN ?_
  refine run_sub_code (σ' := ⟨[(0, .imm q1 3 f1 (fcellss ks1)), (4, .optr (.loc 4) 0 0), (5, .optr (.loc 5) 0 0), (6, .bool false), (8, .optr (.loc 8) 0 0), (9, .int .i64 i29), (13, .optr (.loc 13) 0 0), (103, .bool true)], [(13, ⟨26, 4, true, [[.int .i64 k190, .int .i64 n190, .imm p190 3 e190 (fcellss fs190), .imm q190 4 f190 (pcellss ks190)]]⟩), (8, ⟨26, 4, true, [[.int .i64 i30, .int .i64 i31, .imm q32 3 f32 (fcellss ks32), .imm q33 4 f33 (pcellss ks33)]]⟩), (5, ⟨73, 4, true, [[.int .i64 k3, .int .i64 n3, .imm p3 3 e3 (fcellss fs3), .imm q3 4 f3 (pcellss ks3)]]⟩), (4, ⟨73, 4, true, [[.int .i64 k2, .int .i64 n2, .imm p2 3 e2 (fcellss fs2), .imm q2 4 f2 (pcellss ks2)]]⟩)], [], O, tk290⟩) (Sub.trans (Sub.drop (k := 12) rfl) (Sub.trans (Sub.drop (k := 11) rfl) (Sub.env _ ⟨rfl, rfl, rfl, rfl, rfl, rfl, rfl, rfl, trivial⟩))) ?_
  refine run_if rfl rfl (fun _ => ?_) (fun h => by cases h)
  refine run_sr ?_
  refine yR rfl ?_
  refine yN ?_
  refine run_ret_to ?_
  replace hM := some_t hM
  subst hM
  refine fin_x hG rfl rfl rfl (v' := .bool false) (by rfl) ⟨rfl, (show tk ≤ tk290 by omega), _, rfl, rfl⟩
 replace hM := ite_f hb295 hM
 refine run_puG (on_of rfl rfl rfl rfl) (move_step (.inl rfl) rfl) rfl (ltb rfl) ?_
 refine run_puG (on_of rfl rfl rfl rfl) (move_step (.inl rfl) rfl) rfl (ltb rfl) ?_
 refine run_puG (on_of rfl rfl rfl rfl) (abin_step rfl rfl rfl rfl (fun _ h => by cases h)) rfl (ltb rfl) ?_
 refine yP rfl ?_
 refine yN ?_
 refine run_sub_code (σ' := ⟨[(0, .imm q1 3 f1 (fcellss ks1)), (4, .optr (.loc 4) 0 0), (5, .optr (.loc 5) 0 0), (6, .bool false), (8, .optr (.loc 8) 0 0), (9, .int .i64 i29), (13, .optr (.loc 13) 0 0), (103, .bool (ra195 != i29))], [(13, ⟨26, 4, true, [[.int .i64 k190, .int .i64 n190, .imm p190 3 e190 (fcellss fs190), .imm q190 4 f190 (pcellss ks190)]]⟩), (8, ⟨26, 4, true, [[.int .i64 i30, .int .i64 i31, .imm q32 3 f32 (fcellss ks32), .imm q33 4 f33 (pcellss ks33)]]⟩), (5, ⟨73, 4, true, [[.int .i64 k3, .int .i64 n3, .imm p3 3 e3 (fcellss fs3), .imm q3 4 f3 (pcellss ks3)]]⟩), (4, ⟨73, 4, true, [[.int .i64 k2, .int .i64 n2, .imm p2 3 e2 (fcellss fs2), .imm q2 4 f2 (pcellss ks2)]]⟩)], [], O, tk290⟩) (Sub.trans (Sub.drop (k := 12) rfl) (Sub.trans (Sub.drop (k := 11) rfl) (Sub.env _ ⟨rfl, rfl, rfl, rfl, rfl, rfl, rfl, rfl, trivial⟩))) ?_
 refine run_ifb rfl rfl (fun hb296 => ?_) (fun hb296 => ?_)
 ·replace hM := ite_t hb296 hM
  refine run_sr ?_
  refine yR rfl ?_
  refine yN ?_
  refine run_ret_to ?_
  replace hM := some_t hM
  subst hM
  refine fin_x hG rfl rfl rfl (v' := .bool false) (by rfl) ⟨rfl, (show tk ≤ tk290 by omega), _, rfl, rfl⟩
 replace hM := ite_f hb296 hM
 refine run_skip ?_
 refine run_sr ?_
 refine yR rfl ?_
 refine yN ?_
 refine run_sr ?_
 refine yD hG rfl ?_
 refine yL rfl ?_
 obtain ⟨r297, hg298, hM⟩ := bind_t hM
 refine run_callT rfl rfl rfl (ltb rfl) rfl rfl rfl rfl rfl hOn (fun x hx => by have := ((show Fr tk180 tk187 _ from (show Fr tk180 tk187 _ from hf191 rfl))).2 x hx; show S0.tk ≤ x; omega) (w_markProof_m k190 n190 p190 e190 fs190 q190 f190 ks190 1 _ (Fr.ge (show Fr tk180 tk187 _ from (show Fr tk180 tk187 _ from hf191 rfl)) (by omega)) ((show Fr tk180 tk187 _ from (show Fr tk180 tk187 _ from hf191 rfl))).1 hg298) (fun out S' hR (hle300 : tk290 ≤ S'.tk) => ?_)
 obtain ⟨fs306, ks301, k302, rfl, rfl, _, hst303, hln304, hst307, hln308, hu305, hu309⟩ := hR
 generalize S'.tk = tk299 at hle300 ⊢
 refine ⟨_, rfl, rfl, GQ p190 e190 fs190 fs306 q190 f190 ks190 ks301, GQ.turned (Fr.ge (show Fr tk180 tk187 _ from (show Fr tk180 tk187 _ from hf191 rfl)) (by omega)) hst303 hln304 hst307 hln308 hu305 hu309, [(0, .imm q1 3 f1 (fcellss ks1)), (4, .optr (.loc 4) 0 0), (5, .optr (.loc 5) 0 0), (6, .bool false), (8, .optr (.loc 8) 0 0), (9, .int .i64 i29), (13, .optr (.loc 13) 0 0), (103, .bool (ra195 != i29)), (16, .int .i64 1), (104, .agg [.int .i64 k190, .int .i64 n190, .imm p190 3 e190 (fcellss fs306), .imm q190 4 f190 (pcellss ks301)]), (105, .int .i64 1)], [(13, ⟨26, 4, true, [[.int .i64 k190, .int .i64 n190, .imm p190 3 e190 (fcellss fs306), .imm q190 4 f190 (pcellss ks301)]]⟩), (8, ⟨26, 4, true, [[.int .i64 i30, .int .i64 i31, .imm q32 3 f32 (fcellss ks32), .imm q33 4 f33 (pcellss ks33)]]⟩), (5, ⟨73, 4, true, [[.int .i64 k3, .int .i64 n3, .imm p3 3 e3 (fcellss fs3), .imm q3 4 f3 (pcellss ks3)]]⟩), (4, ⟨73, 4, true, [[.int .i64 k2, .int .i64 n2, .imm p2 3 e2 (fcellss fs2), .imm q2 4 f2 (pcellss ks2)]]⟩)], (.cons _ _ _ _ rfl (Tn.av (fs_av (old_av ho0))) (.cons _ _ _ _ rfl (.optr _ _ _) (.cons _ _ _ _ rfl (.optr _ _ _) (.cons _ _ _ _ rfl (Tn.av (.bool _)) (.cons _ _ _ _ rfl (.optr _ _ _) (.cons _ _ _ _ rfl (Tn.av (.int _ _)) (.cons _ _ _ _ rfl (.optr _ _ _) (.cons _ _ _ _ rfl (Tn.av (.bool _)) (.cons _ _ _ _ rfl (Tn.av (.int _ _)) (.cons _ _ _ _ rfl (TnCs.agg (.cons _ _ _ _ (Tn.av (.int _ _)) (.cons _ _ _ _ (Tn.av (.int _ _)) (.cons _ _ _ _ (GQ.tnf hln304) (.cons _ _ _ _ (GQ.tnp hln308) .nil)))) rfl) (.cons _ _ _ _ rfl (Tn.av (.int _ _)) .nil))))))))))), (.cons _ _ _ _ _ (TnCs.box (.cons _ _ _ _ (Tn.av (.int _ _)) (.cons _ _ _ _ (Tn.av (.int _ _)) (.cons _ _ _ _ (GQ.tnf hln304) (.cons _ _ _ _ (GQ.tnp hln308) .nil)))) rfl) (.cons _ _ _ _ _ (TnCs.box (.cons _ _ _ _ (Tn.av (.int _ _)) (.cons _ _ _ _ (Tn.av (.int _ _)) (.cons _ _ _ _ (Tn.av (fs_av (fr_av (show Fr tk22 tkj28 _ from hfr34) (show Fr tk180 tk187 _ from (show Fr tk180 tk187 _ from hf191 rfl)) (by omega) (by omega)))) (.cons _ _ _ _ (Tn.av (ps_av (fr_av (show Fr tk22 tkj28 _ from hfr35) (show Fr tk180 tk187 _ from (show Fr tk180 tk187 _ from hf191 rfl)) (by omega) (by omega)))) .nil)))) rfl) (.cons _ _ _ _ _ (TnCs.box (.cons _ _ _ _ (Tn.av (.int _ _)) (.cons _ _ _ _ (Tn.av (.int _ _)) (.cons _ _ _ _ (Tn.av (fs_av (old_av ho3))) (.cons _ _ _ _ (Tn.av (ps_av (old_av ho4))) .nil)))) rfl) (.cons _ _ _ _ _ (TnCs.box (.cons _ _ _ _ (Tn.av (.int _ _)) (.cons _ _ _ _ (Tn.av (.int _ _)) (.cons _ _ _ _ (Tn.av (fs_av (old_av ho1))) (.cons _ _ _ _ (Tn.av (ps_av (old_av ho2))) .nil)))) rfl) .nil)))), ?_⟩
 refine yR rfl ?_
 refine yN ?_
 refine run_sr ?_
 refine yR rfl ?_
 refine yN ?_
 refine run_sr ?_
 refine yD hG rfl ?_
 refine yL rfl ?_
 obtain ⟨r310, hg311, hM⟩ := bind_t hM
 refine yK rfl (w_heldProof_ok n k190 n190 p190 e190 fs306 q190 f190 ks301 1 hg311 _ _) (callK_retX (fun v tk312 (hle313 : tk299 ≤ tk312) h314 => ?_))
 subst h314
 refine yR rfl ?_
 refine yN ?_
 refine run_seq ?_
 refine run_sr ?_
 refine yL rfl ?_
 refine yB rfl ?_
 refine yN ?_
 refine run_ifd rfl rfl (fun hb317 => ?_) (fun hb317 => ?_)
 ·replace hM := ite_t hb317 hM
  refine run_sr ?_
  refine yR rfl ?_
  refine yN ?_
  refine run_ret_to ?_
  replace hM := some_t hM
  subst hM
  refine fin_x hG rfl rfl rfl (v' := .bool false) (by rfl) ⟨rfl, (show tk ≤ tk312 by omega), _, rfl, rfl⟩
 replace hM := ite_f hb317 hM
 refine run_skip ?_
 refine run_seq ?_
 refine run_sr ?_
 refine yL rfl ?_
 refine yL rfl ?_
 refine yB rfl ?_
 refine yN ?_
 refine run_sub_code (σ' := ⟨[(0, .imm q1 3 f1 (fcellss ks1)), (4, .optr (.loc 4) 0 0), (5, .optr (.loc 5) 0 0), (6, .bool false), (8, .optr (.loc 8) 0 0), (9, .int .i64 i29), (13, .optr (.loc 13) 0 0), (16, .int .i64 k302), (17, .int .i64 r310), (114, .bool (r310 != k302))], [(13, ⟨26, 4, true, [[.int .i64 k190, .int .i64 n190, .imm p190 3 e190 (fcellss fs306), .imm q190 4 f190 (pcellss ks301)]]⟩), (8, ⟨26, 4, true, [[.int .i64 i30, .int .i64 i31, .imm q32 3 f32 (fcellss ks32), .imm q33 4 f33 (pcellss ks33)]]⟩), (5, ⟨73, 4, true, [[.int .i64 k3, .int .i64 n3, .imm p3 3 e3 (fcellss fs3), .imm q3 4 f3 (pcellss ks3)]]⟩), (4, ⟨73, 4, true, [[.int .i64 k2, .int .i64 n2, .imm p2 3 e2 (fcellss fs2), .imm q2 4 f2 (pcellss ks2)]]⟩)], [], O, tk312⟩) (Sub.env _ ⟨rfl, rfl, rfl, rfl, rfl, rfl, rfl, rfl, rfl, rfl, trivial⟩) ?_
 refine run_ifb rfl rfl (fun hb318 => ?_) (fun hb318 => ?_)
 ·replace hM := ite_t hb318 hM
  refine run_sr ?_
  refine yR rfl ?_
  refine yN ?_
  refine run_ret_to ?_
  replace hM := some_t hM
  subst hM
  refine fin_x hG rfl rfl rfl (v' := .bool false) (by rfl) ⟨rfl, (show tk ≤ tk312 by omega), _, rfl, rfl⟩
 replace hM := ite_f hb318 hM
 refine run_skip ?_
 refine run_seq ?_
 obtain ⟨j319, hj474, hM⟩ := jn_t hM
 refine run_cutL [.code _] (fun σ' => ∃ (i320 : Int) (i321 : Int) (i322 : Int) (q323 : Nat) (f323 : Bool) (ks323 : List LF) (q324 : Nat) (f324 : Bool) (ks324 : List LP) (tkj319 : Nat), tk312 ≤ tkj319 ∧ Fr tk312 tkj319 (fstoks q323 ks323) ∧ Fr tk312 tkj319 (pstoks q324 ks324) ∧ j319 i320 i321 i322 (fers ks323) (pers ks324) = some r ∧ Sub ⟨Go.Proofs.Try.prog, S0, Go.Proofs.Try.f7.ntmps, [], fun _ => False, []⟩ σ' ⟨[(6, .bool false), (8, .optr (.loc 8) 0 0), (9, .int .i64 i29), (13, .optr (.loc 13) 0 0), (16, .int .i64 k302), (17, .int .i64 r310), (18, .optr (.loc 18) 0 0), (19, .int .i64 i320)], [(18, ⟨26, 4, true, [[.int .i64 i321, .int .i64 i322, .imm q323 3 f323 (fcellss ks323), .imm q324 4 f324 (pcellss ks324)]]⟩), (13, ⟨26, 4, true, [[.int .i64 k190, .int .i64 n190, .imm p190 3 e190 (fcellss fs306), .imm q190 4 f190 (pcellss ks301)]]⟩), (8, ⟨26, 4, true, [[.int .i64 i30, .int .i64 i31, .imm q32 3 f32 (fcellss ks32), .imm q33 4 f33 (pcellss ks33)]]⟩), (5, ⟨73, 4, true, [[.int .i64 k3, .int .i64 n3, .imm p3 3 e3 (fcellss fs3), .imm q3 4 f3 (pcellss ks3)]]⟩), (4, ⟨73, 4, true, [[.int .i64 k2, .int .i64 n2, .imm p2 3 e2 (fcellss fs2), .imm q2 4 f2 (pcellss ks2)]]⟩)], [], O, tkj319⟩) rfl ?_ ?_
 ·refine run_draw [] (n := 13) mixed rfl yE ?_
  refine yTV 0 (by kernel_rfl) rfl ?_
  refine yTL hG 2 (by kernel_rfl) rfl ?_
  refine yTL hG 4 (by kernel_rfl) rfl ?_
  refine AAny.eachN (rs := [1, 10]) (by kernel_rfl) (fun h => by cases h) (fun i hi => ?_)
  simp only [List.mem_cons, List.not_mem_nil, or_false] at hi
  rcases hi with rfl | rfl
  ·refine AOpN.of ?_
   obtain ⟨r327, hg328, hM⟩ := bind_t hM
   refine yI rfl rfl (w_toFormS_ok n q1 f1 ks1 hg328 _ _) (callK_retX (fun v tk329 (hle330 : tk312 ≤ tk329) h331 => ?_))
   obtain ⟨q332, f332, ks332, rfl, rfl, hf333⟩ := h331
   refine AAny.eachN (rs := [3, 10]) (by kernel_rfl) (fun h => by cases h) (fun i hi => ?_)
   simp only [List.mem_cons, List.not_mem_nil, or_false] at hi
   rcases hi with rfl | rfl
   ·refine AOpN.of ?_
    obtain ⟨r334, hg335, hM⟩ := bind_t hM
    refine yI rfl rfl (w_toProof_ok n k2 n2 p2 e2 fs2 q2 f2 ks2 hg335 _ _) (callK_retX (fun v tk336 (hle337 : tk329 ≤ tk336) h338 => ?_))
    obtain ⟨k339, n339, p339, e339, fs339, q339, f339, ks339, rfl, rfl, hf340⟩ := h338
    refine AAny.eachN (rs := [5, 10]) (by kernel_rfl) (fun h => by cases h) (fun i hi => ?_)
    simp only [List.mem_cons, List.not_mem_nil, or_false] at hi
    rcases hi with rfl | rfl
    ·refine AOpN.of ?_
     obtain ⟨r341, hg342, hM⟩ := bind_t hM
     refine yI rfl rfl (w_toProof_ok n k3 n3 p3 e3 fs3 q3 f3 ks3 hg342 _ _) (callK_retX (fun v tk343 (hle344 : tk336 ≤ tk343) h345 => ?_))
     obtain ⟨k346, n346, p346, e346, fs346, q346, f346, ks346, rfl, rfl, hf347⟩ := h345
     refine AAny.eachN (rs := [6, 10]) (by kernel_rfl) (fun h => by cases h) (fun i hi => ?_)
     simp only [List.mem_cons, List.not_mem_nil, or_false] at hi
     rcases hi with rfl | rfl
     ·refine AOpN.of ?_
      obtain ⟨r348, hg349, hM⟩ := bind_t hM
      refine yI rfl rfl (i_CutProof_ok n q332 f332 ks332 k339 n339 p339 e339 fs339 q339 f339 ks339 k346 n346 p346 e346 fs346 q346 f346 ks346 hg349 _ _) (callK_retX (fun v tk350 (hle351 : tk343 ≤ tk350) h352 => ?_))
      obtain ⟨ra357, ra358, va359, va360, rfl, rfl, ⟨k353, n353, p353, e353, fs353, q353, f353, ks353, rfl, rfl, hf354⟩, rfl⟩ := h352
      refine yTV 7 (by kernel_rfl) rfl ?_
      refine yT 8 (by kernel_rfl) rfl rfl rfl (ltb rfl) ((extract_step rfl rfl rfl).rd _) ?_
      refine yT 9 (by kernel_rfl) rfl rfl rfl (ltb rfl) ((extract_step rfl rfl rfl).rd _) ?_
      refine AAny.eachN (rs := [10]) (by kernel_rfl) (fun h => by cases h) (fun i hi => ?_)
      simp only [List.mem_cons, List.not_mem_nil, or_false] at hi
      subst hi
      ·refine AOpN.alloc hG rfl rfl rfl (ltb rfl) rfl rfl rfl ?_
       refine yW hG 11 (by kernel_rfl) rfl (by kernel_rfl) rfl ?_
       refine yTW 12 (by kernel_rfl) rfl ?_
       refine AAny.done (by kernel_rfl) ?_
       exact ⟨ra358, k353, n353, p353, e353, fs353, q353, f353, ks353, tk350, (show tk312 ≤ tk350 by omega), (show Fr tk312 tk350 _ from (Fr.left (show Fr tk343 tk350 _ from (show Fr tk343 tk350 _ from hf354 rfl))).mono (by omega) (by omega)), (show Fr tk312 tk350 _ from (Fr.right (show Fr tk343 tk350 _ from (show Fr tk343 tk350 _ from hf354 rfl))).mono (by omega) (by omega)), hM, Sub.pk [6, 8, 9, 13, 16, 17, 18, 19] rfl⟩
     refine AOpN.alloc hG rfl rfl rfl (ltb rfl) rfl rfl rfl ?_
     obtain ⟨r361, hg362, hM⟩ := bind_t hM
     refine yC 6 (by kernel_rfl) rfl rfl (i_CutProof_ok n q332 f332 ks332 k339 n339 p339 e339 fs339 q339 f339 ks339 k346 n346 p346 e346 fs346 q346 f346 ks346 hg362 _ _) (callK_retX (fun v tk363 (hle364 : tk343 ≤ tk363) h365 => ?_))
     obtain ⟨ra370, ra371, va372, va373, rfl, rfl, ⟨k366, n366, p366, e366, fs366, q366, f366, ks366, rfl, rfl, hf367⟩, rfl⟩ := h365
     refine yTV 7 (by kernel_rfl) rfl ?_
     refine yT 8 (by kernel_rfl) rfl rfl rfl (ltb rfl) ((extract_step rfl rfl rfl).rd _) ?_
     refine yT 9 (by kernel_rfl) rfl rfl rfl (ltb rfl) ((extract_step rfl rfl rfl).rd _) ?_
     refine yW hG 11 (by kernel_rfl) rfl (by kernel_rfl) rfl ?_
     refine yTW 12 (by kernel_rfl) rfl ?_
     refine AAny.done (by kernel_rfl) ?_
     exact ⟨ra371, k366, n366, p366, e366, fs366, q366, f366, ks366, tk363, (show tk312 ≤ tk363 by omega), (show Fr tk312 tk363 _ from (Fr.left (show Fr tk343 tk363 _ from (show Fr tk343 tk363 _ from hf367 rfl))).mono (by omega) (by omega)), (show Fr tk312 tk363 _ from (Fr.right (show Fr tk343 tk363 _ from (show Fr tk343 tk363 _ from hf367 rfl))).mono (by omega) (by omega)), hM, Sub.pk [6, 8, 9, 13, 16, 17, 18, 19] rfl⟩
    refine AOpN.alloc hG rfl rfl rfl (ltb rfl) rfl rfl rfl ?_
    obtain ⟨r374, hg375, hM⟩ := bind_t hM
    refine yC 5 (by kernel_rfl) rfl rfl (w_toProof_ok n k3 n3 p3 e3 fs3 q3 f3 ks3 hg375 _ _) (callK_retX (fun v tk376 (hle377 : tk336 ≤ tk376) h378 => ?_))
    obtain ⟨k379, n379, p379, e379, fs379, q379, f379, ks379, rfl, rfl, hf380⟩ := h378
    obtain ⟨r381, hg382, hM⟩ := bind_t hM
    refine yC 6 (by kernel_rfl) rfl rfl (i_CutProof_ok n q332 f332 ks332 k339 n339 p339 e339 fs339 q339 f339 ks339 k379 n379 p379 e379 fs379 q379 f379 ks379 hg382 _ _) (callK_retX (fun v tk383 (hle384 : tk376 ≤ tk383) h385 => ?_))
    obtain ⟨ra390, ra391, va392, va393, rfl, rfl, ⟨k386, n386, p386, e386, fs386, q386, f386, ks386, rfl, rfl, hf387⟩, rfl⟩ := h385
    refine yTV 7 (by kernel_rfl) rfl ?_
    refine yT 8 (by kernel_rfl) rfl rfl rfl (ltb rfl) ((extract_step rfl rfl rfl).rd _) ?_
    refine yT 9 (by kernel_rfl) rfl rfl rfl (ltb rfl) ((extract_step rfl rfl rfl).rd _) ?_
    refine yW hG 11 (by kernel_rfl) rfl (by kernel_rfl) rfl ?_
    refine yTW 12 (by kernel_rfl) rfl ?_
    refine AAny.done (by kernel_rfl) ?_
    exact ⟨ra391, k386, n386, p386, e386, fs386, q386, f386, ks386, tk383, (show tk312 ≤ tk383 by omega), (show Fr tk312 tk383 _ from (Fr.left (show Fr tk376 tk383 _ from (show Fr tk376 tk383 _ from hf387 rfl))).mono (by omega) (by omega)), (show Fr tk312 tk383 _ from (Fr.right (show Fr tk376 tk383 _ from (show Fr tk376 tk383 _ from hf387 rfl))).mono (by omega) (by omega)), hM, Sub.pk [6, 8, 9, 13, 16, 17, 18, 19] rfl⟩
   refine AOpN.alloc hG rfl rfl rfl (ltb rfl) rfl rfl rfl ?_
   obtain ⟨r394, hg395, hM⟩ := bind_t hM
   refine yC 3 (by kernel_rfl) rfl rfl (w_toProof_ok n k2 n2 p2 e2 fs2 q2 f2 ks2 hg395 _ _) (callK_retX (fun v tk396 (hle397 : tk329 ≤ tk396) h398 => ?_))
   obtain ⟨k399, n399, p399, e399, fs399, q399, f399, ks399, rfl, rfl, hf400⟩ := h398
   obtain ⟨r401, hg402, hM⟩ := bind_t hM
   refine yC 5 (by kernel_rfl) rfl rfl (w_toProof_ok n k3 n3 p3 e3 fs3 q3 f3 ks3 hg402 _ _) (callK_retX (fun v tk403 (hle404 : tk396 ≤ tk403) h405 => ?_))
   obtain ⟨k406, n406, p406, e406, fs406, q406, f406, ks406, rfl, rfl, hf407⟩ := h405
   obtain ⟨r408, hg409, hM⟩ := bind_t hM
   refine yC 6 (by kernel_rfl) rfl rfl (i_CutProof_ok n q332 f332 ks332 k399 n399 p399 e399 fs399 q399 f399 ks399 k406 n406 p406 e406 fs406 q406 f406 ks406 hg409 _ _) (callK_retX (fun v tk410 (hle411 : tk403 ≤ tk410) h412 => ?_))
   obtain ⟨ra417, ra418, va419, va420, rfl, rfl, ⟨k413, n413, p413, e413, fs413, q413, f413, ks413, rfl, rfl, hf414⟩, rfl⟩ := h412
   refine yTV 7 (by kernel_rfl) rfl ?_
   refine yT 8 (by kernel_rfl) rfl rfl rfl (ltb rfl) ((extract_step rfl rfl rfl).rd _) ?_
   refine yT 9 (by kernel_rfl) rfl rfl rfl (ltb rfl) ((extract_step rfl rfl rfl).rd _) ?_
   refine yW hG 11 (by kernel_rfl) rfl (by kernel_rfl) rfl ?_
   refine yTW 12 (by kernel_rfl) rfl ?_
   refine AAny.done (by kernel_rfl) ?_
   exact ⟨ra418, k413, n413, p413, e413, fs413, q413, f413, ks413, tk410, (show tk312 ≤ tk410 by omega), (show Fr tk312 tk410 _ from (Fr.left (show Fr tk403 tk410 _ from (show Fr tk403 tk410 _ from hf414 rfl))).mono (by omega) (by omega)), (show Fr tk312 tk410 _ from (Fr.right (show Fr tk403 tk410 _ from (show Fr tk403 tk410 _ from hf414 rfl))).mono (by omega) (by omega)), hM, Sub.pk [6, 8, 9, 13, 16, 17, 18, 19] rfl⟩
  refine AOpN.alloc hG rfl rfl rfl (ltb rfl) rfl rfl rfl ?_
  obtain ⟨r421, hg422, hM⟩ := bind_t hM
  refine yC 1 (by kernel_rfl) rfl rfl (w_toFormS_ok n q1 f1 ks1 hg422 _ _) (callK_retX (fun v tk423 (hle424 : tk312 ≤ tk423) h425 => ?_))
  obtain ⟨q426, f426, ks426, rfl, rfl, hf427⟩ := h425
  obtain ⟨r428, hg429, hM⟩ := bind_t hM
  refine yC 3 (by kernel_rfl) rfl rfl (w_toProof_ok n k2 n2 p2 e2 fs2 q2 f2 ks2 hg429 _ _) (callK_retX (fun v tk430 (hle431 : tk423 ≤ tk430) h432 => ?_))
  obtain ⟨k433, n433, p433, e433, fs433, q433, f433, ks433, rfl, rfl, hf434⟩ := h432
  obtain ⟨r435, hg436, hM⟩ := bind_t hM
  refine yC 5 (by kernel_rfl) rfl rfl (w_toProof_ok n k3 n3 p3 e3 fs3 q3 f3 ks3 hg436 _ _) (callK_retX (fun v tk437 (hle438 : tk430 ≤ tk437) h439 => ?_))
  obtain ⟨k440, n440, p440, e440, fs440, q440, f440, ks440, rfl, rfl, hf441⟩ := h439
  obtain ⟨r442, hg443, hM⟩ := bind_t hM
  refine yC 6 (by kernel_rfl) rfl rfl (i_CutProof_ok n q426 f426 ks426 k433 n433 p433 e433 fs433 q433 f433 ks433 k440 n440 p440 e440 fs440 q440 f440 ks440 hg443 _ _) (callK_retX (fun v tk444 (hle445 : tk437 ≤ tk444) h446 => ?_))
  obtain ⟨ra451, ra452, va453, va454, rfl, rfl, ⟨k447, n447, p447, e447, fs447, q447, f447, ks447, rfl, rfl, hf448⟩, rfl⟩ := h446
  refine yTV 7 (by kernel_rfl) rfl ?_
  refine yT 8 (by kernel_rfl) rfl rfl rfl (ltb rfl) ((extract_step rfl rfl rfl).rd _) ?_
  refine yT 9 (by kernel_rfl) rfl rfl rfl (ltb rfl) ((extract_step rfl rfl rfl).rd _) ?_
  refine yW hG 11 (by kernel_rfl) rfl (by kernel_rfl) rfl ?_
  refine yTW 12 (by kernel_rfl) rfl ?_
  refine AAny.done (by kernel_rfl) ?_
  exact ⟨ra452, k447, n447, p447, e447, fs447, q447, f447, ks447, tk444, (show tk312 ≤ tk444 by omega), (show Fr tk312 tk444 _ from (Fr.left (show Fr tk437 tk444 _ from (show Fr tk437 tk444 _ from hf448 rfl))).mono (by omega) (by omega)), (show Fr tk312 tk444 _ from (Fr.right (show Fr tk437 tk444 _ from (show Fr tk437 tk444 _ from hf448 rfl))).mono (by omega) (by omega)), hM, Sub.pk [6, 8, 9, 13, 16, 17, 18, 19] rfl⟩
 clear hM
 rintro σ' ⟨i320, i321, i322, q323, f323, ks323, q324, f324, ks324, tkj319, hle473, hfr325, hfr326, hM, hsub⟩
 rw [hj474] at hM
 clear hj474
 refine run_sub_code hsub ?_
 refine run_seq ?_
 refine run_sr ?_
 refine yD hG rfl ?_
 refine yD hG rfl ?_
 obtain ⟨r455, hg456, hM⟩ := bind_t hM
 refine yK rfl (w_eqProof_ok n i321 i322 q323 f323 ks323 q324 f324 ks324 i30 i31 q32 f32 ks32 q33 f33 ks33 hg456 _ _) (callK_retX (fun v tk457 (hle458 : tkj319 ≤ tk457) h459 => ?_))
 subst h459
 refine run_pu rfl (aun_step rfl rfl rfl) rfl (ltb rfl) ?_
 refine yL rfl ?_
 refine run_splitb (i := 129) rfl (fun hb462 => ?_) (fun hb462 => ?_)
 ·replace hM := ite_t hb462 hM
  refine yO rfl ?_
  refine yO rfl ?_
  refine yO rfl ?_
  refine yP rfl ?_
  refine yN ?_
  refine run_if rfl rfl (fun _ => ?_) (fun h => by cases h)
  refine run_sr ?_
  refine yR rfl ?_
  refine yN ?_
  refine run_ret_to ?_
  replace hM := some_t hM
  subst hM
  refine fin_x hG rfl rfl rfl (v' := .bool false) (by rfl) ⟨rfl, (show tk ≤ tk457 by omega), _, rfl, rfl⟩
 replace hM := ite_f hb462 hM
 refine run_puG (on_of rfl rfl rfl rfl) (move_step (.inl rfl) rfl) rfl (ltb rfl) ?_
 refine run_puG (on_of rfl rfl rfl rfl) (move_step (.inl rfl) rfl) rfl (ltb rfl) ?_
 refine run_puG (on_of rfl rfl rfl rfl) (abin_step rfl rfl rfl rfl (fun _ h => by cases h)) rfl (ltb rfl) ?_
 refine yP rfl ?_
 refine yN ?_
 refine run_ifb rfl rfl (fun hb463 => ?_) (fun hb463 => ?_)
 ·replace hM := ite_t hb463 hM
  refine run_sr ?_
  refine yR rfl ?_
  refine yN ?_
  refine run_ret_to ?_
  replace hM := some_t hM
  subst hM
  refine fin_x hG rfl rfl rfl (v' := .bool false) (by rfl) ⟨rfl, (show tk ≤ tk457 by omega), _, rfl, rfl⟩
 replace hM := ite_f hb463 hM
 refine run_skip ?_
 refine run_sr ?_
 refine yR rfl ?_
 refine yN ?_
 refine run_sr ?_
 refine yD hG rfl ?_
 refine yL rfl ?_
 obtain ⟨r464, hg465, hM⟩ := bind_t hM
 refine yK rfl (w_heldProof_ok n k190 n190 p190 e190 fs306 q190 f190 ks301 1 hg465 _ _) (callK_retX (fun v tk466 (hle467 : tk457 ≤ tk466) h468 => ?_))
 subst h468
 refine yR rfl ?_
 refine yN ?_
 refine run_sub_code (σ' := ⟨[(6, .bool false), (16, .int .i64 k302), (17, .int .i64 r464)], [], [], O, tk466⟩) (Sub.trans (Sub.drop (k := 18) rfl) (Sub.trans (Sub.drop (k := 13) rfl) (Sub.trans (Sub.drop (k := 8) rfl) (Sub.trans (Sub.drop (k := 5) rfl) (Sub.trans (Sub.drop (k := 4) rfl) (Sub.env _ ⟨rfl, rfl, rfl, trivial⟩)))))) ?_
 refine run_seq ?_
 refine run_sr ?_
 refine yL rfl ?_
 refine yB rfl ?_
 refine yN ?_
 refine run_ifd rfl rfl (fun hb471 => ?_) (fun hb471 => ?_)
 ·replace hM := ite_t hb471 hM
  refine run_sr ?_
  refine yR rfl ?_
  refine yN ?_
  refine run_ret_to ?_
  replace hM := some_t hM
  subst hM
  refine fin_x hG rfl rfl rfl (v' := .bool false) (by rfl) ⟨rfl, (show tk ≤ tk466 by omega), _, rfl, rfl⟩
 replace hM := ite_f hb471 hM
 refine run_skip ?_
 refine run_seq ?_
 refine run_sr ?_
 refine yL rfl ?_
 refine yL rfl ?_
 refine yB rfl ?_
 refine yN ?_
 refine run_ifb rfl rfl (fun hb472 => ?_) (fun hb472 => ?_)
 ·replace hM := ite_t hb472 hM
  refine run_sr ?_
  refine yR rfl ?_
  refine yN ?_
  refine run_ret_to ?_
  replace hM := some_t hM
  subst hM
  refine fin_x hG rfl rfl rfl (v' := .bool false) (by rfl) ⟨rfl, (show tk ≤ tk466 by omega), _, rfl, rfl⟩
 replace hM := ite_f hb472 hM
 refine run_skip ?_
 refine run_sr ?_
 refine yR rfl ?_
 refine yN ?_
 refine run_ret_to ?_
 replace hM := some_t hM
 subst hM
 refine fin_x hG rfl rfl rfl (v' := .bool true) (by rfl) ⟨rfl, (show tk ≤ tk466 by omega), _, rfl, rfl⟩

end Go.Am.Ytpkeophkdemcpaa
