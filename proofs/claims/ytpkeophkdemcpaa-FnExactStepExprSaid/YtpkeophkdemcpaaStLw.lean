/- Printed by a program of ours: Lean functions that do what the Go functions do, and the contracts. -/
import Derived.Test.YtpkeophkdemcpaaTypes
import Derived.Test.YtpkeophkdemcpaaMsExpr
import Derived.Test.YtpkeophkdemcpaaStEx
import Derived.Test.YtpkeophkdemcpaaMlExpr
import Derived.Test.YtpkeophkdemcpaaMz
-- packed
namespace Go.Am.Ytpkeophkdemcpaa
open Go Go.Am

def w_heldTypeS_L1 (rec_w_heldTypeS : List F → Int → Option Int) (l1 : List F) : Nat → Int → Int → Option Int
 | 0, _, _ => none
 | m + 1, i3, i4 =>
  if i4 < ((l1).length : Int) then
   (idx l1 i4).bind fun y6 =>
   if (y6.kind != i3) = true then
    some (-1)
   else
    (idx l1 i4).bind fun y12 =>
    if (y12.n != (IntKind.i64.wrap (i3 + 1))) = true then
     some (-1)
    else
     (idx l1 i4).bind fun y18 =>
     (rec_w_heldTypeS y18.kids (IntKind.i64.wrap ((IntKind.i64.wrap (i3 + 1)) + 1))).bind fun r23 =>
     if r23 < 0 then
      some (-1)
     else
      w_heldTypeS_L1 rec_w_heldTypeS l1 m r23 (IntKind.i64.wrap (i4 + 1))
  else
   some i3

def w_heldTypeS : Nat → List F → Int → Option Int
 | 0, _, _ => none
 | n + 1, l1, i2 =>
  w_heldTypeS_L1 (w_heldTypeS n) l1 n i2 0

set_option maxRecDepth 100000 in
theorem w_heldTypeS_st (n : Nat) (ih_w_heldTypeS : ∀ (q1 : Nat) (f1 : Bool) (ks1 : List LF) (i2 : Int) {r : Int}, w_heldTypeS n (fers ks1) i2 = some r → ∀ (O : Heap) (tk : Nat), ACalls Go.Proofs.Try.prog 88 [.imm q1 3 f1 (fcellss ks1), .int .i64 i2] O tk (RetX O tk (fun v tk' => v = .int .i64 r))) : ∀ (q1 : Nat) (f1 : Bool) (ks1 : List LF) (i2 : Int) {r : Int}, w_heldTypeS (n + 1) (fers ks1) i2 = some r → ∀ (O : Heap) (tk : Nat), ACalls Go.Proofs.Try.prog 88 [.imm q1 3 f1 (fcellss ks1), .int .i64 i2] O tk (RetX O tk (fun v tk' => v = .int .i64 r)) := by
 intro q1 f1 ks1 i2 r hM O tk
 rw [w_heldTypeS] at hM
 refine acalls_of_run Go.Proofs.Try.func88 rfl rfl [] [] (Bor.nil _) [(0, .imm q1 3 f1 (fcellss ks1)), (1, .int .i64 i2)] (.cons (entS rfl) (.cons (entS rfl) (.nil _))) (leb rfl) (fun _ h => by cases h) (fun S0 hO htk hfz => ?_)
 refine run_sr ?_
 refine yR rfl ?_
 refine run_ops_nil ?_
 refine run_seq ?_
 refine run_sr ?_
 refine yR rfl ?_
 refine run_ops_nil ?_
 refine run_block ?_
 refine run_rounds (fun m σ => ∃ (i3 : Int) (i4 : Int) (tkw_heldTypeS_L1 : Nat), tk ≤ tkw_heldTypeS_L1 ∧ w_heldTypeS_L1 (w_heldTypeS n) (fers ks1) m i3 i4 = some r ∧ σ = ⟨[(0, .imm q1 3 f1 (fcellss ks1)), (1, .int .i64 i3), (4, .int .i64 0), (5, .int .i64 i4)], [], [], O, tkw_heldTypeS_L1⟩) n (Sub.pk [0, 1, 4, 5] rfl) ⟨i2, 0, tk, Nat.le_refl _, hM, rfl⟩ (fun m σ hI => ?_)
 clear hM
 obtain ⟨i3, i4, tkw_heldTypeS_L1, hle31, hM, rfl⟩ := hI
 obtain _ | m := m
 ·exact absurd hM (by rw [w_heldTypeS_L1]; exact fun h => by cases h)
 rw [w_heldTypeS_L1] at hM
 refine run_seq ?_
 refine run_sr ?_
 refine yL rfl ?_
 refine yL rfl ?_
 refine run_pu rfl (lenImm_step hG rfl rfl rfl rfl (flen _)) rfl (ltb rfl) ?_
 refine yB rfl ?_
 refine run_ops_nil ?_
 refine run_ifd rfl rfl (fun hb5 => ?_) (fun hb5 => ?_)
 ·replace hM := ite_t hb5 hM
  refine run_skip ?_
  refine run_seq ?_
  refine run_block ?_
  refine run_seq ?_
  refine run_sr ?_
  refine yL rfl ?_
  refine yL rfl ?_
  obtain ⟨y6, hy7, hM⟩ := bind_t hM
  obtain ⟨k8, n8, q8, f8, ks8, rfl, hc9, hi10⟩ := fidx (ks := ks1) hy7
  refine run_pu rfl (indexImm_step hG rfl rfl rfl hi10 rfl rfl rfl rfl hc9) rfl (ltb rfl) ?_
  refine yF hG rfl ?_
  refine yD hG rfl ?_
  refine yL rfl ?_
  refine yB rfl ?_
  refine run_ops_nil ?_
  refine run_ifb rfl rfl (fun hb11 => ?_) (fun hb11 => ?_)
  ·replace hM := ite_t hb11 hM
   refine run_sr ?_
   refine yR rfl ?_
   refine run_ops_nil ?_
   refine run_ret_to ?_
   replace hM := some_t hM
   subst hM
   refine fin_x hG rfl rfl rfl (v' := .int .i64 (-1)) (by rfl) ⟨rfl, (show tk ≤ tkw_heldTypeS_L1 by omega), _, rfl, rfl⟩
  replace hM := ite_f hb11 hM
  refine run_skip ?_
  refine run_sr ?_
  refine yL rfl ?_
  refine yB rfl ?_
  refine yR rfl ?_
  refine run_ops_nil ?_
  refine run_sub_code (σ' := ⟨[(0, .imm q1 3 f1 (fcellss ks1)), (1, .int .i64 (IntKind.i64.wrap (i3 + 1))), (4, .int .i64 0), (5, .int .i64 i4)], [], [], O, tkw_heldTypeS_L1⟩) (Sub.env _ ⟨rfl, rfl, rfl, rfl, trivial⟩) ?_
  refine run_seq ?_
  refine run_sr ?_
  refine yL rfl ?_
  refine yL rfl ?_
  obtain ⟨y12, hy13, hM⟩ := bind_t hM
  obtain ⟨k14, n14, q14, f14, ks14, rfl, hc15, hi16⟩ := fidx (ks := ks1) hy13
  refine run_pu rfl (indexImm_step hG rfl rfl rfl hi16 rfl rfl rfl rfl hc15) rfl (ltb rfl) ?_
  refine yF hG rfl ?_
  refine yD hG rfl ?_
  refine yL rfl ?_
  refine yB rfl ?_
  refine run_ops_nil ?_
  refine run_ifb rfl rfl (fun hb17 => ?_) (fun hb17 => ?_)
  ·replace hM := ite_t hb17 hM
   refine run_sr ?_
   refine yR rfl ?_
   refine run_ops_nil ?_
   refine run_ret_to ?_
   replace hM := some_t hM
   subst hM
   refine fin_x hG rfl rfl rfl (v' := .int .i64 (-1)) (by rfl) ⟨rfl, (show tk ≤ tkw_heldTypeS_L1 by omega), _, rfl, rfl⟩
  replace hM := ite_f hb17 hM
  refine run_skip ?_
  refine run_sr ?_
  refine yL rfl ?_
  refine yB rfl ?_
  refine yR rfl ?_
  refine run_ops_nil ?_
  refine run_sr ?_
  refine yL rfl ?_
  refine yL rfl ?_
  obtain ⟨y18, hy19, hM⟩ := bind_t hM
  obtain ⟨k20, n20, q20, f20, ks20, rfl, hc21, hi22⟩ := fidx (ks := ks1) hy19
  refine run_pu rfl (indexImm_step hG rfl rfl rfl hi22 rfl rfl rfl rfl hc21) rfl (ltb rfl) ?_
  refine yF hG rfl ?_
  refine yD hG rfl ?_
  refine yL rfl ?_
  obtain ⟨r23, hg24, hM⟩ := bind_t hM
  refine yK rfl (ih_w_heldTypeS q20 f20 ks20 (IntKind.i64.wrap ((IntKind.i64.wrap (i3 + 1)) + 1)) hg24 _ _) (callK_retX (fun v tk25 (hle26 : tkw_heldTypeS_L1 ≤ tk25) h27 => ?_))
  subst h27
  refine yR rfl ?_
  refine run_ops_nil ?_
  refine run_sub_code (σ' := ⟨[(0, .imm q1 3 f1 (fcellss ks1)), (1, .int .i64 r23), (4, .int .i64 0), (5, .int .i64 i4)], [], [], O, tk25⟩) (Sub.env _ ⟨rfl, rfl, rfl, rfl, trivial⟩) ?_
  refine run_sr ?_
  refine yL rfl ?_
  refine yB rfl ?_
  refine run_ops_nil ?_
  refine run_ifd rfl rfl (fun hb30 => ?_) (fun hb30 => ?_)
  ·replace hM := ite_t hb30 hM
   refine run_sr ?_
   refine yR rfl ?_
   refine run_ops_nil ?_
   refine run_ret_to ?_
   replace hM := some_t hM
   subst hM
   refine fin_x hG rfl rfl rfl (v' := .int .i64 (-1)) (by rfl) ⟨rfl, (show tk ≤ tk25 by omega), _, rfl, rfl⟩
  replace hM := ite_f hb30 hM
  refine run_skip ?_
  refine run_blk ?_
  refine run_region ?_
  refine yL rfl ?_
  refine yB rfl ?_
  refine yR rfl ?_
  refine run_ops_nil ?_
  exact run_loop_end ⟨m, _, Nat.lt_succ_self _, ⟨r23, (IntKind.i64.wrap (i4 + 1)), tk25, (show tk ≤ tk25 by omega), hM, rfl⟩, Sub.pk [0, 1, 4, 5] rfl⟩
 replace hM := ite_f hb5 hM
 refine run_exit_to rfl ?_
 refine run_sr ?_
 refine yL rfl ?_
 refine yR rfl ?_
 refine run_ops_nil ?_
 refine run_ret_to ?_
 replace hM := some_t hM
 subst hM
 refine fin_x hG rfl rfl rfl (v' := .int .i64 i3) (by rfl) ⟨rfl, (show tk ≤ tkw_heldTypeS_L1 by omega), _, rfl, rfl⟩

theorem w_heldTypeS_all : ∀ (n : Nat), (∀ (q1 : Nat) (f1 : Bool) (ks1 : List LF) (i2 : Int) {r : Int}, w_heldTypeS n (fers ks1) i2 = some r → ∀ (O : Heap) (tk : Nat), ACalls Go.Proofs.Try.prog 88 [.imm q1 3 f1 (fcellss ks1), .int .i64 i2] O tk (RetX O tk (fun v tk' => v = .int .i64 r)))
 | 0 => by intro q1 f1 ks1 i2 r hM; rw [w_heldTypeS] at hM; cases hM
 | n + 1 => have ih := w_heldTypeS_all n; w_heldTypeS_st n (ih)

theorem w_heldTypeS_ok (n : Nat) : ∀ (q1 : Nat) (f1 : Bool) (ks1 : List LF) (i2 : Int) {r : Int}, w_heldTypeS n (fers ks1) i2 = some r → ∀ (O : Heap) (tk : Nat), ACalls Go.Proofs.Try.prog 88 [.imm q1 3 f1 (fcellss ks1), .int .i64 i2] O tk (RetX O tk (fun v tk' => v = .int .i64 r)) := w_heldTypeS_all n

def w_heldExprS_L1 (rec_w_heldExprS : List Pf → Int → Option Int) (n : Nat) (l1 : List Pf) : Nat → Int → Int → Option Int
 | 0, _, _ => none
 | m + 1, i3, i4 =>
  if i4 < ((l1).length : Int) then
   (idx l1 i4).bind fun y6 =>
   if (y6.kind != i3) = true then
    some (-1)
   else
    (idx l1 i4).bind fun y12 =>
    if (y12.n != (IntKind.i64.wrap (i3 + 1))) = true then
     some (-1)
    else
     (idx l1 i4).bind fun y18 =>
     (w_heldTypeS n y18.forms (IntKind.i64.wrap ((IntKind.i64.wrap (i3 + 1)) + 1))).bind fun r23 =>
     if r23 < 0 then
      some (-1)
     else
      (idx l1 i4).bind fun y31 =>
      (rec_w_heldExprS y31.kids r23).bind fun r36 =>
      if r36 < 0 then
       some (-1)
      else
       w_heldExprS_L1 rec_w_heldExprS n l1 m r36 (IntKind.i64.wrap (i4 + 1))
  else
   some i3

def w_heldExprS : Nat → List Pf → Int → Option Int
 | 0, _, _ => none
 | n + 1, l1, i2 =>
  w_heldExprS_L1 (w_heldExprS n) n l1 n i2 0

set_option maxHeartbeats 20000000 in
set_option maxRecDepth 100000 in
theorem w_heldExprS_st (n : Nat) (ih_w_heldExprS : ∀ (q1 : Nat) (f1 : Bool) (ks1 : List LP) (i2 : Int) {r : Int}, w_heldExprS n (pers ks1) i2 = some r → ∀ (O : Heap) (tk : Nat), ACalls Go.Proofs.Try.prog 89 [.imm q1 4 f1 (pcellss ks1), .int .i64 i2] O tk (RetX O tk (fun v tk' => v = .int .i64 r))) : ∀ (q1 : Nat) (f1 : Bool) (ks1 : List LP) (i2 : Int) {r : Int}, w_heldExprS (n + 1) (pers ks1) i2 = some r → ∀ (O : Heap) (tk : Nat), ACalls Go.Proofs.Try.prog 89 [.imm q1 4 f1 (pcellss ks1), .int .i64 i2] O tk (RetX O tk (fun v tk' => v = .int .i64 r)) := by
 intro q1 f1 ks1 i2 r hM O tk
 rw [w_heldExprS] at hM
 refine acalls_of_run Go.Proofs.Try.func89 rfl rfl [] [] (Bor.nil _) [(0, .imm q1 4 f1 (pcellss ks1)), (1, .int .i64 i2)] (.cons (entS rfl) (.cons (entS rfl) (.nil _))) (leb rfl) (fun _ h => by cases h) (fun S0 hO htk hfz => ?_)
 refine run_sr ?_
 refine yR rfl ?_
 refine run_ops_nil ?_
 refine run_seq ?_
 refine run_sr ?_
 refine yR rfl ?_
 refine run_ops_nil ?_
 refine run_block ?_
 refine run_rounds (fun m σ => ∃ (i3 : Int) (i4 : Int) (tkw_heldExprS_L1 : Nat), tk ≤ tkw_heldExprS_L1 ∧ w_heldExprS_L1 (w_heldExprS n) n (pers ks1) m i3 i4 = some r ∧ σ = ⟨[(0, .imm q1 4 f1 (pcellss ks1)), (1, .int .i64 i3), (4, .int .i64 0), (5, .int .i64 i4)], [], [], O, tkw_heldExprS_L1⟩) n (Sub.pk [0, 1, 4, 5] rfl) ⟨i2, 0, tk, Nat.le_refl _, hM, rfl⟩ (fun m σ hI => ?_)
 clear hM
 obtain ⟨i3, i4, tkw_heldExprS_L1, hle44, hM, rfl⟩ := hI
 obtain _ | m := m
 ·exact absurd hM (by rw [w_heldExprS_L1]; exact fun h => by cases h)
 rw [w_heldExprS_L1] at hM
 refine run_seq ?_
 refine run_sr ?_
 refine yL rfl ?_
 refine yL rfl ?_
 refine run_pu rfl (lenImm_step hG rfl rfl rfl rfl (plen _)) rfl (ltb rfl) ?_
 refine yB rfl ?_
 refine run_ops_nil ?_
 refine run_ifd rfl rfl (fun hb5 => ?_) (fun hb5 => ?_)
 ·replace hM := ite_t hb5 hM
  refine run_skip ?_
  refine run_seq ?_
  refine run_block ?_
  refine run_seq ?_
  refine run_sr ?_
  refine yL rfl ?_
  refine yL rfl ?_
  obtain ⟨y6, hy7, hM⟩ := bind_t hM
  obtain ⟨k8, n8, p8, e8, fs8, q8, f8, ks8, rfl, hc9, hi10⟩ := pidx (ks := ks1) hy7
  refine run_pu rfl (indexImm_step hG rfl rfl rfl hi10 rfl rfl rfl rfl hc9) rfl (ltb rfl) ?_
  refine yF hG rfl ?_
  refine yD hG rfl ?_
  refine yL rfl ?_
  refine yB rfl ?_
  refine run_ops_nil ?_
  refine run_ifb rfl rfl (fun hb11 => ?_) (fun hb11 => ?_)
  ·replace hM := ite_t hb11 hM
   refine run_sr ?_
   refine yR rfl ?_
   refine run_ops_nil ?_
   refine run_ret_to ?_
   replace hM := some_t hM
   subst hM
   refine fin_x hG rfl rfl rfl (v' := .int .i64 (-1)) (by rfl) ⟨rfl, (show tk ≤ tkw_heldExprS_L1 by omega), _, rfl, rfl⟩
  replace hM := ite_f hb11 hM
  refine run_skip ?_
  refine run_sr ?_
  refine yL rfl ?_
  refine yB rfl ?_
  refine yR rfl ?_
  refine run_ops_nil ?_
  refine run_sub_code (σ' := ⟨[(0, .imm q1 4 f1 (pcellss ks1)), (1, .int .i64 (IntKind.i64.wrap (i3 + 1))), (4, .int .i64 0), (5, .int .i64 i4)], [], [], O, tkw_heldExprS_L1⟩) (Sub.env _ ⟨rfl, rfl, rfl, rfl, trivial⟩) ?_
  refine run_seq ?_
  refine run_sr ?_
  refine yL rfl ?_
  refine yL rfl ?_
  obtain ⟨y12, hy13, hM⟩ := bind_t hM
  obtain ⟨k14, n14, p14, e14, fs14, q14, f14, ks14, rfl, hc15, hi16⟩ := pidx (ks := ks1) hy13
  refine run_pu rfl (indexImm_step hG rfl rfl rfl hi16 rfl rfl rfl rfl hc15) rfl (ltb rfl) ?_
  refine yF hG rfl ?_
  refine yD hG rfl ?_
  refine yL rfl ?_
  refine yB rfl ?_
  refine run_ops_nil ?_
  refine run_ifb rfl rfl (fun hb17 => ?_) (fun hb17 => ?_)
  ·replace hM := ite_t hb17 hM
   refine run_sr ?_
   refine yR rfl ?_
   refine run_ops_nil ?_
   refine run_ret_to ?_
   replace hM := some_t hM
   subst hM
   refine fin_x hG rfl rfl rfl (v' := .int .i64 (-1)) (by rfl) ⟨rfl, (show tk ≤ tkw_heldExprS_L1 by omega), _, rfl, rfl⟩
  replace hM := ite_f hb17 hM
  refine run_skip ?_
  refine run_sr ?_
  refine yL rfl ?_
  refine yB rfl ?_
  refine yR rfl ?_
  refine run_ops_nil ?_
  refine run_sr ?_
  refine yL rfl ?_
  refine yL rfl ?_
  obtain ⟨y18, hy19, hM⟩ := bind_t hM
  obtain ⟨k20, n20, p20, e20, fs20, q20, f20, ks20, rfl, hc21, hi22⟩ := pidx (ks := ks1) hy19
  refine run_pu rfl (indexImm_step hG rfl rfl rfl hi22 rfl rfl rfl rfl hc21) rfl (ltb rfl) ?_
  refine yF hG rfl ?_
  refine yD hG rfl ?_
  refine yL rfl ?_
  obtain ⟨r23, hg24, hM⟩ := bind_t hM
  refine yK rfl (w_heldTypeS_ok n p20 e20 fs20 (IntKind.i64.wrap ((IntKind.i64.wrap (i3 + 1)) + 1)) hg24 _ _) (callK_retX (fun v tk25 (hle26 : tkw_heldExprS_L1 ≤ tk25) h27 => ?_))
  subst h27
  refine yR rfl ?_
  refine run_ops_nil ?_
  refine run_sub_code (σ' := ⟨[(0, .imm q1 4 f1 (pcellss ks1)), (1, .int .i64 r23), (4, .int .i64 0), (5, .int .i64 i4)], [], [], O, tk25⟩) (Sub.env _ ⟨rfl, rfl, rfl, rfl, trivial⟩) ?_
  refine run_seq ?_
  refine run_sr ?_
  refine yL rfl ?_
  refine yB rfl ?_
  refine run_ops_nil ?_
  refine run_ifd rfl rfl (fun hb30 => ?_) (fun hb30 => ?_)
  ·replace hM := ite_t hb30 hM
   refine run_sr ?_
   refine yR rfl ?_
   refine run_ops_nil ?_
   refine run_ret_to ?_
   replace hM := some_t hM
   subst hM
   refine fin_x hG rfl rfl rfl (v' := .int .i64 (-1)) (by rfl) ⟨rfl, (show tk ≤ tk25 by omega), _, rfl, rfl⟩
  replace hM := ite_f hb30 hM
  refine run_skip ?_
  refine run_sr ?_
  refine yL rfl ?_
  refine yL rfl ?_
  obtain ⟨y31, hy32, hM⟩ := bind_t hM
  obtain ⟨k33, n33, p33, e33, fs33, q33, f33, ks33, rfl, hc34, hi35⟩ := pidx (ks := ks1) hy32
  refine run_pu rfl (indexImm_step hG rfl rfl rfl hi35 rfl rfl rfl rfl hc34) rfl (ltb rfl) ?_
  refine yF hG rfl ?_
  refine yD hG rfl ?_
  refine yL rfl ?_
  obtain ⟨r36, hg37, hM⟩ := bind_t hM
  refine yK rfl (ih_w_heldExprS q33 f33 ks33 r23 hg37 _ _) (callK_retX (fun v tk38 (hle39 : tk25 ≤ tk38) h40 => ?_))
  subst h40
  refine yR rfl ?_
  refine run_ops_nil ?_
  refine run_sr ?_
  refine yL rfl ?_
  refine yB rfl ?_
  refine run_ops_nil ?_
  refine run_ifd rfl rfl (fun hb43 => ?_) (fun hb43 => ?_)
  ·replace hM := ite_t hb43 hM
   refine run_sr ?_
   refine yR rfl ?_
   refine run_ops_nil ?_
   refine run_ret_to ?_
   replace hM := some_t hM
   subst hM
   refine fin_x hG rfl rfl rfl (v' := .int .i64 (-1)) (by rfl) ⟨rfl, (show tk ≤ tk38 by omega), _, rfl, rfl⟩
  replace hM := ite_f hb43 hM
  refine run_skip ?_
  refine run_blk ?_
  refine run_region ?_
  refine yL rfl ?_
  refine yB rfl ?_
  refine yR rfl ?_
  refine run_ops_nil ?_
  exact run_loop_end ⟨m, _, Nat.lt_succ_self _, ⟨r36, (IntKind.i64.wrap (i4 + 1)), tk38, (show tk ≤ tk38 by omega), hM, rfl⟩, Sub.pk [0, 1, 4, 5] rfl⟩
 replace hM := ite_f hb5 hM
 refine run_exit_to rfl ?_
 refine run_sr ?_
 refine yL rfl ?_
 refine yR rfl ?_
 refine run_ops_nil ?_
 refine run_ret_to ?_
 replace hM := some_t hM
 subst hM
 refine fin_x hG rfl rfl rfl (v' := .int .i64 i3) (by rfl) ⟨rfl, (show tk ≤ tkw_heldExprS_L1 by omega), _, rfl, rfl⟩

theorem w_heldExprS_all : ∀ (n : Nat), (∀ (q1 : Nat) (f1 : Bool) (ks1 : List LP) (i2 : Int) {r : Int}, w_heldExprS n (pers ks1) i2 = some r → ∀ (O : Heap) (tk : Nat), ACalls Go.Proofs.Try.prog 89 [.imm q1 4 f1 (pcellss ks1), .int .i64 i2] O tk (RetX O tk (fun v tk' => v = .int .i64 r)))
 | 0 => by intro q1 f1 ks1 i2 r hM; rw [w_heldExprS] at hM; cases hM
 | n + 1 => have ih := w_heldExprS_all n; w_heldExprS_st n (ih)

theorem w_heldExprS_ok (n : Nat) : ∀ (q1 : Nat) (f1 : Bool) (ks1 : List LP) (i2 : Int) {r : Int}, w_heldExprS n (pers ks1) i2 = some r → ∀ (O : Heap) (tk : Nat), ACalls Go.Proofs.Try.prog 89 [.imm q1 4 f1 (pcellss ks1), .int .i64 i2] O tk (RetX O tk (fun v tk' => v = .int .i64 r)) := w_heldExprS_all n

def w_heldExpr (n : Nat) (x1 : Pf) (i2 : Int) : Option Int :=
 (w_heldTypeS n x1.forms i2).bind fun r3 =>
 if r3 < 0 then
  some (-1)
 else
  (w_heldExprS n x1.kids r3).bind fun r11 =>
  if r11 < 0 then
   some (-1)
  else
   some r11

set_option maxRecDepth 100000 in
theorem w_heldExpr_ok (n : Nat) : ∀ (k1 : Int) (n1 : Int) (p1 : Nat) (e1 : Bool) (fs1 : List LF) (q1 : Nat) (f1 : Bool) (ks1 : List LP) (i2 : Int) {r : Int}, w_heldExpr n (Pf.mk k1 n1 (fers fs1) (pers ks1)) i2 = some r → ∀ (O : Heap) (tk : Nat), ACalls Go.Proofs.Try.prog 29 [.agg [.int .i64 k1, .int .i64 n1, .imm p1 3 e1 (fcellss fs1), .imm q1 4 f1 (pcellss ks1)], .int .i64 i2] O tk (RetX O tk (fun v tk' => v = .int .i64 r)) := by
 intro k1 n1 p1 e1 fs1 q1 f1 ks1 i2 r hM O tk
 unfold w_heldExpr at hM
 refine acalls_of_run Go.Proofs.Try.func29 rfl rfl [] [] (Bor.nil _) [(0, .agg [.int .i64 k1, .int .i64 n1, .imm p1 3 e1 (fcellss fs1), .imm q1 4 f1 (pcellss ks1)]), (1, .int .i64 i2)] (.cons (.agg _) (.cons (entS rfl) (.nil _))) (leb rfl) (fun _ h => by cases h) (fun S0 hO htk hfz => ?_)
 refine run_sr ?_
 refine run_op rfl (box_step (d := 2) rfl rfl rfl rfl rfl) rfl (ltb rfl) ?_
 refine yR rfl ?_
 refine run_ops_nil ?_
 refine run_sr ?_
 refine yF hG rfl ?_
 refine yD hG rfl ?_
 refine yL rfl ?_
 obtain ⟨r3, hg4, hM⟩ := bind_t hM
 refine yK rfl (w_heldTypeS_ok n p1 e1 fs1 i2 hg4 _ _) (callK_retX (fun v tk5 (hle6 : tk ≤ tk5) h7 => ?_))
 subst h7
 refine yR rfl ?_
 refine run_ops_nil ?_
 refine run_seq ?_
 refine run_sr ?_
 refine yL rfl ?_
 refine yB rfl ?_
 refine run_ops_nil ?_
 refine run_ifd rfl rfl (fun hb10 => ?_) (fun hb10 => ?_)
 ·replace hM := ite_t hb10 hM
  refine run_sr ?_
  refine yR rfl ?_
  refine run_ops_nil ?_
  refine run_ret_to ?_
  replace hM := some_t hM
  subst hM
  refine fin_x hG rfl rfl rfl (v' := .int .i64 (-1)) (by rfl) ⟨rfl, (show tk ≤ tk5 by omega), _, rfl, rfl⟩
 replace hM := ite_f hb10 hM
 refine run_skip ?_
 refine run_sr ?_
 refine yF hG rfl ?_
 refine yD hG rfl ?_
 refine yL rfl ?_
 obtain ⟨r11, hg12, hM⟩ := bind_t hM
 refine yK rfl (w_heldExprS_ok n q1 f1 ks1 r3 hg12 _ _) (callK_retX (fun v tk13 (hle14 : tk5 ≤ tk13) h15 => ?_))
 subst h15
 refine yR rfl ?_
 refine run_ops_nil ?_
 refine run_sub_code (σ' := ⟨[(1, .int .i64 r11), (4, .int .i64 0)], [], [], O, tk13⟩) (Sub.trans (Sub.drop (k := 2) rfl) (Sub.env _ ⟨rfl, rfl, trivial⟩)) ?_
 refine run_seq ?_
 refine run_sr ?_
 refine yL rfl ?_
 refine yB rfl ?_
 refine run_ops_nil ?_
 refine run_ifd rfl rfl (fun hb18 => ?_) (fun hb18 => ?_)
 ·replace hM := ite_t hb18 hM
  refine run_sr ?_
  refine yR rfl ?_
  refine run_ops_nil ?_
  refine run_ret_to ?_
  replace hM := some_t hM
  subst hM
  refine fin_x hG rfl rfl rfl (v' := .int .i64 (-1)) (by rfl) ⟨rfl, (show tk ≤ tk13 by omega), _, rfl, rfl⟩
 replace hM := ite_f hb18 hM
 refine run_skip ?_
 refine run_sr ?_
 refine yL rfl ?_
 refine yR rfl ?_
 refine run_ops_nil ?_
 refine run_ret_to ?_
 replace hM := some_t hM
 subst hM
 refine fin_x hG rfl rfl rfl (v' := .int .i64 r11) (by rfl) ⟨rfl, (show tk ≤ tk13 by omega), _, rfl, rfl⟩

def w_FnExactStepExpr (n : Nat) (x1 : Pf) : Option Bool :=
 (w_szExpr n x1 1048576).bind fun r2 =>
 if r2 < 0 then
  some true
 else
  (w_toExpr n x1).bind fun r10 =>
  (s_StepExpr n r10).bind fun r17 =>
  (w_toExpr n x1).bind fun r34 =>
  (i_StepExpr n r34).bind fun r41 =>
  (w_eqExpr n r41.1 r17.1).bind fun r58 =>
  if (!r58) = true then
   some false
  else
   if (!(r41.2.1 == r17.2.1)) = true then
    some false
   else
    if (r41.2.2 != r17.2.2) = true then
     some false
    else
     (w_toExpr n x1).bind fun r68 =>
     (w_eqExpr n r34 r68).bind fun r75 =>
     if (!r75) = true then
      some false
     else
      (w_markExpr r34 1).bind fun r83 =>
      if r83.2 < 0 then
       some false
      else
       (w_eqExpr n r41.1 r17.1).bind fun r97 =>
       if (!r97) = true then
        some false
       else
        if (!(r41.2.1 == r17.2.1)) = true then
         some false
        else
         if (r41.2.2 != r17.2.2) = true then
          some false
         else
          (w_markExpr r41.1 1).bind fun r107 =>
          (w_heldExpr n (Pf.mk r41.1.kind r41.1.n r107.1.1 r107.1.2) 1).bind fun r120 =>
          if r120 < 0 then
           some false
          else
           if (r120 != r107.2) = true then
            some false
           else
            (w_toExpr n x1).bind fun r129 =>
            (i_StepExpr n r129).bind fun r136 =>
            (w_eqExpr n r136.1 r17.1).bind fun r153 =>
            if (!r153) = true then
             some false
            else
             if (!(r136.2.1 == r17.2.1)) = true then
              some false
             else
              if (r136.2.2 != r17.2.2) = true then
               some false
              else
               (w_heldExpr n (Pf.mk r41.1.kind r41.1.n r107.1.1 r107.1.2) 1).bind fun r163 =>
               if r163 < 0 then
                some false
               else
                if (r163 != r107.2) = true then
                 some false
                else
                 some true

set_option maxHeartbeats 20000000 in
set_option maxHeartbeats 20000000 in
set_option maxRecDepth 100000 in
theorem w_FnExactStepExpr_ok (n : Nat) : ∀ (k1 : Int) (n1 : Int) (p1 : Nat) (e1 : Bool) (fs1 : List LF) (q1 : Nat) (f1 : Bool) (ks1 : List LP) {r : Bool}, w_FnExactStepExpr n (Pf.mk k1 n1 (fers fs1) (pers ks1)) = some r → (∀ x ∈ fstoks p1 fs1, x = 0) → (∀ x ∈ pstoks q1 ks1, x = 0) → ∀ (O : Heap) (tk : Nat), O = (fun _ => none) → 2 ≤ tk → ACalls Go.Proofs.Try.prog 6 [.agg [.int .i64 k1, .int .i64 n1, .imm p1 3 e1 (fcellss fs1), .imm q1 4 f1 (pcellss ks1)]] O tk (RetX O tk (fun v tk' => v = .bool r)) := by
 intro k1 n1 p1 e1 fs1 q1 f1 ks1 r hM ho0 ho1 O tk hOn h2tk
 unfold w_FnExactStepExpr at hM
 refine acalls_of_run Go.Proofs.Try.func6 rfl rfl [] [] (Bor.nil _) [(0, .agg [.int .i64 k1, .int .i64 n1, .imm p1 3 e1 (fcellss fs1), .imm q1 4 f1 (pcellss ks1)])] (.cons (.agg _) (.nil _)) (leb rfl) (fun _ h => by cases h) (fun S0 hO htk hfz => ?_)
 refine run_sr ?_
 refine run_op rfl (box_step (d := 1) rfl rfl rfl rfl rfl) rfl (ltb rfl) ?_
 refine yR rfl ?_
 refine run_ops_nil ?_
 refine run_sr ?_
 refine yR rfl ?_
 refine run_ops_nil ?_
 refine run_sr ?_
 refine yD hG rfl ?_
 refine yL rfl ?_
 obtain ⟨r2, hg3, hM⟩ := bind_t hM
 refine yK rfl (w_szExpr_ok n k1 n1 p1 e1 fs1 q1 f1 ks1 1048576 hg3 _ _) (callK_retX (fun v tk4 (hle5 : tk ≤ tk4) h6 => ?_))
 subst h6
 refine yR rfl ?_
 refine run_ops_nil ?_
 refine run_seq ?_
 refine run_sr ?_
 refine yL rfl ?_
 refine yB rfl ?_
 refine run_ops_nil ?_
 refine run_ifd rfl rfl (fun hb9 => ?_) (fun hb9 => ?_)
 ·replace hM := ite_t hb9 hM
  refine run_sr ?_
  refine yR rfl ?_
  refine run_ops_nil ?_
  refine run_ret_to ?_
  replace hM := some_t hM
  subst hM
  refine fin_x hG rfl rfl rfl (v' := .bool true) (by rfl) ⟨rfl, (show tk ≤ tk4 by omega), _, rfl, rfl⟩
 replace hM := ite_f hb9 hM
 refine run_skip ?_
 refine run_sr ?_
 refine yD hG rfl ?_
 obtain ⟨r10, hg11, hM⟩ := bind_t hM
 refine yK rfl (w_toExpr_ok n k1 n1 p1 e1 fs1 q1 f1 ks1 hg11 _ _) (callK_retX (fun v tk12 (hle13 : tk4 ≤ tk12) h14 => ?_))
 obtain ⟨k15, n15, p15, e15, fs15, q15, f15, ks15, rfl, rfl, hf16⟩ := h14
 obtain ⟨r17, hg18, hM⟩ := bind_t hM
 refine yK rfl (s_StepExpr_ok n k15 n15 p15 e15 fs15 q15 f15 ks15 hg18 _ _ (show 2 ≤ tk12 by omega) (show Gd tk12 _ from Fr.gd (show Fr tk4 tk12 _ from (show Fr tk4 tk12 _ from hf16 rfl)) (by omega) (by omega))) (callK_retX (fun v tk19 (hle20 : tk12 ≤ tk19) h21 => ?_))
 obtain ⟨ra28, ra29, ra30, va31, va32, va33, rfl, rfl, ⟨k22, n22, p22, e22, fs22, q22, f22, ks22, rfl, rfl, hf23⟩, rfl, rfl⟩ := h21
 refine yL rfl ?_
 refine run_pu rfl (extract_step rfl rfl rfl) rfl (ltb rfl) ?_
 refine run_pu rfl (extract_step rfl rfl rfl) rfl (ltb rfl) ?_
 refine run_pu rfl (extract_step rfl rfl rfl) rfl (ltb rfl) ?_
 refine run_op rfl (alloc_step (d := 4) hG rfl rfl rfl) rfl (ltb rfl) ?_
 refine yS hG rfl ?_
 refine yR rfl ?_
 refine yR rfl ?_
 refine run_ops_nil ?_
 refine run_sub_code (σ' := ⟨[(1, .optr (.loc 1) 0 0), (2, .bool false), (4, .optr (.loc 4) 0 0), (5, .bool ra29), (6, .int .i64 ra30)], [(4, ⟨40, 4, true, [[.int .i64 k22, .int .i64 n22, .imm p22 3 e22 (fcellss fs22), .imm q22 4 f22 (pcellss ks22)]]⟩), (1, ⟨62, 4, true, [[.int .i64 k1, .int .i64 n1, .imm p1 3 e1 (fcellss fs1), .imm q1 4 f1 (pcellss ks1)]]⟩)], [], O, tk19⟩) (Sub.env _ ⟨rfl, rfl, rfl, rfl, rfl, trivial⟩) ?_
 refine run_sr ?_
 refine yD hG rfl ?_
 obtain ⟨r34, hg35, hM⟩ := bind_t hM
 refine yK rfl (w_toExpr_ok n k1 n1 p1 e1 fs1 q1 f1 ks1 hg35 _ _) (callK_retX (fun v tk36 (hle37 : tk19 ≤ tk36) h38 => ?_))
 obtain ⟨k39, n39, p39, e39, fs39, q39, f39, ks39, rfl, rfl, hf40⟩ := h38
 refine run_op rfl (alloc_step (d := 7) hG rfl rfl rfl) rfl (ltb rfl) ?_
 refine yS hG rfl ?_
 refine run_ops_nil ?_
 refine run_sr ?_
 refine yD hG rfl ?_
 obtain ⟨r41, hg42, hM⟩ := bind_t hM
 refine yK rfl (i_StepExpr_ok n k39 n39 p39 e39 fs39 q39 f39 ks39 hg42 _ _ (show 2 ≤ tk36 by omega) (show Gd tk36 _ from Fr.gd (show Fr tk19 tk36 _ from (show Fr tk19 tk36 _ from hf40 rfl)) (by omega) (by omega))) (callK_retX (fun v tk43 (hle44 : tk36 ≤ tk43) h45 => ?_))
 obtain ⟨ra52, ra53, ra54, va55, va56, va57, rfl, rfl, ⟨k46, n46, p46, e46, fs46, q46, f46, ks46, rfl, rfl, hf47⟩, rfl, rfl⟩ := h45
 refine yL rfl ?_
 refine run_pu rfl (extract_step rfl rfl rfl) rfl (ltb rfl) ?_
 refine run_pu rfl (extract_step rfl rfl rfl) rfl (ltb rfl) ?_
 refine run_pu rfl (extract_step rfl rfl rfl) rfl (ltb rfl) ?_
 refine run_op rfl (alloc_step (d := 8) hG rfl rfl rfl) rfl (ltb rfl) ?_
 refine yS hG rfl ?_
 refine yR rfl ?_
 refine yR rfl ?_
 refine run_ops_nil ?_
 refine run_sub_code (σ' := ⟨[(1, .optr (.loc 1) 0 0), (2, .bool false), (4, .optr (.loc 4) 0 0), (5, .bool ra29), (6, .int .i64 ra30), (7, .optr (.loc 7) 0 0), (8, .optr (.loc 8) 0 0), (9, .bool ra53), (10, .int .i64 ra54)], [(8, ⟨40, 4, true, [[.int .i64 k46, .int .i64 n46, .imm p46 3 e46 (fcellss fs46), .imm q46 4 f46 (pcellss ks46)]]⟩), (7, ⟨40, 4, true, [[.int .i64 k39, .int .i64 n39, .imm p39 3 e39 (fcellss fs39), .imm q39 4 f39 (pcellss ks39)]]⟩), (4, ⟨40, 4, true, [[.int .i64 k22, .int .i64 n22, .imm p22 3 e22 (fcellss fs22), .imm q22 4 f22 (pcellss ks22)]]⟩), (1, ⟨62, 4, true, [[.int .i64 k1, .int .i64 n1, .imm p1 3 e1 (fcellss fs1), .imm q1 4 f1 (pcellss ks1)]]⟩)], [], O, tk43⟩) (Sub.env _ ⟨rfl, rfl, rfl, rfl, rfl, rfl, rfl, rfl, rfl, trivial⟩) ?_
 refine run_seq ?_
 refine run_sr ?_
 refine yD hG rfl ?_
 refine yD hG rfl ?_
 obtain ⟨r58, hg59, hM⟩ := bind_t hM
 refine yK rfl (w_eqExpr_ok n k46 n46 p46 e46 fs46 q46 f46 ks46 k22 n22 p22 e22 fs22 q22 f22 ks22 hg59 _ _) (callK_retX (fun v tk60 (hle61 : tk43 ≤ tk60) h62 => ?_))
 subst h62
 refine run_pu rfl (aun_step rfl rfl rfl) rfl (ltb rfl) ?_
 refine yL rfl ?_
 refine run_splitb (i := 41) rfl (fun hb65 => ?_) (fun hb65 => ?_)
 ·replace hM := ite_t hb65 hM
  refine yO rfl ?_
  refine yO rfl ?_
  refine yO rfl ?_
  refine yP rfl ?_
  refine yL rfl ?_
  refine yO rfl ?_
  refine yO rfl ?_
  refine yO rfl ?_
  refine yP rfl ?_
  refine run_ops_nil ?_
  refine run_if rfl rfl (fun _ => ?_) (fun h => by cases h)
  refine run_sr ?_
  refine yR rfl ?_
  refine run_ops_nil ?_
  refine run_ret_to ?_
  replace hM := some_t hM
  subst hM
  refine fin_x hG rfl rfl rfl (v' := .bool false) (by rfl) ⟨rfl, (show tk ≤ tk60 by omega), _, rfl, rfl⟩
 replace hM := ite_f hb65 hM
 refine run_puG (on_of rfl rfl rfl rfl) (move_step (.inl rfl) rfl) rfl (ltb rfl) ?_
 refine run_puG (on_of rfl rfl rfl rfl) (move_step (.inl rfl) rfl) rfl (ltb rfl) ?_
 refine run_puG (on_of rfl rfl rfl rfl) (bool_step hG rfl rfl rfl rfl rfl rfl) rfl (ltb rfl) ?_
 refine yP rfl ?_
 refine yL rfl ?_
 refine run_splitb (i := 46) rfl (fun hb66 => ?_) (fun hb66 => ?_)
 ·replace hM := ite_t hb66 hM
  refine yO rfl ?_
  refine yO rfl ?_
  refine yO rfl ?_
  refine yP rfl ?_
  refine run_ops_nil ?_
  refine run_if rfl rfl (fun _ => ?_) (fun h => by cases h)
  refine run_sr ?_
  refine yR rfl ?_
  refine run_ops_nil ?_
  refine run_ret_to ?_
  replace hM := some_t hM
  subst hM
  refine fin_x hG rfl rfl rfl (v' := .bool false) (by rfl) ⟨rfl, (show tk ≤ tk60 by omega), _, rfl, rfl⟩
 replace hM := ite_f hb66 hM
 refine run_puG (on_of rfl rfl rfl rfl) (move_step (.inl rfl) rfl) rfl (ltb rfl) ?_
 refine run_puG (on_of rfl rfl rfl rfl) (move_step (.inl rfl) rfl) rfl (ltb rfl) ?_
 refine run_puG (on_of rfl rfl rfl rfl) (abin_step rfl rfl rfl rfl (fun _ h => by cases h)) rfl (ltb rfl) ?_
 refine yP rfl ?_
 refine run_ops_nil ?_
 refine run_sub_code (σ' := ⟨[(1, .optr (.loc 1) 0 0), (2, .bool false), (4, .optr (.loc 4) 0 0), (5, .bool ra29), (6, .int .i64 ra30), (7, .optr (.loc 7) 0 0), (8, .optr (.loc 8) 0 0), (9, .bool ra53), (10, .int .i64 ra54), (50, .bool (ra54 != ra30))], [(8, ⟨40, 4, true, [[.int .i64 k46, .int .i64 n46, .imm p46 3 e46 (fcellss fs46), .imm q46 4 f46 (pcellss ks46)]]⟩), (7, ⟨40, 4, true, [[.int .i64 k39, .int .i64 n39, .imm p39 3 e39 (fcellss fs39), .imm q39 4 f39 (pcellss ks39)]]⟩), (4, ⟨40, 4, true, [[.int .i64 k22, .int .i64 n22, .imm p22 3 e22 (fcellss fs22), .imm q22 4 f22 (pcellss ks22)]]⟩), (1, ⟨62, 4, true, [[.int .i64 k1, .int .i64 n1, .imm p1 3 e1 (fcellss fs1), .imm q1 4 f1 (pcellss ks1)]]⟩)], [], O, tk60⟩) (Sub.env _ ⟨rfl, rfl, rfl, rfl, rfl, rfl, rfl, rfl, rfl, rfl, trivial⟩) ?_
 refine run_ifb rfl rfl (fun hb67 => ?_) (fun hb67 => ?_)
 ·replace hM := ite_t hb67 hM
  refine run_sr ?_
  refine yR rfl ?_
  refine run_ops_nil ?_
  refine run_ret_to ?_
  replace hM := some_t hM
  subst hM
  refine fin_x hG rfl rfl rfl (v' := .bool false) (by rfl) ⟨rfl, (show tk ≤ tk60 by omega), _, rfl, rfl⟩
 replace hM := ite_f hb67 hM
 refine run_skip ?_
 refine run_seq ?_
 refine run_seq ?_
 refine run_draw [] (n := 5) mixed rfl (fun _ h => absurd h List.not_mem_nil) ?_
 refine yTL hG 0 (by kernel_rfl) rfl ?_
 refine yTL hG 1 (by kernel_rfl) rfl ?_
 obtain ⟨r68, hg69, hM⟩ := bind_t hM
 refine yC 2 (by kernel_rfl) rfl rfl (w_toExpr_ok n k1 n1 p1 e1 fs1 q1 f1 ks1 hg69 _ _) (callK_retX (fun v tk70 (hle71 : tk60 ≤ tk70) h72 => ?_))
 obtain ⟨k73, n73, p73, e73, fs73, q73, f73, ks73, rfl, rfl, hf74⟩ := h72
 obtain ⟨r75, hg76, hM⟩ := bind_t hM
 refine yC 3 (by kernel_rfl) rfl rfl (w_eqExpr_ok n k39 n39 p39 e39 fs39 q39 f39 ks39 k73 n73 p73 e73 fs73 q73 f73 ks73 hg76 _ _) (callK_retX (fun v tk77 (hle78 : tk70 ≤ tk77) h79 => ?_))
 subst h79
 refine yT 4 (by kernel_rfl) rfl rfl rfl (ltb rfl) ((aun_step rfl rfl rfl).rd _) ?_
 refine AAny.done (by kernel_rfl) ?_
 refine run_ifb rfl rfl (fun hb82 => ?_) (fun hb82 => ?_)
 ·replace hM := ite_t hb82 hM
  refine run_sr ?_
  refine yR rfl ?_
  refine run_ops_nil ?_
  refine run_ret_to ?_
  replace hM := some_t hM
  subst hM
  refine fin_x hG rfl rfl rfl (v' := .bool false) (by rfl) ⟨rfl, (show tk ≤ tk77 by omega), _, rfl, rfl⟩
 replace hM := ite_f hb82 hM
 refine run_skip ?_
 refine run_sr ?_
 refine yR rfl ?_
 refine run_ops_nil ?_
 refine run_sr ?_
 refine yD hG rfl ?_
 refine yL rfl ?_
 obtain ⟨r83, hg84, hM⟩ := bind_t hM
 refine run_callT rfl rfl rfl (ltb rfl) rfl rfl rfl rfl rfl hOn (fun x hx => by have := ((show Fr tk19 tk36 _ from (show Fr tk19 tk36 _ from hf40 rfl))).2 x hx; show S0.tk ≤ x; omega) (w_markExpr_m k39 n39 p39 e39 fs39 q39 f39 ks39 1 _ (Fr.ge (show Fr tk19 tk36 _ from (show Fr tk19 tk36 _ from hf40 rfl)) (by omega)) ((show Fr tk19 tk36 _ from (show Fr tk19 tk36 _ from hf40 rfl))).1 hg84) (fun out S' hR (hle86 : tk77 ≤ S'.tk) => ?_)
 obtain ⟨fs92, ks87, k88, rfl, rfl, _, hst89, hln90, hst93, hln94, hu91, hu95⟩ := hR
 generalize S'.tk = tk85 at hle86 ⊢
 refine ⟨_, rfl, rfl, GQ p39 e39 fs39 fs92 q39 f39 ks39 ks87, GQ.turned (Fr.ge (show Fr tk19 tk36 _ from (show Fr tk19 tk36 _ from hf40 rfl)) (by omega)) hst89 hln90 hst93 hln94 hu91 hu95, [(1, .optr (.loc 1) 0 0), (2, .bool false), (4, .optr (.loc 4) 0 0), (5, .bool ra29), (6, .int .i64 ra30), (7, .optr (.loc 7) 0 0), (8, .optr (.loc 8) 0 0), (9, .bool ra53), (10, .int .i64 ra54), (50, .bool (ra54 != ra30)), (51, .agg [.int .i64 k39, .int .i64 n39, .imm p39 3 e39 (fcellss fs92), .imm q39 4 f39 (pcellss ks87)]), (52, .agg [.int .i64 k1, .int .i64 n1, .imm p1 3 e1 (fcellss fs1), .imm q1 4 f1 (pcellss ks1)]), (53, .agg [.int .i64 k73, .int .i64 n73, .imm p73 3 e73 (fcellss fs73), .imm q73 4 f73 (pcellss ks73)]), (54, .bool r75), (55, .bool (!r75)), (11, .int .i64 1), (56, .agg [.int .i64 k39, .int .i64 n39, .imm p39 3 e39 (fcellss fs92), .imm q39 4 f39 (pcellss ks87)]), (57, .int .i64 1)], [(8, ⟨40, 4, true, [[.int .i64 k46, .int .i64 n46, .imm p46 3 e46 (fcellss fs46), .imm q46 4 f46 (pcellss ks46)]]⟩), (7, ⟨40, 4, true, [[.int .i64 k39, .int .i64 n39, .imm p39 3 e39 (fcellss fs92), .imm q39 4 f39 (pcellss ks87)]]⟩), (4, ⟨40, 4, true, [[.int .i64 k22, .int .i64 n22, .imm p22 3 e22 (fcellss fs22), .imm q22 4 f22 (pcellss ks22)]]⟩), (1, ⟨62, 4, true, [[.int .i64 k1, .int .i64 n1, .imm p1 3 e1 (fcellss fs1), .imm q1 4 f1 (pcellss ks1)]]⟩)], (.cons _ _ _ _ rfl (.optr _ _ _) (.cons _ _ _ _ rfl (Tn.av (.bool _)) (.cons _ _ _ _ rfl (.optr _ _ _) (.cons _ _ _ _ rfl (Tn.av (.bool _)) (.cons _ _ _ _ rfl (Tn.av (.int _ _)) (.cons _ _ _ _ rfl (.optr _ _ _) (.cons _ _ _ _ rfl (.optr _ _ _) (.cons _ _ _ _ rfl (Tn.av (.bool _)) (.cons _ _ _ _ rfl (Tn.av (.int _ _)) (.cons _ _ _ _ rfl (Tn.av (.bool _)) (.cons _ _ _ _ rfl (TnCs.agg (.cons _ _ _ _ (Tn.av (.int _ _)) (.cons _ _ _ _ (Tn.av (.int _ _)) (.cons _ _ _ _ (GQ.tnf hln90) (.cons _ _ _ _ (GQ.tnp hln94) .nil)))) rfl) (.cons _ _ _ _ rfl (TnCs.agg (.cons _ _ _ _ (Tn.av (.int _ _)) (.cons _ _ _ _ (Tn.av (.int _ _)) (.cons _ _ _ _ (Tn.av (fs_av (old_av ho0))) (.cons _ _ _ _ (Tn.av (ps_av (old_av ho1))) .nil)))) rfl) (.cons _ _ _ _ rfl (TnCs.agg (.cons _ _ _ _ (Tn.av (.int _ _)) (.cons _ _ _ _ (Tn.av (.int _ _)) (.cons _ _ _ _ (Tn.av (fs_av (fun x hx => fr_av (show Fr tk60 tk70 _ from (show Fr tk60 tk70 _ from hf74 rfl)) (show Fr tk19 tk36 _ from (show Fr tk19 tk36 _ from hf40 rfl)) (by omega) (by omega) x (List.mem_append.2 (.inl hx))))) (.cons _ _ _ _ (Tn.av (ps_av (fun x hx => fr_av (show Fr tk60 tk70 _ from (show Fr tk60 tk70 _ from hf74 rfl)) (show Fr tk19 tk36 _ from (show Fr tk19 tk36 _ from hf40 rfl)) (by omega) (by omega) x (List.mem_append.2 (.inr hx))))) .nil)))) rfl) (.cons _ _ _ _ rfl (Tn.av (.bool _)) (.cons _ _ _ _ rfl (Tn.av (.bool _)) (.cons _ _ _ _ rfl (Tn.av (.int _ _)) (.cons _ _ _ _ rfl (TnCs.agg (.cons _ _ _ _ (Tn.av (.int _ _)) (.cons _ _ _ _ (Tn.av (.int _ _)) (.cons _ _ _ _ (GQ.tnf hln90) (.cons _ _ _ _ (GQ.tnp hln94) .nil)))) rfl) (.cons _ _ _ _ rfl (Tn.av (.int _ _)) .nil)))))))))))))))))), (.cons _ _ _ _ _ (TnCs.box (.cons _ _ _ _ (Tn.av (.int _ _)) (.cons _ _ _ _ (Tn.av (.int _ _)) (.cons _ _ _ _ (Tn.av (fs_av (fun x hx => fr_av (show Fr tk36 tk43 _ from (show Fr tk36 tk43 _ from hf47 rfl)) (show Fr tk19 tk36 _ from (show Fr tk19 tk36 _ from hf40 rfl)) (by omega) (by omega) x (List.mem_append.2 (.inl hx))))) (.cons _ _ _ _ (Tn.av (ps_av (fun x hx => fr_av (show Fr tk36 tk43 _ from (show Fr tk36 tk43 _ from hf47 rfl)) (show Fr tk19 tk36 _ from (show Fr tk19 tk36 _ from hf40 rfl)) (by omega) (by omega) x (List.mem_append.2 (.inr hx))))) .nil)))) rfl) (.cons _ _ _ _ _ (TnCs.box (.cons _ _ _ _ (Tn.av (.int _ _)) (.cons _ _ _ _ (Tn.av (.int _ _)) (.cons _ _ _ _ (GQ.tnf hln90) (.cons _ _ _ _ (GQ.tnp hln94) .nil)))) rfl) (.cons _ _ _ _ _ (TnCs.box (.cons _ _ _ _ (Tn.av (.int _ _)) (.cons _ _ _ _ (Tn.av (.int _ _)) (.cons _ _ _ _ (Tn.av (fs_av (fun x hx => fr_av (show Fr tk12 tk19 _ from (show Fr tk12 tk19 _ from hf23 rfl)) (show Fr tk19 tk36 _ from (show Fr tk19 tk36 _ from hf40 rfl)) (by omega) (by omega) x (List.mem_append.2 (.inl hx))))) (.cons _ _ _ _ (Tn.av (ps_av (fun x hx => fr_av (show Fr tk12 tk19 _ from (show Fr tk12 tk19 _ from hf23 rfl)) (show Fr tk19 tk36 _ from (show Fr tk19 tk36 _ from hf40 rfl)) (by omega) (by omega) x (List.mem_append.2 (.inr hx))))) .nil)))) rfl) (.cons _ _ _ _ _ (TnCs.box (.cons _ _ _ _ (Tn.av (.int _ _)) (.cons _ _ _ _ (Tn.av (.int _ _)) (.cons _ _ _ _ (Tn.av (fs_av (old_av ho0))) (.cons _ _ _ _ (Tn.av (ps_av (old_av ho1))) .nil)))) rfl) .nil)))), ?_⟩
 refine yR rfl ?_
 refine run_ops_nil ?_
 refine run_seq ?_
 refine run_sr ?_
 refine yL rfl ?_
 refine yB rfl ?_
 refine yL rfl ?_
 refine run_splitd (i := 61) rfl (fun hb96 => ?_) (fun hb96 => ?_)
 ·replace hM := ite_t hb96 hM
  refine yO rfl ?_
  refine yO rfl ?_
  refine yO rfl ?_
  refine yO rfl ?_
  refine yP rfl ?_
  refine yL rfl ?_
  refine yO rfl ?_
  refine yO rfl ?_
  refine yO rfl ?_
  refine yP rfl ?_
  refine yL rfl ?_
  refine yO rfl ?_
  refine yO rfl ?_
  refine yO rfl ?_
  refine yP rfl ?_
  refine run_ops_nil ?_
  refine run_sub_code (σ' := ⟨[(1, .optr (.loc 1) 0 0), (2, .bool false), (4, .optr (.loc 4) 0 0), (5, .bool ra29), (6, .int .i64 ra30), (8, .optr (.loc 8) 0 0), (76, .bool true)], [(8, ⟨40, 4, true, [[.int .i64 k46, .int .i64 n46, .imm p46 3 e46 (fcellss fs46), .imm q46 4 f46 (pcellss ks46)]]⟩), (4, ⟨40, 4, true, [[.int .i64 k22, .int .i64 n22, .imm p22 3 e22 (fcellss fs22), .imm q22 4 f22 (pcellss ks22)]]⟩), (1, ⟨62, 4, true, [[.int .i64 k1, .int .i64 n1, .imm p1 3 e1 (fcellss fs1), .imm q1 4 f1 (pcellss ks1)]]⟩)], [], O, tk85⟩) (Sub.trans (Sub.drop (k := 7) rfl) (Sub.env _ ⟨rfl, rfl, rfl, rfl, rfl, rfl, rfl, trivial⟩)) ?_
  refine run_if rfl rfl (fun _ => ?_) (fun h => by cases h)
  refine run_sr ?_
  refine yR rfl ?_
  refine run_ops_nil ?_
  refine run_ret_to ?_
  replace hM := some_t hM
  subst hM
  refine fin_x hG rfl rfl rfl (v' := .bool false) (by rfl) ⟨rfl, (show tk ≤ tk85 by omega), _, rfl, rfl⟩
 replace hM := ite_f hb96 hM
 refine run_rdG (on_of rfl rfl rfl rfl) (aload_rd hG rfl rfl rfl (by first | (simp [ldok]; done) | exact List.not_mem_nil | trivial)) rfl (ltb rfl) ?_
 refine run_rdG (on_of rfl rfl rfl rfl) (aload_rd hG rfl rfl rfl (by first | (simp [ldok]; done) | exact List.not_mem_nil | trivial)) rfl (ltb rfl) ?_
 obtain ⟨r97, hg98, hM⟩ := bind_t hM
 refine yG (on_of rfl rfl rfl rfl) rfl (w_eqExpr_ok n k46 n46 p46 e46 fs46 q46 f46 ks46 k22 n22 p22 e22 fs22 q22 f22 ks22 hg98 _ _) (callK_retX (fun v tk99 (hle100 : tk85 ≤ tk99) h101 => ?_))
 subst h101
 refine run_puG (on_of rfl rfl rfl rfl) (aun_step rfl rfl rfl) rfl (ltb rfl) ?_
 refine yP rfl ?_
 refine yL rfl ?_
 refine run_splitb (i := 67) rfl (fun hb104 => ?_) (fun hb104 => ?_)
 ·replace hM := ite_t hb104 hM
  refine yO rfl ?_
  refine yO rfl ?_
  refine yO rfl ?_
  refine yP rfl ?_
  refine yL rfl ?_
  refine yO rfl ?_
  refine yO rfl ?_
  refine yO rfl ?_
  refine yP rfl ?_
  refine run_ops_nil ?_
  refine run_sub_code (σ' := ⟨[(1, .optr (.loc 1) 0 0), (2, .bool false), (4, .optr (.loc 4) 0 0), (5, .bool ra29), (6, .int .i64 ra30), (8, .optr (.loc 8) 0 0), (76, .bool true)], [(8, ⟨40, 4, true, [[.int .i64 k46, .int .i64 n46, .imm p46 3 e46 (fcellss fs46), .imm q46 4 f46 (pcellss ks46)]]⟩), (4, ⟨40, 4, true, [[.int .i64 k22, .int .i64 n22, .imm p22 3 e22 (fcellss fs22), .imm q22 4 f22 (pcellss ks22)]]⟩), (1, ⟨62, 4, true, [[.int .i64 k1, .int .i64 n1, .imm p1 3 e1 (fcellss fs1), .imm q1 4 f1 (pcellss ks1)]]⟩)], [], O, tk99⟩) (Sub.trans (Sub.drop (k := 7) rfl) (Sub.env _ ⟨rfl, rfl, rfl, rfl, rfl, rfl, rfl, trivial⟩)) ?_
  refine run_if rfl rfl (fun _ => ?_) (fun h => by cases h)
  refine run_sr ?_
  refine yR rfl ?_
  refine run_ops_nil ?_
  refine run_ret_to ?_
  replace hM := some_t hM
  subst hM
  refine fin_x hG rfl rfl rfl (v' := .bool false) (by rfl) ⟨rfl, (show tk ≤ tk99 by omega), _, rfl, rfl⟩
 replace hM := ite_f hb104 hM
 refine run_puG (on_of rfl rfl rfl rfl) (move_step (.inl rfl) rfl) rfl (ltb rfl) ?_
 refine run_puG (on_of rfl rfl rfl rfl) (move_step (.inl rfl) rfl) rfl (ltb rfl) ?_
 refine run_puG (on_of rfl rfl rfl rfl) (bool_step hG rfl rfl rfl rfl rfl rfl) rfl (ltb rfl) ?_
 refine yP rfl ?_
 refine yL rfl ?_
 refine run_splitb (i := 72) rfl (fun hb105 => ?_) (fun hb105 => ?_)
 ·replace hM := ite_t hb105 hM
  refine yO rfl ?_
  refine yO rfl ?_
  refine yO rfl ?_
  refine yP rfl ?_
  refine run_ops_nil ?_
  refine run_sub_code (σ' := ⟨[(1, .optr (.loc 1) 0 0), (2, .bool false), (4, .optr (.loc 4) 0 0), (5, .bool ra29), (6, .int .i64 ra30), (8, .optr (.loc 8) 0 0), (76, .bool true)], [(8, ⟨40, 4, true, [[.int .i64 k46, .int .i64 n46, .imm p46 3 e46 (fcellss fs46), .imm q46 4 f46 (pcellss ks46)]]⟩), (4, ⟨40, 4, true, [[.int .i64 k22, .int .i64 n22, .imm p22 3 e22 (fcellss fs22), .imm q22 4 f22 (pcellss ks22)]]⟩), (1, ⟨62, 4, true, [[.int .i64 k1, .int .i64 n1, .imm p1 3 e1 (fcellss fs1), .imm q1 4 f1 (pcellss ks1)]]⟩)], [], O, tk99⟩) (Sub.trans (Sub.drop (k := 7) rfl) (Sub.env _ ⟨rfl, rfl, rfl, rfl, rfl, rfl, rfl, trivial⟩)) ?_
  refine run_if rfl rfl (fun _ => ?_) (fun h => by cases h)
  refine run_sr ?_
  refine yR rfl ?_
  refine run_ops_nil ?_
  refine run_ret_to ?_
  replace hM := some_t hM
  subst hM
  refine fin_x hG rfl rfl rfl (v' := .bool false) (by rfl) ⟨rfl, (show tk ≤ tk99 by omega), _, rfl, rfl⟩
 replace hM := ite_f hb105 hM
 refine run_puG (on_of rfl rfl rfl rfl) (move_step (.inl rfl) rfl) rfl (ltb rfl) ?_
 refine run_puG (on_of rfl rfl rfl rfl) (move_step (.inl rfl) rfl) rfl (ltb rfl) ?_
 refine run_puG (on_of rfl rfl rfl rfl) (abin_step rfl rfl rfl rfl (fun _ h => by cases h)) rfl (ltb rfl) ?_
 refine yP rfl ?_
 refine run_ops_nil ?_
 refine run_sub_code (σ' := ⟨[(1, .optr (.loc 1) 0 0), (2, .bool false), (4, .optr (.loc 4) 0 0), (5, .bool ra29), (6, .int .i64 ra30), (8, .optr (.loc 8) 0 0), (76, .bool (ra54 != ra30))], [(8, ⟨40, 4, true, [[.int .i64 k46, .int .i64 n46, .imm p46 3 e46 (fcellss fs46), .imm q46 4 f46 (pcellss ks46)]]⟩), (4, ⟨40, 4, true, [[.int .i64 k22, .int .i64 n22, .imm p22 3 e22 (fcellss fs22), .imm q22 4 f22 (pcellss ks22)]]⟩), (1, ⟨62, 4, true, [[.int .i64 k1, .int .i64 n1, .imm p1 3 e1 (fcellss fs1), .imm q1 4 f1 (pcellss ks1)]]⟩)], [], O, tk99⟩) (Sub.trans (Sub.drop (k := 7) rfl) (Sub.env _ ⟨rfl, rfl, rfl, rfl, rfl, rfl, rfl, trivial⟩)) ?_
 refine run_ifb rfl rfl (fun hb106 => ?_) (fun hb106 => ?_)
 ·replace hM := ite_t hb106 hM
  refine run_sr ?_
  refine yR rfl ?_
  refine run_ops_nil ?_
  refine run_ret_to ?_
  replace hM := some_t hM
  subst hM
  refine fin_x hG rfl rfl rfl (v' := .bool false) (by rfl) ⟨rfl, (show tk ≤ tk99 by omega), _, rfl, rfl⟩
 replace hM := ite_f hb106 hM
 refine run_skip ?_
 refine run_sr ?_
 refine yR rfl ?_
 refine run_ops_nil ?_
 refine run_sr ?_
 refine yD hG rfl ?_
 refine yL rfl ?_
 obtain ⟨r107, hg108, hM⟩ := bind_t hM
 refine run_callT rfl rfl rfl (ltb rfl) rfl rfl rfl rfl rfl hOn (fun x hx => by have := ((show Fr tk36 tk43 _ from (show Fr tk36 tk43 _ from hf47 rfl))).2 x hx; show S0.tk ≤ x; omega) (w_markExpr_m k46 n46 p46 e46 fs46 q46 f46 ks46 1 _ (Fr.ge (show Fr tk36 tk43 _ from (show Fr tk36 tk43 _ from hf47 rfl)) (by omega)) ((show Fr tk36 tk43 _ from (show Fr tk36 tk43 _ from hf47 rfl))).1 hg108) (fun out S' hR (hle110 : tk99 ≤ S'.tk) => ?_)
 obtain ⟨fs116, ks111, k112, rfl, rfl, _, hst113, hln114, hst117, hln118, hu115, hu119⟩ := hR
 generalize S'.tk = tk109 at hle110 ⊢
 refine ⟨_, rfl, rfl, GQ p46 e46 fs46 fs116 q46 f46 ks46 ks111, GQ.turned (Fr.ge (show Fr tk36 tk43 _ from (show Fr tk36 tk43 _ from hf47 rfl)) (by omega)) hst113 hln114 hst117 hln118 hu115 hu119, [(1, .optr (.loc 1) 0 0), (2, .bool false), (4, .optr (.loc 4) 0 0), (5, .bool ra29), (6, .int .i64 ra30), (8, .optr (.loc 8) 0 0), (76, .bool (ra54 != ra30)), (12, .int .i64 1), (77, .agg [.int .i64 k46, .int .i64 n46, .imm p46 3 e46 (fcellss fs116), .imm q46 4 f46 (pcellss ks111)]), (78, .int .i64 1)], [(8, ⟨40, 4, true, [[.int .i64 k46, .int .i64 n46, .imm p46 3 e46 (fcellss fs116), .imm q46 4 f46 (pcellss ks111)]]⟩), (4, ⟨40, 4, true, [[.int .i64 k22, .int .i64 n22, .imm p22 3 e22 (fcellss fs22), .imm q22 4 f22 (pcellss ks22)]]⟩), (1, ⟨62, 4, true, [[.int .i64 k1, .int .i64 n1, .imm p1 3 e1 (fcellss fs1), .imm q1 4 f1 (pcellss ks1)]]⟩)], (.cons _ _ _ _ rfl (.optr _ _ _) (.cons _ _ _ _ rfl (Tn.av (.bool _)) (.cons _ _ _ _ rfl (.optr _ _ _) (.cons _ _ _ _ rfl (Tn.av (.bool _)) (.cons _ _ _ _ rfl (Tn.av (.int _ _)) (.cons _ _ _ _ rfl (.optr _ _ _) (.cons _ _ _ _ rfl (Tn.av (.bool _)) (.cons _ _ _ _ rfl (Tn.av (.int _ _)) (.cons _ _ _ _ rfl (TnCs.agg (.cons _ _ _ _ (Tn.av (.int _ _)) (.cons _ _ _ _ (Tn.av (.int _ _)) (.cons _ _ _ _ (GQ.tnf hln114) (.cons _ _ _ _ (GQ.tnp hln118) .nil)))) rfl) (.cons _ _ _ _ rfl (Tn.av (.int _ _)) .nil)))))))))), (.cons _ _ _ _ _ (TnCs.box (.cons _ _ _ _ (Tn.av (.int _ _)) (.cons _ _ _ _ (Tn.av (.int _ _)) (.cons _ _ _ _ (GQ.tnf hln114) (.cons _ _ _ _ (GQ.tnp hln118) .nil)))) rfl) (.cons _ _ _ _ _ (TnCs.box (.cons _ _ _ _ (Tn.av (.int _ _)) (.cons _ _ _ _ (Tn.av (.int _ _)) (.cons _ _ _ _ (Tn.av (fs_av (fun x hx => fr_av (show Fr tk12 tk19 _ from (show Fr tk12 tk19 _ from hf23 rfl)) (show Fr tk36 tk43 _ from (show Fr tk36 tk43 _ from hf47 rfl)) (by omega) (by omega) x (List.mem_append.2 (.inl hx))))) (.cons _ _ _ _ (Tn.av (ps_av (fun x hx => fr_av (show Fr tk12 tk19 _ from (show Fr tk12 tk19 _ from hf23 rfl)) (show Fr tk36 tk43 _ from (show Fr tk36 tk43 _ from hf47 rfl)) (by omega) (by omega) x (List.mem_append.2 (.inr hx))))) .nil)))) rfl) (.cons _ _ _ _ _ (TnCs.box (.cons _ _ _ _ (Tn.av (.int _ _)) (.cons _ _ _ _ (Tn.av (.int _ _)) (.cons _ _ _ _ (Tn.av (fs_av (old_av ho0))) (.cons _ _ _ _ (Tn.av (ps_av (old_av ho1))) .nil)))) rfl) .nil))), ?_⟩
 refine yR rfl ?_
 refine run_ops_nil ?_
 refine run_sr ?_
 refine yR rfl ?_
 refine run_ops_nil ?_
 refine run_sr ?_
 refine yD hG rfl ?_
 refine yL rfl ?_
 obtain ⟨r120, hg121, hM⟩ := bind_t hM
 refine yK rfl (w_heldExpr_ok n k46 n46 p46 e46 fs116 q46 f46 ks111 1 hg121 _ _) (callK_retX (fun v tk122 (hle123 : tk109 ≤ tk122) h124 => ?_))
 subst h124
 refine yR rfl ?_
 refine run_ops_nil ?_
 refine run_seq ?_
 refine run_sr ?_
 refine yL rfl ?_
 refine yB rfl ?_
 refine run_ops_nil ?_
 refine run_ifd rfl rfl (fun hb127 => ?_) (fun hb127 => ?_)
 ·replace hM := ite_t hb127 hM
  refine run_sr ?_
  refine yR rfl ?_
  refine run_ops_nil ?_
  refine run_ret_to ?_
  replace hM := some_t hM
  subst hM
  refine fin_x hG rfl rfl rfl (v' := .bool false) (by rfl) ⟨rfl, (show tk ≤ tk122 by omega), _, rfl, rfl⟩
 replace hM := ite_f hb127 hM
 refine run_skip ?_
 refine run_seq ?_
 refine run_sr ?_
 refine yL rfl ?_
 refine yL rfl ?_
 refine yB rfl ?_
 refine run_ops_nil ?_
 refine run_sub_code (σ' := ⟨[(1, .optr (.loc 1) 0 0), (2, .bool false), (4, .optr (.loc 4) 0 0), (5, .bool ra29), (6, .int .i64 ra30), (8, .optr (.loc 8) 0 0), (12, .int .i64 k112), (13, .int .i64 r120), (87, .bool (r120 != k112))], [(8, ⟨40, 4, true, [[.int .i64 k46, .int .i64 n46, .imm p46 3 e46 (fcellss fs116), .imm q46 4 f46 (pcellss ks111)]]⟩), (4, ⟨40, 4, true, [[.int .i64 k22, .int .i64 n22, .imm p22 3 e22 (fcellss fs22), .imm q22 4 f22 (pcellss ks22)]]⟩), (1, ⟨62, 4, true, [[.int .i64 k1, .int .i64 n1, .imm p1 3 e1 (fcellss fs1), .imm q1 4 f1 (pcellss ks1)]]⟩)], [], O, tk122⟩) (Sub.env _ ⟨rfl, rfl, rfl, rfl, rfl, rfl, rfl, rfl, rfl, trivial⟩) ?_
 refine run_ifb rfl rfl (fun hb128 => ?_) (fun hb128 => ?_)
 ·replace hM := ite_t hb128 hM
  refine run_sr ?_
  refine yR rfl ?_
  refine run_ops_nil ?_
  refine run_ret_to ?_
  replace hM := some_t hM
  subst hM
  refine fin_x hG rfl rfl rfl (v' := .bool false) (by rfl) ⟨rfl, (show tk ≤ tk122 by omega), _, rfl, rfl⟩
 replace hM := ite_f hb128 hM
 refine run_skip ?_
 refine run_sr ?_
 refine yD hG rfl ?_
 obtain ⟨r129, hg130, hM⟩ := bind_t hM
 refine yK rfl (w_toExpr_ok n k1 n1 p1 e1 fs1 q1 f1 ks1 hg130 _ _) (callK_retX (fun v tk131 (hle132 : tk122 ≤ tk131) h133 => ?_))
 obtain ⟨k134, n134, p134, e134, fs134, q134, f134, ks134, rfl, rfl, hf135⟩ := h133
 obtain ⟨r136, hg137, hM⟩ := bind_t hM
 refine yK rfl (i_StepExpr_ok n k134 n134 p134 e134 fs134 q134 f134 ks134 hg137 _ _ (show 2 ≤ tk131 by omega) (show Gd tk131 _ from Fr.gd (show Fr tk122 tk131 _ from (show Fr tk122 tk131 _ from hf135 rfl)) (by omega) (by omega))) (callK_retX (fun v tk138 (hle139 : tk131 ≤ tk138) h140 => ?_))
 obtain ⟨ra147, ra148, ra149, va150, va151, va152, rfl, rfl, ⟨k141, n141, p141, e141, fs141, q141, f141, ks141, rfl, rfl, hf142⟩, rfl, rfl⟩ := h140
 refine yL rfl ?_
 refine run_pu rfl (extract_step rfl rfl rfl) rfl (ltb rfl) ?_
 refine run_pu rfl (extract_step rfl rfl rfl) rfl (ltb rfl) ?_
 refine run_pu rfl (extract_step rfl rfl rfl) rfl (ltb rfl) ?_
 refine run_op rfl (alloc_step (d := 14) hG rfl rfl rfl) rfl (ltb rfl) ?_
 refine yS hG rfl ?_
 refine yR rfl ?_
 refine yR rfl ?_
 refine run_ops_nil ?_
 refine run_seq ?_
 refine run_sr ?_
 refine yD hG rfl ?_
 refine yD hG rfl ?_
 obtain ⟨r153, hg154, hM⟩ := bind_t hM
 refine yK rfl (w_eqExpr_ok n k141 n141 p141 e141 fs141 q141 f141 ks141 k22 n22 p22 e22 fs22 q22 f22 ks22 hg154 _ _) (callK_retX (fun v tk155 (hle156 : tk138 ≤ tk155) h157 => ?_))
 subst h157
 refine run_pu rfl (aun_step rfl rfl rfl) rfl (ltb rfl) ?_
 refine yL rfl ?_
 refine run_splitb (i := 99) rfl (fun hb160 => ?_) (fun hb160 => ?_)
 ·replace hM := ite_t hb160 hM
  refine yO rfl ?_
  refine yO rfl ?_
  refine yO rfl ?_
  refine yP rfl ?_
  refine yL rfl ?_
  refine yO rfl ?_
  refine yO rfl ?_
  refine yO rfl ?_
  refine yP rfl ?_
  refine run_ops_nil ?_
  refine run_sub_code (σ' := ⟨[(2, .bool false), (8, .optr (.loc 8) 0 0), (12, .int .i64 k112), (13, .int .i64 r120), (108, .bool true)], [(8, ⟨40, 4, true, [[.int .i64 k46, .int .i64 n46, .imm p46 3 e46 (fcellss fs116), .imm q46 4 f46 (pcellss ks111)]]⟩)], [], O, tk155⟩) (Sub.trans (Sub.drop (k := 14) rfl) (Sub.trans (Sub.drop (k := 4) rfl) (Sub.trans (Sub.drop (k := 1) rfl) (Sub.env _ ⟨rfl, rfl, rfl, rfl, rfl, trivial⟩)))) ?_
  refine run_if rfl rfl (fun _ => ?_) (fun h => by cases h)
  refine run_sr ?_
  refine yR rfl ?_
  refine run_ops_nil ?_
  refine run_ret_to ?_
  replace hM := some_t hM
  subst hM
  refine fin_x hG rfl rfl rfl (v' := .bool false) (by rfl) ⟨rfl, (show tk ≤ tk155 by omega), _, rfl, rfl⟩
 replace hM := ite_f hb160 hM
 refine run_puG (on_of rfl rfl rfl rfl) (move_step (.inl rfl) rfl) rfl (ltb rfl) ?_
 refine run_puG (on_of rfl rfl rfl rfl) (move_step (.inl rfl) rfl) rfl (ltb rfl) ?_
 refine run_puG (on_of rfl rfl rfl rfl) (bool_step hG rfl rfl rfl rfl rfl rfl) rfl (ltb rfl) ?_
 refine yP rfl ?_
 refine yL rfl ?_
 refine run_splitb (i := 104) rfl (fun hb161 => ?_) (fun hb161 => ?_)
 ·replace hM := ite_t hb161 hM
  refine yO rfl ?_
  refine yO rfl ?_
  refine yO rfl ?_
  refine yP rfl ?_
  refine run_ops_nil ?_
  refine run_sub_code (σ' := ⟨[(2, .bool false), (8, .optr (.loc 8) 0 0), (12, .int .i64 k112), (13, .int .i64 r120), (108, .bool true)], [(8, ⟨40, 4, true, [[.int .i64 k46, .int .i64 n46, .imm p46 3 e46 (fcellss fs116), .imm q46 4 f46 (pcellss ks111)]]⟩)], [], O, tk155⟩) (Sub.trans (Sub.drop (k := 14) rfl) (Sub.trans (Sub.drop (k := 4) rfl) (Sub.trans (Sub.drop (k := 1) rfl) (Sub.env _ ⟨rfl, rfl, rfl, rfl, rfl, trivial⟩)))) ?_
  refine run_if rfl rfl (fun _ => ?_) (fun h => by cases h)
  refine run_sr ?_
  refine yR rfl ?_
  refine run_ops_nil ?_
  refine run_ret_to ?_
  replace hM := some_t hM
  subst hM
  refine fin_x hG rfl rfl rfl (v' := .bool false) (by rfl) ⟨rfl, (show tk ≤ tk155 by omega), _, rfl, rfl⟩
 replace hM := ite_f hb161 hM
 refine run_puG (on_of rfl rfl rfl rfl) (move_step (.inl rfl) rfl) rfl (ltb rfl) ?_
 refine run_puG (on_of rfl rfl rfl rfl) (move_step (.inl rfl) rfl) rfl (ltb rfl) ?_
 refine run_puG (on_of rfl rfl rfl rfl) (abin_step rfl rfl rfl rfl (fun _ h => by cases h)) rfl (ltb rfl) ?_
 refine yP rfl ?_
 refine run_ops_nil ?_
 refine run_sub_code (σ' := ⟨[(2, .bool false), (8, .optr (.loc 8) 0 0), (12, .int .i64 k112), (13, .int .i64 r120), (108, .bool (ra149 != ra30))], [(8, ⟨40, 4, true, [[.int .i64 k46, .int .i64 n46, .imm p46 3 e46 (fcellss fs116), .imm q46 4 f46 (pcellss ks111)]]⟩)], [], O, tk155⟩) (Sub.trans (Sub.drop (k := 14) rfl) (Sub.trans (Sub.drop (k := 4) rfl) (Sub.trans (Sub.drop (k := 1) rfl) (Sub.env _ ⟨rfl, rfl, rfl, rfl, rfl, trivial⟩)))) ?_
 refine run_ifb rfl rfl (fun hb162 => ?_) (fun hb162 => ?_)
 ·replace hM := ite_t hb162 hM
  refine run_sr ?_
  refine yR rfl ?_
  refine run_ops_nil ?_
  refine run_ret_to ?_
  replace hM := some_t hM
  subst hM
  refine fin_x hG rfl rfl rfl (v' := .bool false) (by rfl) ⟨rfl, (show tk ≤ tk155 by omega), _, rfl, rfl⟩
 replace hM := ite_f hb162 hM
 refine run_skip ?_
 refine run_sr ?_
 refine yR rfl ?_
 refine run_ops_nil ?_
 refine run_sr ?_
 refine yD hG rfl ?_
 refine yL rfl ?_
 obtain ⟨r163, hg164, hM⟩ := bind_t hM
 refine yK rfl (w_heldExpr_ok n k46 n46 p46 e46 fs116 q46 f46 ks111 1 hg164 _ _) (callK_retX (fun v tk165 (hle166 : tk155 ≤ tk165) h167 => ?_))
 subst h167
 refine yR rfl ?_
 refine run_ops_nil ?_
 refine run_seq ?_
 refine run_sr ?_
 refine yL rfl ?_
 refine yB rfl ?_
 refine run_ops_nil ?_
 refine run_ifd rfl rfl (fun hb170 => ?_) (fun hb170 => ?_)
 ·replace hM := ite_t hb170 hM
  refine run_sr ?_
  refine yR rfl ?_
  refine run_ops_nil ?_
  refine run_ret_to ?_
  replace hM := some_t hM
  subst hM
  refine fin_x hG rfl rfl rfl (v' := .bool false) (by rfl) ⟨rfl, (show tk ≤ tk165 by omega), _, rfl, rfl⟩
 replace hM := ite_f hb170 hM
 refine run_skip ?_
 refine run_seq ?_
 refine run_sr ?_
 refine yL rfl ?_
 refine yL rfl ?_
 refine yB rfl ?_
 refine run_ops_nil ?_
 refine run_ifb rfl rfl (fun hb171 => ?_) (fun hb171 => ?_)
 ·replace hM := ite_t hb171 hM
  refine run_sr ?_
  refine yR rfl ?_
  refine run_ops_nil ?_
  refine run_ret_to ?_
  replace hM := some_t hM
  subst hM
  refine fin_x hG rfl rfl rfl (v' := .bool false) (by rfl) ⟨rfl, (show tk ≤ tk165 by omega), _, rfl, rfl⟩
 replace hM := ite_f hb171 hM
 refine run_skip ?_
 refine run_sr ?_
 refine yR rfl ?_
 refine run_ops_nil ?_
 refine run_ret_to ?_
 replace hM := some_t hM
 subst hM
 refine fin_x hG rfl rfl rfl (v' := .bool true) (by rfl) ⟨rfl, (show tk ≤ tk165 by omega), _, rfl, rfl⟩

end Go.Am.Ytpkeophkdemcpaa
