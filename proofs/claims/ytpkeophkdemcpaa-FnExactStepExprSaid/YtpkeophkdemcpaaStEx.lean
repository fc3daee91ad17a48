/- Printed by a program of ours: Lean functions that do what the Go functions do, and the contracts. -/
import Derived.Test.YtpkeophkdemcpaaTypes
import Derived.Test.YtpkeophkdemcpaaMi4
import Derived.Test.YtpkeophkdemcpaaMc1
import Derived.Test.YtpkeophkdemcpaaMb3
import Derived.Test.YtpkeophkdemcpaaMp
import Derived.Test.YtpkeophkdemcpaaStSt
import Derived.Test.YtpkeophkdemcpaaStSp
import Derived.Test.YtpkeophkdemcpaaMkExpr
import Derived.Test.YtpkeophkdemcpaaMz
-- packed
namespace Go.Am.Ytpkeophkdemcpaa
open Go Go.Am

def i_StepExpr (n : Nat) (x1 : Pf) : Option (Pf × Bool × Int) :=
 (i_ExprOK n x1).bind fun r2 =>
 if (!r2) = true then
  some ((Pf.mk 0 0 [] []), false, 1)
 else
  (i_stepped n x1).bind fun r10 =>
  if r10.2 = true then
   (i_ExprOK n r10.1).bind fun r24 =>
   if (!r24) = true then
    some ((Pf.mk 0 0 [] []), false, 11)
   else
    some (r10.1, r10.2, 0)
  else
   some (r10.1, r10.2, 0)

set_option maxRecDepth 100000 in
theorem i_StepExpr_ok (n : Nat) : ∀ (k1 : Int) (n1 : Int) (p1 : Nat) (e1 : Bool) (fs1 : List LF) (q1 : Nat) (f1 : Bool) (ks1 : List LP) {r : (Pf × Bool × Int)}, i_StepExpr n (Pf.mk k1 n1 (fers fs1) (pers ks1)) = some r → ∀ (O : Heap) (tk : Nat), 2 ≤ tk → Gd tk (fstoks p1 fs1 ++ pstoks q1 ks1) → ACalls Go.Proofs.Try.prog 26 [.agg [.int .i64 k1, .int .i64 n1, .imm p1 3 e1 (fcellss fs1), .imm q1 4 f1 (pcellss ks1)]] O tk (RetX O tk (fun v tk' => ∃ r0' r1' r2' v0' v1' v2', r = (r0', r1', r2') ∧ v = .tup [v0', v1', v2'] ∧ VP true tk tk' r0' v0' ∧ v1' = .bool r1' ∧ v2' = .int .i64 r2')) := by
 intro k1 n1 p1 e1 fs1 q1 f1 ks1 r hM O tk h2tk hgd1
 unfold i_StepExpr at hM
 refine acalls_of_run_z Go.Proofs.Try.func26 rfl rfl [] [] (Bor.nil _) [(0, .agg [.int .i64 k1, .int .i64 n1, .imm p1 3 e1 (fcellss fs1), .imm q1 4 f1 (pcellss ks1)])] (.cons (.agg _) (.nil _)) (leb rfl) (fun _ h => by cases h) (fun _ h => absurd h List.not_mem_nil) (fun S0 hO htk hfz hzf => ?_)
 refine run_sr ?_
 refine run_op rfl (box_step (d := 1) rfl rfl rfl rfl rfl) rfl (ltb rfl) ?_
 refine run_op rfl (alloc_step (d := 2) hG rfl rfl rfl) rfl (ltb rfl) ?_
 refine yR rfl ?_
 refine yR rfl ?_
 refine run_ops_nil ?_
 refine run_seq ?_
 refine run_sr ?_
 refine yD hG rfl ?_
 obtain ⟨r2, hg3, hM⟩ := bind_t hM
 refine yK rfl (i_ExprOK_ok n k1 n1 p1 e1 fs1 q1 f1 ks1 hg3 _ _) (callK_retX (fun v tk4 (hle5 : tk ≤ tk4) h6 => ?_))
 subst h6
 refine run_pu rfl (aun_step rfl rfl rfl) rfl (ltb rfl) ?_
 refine run_ops_nil ?_
 refine run_ifb rfl rfl (fun hb9 => ?_) (fun hb9 => ?_)
 ·replace hM := ite_t hb9 hM
  refine run_sr ?_
  refine run_pu rfl (build_step hG rfl (by rfl) rfl (fun h => by cases h) (by rfl)) rfl (ltb rfl) ?_
  refine yS hG rfl ?_
  refine yR rfl ?_
  refine yR rfl ?_
  refine run_ops_nil ?_
  refine run_ret_to ?_
  replace hM := some_t hM
  subst hM
  refine fin_x hG rfl rfl rfl (v' := .tup [.agg [.int .i64 0, .int .i64 0, .imm 0 3 true (fcellss []), .imm 0 4 true (pcellss [])], .bool false, .int .i64 1]) (by rfl) ⟨rfl, (show tk ≤ tk4 by omega), _, rfl, ⟨_, _, _, _, _, _, rfl, rfl, ⟨0, 0, 0, true, [], 0, true, [], rfl, rfl, fun _ => Fr.nil _ _⟩, rfl, rfl⟩⟩
 replace hM := ite_f hb9 hM
 refine run_skip ?_
 refine run_sr ?_
 refine yD hG rfl ?_
 obtain ⟨r10, hg11, hM⟩ := bind_t hM
 refine yK rfl (i_stepped_ok n k1 n1 p1 e1 fs1 q1 f1 ks1 hg11 _ _ (show 2 ≤ tk4 by omega) (show Gd tk4 _ from (hgd1).mono (by omega))) (callK_retX (fun v tk12 (hle13 : tk4 ≤ tk12) h14 => ?_))
 obtain ⟨ra19, ra20, va21, va22, rfl, rfl, ⟨k15, n15, p15, e15, fs15, q15, f15, ks15, rfl, rfl, hf16⟩, rfl⟩ := h14
 refine yL rfl ?_
 refine run_pu rfl (extract_step rfl rfl rfl) rfl (ltb rfl) ?_
 refine run_pu rfl (extract_step rfl rfl rfl) rfl (ltb rfl) ?_
 refine run_op rfl (alloc_step (d := 5) hG rfl rfl rfl) rfl (ltb rfl) ?_
 refine yS hG rfl ?_
 refine yR rfl ?_
 refine run_ops_nil ?_
 refine run_sub_code (σ' := ⟨[(2, .optr (.loc 2) 0 0), (3, .bool false), (4, .int .i64 0), (5, .optr (.loc 5) 0 0), (6, .bool ra20)], [(5, ⟨40, 4, true, [[.int .i64 k15, .int .i64 n15, .imm p15 3 e15 (fcellss fs15), .imm q15 4 f15 (pcellss ks15)]]⟩), (2, ⟨40, 4, true, [[.int .i64 0, .int .i64 0, .imm 0 3 true [], .imm 0 4 true []]]⟩)], [], O, tk12⟩) (Sub.trans (Sub.drop (k := 1) rfl) (Sub.env _ ⟨rfl, rfl, rfl, rfl, rfl, trivial⟩)) ?_
 refine run_seq ?_
 refine run_sr ?_
 refine yL rfl ?_
 refine yL rfl ?_
 refine run_splitb (i := 17) rfl (fun hb23 => ?_) (fun hb23 => ?_)
 ·replace hM := ite_t hb23 hM
  refine run_rdG (on_of rfl rfl rfl rfl) (aload_rd hG rfl rfl rfl (by first | (simp [ldok]; done) | exact List.not_mem_nil | trivial)) rfl (ltb rfl) ?_
  obtain ⟨r24, hg25, hM⟩ := bind_t hM
  refine yG (on_of rfl rfl rfl rfl) rfl (i_ExprOK_ok n k15 n15 p15 e15 fs15 q15 f15 ks15 hg25 _ _) (callK_retX (fun v tk26 (hle27 : tk12 ≤ tk26) h28 => ?_))
  subst h28
  refine run_puG (on_of rfl rfl rfl rfl) (aun_step rfl rfl rfl) rfl (ltb rfl) ?_
  refine yP rfl ?_
  refine run_ops_nil ?_
  refine run_ifb rfl rfl (fun hb31 => ?_) (fun hb31 => ?_)
  ·replace hM := ite_t hb31 hM
   refine run_sr ?_
   refine run_pu rfl (build_step hG rfl (by rfl) rfl (fun h => by cases h) (by rfl)) rfl (ltb rfl) ?_
   refine yS hG rfl ?_
   refine yR rfl ?_
   refine yR rfl ?_
   refine run_ops_nil ?_
   refine run_ret_to ?_
   replace hM := some_t hM
   subst hM
   refine fin_x hG rfl rfl rfl (v' := .tup [.agg [.int .i64 0, .int .i64 0, .imm 0 3 true (fcellss []), .imm 0 4 true (pcellss [])], .bool false, .int .i64 11]) (by rfl) ⟨rfl, (show tk ≤ tk26 by omega), _, rfl, ⟨_, _, _, _, _, _, rfl, rfl, ⟨0, 0, 0, true, [], 0, true, [], rfl, rfl, fun _ => Fr.nil _ _⟩, rfl, rfl⟩⟩
  replace hM := ite_f hb31 hM
  refine run_skip ?_
  refine run_sr ?_
  refine yD hG rfl ?_
  refine yL rfl ?_
  refine yS hG rfl ?_
  refine yR rfl ?_
  refine yR rfl ?_
  refine run_ops_nil ?_
  refine run_ret_to ?_
  replace hM := some_t hM
  subst hM
  refine fin_x hG rfl rfl rfl (v' := .tup [.agg [.int .i64 k15, .int .i64 n15, .imm p15 3 e15 (fcellss fs15), .imm q15 4 f15 (pcellss ks15)], .bool ra20, .int .i64 0]) (by rfl) ⟨rfl, (show tk ≤ tk26 by omega), _, rfl, ⟨_, _, _, _, _, _, rfl, rfl, ⟨k15, n15, p15, e15, fs15, q15, f15, ks15, rfl, rfl, fun _ => (show Fr tk tk26 _ from ((show Fr tk4 tk12 _ from hf16 rfl)).mono (by omega) (by omega))⟩, rfl, rfl⟩⟩
 replace hM := ite_f hb23 hM
 refine yO rfl ?_
 refine yO rfl ?_
 refine yO rfl ?_
 refine yP rfl ?_
 refine run_ops_nil ?_
 refine run_if rfl rfl (fun h => by cases h) (fun _ => ?_)
 refine run_skip ?_
 refine run_sr ?_
 refine yD hG rfl ?_
 refine yL rfl ?_
 refine yS hG rfl ?_
 refine yR rfl ?_
 refine yR rfl ?_
 refine run_ops_nil ?_
 refine run_ret_to ?_
 replace hM := some_t hM
 subst hM
 refine fin_x hG rfl rfl rfl (v' := .tup [.agg [.int .i64 k15, .int .i64 n15, .imm p15 3 e15 (fcellss fs15), .imm q15 4 f15 (pcellss ks15)], .bool ra20, .int .i64 0]) (by rfl) ⟨rfl, (show tk ≤ tk12 by omega), _, rfl, ⟨_, _, _, _, _, _, rfl, rfl, ⟨k15, n15, p15, e15, fs15, q15, f15, ks15, rfl, rfl, fun _ => (show Fr tk tk12 _ from ((show Fr tk4 tk12 _ from hf16 rfl)).mono (by omega) (by omega))⟩, rfl, rfl⟩⟩

def s_StepExpr (n : Nat) (x1 : Pf) : Option (Pf × Bool × Int) :=
 (s_ExprOK n x1).bind fun r2 =>
 if (!r2) = true then
  some ((Pf.mk 0 0 [] []), false, 1)
 else
  (s_l09Step n x1).bind fun r10 =>
  if (!r10.2) = true then
   some ((Pf.mk 0 0 [] []), false, 0)
  else
   (s_ExprOK n r10.1).bind fun r24 =>
   if (!r24) = true then
    some ((Pf.mk 0 0 [] []), false, 11)
   else
    some (r10.1, true, 0)

set_option maxRecDepth 100000 in
theorem s_StepExpr_ok (n : Nat) : ∀ (k1 : Int) (n1 : Int) (p1 : Nat) (e1 : Bool) (fs1 : List LF) (q1 : Nat) (f1 : Bool) (ks1 : List LP) {r : (Pf × Bool × Int)}, s_StepExpr n (Pf.mk k1 n1 (fers fs1) (pers ks1)) = some r → ∀ (O : Heap) (tk : Nat), 2 ≤ tk → Gd tk (fstoks p1 fs1 ++ pstoks q1 ks1) → ACalls Go.Proofs.Try.prog 24 [.agg [.int .i64 k1, .int .i64 n1, .imm p1 3 e1 (fcellss fs1), .imm q1 4 f1 (pcellss ks1)]] O tk (RetX O tk (fun v tk' => ∃ r0' r1' r2' v0' v1' v2', r = (r0', r1', r2') ∧ v = .tup [v0', v1', v2'] ∧ VP true tk tk' r0' v0' ∧ v1' = .bool r1' ∧ v2' = .int .i64 r2')) := by
 intro k1 n1 p1 e1 fs1 q1 f1 ks1 r hM O tk h2tk hgd1
 unfold s_StepExpr at hM
 refine acalls_of_run_z Go.Proofs.Try.func24 rfl rfl [] [] (Bor.nil _) [(0, .agg [.int .i64 k1, .int .i64 n1, .imm p1 3 e1 (fcellss fs1), .imm q1 4 f1 (pcellss ks1)])] (.cons (.agg _) (.nil _)) (leb rfl) (fun _ h => by cases h) (fun _ h => absurd h List.not_mem_nil) (fun S0 hO htk hfz hzf => ?_)
 refine run_sr ?_
 refine run_op rfl (box_step (d := 1) rfl rfl rfl rfl rfl) rfl (ltb rfl) ?_
 refine run_op rfl (alloc_step (d := 2) hG rfl rfl rfl) rfl (ltb rfl) ?_
 refine yR rfl ?_
 refine yR rfl ?_
 refine run_ops_nil ?_
 refine run_seq ?_
 refine run_sr ?_
 refine yD hG rfl ?_
 obtain ⟨r2, hg3, hM⟩ := bind_t hM
 refine yK rfl (s_ExprOK_ok n k1 n1 p1 e1 fs1 q1 f1 ks1 hg3 _ _) (callK_retX (fun v tk4 (hle5 : tk ≤ tk4) h6 => ?_))
 subst h6
 refine run_pu rfl (aun_step rfl rfl rfl) rfl (ltb rfl) ?_
 refine run_ops_nil ?_
 refine run_ifb rfl rfl (fun hb9 => ?_) (fun hb9 => ?_)
 ·replace hM := ite_t hb9 hM
  refine run_sr ?_
  refine run_pu rfl (build_step hG rfl (by rfl) rfl (fun h => by cases h) (by rfl)) rfl (ltb rfl) ?_
  refine yS hG rfl ?_
  refine yR rfl ?_
  refine yR rfl ?_
  refine run_ops_nil ?_
  refine run_ret_to ?_
  replace hM := some_t hM
  subst hM
  refine fin_x hG rfl rfl rfl (v' := .tup [.agg [.int .i64 0, .int .i64 0, .imm 0 3 true (fcellss []), .imm 0 4 true (pcellss [])], .bool false, .int .i64 1]) (by rfl) ⟨rfl, (show tk ≤ tk4 by omega), _, rfl, ⟨_, _, _, _, _, _, rfl, rfl, ⟨0, 0, 0, true, [], 0, true, [], rfl, rfl, fun _ => Fr.nil _ _⟩, rfl, rfl⟩⟩
 replace hM := ite_f hb9 hM
 refine run_skip ?_
 refine run_sr ?_
 refine yD hG rfl ?_
 obtain ⟨r10, hg11, hM⟩ := bind_t hM
 refine yK rfl (s_l09Step_ok n k1 n1 p1 e1 fs1 q1 f1 ks1 hg11 _ _ (show 2 ≤ tk4 by omega) (show Gd tk4 _ from (hgd1).mono (by omega))) (callK_retX (fun v tk12 (hle13 : tk4 ≤ tk12) h14 => ?_))
 obtain ⟨ra19, ra20, va21, va22, rfl, rfl, ⟨k15, n15, p15, e15, fs15, q15, f15, ks15, rfl, rfl, hf16⟩, rfl⟩ := h14
 refine yL rfl ?_
 refine run_pu rfl (extract_step rfl rfl rfl) rfl (ltb rfl) ?_
 refine run_pu rfl (extract_step rfl rfl rfl) rfl (ltb rfl) ?_
 refine run_op rfl (alloc_step (d := 5) hG rfl rfl rfl) rfl (ltb rfl) ?_
 refine yS hG rfl ?_
 refine yR rfl ?_
 refine run_ops_nil ?_
 refine run_sub_code (σ' := ⟨[(2, .optr (.loc 2) 0 0), (3, .bool false), (4, .int .i64 0), (5, .optr (.loc 5) 0 0), (6, .bool ra20)], [(5, ⟨40, 4, true, [[.int .i64 k15, .int .i64 n15, .imm p15 3 e15 (fcellss fs15), .imm q15 4 f15 (pcellss ks15)]]⟩), (2, ⟨40, 4, true, [[.int .i64 0, .int .i64 0, .imm 0 3 true [], .imm 0 4 true []]]⟩)], [], O, tk12⟩) (Sub.trans (Sub.drop (k := 1) rfl) (Sub.env _ ⟨rfl, rfl, rfl, rfl, rfl, trivial⟩)) ?_
 refine run_seq ?_
 refine run_sr ?_
 refine yL rfl ?_
 refine run_pu rfl (aun_step rfl rfl rfl) rfl (ltb rfl) ?_
 refine run_ops_nil ?_
 refine run_ifb rfl rfl (fun hb23 => ?_) (fun hb23 => ?_)
 ·replace hM := ite_t hb23 hM
  refine run_sr ?_
  refine run_pu rfl (build_step hG rfl (by rfl) rfl (fun h => by cases h) (by rfl)) rfl (ltb rfl) ?_
  refine yS hG rfl ?_
  refine yR rfl ?_
  refine yR rfl ?_
  refine run_ops_nil ?_
  refine run_ret_to ?_
  replace hM := some_t hM
  subst hM
  refine fin_x hG rfl rfl rfl (v' := .tup [.agg [.int .i64 0, .int .i64 0, .imm 0 3 true (fcellss []), .imm 0 4 true (pcellss [])], .bool false, .int .i64 0]) (by rfl) ⟨rfl, (show tk ≤ tk12 by omega), _, rfl, ⟨_, _, _, _, _, _, rfl, rfl, ⟨0, 0, 0, true, [], 0, true, [], rfl, rfl, fun _ => Fr.nil _ _⟩, rfl, rfl⟩⟩
 replace hM := ite_f hb23 hM
 refine run_skip ?_
 refine run_seq ?_
 refine run_sr ?_
 refine yD hG rfl ?_
 obtain ⟨r24, hg25, hM⟩ := bind_t hM
 refine yK rfl (s_ExprOK_ok n k15 n15 p15 e15 fs15 q15 f15 ks15 hg25 _ _) (callK_retX (fun v tk26 (hle27 : tk12 ≤ tk26) h28 => ?_))
 subst h28
 refine run_pu rfl (aun_step rfl rfl rfl) rfl (ltb rfl) ?_
 refine run_ops_nil ?_
 refine run_ifb rfl rfl (fun hb31 => ?_) (fun hb31 => ?_)
 ·replace hM := ite_t hb31 hM
  refine run_sr ?_
  refine run_pu rfl (build_step hG rfl (by rfl) rfl (fun h => by cases h) (by rfl)) rfl (ltb rfl) ?_
  refine yS hG rfl ?_
  refine yR rfl ?_
  refine yR rfl ?_
  refine run_ops_nil ?_
  refine run_ret_to ?_
  replace hM := some_t hM
  subst hM
  refine fin_x hG rfl rfl rfl (v' := .tup [.agg [.int .i64 0, .int .i64 0, .imm 0 3 true (fcellss []), .imm 0 4 true (pcellss [])], .bool false, .int .i64 11]) (by rfl) ⟨rfl, (show tk ≤ tk26 by omega), _, rfl, ⟨_, _, _, _, _, _, rfl, rfl, ⟨0, 0, 0, true, [], 0, true, [], rfl, rfl, fun _ => Fr.nil _ _⟩, rfl, rfl⟩⟩
 replace hM := ite_f hb31 hM
 refine run_skip ?_
 refine run_sr ?_
 refine yD hG rfl ?_
 refine yS hG rfl ?_
 refine yR rfl ?_
 refine yR rfl ?_
 refine run_ops_nil ?_
 refine run_ret_to ?_
 replace hM := some_t hM
 subst hM
 refine fin_x hG rfl rfl rfl (v' := .tup [.agg [.int .i64 k15, .int .i64 n15, .imm p15 3 e15 (fcellss fs15), .imm q15 4 f15 (pcellss ks15)], .bool true, .int .i64 0]) (by rfl) ⟨rfl, (show tk ≤ tk26 by omega), _, rfl, ⟨_, _, _, _, _, _, rfl, rfl, ⟨k15, n15, p15, e15, fs15, q15, f15, ks15, rfl, rfl, fun _ => (show Fr tk tk26 _ from ((show Fr tk4 tk12 _ from hf16 (by first | assumption | (simp only [Bool.not_eq_true', Bool.not_eq_false] at *; assumption)))).mono (by omega) (by omega))⟩, rfl, rfl⟩⟩

end Go.Am.Ytpkeophkdemcpaa
