/- Printed by a program of ours: Lean functions that do what the Go functions do, and the contracts. -/
import Derived.Test.YtpkeophkdemcpaaTypes
import Derived.Test.YtpkeophkdemcpaaMi4
import Derived.Test.YtpkeophkdemcpaaMc1
import Derived.Test.YtpkeophkdemcpaaMb3
import Derived.Test.YtpkeophkdemcpaaCuC
import Derived.Test.YtpkeophkdemcpaaMxProves
import Derived.Test.YtpkeophkdemcpaaMz
-- packed
namespace Go.Am.Ytpkeophkdemcpaa
open Go Go.Am

def s_CutProof (n : Nat) (l1 : List F) (x2 : Pf) (x3 : Pf) : Option (Pf × Int) :=
 if ((l1).length : Int) > 4096 then
  some ((Pf.mk 0 0 [] []), 2)
 else
  (s_l08Hyps n l1).bind fun r5 =>
  if (!r5) = true then
   some ((Pf.mk 0 0 [] []), 1)
  else
   (s_ProofOK n x2).bind fun r13 =>
   if (!r13) = true then
    some ((Pf.mk 0 0 [] []), 1)
   else
    (s_ProofOK n x3).bind fun r21 =>
    if (!r21) = true then
     some ((Pf.mk 0 0 [] []), 1)
    else
     (s_l08Proves n l1 x2 0).bind fun r29 =>
     if (r29.2.1 != 0) = true then
      some ((Pf.mk 0 0 [] []), r29.2.1)
     else
      (s_l08More l1 r29.1).bind fun r47 =>
      (s_l08Proves n r47 x3 0).bind fun r54 =>
      if (r54.2.1 != 0) = true then
       some ((Pf.mk 0 0 [] []), r54.2.1)
      else
       (s_l08Cut n x2 x3 0).bind fun r72 =>
       (s_ProofOK n r72).bind fun r79 =>
       if (!r79) = true then
        some ((Pf.mk 0 0 [] []), 11)
       else
        some (r72, 0)

set_option maxHeartbeats 20000000 in
set_option maxHeartbeats 20000000 in
set_option maxRecDepth 100000 in
theorem s_CutProof_ok (n : Nat) : ∀ (q1 : Nat) (f1 : Bool) (ks1 : List LF) (k2 : Int) (n2 : Int) (p2 : Nat) (e2 : Bool) (fs2 : List LF) (q2 : Nat) (f2 : Bool) (ks2 : List LP) (k3 : Int) (n3 : Int) (p3 : Nat) (e3 : Bool) (fs3 : List LF) (q3 : Nat) (f3 : Bool) (ks3 : List LP) {r : (Pf × Int)}, s_CutProof n (fers ks1) (Pf.mk k2 n2 (fers fs2) (pers ks2)) (Pf.mk k3 n3 (fers fs3) (pers ks3)) = some r → ∀ (O : Heap) (tk : Nat), ACalls Go.Proofs.Try.prog 32 [.imm q1 3 f1 (fcellss ks1), .agg [.int .i64 k2, .int .i64 n2, .imm p2 3 e2 (fcellss fs2), .imm q2 4 f2 (pcellss ks2)], .agg [.int .i64 k3, .int .i64 n3, .imm p3 3 e3 (fcellss fs3), .imm q3 4 f3 (pcellss ks3)]] O tk (RetX O tk (fun v tk' => ∃ r0' r1' v0' v1', r = (r0', r1') ∧ v = .tup [v0', v1'] ∧ VP true tk tk' r0' v0' ∧ v1' = .int .i64 r1')) := by
 intro q1 f1 ks1 k2 n2 p2 e2 fs2 q2 f2 ks2 k3 n3 p3 e3 fs3 q3 f3 ks3 r hM O tk
 unfold s_CutProof at hM
 refine acalls_of_run Go.Proofs.Try.func32 rfl rfl [] [] (Bor.nil _) [(0, .imm q1 3 f1 (fcellss ks1)), (1, .agg [.int .i64 k2, .int .i64 n2, .imm p2 3 e2 (fcellss fs2), .imm q2 4 f2 (pcellss ks2)]), (2, .agg [.int .i64 k3, .int .i64 n3, .imm p3 3 e3 (fcellss fs3), .imm q3 4 f3 (pcellss ks3)])] (.cons (entS rfl) (.cons (.agg _) (.cons (.agg _) (.nil _)))) (leb rfl) (fun _ h => by cases h) (fun S0 hO htk hfz => ?_)
 refine run_sr ?_
 refine run_op rfl (box_step (d := 4) rfl rfl rfl rfl rfl) rfl (ltb rfl) ?_
 refine run_op rfl (box_step (d := 5) rfl rfl rfl rfl rfl) rfl (ltb rfl) ?_
 refine run_op rfl (alloc_step (d := 6) hG rfl rfl rfl) rfl (ltb rfl) ?_
 refine yR rfl ?_
 refine yN ?_
 refine run_seq ?_
 refine run_sr ?_
 refine yL rfl ?_
 refine run_pu rfl (lenImm_step hG rfl rfl rfl rfl (flen _)) rfl (ltb rfl) ?_
 refine yB rfl ?_
 refine yN ?_
 refine run_ifd rfl rfl (fun hb4 => ?_) (fun hb4 => ?_)
 ·replace hM := ite_t hb4 hM
  refine run_sr ?_
  refine run_pu rfl (build_step hG rfl (by rfl) rfl (fun h => by cases h) (by rfl)) rfl (ltb rfl) ?_
  refine yS hG rfl ?_
  refine yR rfl ?_
  refine yN ?_
  refine run_ret_to ?_
  replace hM := some_t hM
  subst hM
  refine fin_x hG rfl rfl rfl (v' := .tup [.agg [.int .i64 0, .int .i64 0, .imm 0 3 true (fcellss []), .imm 0 4 true (pcellss [])], .int .i64 2]) (by rfl) ⟨rfl, (show tk ≤ tk by omega), _, rfl, ⟨_, _, _, _, rfl, rfl, ⟨0, 0, 0, true, [], 0, true, [], rfl, rfl, fun _ => Fr.nil _ _⟩, rfl⟩⟩
 replace hM := ite_f hb4 hM
 refine run_skip ?_
 refine run_seq ?_
 refine run_sr ?_
 refine yL rfl ?_
 obtain ⟨r5, hg6, hM⟩ := bind_t hM
 refine yK rfl (s_l08Hyps_ok n q1 f1 ks1 hg6 _ _) (callK_retX (fun v tk7 (hle8 : tk ≤ tk7) h9 => ?_))
 subst h9
 refine run_pu rfl (aun_step rfl rfl rfl) rfl (ltb rfl) ?_
 refine yL rfl ?_
 refine run_splitb (i := 19) rfl (fun hb12 => ?_) (fun hb12 => ?_)
 ·replace hM := ite_t hb12 hM
  refine yO rfl ?_
  refine yO rfl ?_
  refine yO rfl ?_
  refine yP rfl ?_
  refine yL rfl ?_
  refine yO rfl ?_
  refine yO rfl ?_
  refine yO rfl ?_
  refine yP rfl ?_
  refine yN ?_
  refine run_sub_code (σ' := ⟨[(0, .imm q1 3 f1 (fcellss ks1)), (4, .optr (.loc 4) 0 0), (5, .optr (.loc 5) 0 0), (6, .optr (.loc 6) 0 0), (7, .int .i64 0), (28, .bool true)], [(6, ⟨26, 4, true, [[.int .i64 0, .int .i64 0, .imm 0 3 true [], .imm 0 4 true []]]⟩), (5, ⟨26, 4, true, [[.int .i64 k3, .int .i64 n3, .imm p3 3 e3 (fcellss fs3), .imm q3 4 f3 (pcellss ks3)]]⟩), (4, ⟨26, 4, true, [[.int .i64 k2, .int .i64 n2, .imm p2 3 e2 (fcellss fs2), .imm q2 4 f2 (pcellss ks2)]]⟩)], [], O, tk7⟩) (Sub.env _ ⟨rfl, rfl, rfl, rfl, rfl, rfl, trivial⟩) ?_
  refine run_if rfl rfl (fun _ => ?_) (fun h => by cases h)
  refine run_sr ?_
  refine run_pu rfl (build_step hG rfl (by rfl) rfl (fun h => by cases h) (by rfl)) rfl (ltb rfl) ?_
  refine yS hG rfl ?_
  refine yR rfl ?_
  refine yN ?_
  refine run_ret_to ?_
  replace hM := some_t hM
  subst hM
  refine fin_x hG rfl rfl rfl (v' := .tup [.agg [.int .i64 0, .int .i64 0, .imm 0 3 true (fcellss []), .imm 0 4 true (pcellss [])], .int .i64 1]) (by rfl) ⟨rfl, (show tk ≤ tk7 by omega), _, rfl, ⟨_, _, _, _, rfl, rfl, ⟨0, 0, 0, true, [], 0, true, [], rfl, rfl, fun _ => Fr.nil _ _⟩, rfl⟩⟩
 replace hM := ite_f hb12 hM
 refine run_rdG (on_of rfl rfl rfl rfl) (aload_rd hG rfl rfl rfl (by first | (simp [ldok]; done) | exact List.not_mem_nil | trivial)) rfl (ltb rfl) ?_
 obtain ⟨r13, hg14, hM⟩ := bind_t hM
 refine yG (on_of rfl rfl rfl rfl) rfl (s_ProofOK_ok n k2 n2 p2 e2 fs2 q2 f2 ks2 hg14 _ _) (callK_retX (fun v tk15 (hle16 : tk7 ≤ tk15) h17 => ?_))
 subst h17
 refine run_puG (on_of rfl rfl rfl rfl) (aun_step rfl rfl rfl) rfl (ltb rfl) ?_
 refine yP rfl ?_
 refine yL rfl ?_
 refine run_splitb (i := 24) rfl (fun hb20 => ?_) (fun hb20 => ?_)
 ·replace hM := ite_t hb20 hM
  refine yO rfl ?_
  refine yO rfl ?_
  refine yO rfl ?_
  refine yP rfl ?_
  refine yN ?_
  refine run_sub_code (σ' := ⟨[(0, .imm q1 3 f1 (fcellss ks1)), (4, .optr (.loc 4) 0 0), (5, .optr (.loc 5) 0 0), (6, .optr (.loc 6) 0 0), (7, .int .i64 0), (28, .bool true)], [(6, ⟨26, 4, true, [[.int .i64 0, .int .i64 0, .imm 0 3 true [], .imm 0 4 true []]]⟩), (5, ⟨26, 4, true, [[.int .i64 k3, .int .i64 n3, .imm p3 3 e3 (fcellss fs3), .imm q3 4 f3 (pcellss ks3)]]⟩), (4, ⟨26, 4, true, [[.int .i64 k2, .int .i64 n2, .imm p2 3 e2 (fcellss fs2), .imm q2 4 f2 (pcellss ks2)]]⟩)], [], O, tk15⟩) (Sub.env _ ⟨rfl, rfl, rfl, rfl, rfl, rfl, trivial⟩) ?_
  refine run_if rfl rfl (fun _ => ?_) (fun h => by cases h)
  refine run_sr ?_
  refine run_pu rfl (build_step hG rfl (by rfl) rfl (fun h => by cases h) (by rfl)) rfl (ltb rfl) ?_
  refine yS hG rfl ?_
  refine yR rfl ?_
  refine yN ?_
  refine run_ret_to ?_
  replace hM := some_t hM
  subst hM
  refine fin_x hG rfl rfl rfl (v' := .tup [.agg [.int .i64 0, .int .i64 0, .imm 0 3 true (fcellss []), .imm 0 4 true (pcellss [])], .int .i64 1]) (by rfl) ⟨rfl, (show tk ≤ tk15 by omega), _, rfl, ⟨_, _, _, _, rfl, rfl, ⟨0, 0, 0, true, [], 0, true, [], rfl, rfl, fun _ => Fr.nil _ _⟩, rfl⟩⟩
 replace hM := ite_f hb20 hM
 refine run_rdG (on_of rfl rfl rfl rfl) (aload_rd hG rfl rfl rfl (by first | (simp [ldok]; done) | exact List.not_mem_nil | trivial)) rfl (ltb rfl) ?_
 obtain ⟨r21, hg22, hM⟩ := bind_t hM
 refine yG (on_of rfl rfl rfl rfl) rfl (s_ProofOK_ok n k3 n3 p3 e3 fs3 q3 f3 ks3 hg22 _ _) (callK_retX (fun v tk23 (hle24 : tk15 ≤ tk23) h25 => ?_))
 subst h25
 refine run_puG (on_of rfl rfl rfl rfl) (aun_step rfl rfl rfl) rfl (ltb rfl) ?_
 refine yP rfl ?_
 refine yN ?_
 refine run_sub_code (σ' := ⟨[(0, .imm q1 3 f1 (fcellss ks1)), (4, .optr (.loc 4) 0 0), (5, .optr (.loc 5) 0 0), (6, .optr (.loc 6) 0 0), (7, .int .i64 0), (28, .bool (!r21))], [(6, ⟨26, 4, true, [[.int .i64 0, .int .i64 0, .imm 0 3 true [], .imm 0 4 true []]]⟩), (5, ⟨26, 4, true, [[.int .i64 k3, .int .i64 n3, .imm p3 3 e3 (fcellss fs3), .imm q3 4 f3 (pcellss ks3)]]⟩), (4, ⟨26, 4, true, [[.int .i64 k2, .int .i64 n2, .imm p2 3 e2 (fcellss fs2), .imm q2 4 f2 (pcellss ks2)]]⟩)], [], O, tk23⟩) (Sub.env _ ⟨rfl, rfl, rfl, rfl, rfl, rfl, trivial⟩) ?_
 refine run_ifb rfl rfl (fun hb28 => ?_) (fun hb28 => ?_)
 ·replace hM := ite_t hb28 hM
  refine run_sr ?_
  refine run_pu rfl (build_step hG rfl (by rfl) rfl (fun h => by cases h) (by rfl)) rfl (ltb rfl) ?_
  refine yS hG rfl ?_
  refine yR rfl ?_
  refine yN ?_
  refine run_ret_to ?_
  replace hM := some_t hM
  subst hM
  refine fin_x hG rfl rfl rfl (v' := .tup [.agg [.int .i64 0, .int .i64 0, .imm 0 3 true (fcellss []), .imm 0 4 true (pcellss [])], .int .i64 1]) (by rfl) ⟨rfl, (show tk ≤ tk23 by omega), _, rfl, ⟨_, _, _, _, rfl, rfl, ⟨0, 0, 0, true, [], 0, true, [], rfl, rfl, fun _ => Fr.nil _ _⟩, rfl⟩⟩
 replace hM := ite_f hb28 hM
 refine run_skip ?_
 refine run_sr ?_
 refine yL rfl ?_
 refine yD hG rfl ?_
 obtain ⟨r29, hg30, hM⟩ := bind_t hM
 refine yK rfl (s_l08Proves_ok n q1 f1 ks1 k2 n2 p2 e2 fs2 q2 f2 ks2 0 hg30 _ _) (callK_retX (fun v tk31 (hle32 : tk23 ≤ tk31) h33 => ?_))
 obtain ⟨ra40, ra41, ra42, va43, va44, va45, rfl, rfl, ⟨k34, n34, q34, f34, ks34, rfl, rfl, hf35⟩, rfl, rfl⟩ := h33
 refine yL rfl ?_
 refine run_pu rfl (extract_step rfl rfl rfl) rfl (ltb rfl) ?_
 refine run_pu rfl (extract_step rfl rfl rfl) rfl (ltb rfl) ?_
 refine run_pu rfl (extract_step rfl rfl rfl) rfl (ltb rfl) ?_
 refine run_op rfl (alloc_step (d := 8) hG rfl rfl rfl) rfl (ltb rfl) ?_
 refine yS hG rfl ?_
 refine yR rfl ?_
 refine yR rfl ?_
 refine yN ?_
 refine run_seq ?_
 refine run_sr ?_
 refine yL rfl ?_
 refine yB rfl ?_
 refine yN ?_
 refine run_ifb rfl rfl (fun hb46 => ?_) (fun hb46 => ?_)
 ·replace hM := ite_t hb46 hM
  refine run_sr ?_
  refine run_pu rfl (build_step hG rfl (by rfl) rfl (fun h => by cases h) (by rfl)) rfl (ltb rfl) ?_
  refine yL rfl ?_
  refine yS hG rfl ?_
  refine yR rfl ?_
  refine yN ?_
  refine run_ret_to ?_
  replace hM := some_t hM
  subst hM
  refine fin_x hG rfl rfl rfl (v' := .tup [.agg [.int .i64 0, .int .i64 0, .imm 0 3 true (fcellss []), .imm 0 4 true (pcellss [])], .int .i64 ra41]) (by rfl) ⟨rfl, (show tk ≤ tk31 by omega), _, rfl, ⟨_, _, _, _, rfl, rfl, ⟨0, 0, 0, true, [], 0, true, [], rfl, rfl, fun _ => Fr.nil _ _⟩, rfl⟩⟩
 replace hM := ite_f hb46 hM
 refine run_skip ?_
 refine run_seq ?_
 refine run_seq ?_
 refine run_draw [] (n := 10) mixed rfl yE ?_
 refine yTV 0 (by kernel_rfl) rfl ?_
 refine yTL hG 1 (by kernel_rfl) rfl ?_
 refine yTL hG 3 (by kernel_rfl) rfl ?_
 obtain ⟨r47, hg48, hM⟩ := bind_t hM
 refine yC 2 (by kernel_rfl) rfl rfl (s_l08More_ok q1 f1 ks1 k34 n34 q34 f34 ks34 hg48 _ _) (callK_retX (fun v tk49 (hle50 : tk31 ≤ tk49) h51 => ?_))
 obtain ⟨q52, f52, ks52, rfl, rfl, hf53⟩ := h51
 obtain ⟨r54, hg55, hM⟩ := bind_t hM
 refine yC 4 (by kernel_rfl) rfl rfl (s_l08Proves_ok n q52 f52 ks52 k3 n3 p3 e3 fs3 q3 f3 ks3 0 hg55 _ _) (callK_retX (fun v tk56 (hle57 : tk49 ≤ tk56) h58 => ?_))
 obtain ⟨ra65, ra66, ra67, va68, va69, va70, rfl, rfl, ⟨k59, n59, q59, f59, ks59, rfl, rfl, hf60⟩, rfl, rfl⟩ := h58
 refine yTV 5 (by kernel_rfl) rfl ?_
 refine yT 6 (by kernel_rfl) rfl rfl rfl (ltb rfl) ((extract_step rfl rfl rfl).rd _) ?_
 refine yT 7 (by kernel_rfl) rfl rfl rfl (ltb rfl) ((extract_step rfl rfl rfl).rd _) ?_
 refine yT 8 (by kernel_rfl) rfl rfl rfl (ltb rfl) ((extract_step rfl rfl rfl).rd _) ?_
 refine yTW 9 (by kernel_rfl) rfl ?_
 refine AAny.done (by kernel_rfl) ?_
 refine run_sub_code (σ' := ⟨[(4, .optr (.loc 4) 0 0), (5, .optr (.loc 5) 0 0), (6, .optr (.loc 6) 0 0), (7, .int .i64 0), (9, .int .i64 ra66)], [(6, ⟨26, 4, true, [[.int .i64 0, .int .i64 0, .imm 0 3 true [], .imm 0 4 true []]]⟩), (5, ⟨26, 4, true, [[.int .i64 k3, .int .i64 n3, .imm p3 3 e3 (fcellss fs3), .imm q3 4 f3 (pcellss ks3)]]⟩), (4, ⟨26, 4, true, [[.int .i64 k2, .int .i64 n2, .imm p2 3 e2 (fcellss fs2), .imm q2 4 f2 (pcellss ks2)]]⟩)], [], O, tk56⟩) (Sub.trans (Sub.drop (k := 8) rfl) (Sub.env _ ⟨rfl, rfl, rfl, rfl, rfl, trivial⟩)) ?_
 refine run_sr ?_
 refine yL rfl ?_
 refine yB rfl ?_
 refine yN ?_
 refine run_ifb rfl rfl (fun hb71 => ?_) (fun hb71 => ?_)
 ·replace hM := ite_t hb71 hM
  refine run_sr ?_
  refine run_pu rfl (build_step hG rfl (by rfl) rfl (fun h => by cases h) (by rfl)) rfl (ltb rfl) ?_
  refine yL rfl ?_
  refine yS hG rfl ?_
  refine yR rfl ?_
  refine yN ?_
  refine run_ret_to ?_
  replace hM := some_t hM
  subst hM
  refine fin_x hG rfl rfl rfl (v' := .tup [.agg [.int .i64 0, .int .i64 0, .imm 0 3 true (fcellss []), .imm 0 4 true (pcellss [])], .int .i64 ra66]) (by rfl) ⟨rfl, (show tk ≤ tk56 by omega), _, rfl, ⟨_, _, _, _, rfl, rfl, ⟨0, 0, 0, true, [], 0, true, [], rfl, rfl, fun _ => Fr.nil _ _⟩, rfl⟩⟩
 replace hM := ite_f hb71 hM
 refine run_skip ?_
 refine run_sr ?_
 refine yD hG rfl ?_
 refine yD hG rfl ?_
 obtain ⟨r72, hg73, hM⟩ := bind_t hM
 refine yK rfl (s_l08Cut_ok n k2 n2 p2 e2 fs2 q2 f2 ks2 k3 n3 p3 e3 fs3 q3 f3 ks3 0 hg73 _ _) (callK_retX (fun v tk74 (hle75 : tk56 ≤ tk74) h76 => ?_))
 obtain ⟨k77, n77, p77, e77, fs77, q77, f77, ks77, rfl, rfl, hf78⟩ := h76
 refine run_op rfl (alloc_step (d := 11) hG rfl rfl rfl) rfl (ltb rfl) ?_
 refine yS hG rfl ?_
 refine yN ?_
 refine run_seq ?_
 refine run_sr ?_
 refine yD hG rfl ?_
 obtain ⟨r79, hg80, hM⟩ := bind_t hM
 refine yK rfl (s_ProofOK_ok n k77 n77 p77 e77 fs77 q77 f77 ks77 hg80 _ _) (callK_retX (fun v tk81 (hle82 : tk74 ≤ tk81) h83 => ?_))
 subst h83
 refine run_pu rfl (aun_step rfl rfl rfl) rfl (ltb rfl) ?_
 refine yN ?_
 refine run_ifb rfl rfl (fun hb86 => ?_) (fun hb86 => ?_)
 ·replace hM := ite_t hb86 hM
  refine run_sr ?_
  refine run_pu rfl (build_step hG rfl (by rfl) rfl (fun h => by cases h) (by rfl)) rfl (ltb rfl) ?_
  refine yS hG rfl ?_
  refine yR rfl ?_
  refine yN ?_
  refine run_ret_to ?_
  replace hM := some_t hM
  subst hM
  refine fin_x hG rfl rfl rfl (v' := .tup [.agg [.int .i64 0, .int .i64 0, .imm 0 3 true (fcellss []), .imm 0 4 true (pcellss [])], .int .i64 11]) (by rfl) ⟨rfl, (show tk ≤ tk81 by omega), _, rfl, ⟨_, _, _, _, rfl, rfl, ⟨0, 0, 0, true, [], 0, true, [], rfl, rfl, fun _ => Fr.nil _ _⟩, rfl⟩⟩
 replace hM := ite_f hb86 hM
 refine run_skip ?_
 refine run_sr ?_
 refine yD hG rfl ?_
 refine yS hG rfl ?_
 refine yR rfl ?_
 refine yN ?_
 refine run_ret_to ?_
 replace hM := some_t hM
 subst hM
 refine fin_x hG rfl rfl rfl (v' := .tup [.agg [.int .i64 k77, .int .i64 n77, .imm p77 3 e77 (fcellss fs77), .imm q77 4 f77 (pcellss ks77)], .int .i64 0]) (by rfl) ⟨rfl, (show tk ≤ tk81 by omega), _, rfl, ⟨_, _, _, _, rfl, rfl, ⟨k77, n77, p77, e77, fs77, q77, f77, ks77, rfl, rfl, fun _ => (show Fr tk tk81 _ from ((show Fr tk56 tk74 _ from hf78 rfl)).mono (by omega) (by omega))⟩, rfl⟩⟩

end Go.Am.Ytpkeophkdemcpaa
