/- Printed by a program of ours: Lean functions that do what the Go functions do, and the contracts. -/
import Derived.Test.YtpkeophkdemcpaaTypes
import Derived.Test.YtpkeophkdemcpaaMi4
import Derived.Test.YtpkeophkdemcpaaMc1
import Derived.Test.YtpkeophkdemcpaaMb3
import Derived.Test.YtpkeophkdemcpaaCuA
import Derived.Test.YtpkeophkdemcpaaMxProves
import Derived.Test.YtpkeophkdemcpaaMz
-- packed
namespace Go.Am.Ytpkeophkdemcpaa
open Go Go.Am

def i_CutProof_c1 (n : Nat) (l1 : List F) (x2 : Pf) (x3 : Pf) : Option (Rz Unit) :=
 zb (i_proves n l1 x2 0) fun r4 =>
 chk ((l1).length + ([r4]).length ≤ 1099511627776) <|
 zb (i_proves n (l1 ++ [r4]) x3 0) fun r14 =>
 some (.ok ())

set_option maxRecDepth 100000 in
theorem i_CutProof_c1_ok (n : Nat) : ∀ (X0 : ID) (q1 : Nat) (f1 : Bool) (ks1 : List LF) (X1 : ID) (k2 : Int) (n2 : Int) (p2 : Nat) (e2 : Bool) (fs2 : List LF) (q2 : Nat) (f2 : Bool) (ks2 : List LP) (X2 : ID) (k3 : Int) (n3 : Int) (p3 : Nat) (e3 : Bool) (fs3 : List LF) (q3 : Nat) (f3 : Bool) (ks3 : List LP) {r : (Rz Unit)}, i_CutProof_c1 n (fers ks1) (Pf.mk k2 n2 (fers fs2) (pers ks2)) (Pf.mk k3 n3 (fers fs3) (pers ks3)) = some r → ∀ (O : Heap) (tk : Nat), O X0 = some ⟨23, 1, true, [[.imm q1 3 f1 (fcellss ks1)]]⟩ → O X1 = some ⟨26, 4, true, [[.int .i64 k2, .int .i64 n2, .imm p2 3 e2 (fcellss fs2), .imm q2 4 f2 (pcellss ks2)]]⟩ → O X2 = some ⟨26, 4, true, [[.int .i64 k3, .int .i64 n3, .imm p3 3 e3 (fcellss fs3), .imm q3 4 f3 (pcellss ks3)]]⟩ → X0 ≠ X1 → X0 ≠ X2 → X1 ≠ X2 → ACalls Go.Proofs.Try.prog 98 [.optr X0 0 0, .optr X1 0 0, .optr X2 0 0] O tk (RetZ HT O tk r (fun r v tk' => v = .tup [])) := by
 intro X0 q1 f1 ks1 X1 k2 n2 p2 e2 fs2 q2 f2 ks2 X2 k3 n3 p3 e3 fs3 q3 f3 ks3 r hM O tk hX0 hX1 hX2 hN01 hN02 hN12
 unfold i_CutProof_c1 at hM
 refine acalls_of_run Go.Proofs.Try.func98 rfl rfl [X0, X1, X2] [⟨23, 1, true, [[.imm q1 3 f1 (fcellss ks1)]]⟩, ⟨26, 4, true, [[.int .i64 k2, .int .i64 n2, .imm p2 3 e2 (fcellss fs2), .imm q2 4 f2 (pcellss ks2)]]⟩, ⟨26, 4, true, [[.int .i64 k3, .int .i64 n3, .imm p3 3 e3 (fcellss fs3), .imm q3 4 f3 (pcellss ks3)]]⟩] (Bor.cons hX0 rfl (by simp only [List.mem_cons, List.not_mem_nil, or_false, not_or]; exact ⟨hN01, hN02⟩) (Bor.cons hX1 rfl (by simp only [List.mem_cons, List.not_mem_nil, or_false, not_or]; exact hN12) (Bor.cons hX2 rfl (List.not_mem_nil) (Bor.nil _)))) [(0, .optr (.bor 0) 0 0), (1, .optr (.bor 1) 0 0), (2, .optr (.bor 2) 0 0)] (.cons (.bor 0 _ _ _ rfl) (.cons (.bor 1 _ _ _ rfl) (.cons (.bor 2 _ _ _ rfl) (.nil _)))) (leb rfl) (by intro y h; simp only [List.mem_cons, List.not_mem_nil, or_false] at h; rcases h with rfl | rfl | rfl <;> simp [tch, tch0]) (fun S0 hO htk hfz => ?_)
 refine run_draw [] (n := 9) mixed rfl yE ?_
 refine yTL hG 0 (by kernel_rfl) rfl ?_
 refine yTL hG 2 (by kernel_rfl) rfl ?_
 refine yTL hG 3 (by kernel_rfl) rfl ?_
 refine yTL hG 7 (by kernel_rfl) rfl ?_
 refine yC 1 (by kernel_rfl) rfl rfl (g_Clip_Form_ex q1 f1 ks1 _ _) (callK_retN ?_)
 skip
 obtain ⟨z9, hg5, hM⟩ := zb_t hM
 refine yC 4 (by kernel_rfl) rfl rfl (i_proves_ok n q1 f1 ks1 k2 n2 p2 e2 fs2 q2 f2 ks2 0 hg5 _ _) (callK_retZ (fun r4 v tk6 hz12 (hle7 : tk ≤ tk6) h8 => ?_) (fun c p tk6 hz (_ : tk ≤ tk6) => by subst hz; obtain rfl := bd_stop hM; exact run_pan_at (⟨out_same (Bor.cons hX0 rfl (by simp only [List.mem_cons, List.not_mem_nil, or_false, not_or]; exact ⟨hN01, hN02⟩) (Bor.cons hX1 rfl (by simp only [List.mem_cons, List.not_mem_nil, or_false, not_or]; exact hN12) (Bor.cons hX2 rfl (List.not_mem_nil) (Bor.nil _)))), (show tk ≤ tk6 by omega), rfl⟩)))
 subst hz12
 replace hM := bd_ok hM
 obtain ⟨k10, n10, q10, f10, ks10, rfl, rfl, hf11⟩ := h8
 refine AAny.one (i := 5) (by kernel_rfl) (AOp.step rfl rfl rfl (ltb rfl) (buildSlice_step (d := 8) hG rfl rfl rfl rfl rfl (by rfl) (by rfl) (by rfl) (by decide)) yE ?_)
 obtain ⟨hc13, hM⟩ := chk_t hM
 try rw [show ((fers ks1) ++ [(F.mk k10 n10 (fers ks10))] : List F) = (fers (ks1 ++ [LF.mk k10 n10 q10 f10 ks10])) from fers_app ks1 [LF.mk k10 n10 q10 f10 ks10]] at hM
 refine AAny.one (i := 6) (by kernel_rfl) (AOp.step rfl rfl rfl (ltb rfl) (appendFM_step (d := 9) hG rfl rfl rfl rfl rfl rfl rfl (fcellss_sz ks1) rfl (fcellss_sz ([LF.mk k10 n10 q10 f10 ks10])) (flen ks1) (flen ([LF.mk k10 n10 q10 f10 ks10])) (by simp [fers]) hc13 (by decide) (fcellss_app _ _)) yE ?_)
 refine AAny.sub (Sub.freeze (k := 9) rfl rfl) yE ?_
 obtain ⟨z19, hg15, hM⟩ := zb_t hM
 refine yC 8 (by kernel_rfl) rfl rfl (i_proves_ok n tk6 false (ks1 ++ [LF.mk k10 n10 q10 f10 ks10]) k3 n3 p3 e3 fs3 q3 f3 ks3 0 hg15 _ _) (callK_retZ (fun r14 v tk16 hz22 (hle17 : (tk6 + 1) ≤ tk16) h18 => ?_) (fun c p tk16 hz (_ : (tk6 + 1) ≤ tk16) => by subst hz; obtain rfl := bd_stop hM; exact run_pan_at (⟨out_same (Bor.cons hX0 rfl (by simp only [List.mem_cons, List.not_mem_nil, or_false, not_or]; exact ⟨hN01, hN02⟩) (Bor.cons hX1 rfl (by simp only [List.mem_cons, List.not_mem_nil, or_false, not_or]; exact hN12) (Bor.cons hX2 rfl (List.not_mem_nil) (Bor.nil _)))), (show tk ≤ tk16 by omega), rfl⟩)))
 subst hz22
 replace hM := bd_ok hM
 obtain ⟨k20, n20, q20, f20, ks20, rfl, rfl, hf21⟩ := h18
 refine AAny.done (by kernel_rfl) ?_
 show Results _ _ _ _
 replace hM := some_t hM
 subst hM
 refine fin_x hG rfl rfl rfl (v' := .tup []) (by rfl) ⟨out_same (Bor.cons hX0 rfl (by simp only [List.mem_cons, List.not_mem_nil, or_false, not_or]; exact ⟨hN01, hN02⟩) (Bor.cons hX1 rfl (by simp only [List.mem_cons, List.not_mem_nil, or_false, not_or]; exact hN12) (Bor.cons hX2 rfl (List.not_mem_nil) (Bor.nil _)))), (show tk ≤ tk16 by omega), _, rfl, rfl⟩

def i_CutProof_c2 (n : Nat) (i1 : Int) (i2 : Int) (x3 : Pf) : Option Pf :=
 if i1 = i2 then
  (i_Proof_lifted n x3 i2).bind fun r5 =>
  some r5
 else
  if i1 > i2 then
   some (Pf.mk 1 (IntKind.i64.wrap (i1 - 1)) [] [])
  else
   some (Pf.mk 1 i1 [] [])

set_option maxRecDepth 100000 in
theorem i_CutProof_c2_ok (n : Nat) : ∀ (i1 : Int) (i2 : Int) (X0 : ID) (k3 : Int) (n3 : Int) (p3 : Nat) (e3 : Bool) (fs3 : List LF) (q3 : Nat) (f3 : Bool) (ks3 : List LP) {r : Pf}, i_CutProof_c2 n i1 i2 (Pf.mk k3 n3 (fers fs3) (pers ks3)) = some r → ∀ (O : Heap) (tk : Nat), O X0 = some ⟨26, 4, true, [[.int .i64 k3, .int .i64 n3, .imm p3 3 e3 (fcellss fs3), .imm q3 4 f3 (pcellss ks3)]]⟩ → ACalls Go.Proofs.Try.prog 101 [.int .i64 i1, .int .i64 i2, .optr X0 0 0] O tk (RetX O tk (fun v tk' => VP true tk tk' r v)) := by
 intro i1 i2 X0 k3 n3 p3 e3 fs3 q3 f3 ks3 r hM O tk hX0
 unfold i_CutProof_c2 at hM
 refine acalls_of_run Go.Proofs.Try.func101 rfl rfl [X0] [⟨26, 4, true, [[.int .i64 k3, .int .i64 n3, .imm p3 3 e3 (fcellss fs3), .imm q3 4 f3 (pcellss ks3)]]⟩] (Bor.one hX0 rfl) [(0, .int .i64 i1), (1, .int .i64 i2), (2, .optr (.bor 0) 0 0)] (.cons (entS rfl) (.cons (entS rfl) (.cons (.bor 0 _ _ _ rfl) (.nil _)))) (leb rfl) (by intro y h; simp only [List.mem_cons, List.not_mem_nil, or_false] at h; rcases h with rfl <;> simp [tch, tch0]) (fun S0 hO htk hfz => ?_)
 refine run_sr ?_
 refine run_op rfl (alloc_step (d := 5) hG rfl rfl rfl) rfl (ltb rfl) ?_
 refine yN ?_
 refine run_seq ?_
 refine run_block ?_
 refine run_sr ?_
 refine yL rfl ?_
 refine yL rfl ?_
 refine yB rfl ?_
 refine yR rfl ?_
 refine yN ?_
 refine run_ifd rfl rfl (fun hb4 => ?_) (fun hb4 => ?_)
 ·replace hM := ite_t hb4 hM
  refine run_sr ?_
  refine yD hG rfl ?_
  refine yL rfl ?_
  obtain ⟨r5, hg6, hM⟩ := bind_t hM
  refine yK rfl (i_Proof_lifted_ok n k3 n3 p3 e3 fs3 q3 f3 ks3 i2 hg6 _ _) (callK_retX (fun v tk7 (hle8 : tk ≤ tk7) h9 => ?_))
  obtain ⟨k10, n10, p10, e10, fs10, q10, f10, ks10, rfl, rfl, hf11⟩ := h9
  refine yS hG rfl ?_
  refine yN ?_
  refine run_ret_to ?_
  replace hM := some_t hM
  subst hM
  refine fin_x hG rfl rfl rfl (v' := .agg [.int .i64 k10, .int .i64 n10, .imm p10 3 e10 (fcellss fs10), .imm q10 4 f10 (pcellss ks10)]) (by rfl) ⟨out_same (Bor.one hX0 rfl), (show tk ≤ tk7 by omega), _, rfl, ⟨k10, n10, p10, e10, fs10, q10, f10, ks10, rfl, rfl, fun _ => (show Fr tk tk7 _ from ((show Fr tk tk7 _ from hf11 rfl)).mono (by omega) (by omega))⟩⟩
 replace hM := ite_f hb4 hM
 refine run_sr ?_
 refine yL rfl ?_
 refine yL rfl ?_
 refine yB rfl ?_
 refine yR rfl ?_
 refine yN ?_
 refine run_ifd rfl rfl (fun hb12 => ?_) (fun hb12 => ?_)
 ·replace hM := ite_t hb12 hM
  refine run_region ?_
  refine yL rfl ?_
  refine yB rfl ?_
  refine yR rfl ?_
  refine yN ?_
  refine run_blk ?_
  refine run_sr ?_
  refine yL rfl ?_
  refine run_pu rfl (build_step hG rfl (by rfl) rfl (fun h => by cases h) (by rfl)) rfl (ltb rfl) ?_
  refine yS hG rfl ?_
  refine yN ?_
  refine run_ret_to ?_
  replace hM := some_t hM
  subst hM
  refine fin_x hG rfl rfl rfl (v' := .agg [.int .i64 1, .int .i64 (IntKind.i64.wrap (i1 - 1)), .imm 0 3 true (fcellss []), .imm 0 4 true (pcellss [])]) (by rfl) ⟨out_same (Bor.one hX0 rfl), (show tk ≤ tk by omega), _, rfl, ⟨1, (IntKind.i64.wrap (i1 - 1)), 0, true, [], 0, true, [], rfl, rfl, fun _ => Fr.nil _ _⟩⟩
 replace hM := ite_f hb12 hM
 refine run_skip ?_
 refine run_blk ?_
 refine run_sr ?_
 refine yL rfl ?_
 refine run_pu rfl (build_step hG rfl (by rfl) rfl (fun h => by cases h) (by rfl)) rfl (ltb rfl) ?_
 refine yS hG rfl ?_
 refine yN ?_
 refine run_ret_to ?_
 replace hM := some_t hM
 subst hM
 refine fin_x hG rfl rfl rfl (v' := .agg [.int .i64 1, .int .i64 i1, .imm 0 3 true (fcellss []), .imm 0 4 true (pcellss [])]) (by rfl) ⟨out_same (Bor.one hX0 rfl), (show tk ≤ tk by omega), _, rfl, ⟨1, i1, 0, true, [], 0, true, [], rfl, rfl, fun _ => Fr.nil _ _⟩⟩

def i_Proof_moved__fn_i_CutProof_c2v_L1 (rec_i_Proof_moved__fn_i_CutProof_c2v : Pf → Int → Pf → Option Pf) (x1 : Pf) (x3 : Pf) (i13 : Int) (i14 : Int) (l15 : List F) (i32 : Int) : Nat → Int → List Pf → Option Pf
 | 0, _, _ => none
 | m + 1, i34, l35 =>
  if i34 < ((x1.kids).length : Int) then
   (idx x1.kids i34).bind fun y37 =>
   (rec_i_Proof_moved__fn_i_CutProof_c2v y37 i32 x3).bind fun r42 =>
   chk ((l35).length + ([r42]).length ≤ 1099511627776) <|
   i_Proof_moved__fn_i_CutProof_c2v_L1 rec_i_Proof_moved__fn_i_CutProof_c2v x1 x3 i13 i14 l15 i32 m (IntKind.i64.wrap (i34 + 1)) (l35 ++ [r42])
  else
   some (Pf.mk i13 i14 l15 l35)

def i_Proof_moved__fn_i_CutProof_c2v : Nat → Pf → Int → Pf → Option Pf
 | 0, _, _, _ => none
 | n + 1, x1, i2, x3 =>
  if x1.kind = 1 then
   (i_CutProof_c2 n x1.n i2 x3).bind fun r5 =>
   some r5
  else
   jn (fun (i13 : Int) (i14 : Int) (l15 : List F) =>
    jn (fun (i32 : Int) =>
     if 0 < ((x1.kids).length : Int) then
      (idx x1.kids 0).bind fun y60 =>
      (i_Proof_moved__fn_i_CutProof_c2v n y60 i32 x3).bind fun r65 =>
      chk ((([] : List Pf)).length + ([r65]).length ≤ 1099511627776) <|
      i_Proof_moved__fn_i_CutProof_c2v_L1 (i_Proof_moved__fn_i_CutProof_c2v n) x1 x3 i13 i14 l15 i32 n (IntKind.i64.wrap (0 + 1)) (([] : List Pf) ++ [r65])
     else
      some (Pf.mk i13 i14 l15 [])) fun j31 =>
    if x1.kind = 5 then
     j31 (IntKind.i64.wrap (i2 + 1))
    else
     j31 i2) fun j12 =>
   (i_cloneForms n x1.forms).bind fun r17 =>
   j12 x1.kind 0 r17

def i_Proof_moved__fn_i_CutProof_c2v_P (n : Nat) : Prop := ∀ (k1 : Int) (n1 : Int) (p1 : Nat) (e1 : Bool) (fs1 : List LF) (q1 : Nat) (f1 : Bool) (ks1 : List LP) (i2 : Int) (X0 : ID) (k3 : Int) (n3 : Int) (p3 : Nat) (e3 : Bool) (fs3 : List LF) (q3 : Nat) (f3 : Bool) (ks3 : List LP) {r : Pf}, i_Proof_moved__fn_i_CutProof_c2v n (Pf.mk k1 n1 (fers fs1) (pers ks1)) i2 (Pf.mk k3 n3 (fers fs3) (pers ks3)) = some r → ∀ (O : Heap) (tk : Nat), O X0 = some ⟨26, 4, true, [[.int .i64 k3, .int .i64 n3, .imm p3 3 e3 (fcellss fs3), .imm q3 4 f3 (pcellss ks3)]]⟩ → ACalls Go.Proofs.Try.prog 100 [.agg [.int .i64 k1, .int .i64 n1, .imm p1 3 e1 (fcellss fs1), .imm q1 4 f1 (pcellss ks1)], .int .i64 i2, .fn (.func 101) [] [.optr X0 0 0]] O tk (RetX O tk (fun v tk' => VP true tk tk' r v))

set_option maxHeartbeats 20000000 in
set_option maxHeartbeats 20000000 in
set_option maxRecDepth 100000 in
theorem i_Proof_moved__fn_i_CutProof_c2v_st (n : Nat) (ih_i_Proof_moved__fn_i_CutProof_c2v : i_Proof_moved__fn_i_CutProof_c2v_P n) : i_Proof_moved__fn_i_CutProof_c2v_P (n + 1) := by
 intro k1 n1 p1 e1 fs1 q1 f1 ks1 i2 X0 k3 n3 p3 e3 fs3 q3 f3 ks3 r hM O tk hX0
 rw [i_Proof_moved__fn_i_CutProof_c2v] at hM
 refine acalls_of_run Go.Proofs.Try.func100 rfl rfl [X0] [⟨26, 4, true, [[.int .i64 k3, .int .i64 n3, .imm p3 3 e3 (fcellss fs3), .imm q3 4 f3 (pcellss ks3)]]⟩] (Bor.one hX0 rfl) [(0, .agg [.int .i64 k1, .int .i64 n1, .imm p1 3 e1 (fcellss fs1), .imm q1 4 f1 (pcellss ks1)]), (1, .int .i64 i2), (2, .fn (.func 101) [] [.optr (.bor 0) 0 0])] (.cons (.agg _) (.cons (entS rfl) (.cons (ent_fn (.bor 0 _ _ _ rfl)) (.nil _)))) (leb rfl) (by intro y h; simp only [List.mem_cons, List.not_mem_nil, or_false] at h; rcases h with rfl <;> simp [tch, tch0]) (fun S0 hO htk hfz => ?_)
 refine run_sr ?_
 refine run_op rfl (box_step (d := 3) rfl rfl rfl rfl rfl) rfl (ltb rfl) ?_
 refine run_op rfl (alloc_step (d := 6) hG rfl rfl rfl) rfl (ltb rfl) ?_
 refine yN ?_
 refine run_seq ?_
 refine run_sr ?_
 refine yF hG rfl ?_
 refine yD hG rfl ?_
 refine yB rfl ?_
 refine yN ?_
 refine run_ifd rfl rfl (fun hb4 => ?_) (fun hb4 => ?_)
 ·replace hM := ite_t hb4 hM
  refine run_sr ?_
  refine yL rfl ?_
  refine yF hG rfl ?_
  refine yD hG rfl ?_
  refine yL rfl ?_
  obtain ⟨r5, hg6, hM⟩ := bind_t hM
  refine yK rfl (i_CutProof_c2_ok n n1 i2 (.bor 0) k3 n3 p3 e3 fs3 q3 f3 ks3 hg6 _ _ rfl) (callK_retX (fun v tk7 (hle8 : tk ≤ tk7) h9 => ?_))
  obtain ⟨k10, n10, p10, e10, fs10, q10, f10, ks10, rfl, rfl, hf11⟩ := h9
  refine yS hG rfl ?_
  refine yN ?_
  refine run_ret_to ?_
  replace hM := some_t hM
  subst hM
  refine fin_x hG rfl rfl rfl (v' := .agg [.int .i64 k10, .int .i64 n10, .imm p10 3 e10 (fcellss fs10), .imm q10 4 f10 (pcellss ks10)]) (by rfl) ⟨out_same (Bor.one hX0 rfl), (show tk ≤ tk7 by omega), _, rfl, ⟨k10, n10, p10, e10, fs10, q10, f10, ks10, rfl, rfl, fun _ => (show Fr tk tk7 _ from ((show Fr tk tk7 _ from hf11 rfl)).mono (by omega) (by omega))⟩⟩
 replace hM := ite_f hb4 hM
 refine run_skip ?_
 refine run_seq ?_
 obtain ⟨j12, hj86, hM⟩ := jn_t hM
 refine run_cutL [.code _] (fun σ' => ∃ (i13 : Int) (i14 : Int) (q15 : Nat) (f15 : Bool) (ks15 : List LF) (tkj12 : Nat), tk ≤ tkj12 ∧ Fr tk tkj12 (fstoks q15 ks15) ∧ j12 i13 i14 (fers ks15) = some r ∧ Sub ⟨Go.Proofs.Try.prog, S0, Go.Proofs.Try.f100.ntmps, [X0], fun _ => False, []⟩ σ' ⟨[(1, .int .i64 i2), (2, .fn (.func 101) [] [.optr (.bor 0) 0 0]), (3, .optr (.loc 3) 0 0), (6, .optr (.loc 6) 0 0), (7, .optr (.loc 7) 0 0)], [(7, ⟨26, 4, true, [[.int .i64 i13, .int .i64 i14, .imm q15 3 f15 (fcellss ks15), .imm 0 4 true []]]⟩), (6, ⟨26, 4, true, [[.int .i64 0, .int .i64 0, .imm 0 3 true [], .imm 0 4 true []]]⟩), (3, ⟨26, 4, true, [[.int .i64 k1, .int .i64 n1, .imm p1 3 e1 (fcellss fs1), .imm q1 4 f1 (pcellss ks1)]]⟩)], [⟨26, 4, true, [[.int .i64 k3, .int .i64 n3, .imm p3 3 e3 (fcellss fs3), .imm q3 4 f3 (pcellss ks3)]]⟩], O, tkj12⟩) rfl ?_ ?_
 ·refine run_draw [] (n := 8) mixed rfl yE ?_
  refine yTF hG 0 (by kernel_rfl) rfl ?_
  refine yTL hG 1 (by kernel_rfl) rfl ?_
  refine yTF hG 2 (by kernel_rfl) rfl ?_
  refine yTL hG 3 (by kernel_rfl) rfl ?_
  refine AAny.eachN (rs := [4, 6]) (by kernel_rfl) (fun h => by cases h) (fun i hi => ?_)
  simp only [List.mem_cons, List.not_mem_nil, or_false] at hi
  rcases hi with rfl | rfl
  ·refine AOpN.of ?_
   obtain ⟨r17, hg18, hM⟩ := bind_t hM
   refine yI rfl rfl (i_cloneForms_ok n p1 e1 fs1 hg18 _ _) (callK_retX (fun v tk19 (hle20 : tk ≤ tk19) h21 => ?_))
   obtain ⟨q22, f22, ks22, rfl, rfl, hf23⟩ := h21
   refine yT 5 (by kernel_rfl) rfl rfl rfl (ltb rfl) ((build_step hG rfl (by rfl) rfl (fun h => by cases h) (by rfl)).rd _) ?_
   refine AAny.eachN (rs := [6]) (by kernel_rfl) (fun h => by cases h) (fun i hi => ?_)
   simp only [List.mem_cons, List.not_mem_nil, or_false] at hi
   subst hi
   ·refine AOpN.alloc hG rfl rfl rfl (ltb rfl) rfl rfl rfl ?_
    refine yW hG 7 (by kernel_rfl) rfl (by kernel_rfl) rfl ?_
    refine AAny.done (by kernel_rfl) ?_
    exact ⟨k1, 0, q22, f22, ks22, tk19, (show tk ≤ tk19 by omega), (show Fr tk tk19 _ from ((show Fr tk tk19 _ from hf23 rfl)).mono (by omega) (by omega)), hM, Sub.pk [1, 2, 3, 6, 7] rfl⟩
  refine AOpN.alloc hG rfl rfl rfl (ltb rfl) rfl rfl rfl ?_
  obtain ⟨r24, hg25, hM⟩ := bind_t hM
  refine yC 4 (by kernel_rfl) rfl rfl (i_cloneForms_ok n p1 e1 fs1 hg25 _ _) (callK_retX (fun v tk26 (hle27 : tk ≤ tk26) h28 => ?_))
  obtain ⟨q29, f29, ks29, rfl, rfl, hf30⟩ := h28
  refine yT 5 (by kernel_rfl) rfl rfl rfl (ltb rfl) ((build_step hG rfl (by rfl) rfl (fun h => by cases h) (by rfl)).rd _) ?_
  refine yW hG 7 (by kernel_rfl) rfl (by kernel_rfl) rfl ?_
  refine AAny.done (by kernel_rfl) ?_
  exact ⟨k1, 0, q29, f29, ks29, tk26, (show tk ≤ tk26 by omega), (show Fr tk tk26 _ from ((show Fr tk tk26 _ from hf30 rfl)).mono (by omega) (by omega)), hM, Sub.pk [1, 2, 3, 6, 7] rfl⟩
 clear hM
 rintro σ' ⟨i13, i14, q15, f15, ks15, tkj12, hle85, hfr16, hM, hsub⟩
 rw [hj86] at hM
 clear hj86
 refine run_sub_code hsub ?_
 refine run_seq ?_
 refine run_sr ?_
 refine yF hG rfl ?_
 refine yD hG rfl ?_
 refine yB rfl ?_
 refine yN ?_
 obtain ⟨j31, hj84, hM⟩ := jn_t hM
 refine run_cutL [.code _] (fun σ' => ∃ (i32 : Int) (tkj31 : Nat), tkj12 ≤ tkj31 ∧ j31 i32 = some r ∧ Sub ⟨Go.Proofs.Try.prog, S0, Go.Proofs.Try.f100.ntmps, [X0], fun _ => False, []⟩ σ' ⟨[(1, .int .i64 i32), (2, .fn (.func 101) [] [.optr (.bor 0) 0 0]), (3, .optr (.loc 3) 0 0), (6, .optr (.loc 6) 0 0), (7, .optr (.loc 7) 0 0)], [(7, ⟨26, 4, true, [[.int .i64 i13, .int .i64 i14, .imm q15 3 f15 (fcellss ks15), .imm 0 4 true []]]⟩), (6, ⟨26, 4, true, [[.int .i64 0, .int .i64 0, .imm 0 3 true [], .imm 0 4 true []]]⟩), (3, ⟨26, 4, true, [[.int .i64 k1, .int .i64 n1, .imm p1 3 e1 (fcellss fs1), .imm q1 4 f1 (pcellss ks1)]]⟩)], [⟨26, 4, true, [[.int .i64 k3, .int .i64 n3, .imm p3 3 e3 (fcellss fs3), .imm q3 4 f3 (pcellss ks3)]]⟩], O, tkj31⟩) rfl ?_ ?_
 ·refine run_ifd rfl rfl (fun hb33 => ?_) (fun hb33 => ?_)
  ·replace hM := ite_t hb33 hM
   refine run_region ?_
   refine yL rfl ?_
   refine yB rfl ?_
   refine yR rfl ?_
   refine yN ?_
   exact ⟨(IntKind.i64.wrap (i2 + 1)), tkj12, (show tkj12 ≤ tkj12 by omega), hM, Sub.pk [1, 2, 3, 6, 7] rfl⟩
  replace hM := ite_f hb33 hM
  refine run_skip ?_
  exact ⟨i2, tkj12, (show tkj12 ≤ tkj12 by omega), hM, Sub.pk [1, 2, 3, 6, 7] rfl⟩
 clear hM
 rintro σ' ⟨i32, tkj31, hle83, hM, hsub⟩
 rw [hj84] at hM
 clear hj84
 refine run_sub_code hsub ?_
 refine run_seq ?_
 refine run_sr ?_
 refine yF hG rfl ?_
 refine yD hG rfl ?_
 refine run_pu rfl (lenImm_step hG rfl rfl rfl rfl (plen _)) rfl (ltb rfl) ?_
 refine yL rfl ?_
 refine yN ?_
 refine run_block ?_
 refine run_peel (fun m σ => ∃ (i34 : Int) (ks35 : List LP) (tki_Proof_moved__fn_i_CutProof_c2v_L1 : Nat), tkj31 ≤ tki_Proof_moved__fn_i_CutProof_c2v_L1 ∧ Fr tkj31 tki_Proof_moved__fn_i_CutProof_c2v_L1 (ptoks ks35) ∧ i_Proof_moved__fn_i_CutProof_c2v_L1 (i_Proof_moved__fn_i_CutProof_c2v n) (Pf.mk k1 n1 (fers fs1) (pers ks1)) (Pf.mk k3 n3 (fers fs3) (pers ks3)) i13 i14 (fers ks15) i32 m i34 (pers ks35) = some r ∧ σ = ⟨[(1, .int .i64 i32), (2, .fn (.func 101) [] [.optr (.bor 0) 0 0]), (6, .optr (.loc 6) 0 0), (7, .optr (.loc 7) 0 0), (30, .imm q1 4 f1 (pcellss ks1)), (31, .int .i64 (((pers ks1)).length : Int)), (32, .int .i64 i34)], [(43, ⟨26, 4, false, pcellss ks35⟩), (7, ⟨26, 4, true, [[.int .i64 i13, .int .i64 i14, .imm q15 3 f15 (fcellss ks15), .osl (.loc 43)]]⟩), (6, ⟨26, 4, true, [[.int .i64 0, .int .i64 0, .imm 0 3 true [], .imm 0 4 true []]]⟩)], [⟨26, 4, true, [[.int .i64 k3, .int .i64 n3, .imm p3 3 e3 (fcellss fs3), .imm q3 4 f3 (pcellss ks3)]]⟩], O, tki_Proof_moved__fn_i_CutProof_c2v_L1⟩) n ?_ (fun m σ hI => ?_)
 ·refine run_sr ?_
  refine yB rfl ?_
  refine yN ?_
  refine run_seq ?_
  refine run_ifd rfl rfl (fun hb59 => ?_) (fun hb59 => ?_)
  ·replace hM := ite_t hb59 hM
   refine run_skip ?_
   refine run_seq ?_
   refine run_block ?_
   refine run_sr ?_
   obtain ⟨y60, hy61, hM⟩ := bind_t hM
   obtain ⟨k62, n62, p62, e62, fs62, q62, f62, ks62, rfl, hc63, hi64⟩ := pidx (ks := ks1) hy61
   refine run_pu rfl (indexImm_step hG rfl rfl rfl hi64 rfl rfl rfl rfl hc63) rfl (ltb rfl) ?_
   refine yD hG rfl ?_
   refine run_op rfl (alloc_step (d := 9) hG rfl rfl rfl) rfl (ltb rfl) ?_
   refine yS hG rfl ?_
   refine yN ?_
   refine run_draw [.loc 7, .bor 0] (n := 10) mixed rfl (by intro x hx; simp only [List.mem_cons, List.not_mem_nil, or_false] at hx; rcases hx with rfl | rfl <;> rfl) ?_
   refine yTF hG 0 (by kernel_rfl) rfl ?_
   refine yTL hG 2 (by kernel_rfl) rfl ?_
   refine yTV 3 (by kernel_rfl) rfl ?_
   refine yTV 4 (by kernel_rfl) rfl ?_
   refine AAny.each (rs := [1, 5]) (by kernel_rfl) (fun h => by cases h) (fun i hi => ?_)
   simp only [List.mem_cons, List.not_mem_nil, or_false] at hi
   rcases hi with rfl | rfl
   ·refine AOp.rd rfl rfl rfl (ltb rfl) (aload_rd hG rfl rfl rfl (by first | (simp [ldok]; done) | exact List.not_mem_nil | trivial)) ?_
    obtain ⟨r65, hg66, hM⟩ := bind_t hM
    refine AAny.one (i := 5) (by kernel_rfl) (AOp.call rfl rfl rfl rfl (ltb rfl) rfl rfl rfl yE (by intro x hx; have hx : x ∈ [ID.bor 0] := hx; simp only [List.mem_cons, List.not_mem_nil, or_false] at hx; subst hx; simp) (ih_i_Proof_moved__fn_i_CutProof_c2v k62 n62 p62 e62 fs62 q62 f62 ks62 i32 (.bor 0) k3 n3 p3 e3 fs3 q3 f3 ks3 hg66 _ _ rfl) (callK_retX (fun v tk67 (hle68 : tkj31 ≤ tk67) h69 => ?_)))
    obtain ⟨k70, n70, p70, e70, fs70, q70, f70, ks70, rfl, rfl, hf71⟩ := h69
    refine AAny.one (i := 6) (by kernel_rfl) (AOp.step rfl rfl rfl (ltb rfl) (buildSlice_step (d := 42) hG rfl rfl rfl rfl rfl (by rfl) (by rfl) (by rfl) (by decide)) yE ?_)
    obtain ⟨hc72, hM⟩ := chk_t hM
    try rw [show ((pers ([] : List LP)) ++ [(Pf.mk k70 n70 (fers fs70) (pers ks70))] : List Pf) = (pers (([] : List LP) ++ [LP.mk k70 n70 p70 e70 fs70 q70 f70 ks70])) from pers_app ([] : List LP) [LP.mk k70 n70 p70 e70 fs70 q70 f70 ks70]] at hM
    refine AAny.one (i := 7) (by kernel_rfl) (AOp.step rfl rfl rfl (ltb rfl) (appendFM_step (d := 43) hG rfl rfl rfl rfl rfl rfl rfl (pcellss_sz ([] : List LP)) rfl (pcellss_sz ([LP.mk k70 n70 p70 e70 fs70 q70 f70 ks70])) (plen ([] : List LP)) (plen ([LP.mk k70 n70 p70 e70 fs70 q70 f70 ks70])) (by simp [pers]) hc72 (by decide) (pcellss_app _ _)) yE ?_)
    refine yTF hG 8 (by kernel_rfl) rfl ?_
    refine yW hG 9 (by kernel_rfl) rfl (by kernel_rfl) rfl ?_
    refine AAny.done (by kernel_rfl) ?_
    refine run_blk ?_
    refine run_sub_code (σ' := ⟨[(1, .int .i64 i32), (2, .fn (.func 101) [] [.optr (.bor 0) 0 0]), (6, .optr (.loc 6) 0 0), (7, .optr (.loc 7) 0 0), (30, .imm q1 4 f1 (pcellss ks1)), (31, .int .i64 (((pers ks1)).length : Int)), (32, .int .i64 0)], [(43, ⟨26, 4, false, pcellss (([] : List LP) ++ [LP.mk k70 n70 p70 e70 fs70 q70 f70 ks70])⟩), (7, ⟨26, 4, true, [[.int .i64 i13, .int .i64 i14, .imm q15 3 f15 (fcellss ks15), .osl (.loc 43)]]⟩), (6, ⟨26, 4, true, [[.int .i64 0, .int .i64 0, .imm 0 3 true [], .imm 0 4 true []]]⟩)], [⟨26, 4, true, [[.int .i64 k3, .int .i64 n3, .imm p3 3 e3 (fcellss fs3), .imm q3 4 f3 (pcellss ks3)]]⟩], O, tk67⟩) (Sub.trans (Sub.drop (k := 42) rfl) (Sub.trans (Sub.drop (k := 9) rfl) (Sub.trans (Sub.drop (k := 3) rfl) (Sub.env _ ⟨rfl, rfl, rfl, rfl, rfl, rfl, rfl, trivial⟩)))) ?_
    refine run_region ?_
    refine yB rfl ?_
    refine yL rfl ?_
    refine yN ?_
    exact run_loop_end ⟨n, _, Nat.le_refl _, ⟨(IntKind.i64.wrap (0 + 1)), (([] : List LP) ++ [LP.mk k70 n70 p70 e70 fs70 q70 f70 ks70]), tk67, (show tkj31 ≤ tk67 by omega), (show Fr tkj31 tk67 _ from (Fr.pcons ((show Fr tkj31 tk67 _ from hf71 rfl)) (show Fr tk67 tk67 _ from Fr.nil _ _) (by omega) (by omega)).mono (by omega) (by omega)), hM, rfl⟩, Sub.pk [1, 2, 6, 7, 30, 31, 32] rfl⟩
   obtain ⟨r73, hg74, hM⟩ := bind_t hM
   refine AOp.call rfl rfl rfl rfl (ltb rfl) rfl rfl rfl yE (by intro x hx; have hx : x ∈ [ID.bor 0] := hx; simp only [List.mem_cons, List.not_mem_nil, or_false] at hx; subst hx; simp) (ih_i_Proof_moved__fn_i_CutProof_c2v k62 n62 p62 e62 fs62 q62 f62 ks62 i32 (.bor 0) k3 n3 p3 e3 fs3 q3 f3 ks3 hg74 _ _ rfl) (callK_retX (fun v tk75 (hle76 : tkj31 ≤ tk75) h77 => ?_))
   obtain ⟨k78, n78, p78, e78, fs78, q78, f78, ks78, rfl, rfl, hf79⟩ := h77
   refine AAny.each (rs := [1, 6]) (by kernel_rfl) (fun h => by cases h) (fun i hi => ?_)
   simp only [List.mem_cons, List.not_mem_nil, or_false] at hi
   rcases hi with rfl | rfl
   ·refine AOp.rd rfl rfl rfl (ltb rfl) (aload_rd hG rfl rfl rfl (by first | (simp [ldok]; done) | exact List.not_mem_nil | trivial)) ?_
    refine AAny.one (i := 6) (by kernel_rfl) (AOp.step rfl rfl rfl (ltb rfl) (buildSlice_step (d := 42) hG rfl rfl rfl rfl rfl (by rfl) (by rfl) (by rfl) (by decide)) yE ?_)
    obtain ⟨hc80, hM⟩ := chk_t hM
    try rw [show ((pers ([] : List LP)) ++ [(Pf.mk k78 n78 (fers fs78) (pers ks78))] : List Pf) = (pers (([] : List LP) ++ [LP.mk k78 n78 p78 e78 fs78 q78 f78 ks78])) from pers_app ([] : List LP) [LP.mk k78 n78 p78 e78 fs78 q78 f78 ks78]] at hM
    refine AAny.one (i := 7) (by kernel_rfl) (AOp.step rfl rfl rfl (ltb rfl) (appendFM_step (d := 43) hG rfl rfl rfl rfl rfl rfl rfl (pcellss_sz ([] : List LP)) rfl (pcellss_sz ([LP.mk k78 n78 p78 e78 fs78 q78 f78 ks78])) (plen ([] : List LP)) (plen ([LP.mk k78 n78 p78 e78 fs78 q78 f78 ks78])) (by simp [pers]) hc80 (by decide) (pcellss_app _ _)) yE ?_)
    refine yTF hG 8 (by kernel_rfl) rfl ?_
    refine yW hG 9 (by kernel_rfl) rfl (by kernel_rfl) rfl ?_
    refine AAny.done (by kernel_rfl) ?_
    refine run_blk ?_
    refine run_sub_code (σ' := ⟨[(1, .int .i64 i32), (2, .fn (.func 101) [] [.optr (.bor 0) 0 0]), (6, .optr (.loc 6) 0 0), (7, .optr (.loc 7) 0 0), (30, .imm q1 4 f1 (pcellss ks1)), (31, .int .i64 (((pers ks1)).length : Int)), (32, .int .i64 0)], [(43, ⟨26, 4, false, pcellss (([] : List LP) ++ [LP.mk k78 n78 p78 e78 fs78 q78 f78 ks78])⟩), (7, ⟨26, 4, true, [[.int .i64 i13, .int .i64 i14, .imm q15 3 f15 (fcellss ks15), .osl (.loc 43)]]⟩), (6, ⟨26, 4, true, [[.int .i64 0, .int .i64 0, .imm 0 3 true [], .imm 0 4 true []]]⟩)], [⟨26, 4, true, [[.int .i64 k3, .int .i64 n3, .imm p3 3 e3 (fcellss fs3), .imm q3 4 f3 (pcellss ks3)]]⟩], O, tk75⟩) (Sub.trans (Sub.drop (k := 42) rfl) (Sub.trans (Sub.drop (k := 9) rfl) (Sub.trans (Sub.drop (k := 3) rfl) (Sub.env _ ⟨rfl, rfl, rfl, rfl, rfl, rfl, rfl, trivial⟩)))) ?_
    refine run_region ?_
    refine yB rfl ?_
    refine yL rfl ?_
    refine yN ?_
    exact run_loop_end ⟨n, _, Nat.le_refl _, ⟨(IntKind.i64.wrap (0 + 1)), (([] : List LP) ++ [LP.mk k78 n78 p78 e78 fs78 q78 f78 ks78]), tk75, (show tkj31 ≤ tk75 by omega), (show Fr tkj31 tk75 _ from (Fr.pcons ((show Fr tkj31 tk75 _ from hf79 rfl)) (show Fr tk75 tk75 _ from Fr.nil _ _) (by omega) (by omega)).mono (by omega) (by omega)), hM, rfl⟩, Sub.pk [1, 2, 6, 7, 30, 31, 32] rfl⟩
   refine AOp.step rfl rfl rfl (ltb rfl) (buildSlice_step (d := 42) hG rfl rfl rfl rfl rfl (by rfl) (by rfl) (by rfl) (by decide)) yE ?_
   refine AAny.one (i := 1) (by kernel_rfl) (AOp.rd rfl rfl rfl (ltb rfl) (aload_rd hG rfl rfl rfl (by first | (simp [ldok]; done) | exact List.not_mem_nil | trivial)) ?_)
   obtain ⟨hc81, hM⟩ := chk_t hM
   try rw [show ((pers ([] : List LP)) ++ [(Pf.mk k78 n78 (fers fs78) (pers ks78))] : List Pf) = (pers (([] : List LP) ++ [LP.mk k78 n78 p78 e78 fs78 q78 f78 ks78])) from pers_app ([] : List LP) [LP.mk k78 n78 p78 e78 fs78 q78 f78 ks78]] at hM
   refine AAny.one (i := 7) (by kernel_rfl) (AOp.step rfl rfl rfl (ltb rfl) (appendFM_step (d := 43) hG rfl rfl rfl rfl rfl rfl rfl (pcellss_sz ([] : List LP)) rfl (pcellss_sz ([LP.mk k78 n78 p78 e78 fs78 q78 f78 ks78])) (plen ([] : List LP)) (plen ([LP.mk k78 n78 p78 e78 fs78 q78 f78 ks78])) (by simp [pers]) hc81 (by decide) (pcellss_app _ _)) yE ?_)
   refine yTF hG 8 (by kernel_rfl) rfl ?_
   refine yW hG 9 (by kernel_rfl) rfl (by kernel_rfl) rfl ?_
   refine AAny.done (by kernel_rfl) ?_
   refine run_blk ?_
   refine run_sub_code (σ' := ⟨[(1, .int .i64 i32), (2, .fn (.func 101) [] [.optr (.bor 0) 0 0]), (6, .optr (.loc 6) 0 0), (7, .optr (.loc 7) 0 0), (30, .imm q1 4 f1 (pcellss ks1)), (31, .int .i64 (((pers ks1)).length : Int)), (32, .int .i64 0)], [(43, ⟨26, 4, false, pcellss (([] : List LP) ++ [LP.mk k78 n78 p78 e78 fs78 q78 f78 ks78])⟩), (7, ⟨26, 4, true, [[.int .i64 i13, .int .i64 i14, .imm q15 3 f15 (fcellss ks15), .osl (.loc 43)]]⟩), (6, ⟨26, 4, true, [[.int .i64 0, .int .i64 0, .imm 0 3 true [], .imm 0 4 true []]]⟩)], [⟨26, 4, true, [[.int .i64 k3, .int .i64 n3, .imm p3 3 e3 (fcellss fs3), .imm q3 4 f3 (pcellss ks3)]]⟩], O, tk75⟩) (Sub.trans (Sub.drop (k := 42) rfl) (Sub.trans (Sub.drop (k := 9) rfl) (Sub.trans (Sub.drop (k := 3) rfl) (Sub.env _ ⟨rfl, rfl, rfl, rfl, rfl, rfl, rfl, trivial⟩)))) ?_
   refine run_region ?_
   refine yB rfl ?_
   refine yL rfl ?_
   refine yN ?_
   exact run_loop_end ⟨n, _, Nat.le_refl _, ⟨(IntKind.i64.wrap (0 + 1)), (([] : List LP) ++ [LP.mk k78 n78 p78 e78 fs78 q78 f78 ks78]), tk75, (show tkj31 ≤ tk75 by omega), (show Fr tkj31 tk75 _ from (Fr.pcons ((show Fr tkj31 tk75 _ from hf79 rfl)) (show Fr tk75 tk75 _ from Fr.nil _ _) (by omega) (by omega)).mono (by omega) (by omega)), hM, rfl⟩, Sub.pk [1, 2, 6, 7, 30, 31, 32] rfl⟩
  replace hM := ite_f hb59 hM
  refine run_exit_to rfl ?_
  refine run_sr ?_
  refine yD hG rfl ?_
  refine yS hG rfl ?_
  refine yN ?_
  refine run_ret_to ?_
  replace hM := some_t hM
  subst hM
  refine fin_x hG rfl rfl rfl (v' := .agg [.int .i64 i13, .int .i64 i14, .imm q15 3 f15 (fcellss ks15), .imm 0 4 true (pcellss [])]) (by rfl) ⟨out_same (Bor.one hX0 rfl), (show tk ≤ tkj31 by omega), _, rfl, ⟨i13, i14, q15, f15, ks15, 0, true, [], rfl, rfl, fun _ => (show Fr tk tkj31 _ from (Fr.app (hfr16) (show Fr tkj12 tkj12 _ from Fr.nil _ _) (by omega) (by omega)).mono (by omega) (by omega))⟩⟩
 clear hM
 obtain ⟨i34, ks35, tki_Proof_moved__fn_i_CutProof_c2v_L1, hle82, hfr35, hM, rfl⟩ := hI
 obtain _ | m := m
 ·exact absurd hM (by rw [i_Proof_moved__fn_i_CutProof_c2v_L1]; exact fun h => by cases h)
 rw [i_Proof_moved__fn_i_CutProof_c2v_L1] at hM
 refine run_sr ?_
 refine yB rfl ?_
 refine yN ?_
 refine run_seq ?_
 refine run_ifd rfl rfl (fun hb36 => ?_) (fun hb36 => ?_)
 ·replace hM := ite_t hb36 hM
  refine run_skip ?_
  refine run_seq ?_
  refine run_block ?_
  refine run_sr ?_
  obtain ⟨y37, hy38, hM⟩ := bind_t hM
  obtain ⟨k39, n39, p39, e39, fs39, q39, f39, ks39, rfl, hc40, hi41⟩ := pidx (ks := ks1) hy38
  refine run_pu rfl (indexImm_step hG rfl rfl rfl hi41 rfl rfl rfl rfl hc40) rfl (ltb rfl) ?_
  refine yD hG rfl ?_
  refine run_op rfl (alloc_step (d := 9) hG rfl rfl rfl) rfl (ltb rfl) ?_
  refine yS hG rfl ?_
  refine yN ?_
  refine run_draw [.loc 7, .bor 0, .loc 43] (n := 10) mixed rfl (by intro x hx; simp only [List.mem_cons, List.not_mem_nil, or_false] at hx; rcases hx with rfl | rfl | rfl <;> rfl) ?_
  refine yTF hG 0 (by kernel_rfl) rfl ?_
  refine yTL hG 2 (by kernel_rfl) rfl ?_
  refine yTV 3 (by kernel_rfl) rfl ?_
  refine yTV 4 (by kernel_rfl) rfl ?_
  refine AAny.each (rs := [1, 5]) (by kernel_rfl) (fun h => by cases h) (fun i hi => ?_)
  simp only [List.mem_cons, List.not_mem_nil, or_false] at hi
  rcases hi with rfl | rfl
  ·refine AOp.rd rfl rfl rfl (ltb rfl) (aload_rd hG rfl rfl rfl (by first | (simp [ldok]; done) | exact List.not_mem_nil | trivial)) ?_
   obtain ⟨r42, hg43, hM⟩ := bind_t hM
   refine AAny.one (i := 5) (by kernel_rfl) (AOp.call rfl rfl rfl rfl (ltb rfl) rfl rfl rfl yE (by intro x hx; have hx : x ∈ [ID.bor 0] := hx; simp only [List.mem_cons, List.not_mem_nil, or_false] at hx; subst hx; simp) (ih_i_Proof_moved__fn_i_CutProof_c2v k39 n39 p39 e39 fs39 q39 f39 ks39 i32 (.bor 0) k3 n3 p3 e3 fs3 q3 f3 ks3 hg43 _ _ rfl) (callK_retX (fun v tk44 (hle45 : tki_Proof_moved__fn_i_CutProof_c2v_L1 ≤ tk44) h46 => ?_)))
   obtain ⟨k47, n47, p47, e47, fs47, q47, f47, ks47, rfl, rfl, hf48⟩ := h46
   refine AAny.one (i := 6) (by kernel_rfl) (AOp.step rfl rfl rfl (ltb rfl) (buildSlice_step (d := 42) hG rfl rfl rfl rfl rfl (by rfl) (by rfl) (by rfl) (by decide)) yE ?_)
   obtain ⟨hc49, hM⟩ := chk_t hM
   try rw [show ((pers ks35) ++ [(Pf.mk k47 n47 (fers fs47) (pers ks47))] : List Pf) = (pers (ks35 ++ [LP.mk k47 n47 p47 e47 fs47 q47 f47 ks47])) from pers_app ks35 [LP.mk k47 n47 p47 e47 fs47 q47 f47 ks47]] at hM
   refine AAny.one (i := 7) (by kernel_rfl) (AOp.step rfl rfl rfl (ltb rfl) (appendM_step hG rfl rfl rfl rfl rfl rfl rfl rfl rfl rfl rfl (pcellss_sz ([LP.mk k47 n47 p47 e47 fs47 q47 f47 ks47])) (plen ks35) (plen ([LP.mk k47 n47 p47 e47 fs47 q47 f47 ks47])) hc49 (by decide) (pcellss_app _ _)) (by intro x hx; simp only [List.mem_cons, List.not_mem_nil, or_false] at hx; subst hx; simp) ?_)
   refine yTF hG 8 (by kernel_rfl) rfl ?_
   refine yW hG 9 (by kernel_rfl) rfl (by kernel_rfl) rfl ?_
   refine AAny.done (by kernel_rfl) ?_
   refine run_blk ?_
   refine run_sub_code (σ' := ⟨[(1, .int .i64 i32), (2, .fn (.func 101) [] [.optr (.bor 0) 0 0]), (6, .optr (.loc 6) 0 0), (7, .optr (.loc 7) 0 0), (30, .imm q1 4 f1 (pcellss ks1)), (31, .int .i64 (((pers ks1)).length : Int)), (32, .int .i64 i34)], [(43, ⟨26, 4, false, pcellss (ks35 ++ [LP.mk k47 n47 p47 e47 fs47 q47 f47 ks47])⟩), (7, ⟨26, 4, true, [[.int .i64 i13, .int .i64 i14, .imm q15 3 f15 (fcellss ks15), .osl (.loc 43)]]⟩), (6, ⟨26, 4, true, [[.int .i64 0, .int .i64 0, .imm 0 3 true [], .imm 0 4 true []]]⟩)], [⟨26, 4, true, [[.int .i64 k3, .int .i64 n3, .imm p3 3 e3 (fcellss fs3), .imm q3 4 f3 (pcellss ks3)]]⟩], O, tk44⟩) (Sub.trans (Sub.drop (k := 42) rfl) (Sub.trans (Sub.drop (k := 9) rfl) (Sub.env _ ⟨rfl, rfl, rfl, rfl, rfl, rfl, rfl, trivial⟩))) ?_
   refine run_region ?_
   refine yB rfl ?_
   refine yL rfl ?_
   refine yN ?_
   exact run_loop_end ⟨m, _, Nat.lt_succ_self _, ⟨(IntKind.i64.wrap (i34 + 1)), (ks35 ++ [LP.mk k47 n47 p47 e47 fs47 q47 f47 ks47]), tk44, (show tkj31 ≤ tk44 by omega), (show Fr tkj31 tk44 _ from (Fr.psnoc (show Fr tkj31 tki_Proof_moved__fn_i_CutProof_c2v_L1 _ from (hfr35).mono (by omega) (by omega)) ((show Fr tki_Proof_moved__fn_i_CutProof_c2v_L1 tk44 _ from hf48 rfl)) (by omega) (by omega)).mono (by omega) (by omega)), hM, rfl⟩, Sub.pk [1, 2, 6, 7, 30, 31, 32] rfl⟩
  obtain ⟨r50, hg51, hM⟩ := bind_t hM
  refine AOp.call rfl rfl rfl rfl (ltb rfl) rfl rfl rfl yE (by intro x hx; have hx : x ∈ [ID.bor 0] := hx; simp only [List.mem_cons, List.not_mem_nil, or_false] at hx; subst hx; simp) (ih_i_Proof_moved__fn_i_CutProof_c2v k39 n39 p39 e39 fs39 q39 f39 ks39 i32 (.bor 0) k3 n3 p3 e3 fs3 q3 f3 ks3 hg51 _ _ rfl) (callK_retX (fun v tk52 (hle53 : tki_Proof_moved__fn_i_CutProof_c2v_L1 ≤ tk52) h54 => ?_))
  obtain ⟨k55, n55, p55, e55, fs55, q55, f55, ks55, rfl, rfl, hf56⟩ := h54
  refine AAny.each (rs := [1, 6]) (by kernel_rfl) (fun h => by cases h) (fun i hi => ?_)
  simp only [List.mem_cons, List.not_mem_nil, or_false] at hi
  rcases hi with rfl | rfl
  ·refine AOp.rd rfl rfl rfl (ltb rfl) (aload_rd hG rfl rfl rfl (by first | (simp [ldok]; done) | exact List.not_mem_nil | trivial)) ?_
   refine AAny.one (i := 6) (by kernel_rfl) (AOp.step rfl rfl rfl (ltb rfl) (buildSlice_step (d := 42) hG rfl rfl rfl rfl rfl (by rfl) (by rfl) (by rfl) (by decide)) yE ?_)
   obtain ⟨hc57, hM⟩ := chk_t hM
   try rw [show ((pers ks35) ++ [(Pf.mk k55 n55 (fers fs55) (pers ks55))] : List Pf) = (pers (ks35 ++ [LP.mk k55 n55 p55 e55 fs55 q55 f55 ks55])) from pers_app ks35 [LP.mk k55 n55 p55 e55 fs55 q55 f55 ks55]] at hM
   refine AAny.one (i := 7) (by kernel_rfl) (AOp.step rfl rfl rfl (ltb rfl) (appendM_step hG rfl rfl rfl rfl rfl rfl rfl rfl rfl rfl rfl (pcellss_sz ([LP.mk k55 n55 p55 e55 fs55 q55 f55 ks55])) (plen ks35) (plen ([LP.mk k55 n55 p55 e55 fs55 q55 f55 ks55])) hc57 (by decide) (pcellss_app _ _)) (by intro x hx; simp only [List.mem_cons, List.not_mem_nil, or_false] at hx; subst hx; simp) ?_)
   refine yTF hG 8 (by kernel_rfl) rfl ?_
   refine yW hG 9 (by kernel_rfl) rfl (by kernel_rfl) rfl ?_
   refine AAny.done (by kernel_rfl) ?_
   refine run_blk ?_
   refine run_sub_code (σ' := ⟨[(1, .int .i64 i32), (2, .fn (.func 101) [] [.optr (.bor 0) 0 0]), (6, .optr (.loc 6) 0 0), (7, .optr (.loc 7) 0 0), (30, .imm q1 4 f1 (pcellss ks1)), (31, .int .i64 (((pers ks1)).length : Int)), (32, .int .i64 i34)], [(43, ⟨26, 4, false, pcellss (ks35 ++ [LP.mk k55 n55 p55 e55 fs55 q55 f55 ks55])⟩), (7, ⟨26, 4, true, [[.int .i64 i13, .int .i64 i14, .imm q15 3 f15 (fcellss ks15), .osl (.loc 43)]]⟩), (6, ⟨26, 4, true, [[.int .i64 0, .int .i64 0, .imm 0 3 true [], .imm 0 4 true []]]⟩)], [⟨26, 4, true, [[.int .i64 k3, .int .i64 n3, .imm p3 3 e3 (fcellss fs3), .imm q3 4 f3 (pcellss ks3)]]⟩], O, tk52⟩) (Sub.trans (Sub.drop (k := 42) rfl) (Sub.trans (Sub.drop (k := 9) rfl) (Sub.env _ ⟨rfl, rfl, rfl, rfl, rfl, rfl, rfl, trivial⟩))) ?_
   refine run_region ?_
   refine yB rfl ?_
   refine yL rfl ?_
   refine yN ?_
   exact run_loop_end ⟨m, _, Nat.lt_succ_self _, ⟨(IntKind.i64.wrap (i34 + 1)), (ks35 ++ [LP.mk k55 n55 p55 e55 fs55 q55 f55 ks55]), tk52, (show tkj31 ≤ tk52 by omega), (show Fr tkj31 tk52 _ from (Fr.psnoc (show Fr tkj31 tki_Proof_moved__fn_i_CutProof_c2v_L1 _ from (hfr35).mono (by omega) (by omega)) ((show Fr tki_Proof_moved__fn_i_CutProof_c2v_L1 tk52 _ from hf56 rfl)) (by omega) (by omega)).mono (by omega) (by omega)), hM, rfl⟩, Sub.pk [1, 2, 6, 7, 30, 31, 32] rfl⟩
  refine AOp.step rfl rfl rfl (ltb rfl) (buildSlice_step (d := 42) hG rfl rfl rfl rfl rfl (by rfl) (by rfl) (by rfl) (by decide)) yE ?_
  refine AAny.one (i := 1) (by kernel_rfl) (AOp.rd rfl rfl rfl (ltb rfl) (aload_rd hG rfl rfl rfl (by first | (simp [ldok]; done) | exact List.not_mem_nil | trivial)) ?_)
  obtain ⟨hc58, hM⟩ := chk_t hM
  try rw [show ((pers ks35) ++ [(Pf.mk k55 n55 (fers fs55) (pers ks55))] : List Pf) = (pers (ks35 ++ [LP.mk k55 n55 p55 e55 fs55 q55 f55 ks55])) from pers_app ks35 [LP.mk k55 n55 p55 e55 fs55 q55 f55 ks55]] at hM
  refine AAny.one (i := 7) (by kernel_rfl) (AOp.step rfl rfl rfl (ltb rfl) (appendM_step hG rfl rfl rfl rfl rfl rfl rfl rfl rfl rfl rfl (pcellss_sz ([LP.mk k55 n55 p55 e55 fs55 q55 f55 ks55])) (plen ks35) (plen ([LP.mk k55 n55 p55 e55 fs55 q55 f55 ks55])) hc58 (by decide) (pcellss_app _ _)) (by intro x hx; simp only [List.mem_cons, List.not_mem_nil, or_false] at hx; subst hx; simp) ?_)
  refine yTF hG 8 (by kernel_rfl) rfl ?_
  refine yW hG 9 (by kernel_rfl) rfl (by kernel_rfl) rfl ?_
  refine AAny.done (by kernel_rfl) ?_
  refine run_blk ?_
  refine run_sub_code (σ' := ⟨[(1, .int .i64 i32), (2, .fn (.func 101) [] [.optr (.bor 0) 0 0]), (6, .optr (.loc 6) 0 0), (7, .optr (.loc 7) 0 0), (30, .imm q1 4 f1 (pcellss ks1)), (31, .int .i64 (((pers ks1)).length : Int)), (32, .int .i64 i34)], [(43, ⟨26, 4, false, pcellss (ks35 ++ [LP.mk k55 n55 p55 e55 fs55 q55 f55 ks55])⟩), (7, ⟨26, 4, true, [[.int .i64 i13, .int .i64 i14, .imm q15 3 f15 (fcellss ks15), .osl (.loc 43)]]⟩), (6, ⟨26, 4, true, [[.int .i64 0, .int .i64 0, .imm 0 3 true [], .imm 0 4 true []]]⟩)], [⟨26, 4, true, [[.int .i64 k3, .int .i64 n3, .imm p3 3 e3 (fcellss fs3), .imm q3 4 f3 (pcellss ks3)]]⟩], O, tk52⟩) (Sub.trans (Sub.drop (k := 42) rfl) (Sub.trans (Sub.drop (k := 9) rfl) (Sub.env _ ⟨rfl, rfl, rfl, rfl, rfl, rfl, rfl, trivial⟩))) ?_
  refine run_region ?_
  refine yB rfl ?_
  refine yL rfl ?_
  refine yN ?_
  exact run_loop_end ⟨m, _, Nat.lt_succ_self _, ⟨(IntKind.i64.wrap (i34 + 1)), (ks35 ++ [LP.mk k55 n55 p55 e55 fs55 q55 f55 ks55]), tk52, (show tkj31 ≤ tk52 by omega), (show Fr tkj31 tk52 _ from (Fr.psnoc (show Fr tkj31 tki_Proof_moved__fn_i_CutProof_c2v_L1 _ from (hfr35).mono (by omega) (by omega)) ((show Fr tki_Proof_moved__fn_i_CutProof_c2v_L1 tk52 _ from hf56 rfl)) (by omega) (by omega)).mono (by omega) (by omega)), hM, rfl⟩, Sub.pk [1, 2, 6, 7, 30, 31, 32] rfl⟩
 replace hM := ite_f hb36 hM
 refine run_exit_to rfl ?_
 refine run_sr ?_
 refine yD hG rfl ?_
 refine yS hG rfl ?_
 refine yN ?_
 refine run_ret_to ?_
 refine fin_sub (Sub.freeze (k := 43) rfl rfl) ?_
 replace hM := some_t hM
 subst hM
 refine fin_x hG rfl rfl rfl (v' := .agg [.int .i64 i13, .int .i64 i14, .imm q15 3 f15 (fcellss ks15), .imm tki_Proof_moved__fn_i_CutProof_c2v_L1 4 false (pcellss ks35)]) (by rfl) ⟨out_same (Bor.one hX0 rfl), (show tk ≤ (tki_Proof_moved__fn_i_CutProof_c2v_L1 + 1) by omega), _, rfl, ⟨i13, i14, q15, f15, ks15, tki_Proof_moved__fn_i_CutProof_c2v_L1, false, ks35, rfl, rfl, fun _ => (show Fr tk (tki_Proof_moved__fn_i_CutProof_c2v_L1 + 1) _ from (Fr.app (show Fr tk tkj31 _ from (hfr16).mono (by omega) (by omega)) (show Fr tkj31 (tki_Proof_moved__fn_i_CutProof_c2v_L1 + 1) _ from Fr.pstop (show Fr tkj31 tki_Proof_moved__fn_i_CutProof_c2v_L1 _ from (hfr35).mono (by omega) (by omega)) (by omega) (by omega)) (by omega) (by omega)).mono (by omega) (by omega))⟩⟩

theorem i_Proof_moved__fn_i_CutProof_c2v_all : ∀ (n : Nat), (i_Proof_moved__fn_i_CutProof_c2v_P n)
 | 0 => by intro k1 n1 p1 e1 fs1 q1 f1 ks1 i2 X0 k3 n3 p3 e3 fs3 q3 f3 ks3 r hM; rw [i_Proof_moved__fn_i_CutProof_c2v] at hM; cases hM
 | n + 1 => have ih := i_Proof_moved__fn_i_CutProof_c2v_all n; i_Proof_moved__fn_i_CutProof_c2v_st n (ih)

theorem i_Proof_moved__fn_i_CutProof_c2v_ok (n : Nat) : i_Proof_moved__fn_i_CutProof_c2v_P n := i_Proof_moved__fn_i_CutProof_c2v_all n

def i_CutProof (n : Nat) (l1 : List F) (x2 : Pf) (x3 : Pf) : Option (Pf × Int) :=
 (i_longLists n ([((l1).length : Int)])).bind fun r4 =>
 if r4 = true then
  some ((Pf.mk 0 0 [] []), 2)
 else
  (i_hypsOK n l1).bind fun r12 =>
  if (!r12) = true then
   some ((Pf.mk 0 0 [] []), 1)
  else
   (i_ProofOK n x2).bind fun r20 =>
   if (!r20) = true then
    some ((Pf.mk 0 0 [] []), 1)
   else
    (i_ProofOK n x3).bind fun r28 =>
    if (!r28) = true then
     some ((Pf.mk 0 0 [] []), 1)
    else
     (i_CutProof_c1 n l1 x2 x3).bind fun z36 =>
     z36.cs (fun r39 =>
      if (0 != 0) = true then
       some ((Pf.mk 0 0 [] []), 0)
      else
       (i_Proof_moved__fn_i_CutProof_c2v n x3 0 x2).bind fun r46 =>
       (i_ProofOK n r46).bind fun r53 =>
       if (!r53) = true then
        some ((Pf.mk 0 0 [] []), 11)
       else
        some (r46, 0)) (fun c43 p44 =>
      if (c43 != 0) = true then
       some ((Pf.mk 0 0 [] []), c43)
      else
       (i_Proof_moved__fn_i_CutProof_c2v n x3 0 x2).bind fun r62 =>
       (i_ProofOK n r62).bind fun r69 =>
       if (!r69) = true then
        some ((Pf.mk 0 0 [] []), 11)
       else
        some (r62, 0))

set_option maxHeartbeats 20000000 in
set_option maxHeartbeats 20000000 in
set_option maxRecDepth 100000 in
theorem i_CutProof_ok (n : Nat) : ∀ (q1 : Nat) (f1 : Bool) (ks1 : List LF) (k2 : Int) (n2 : Int) (p2 : Nat) (e2 : Bool) (fs2 : List LF) (q2 : Nat) (f2 : Bool) (ks2 : List LP) (k3 : Int) (n3 : Int) (p3 : Nat) (e3 : Bool) (fs3 : List LF) (q3 : Nat) (f3 : Bool) (ks3 : List LP) {r : (Pf × Int)}, i_CutProof n (fers ks1) (Pf.mk k2 n2 (fers fs2) (pers ks2)) (Pf.mk k3 n3 (fers fs3) (pers ks3)) = some r → ∀ (O : Heap) (tk : Nat), ACalls Go.Proofs.Try.prog 35 [.imm q1 3 f1 (fcellss ks1), .agg [.int .i64 k2, .int .i64 n2, .imm p2 3 e2 (fcellss fs2), .imm q2 4 f2 (pcellss ks2)], .agg [.int .i64 k3, .int .i64 n3, .imm p3 3 e3 (fcellss fs3), .imm q3 4 f3 (pcellss ks3)]] O tk (RetX O tk (fun v tk' => ∃ r0' r1' v0' v1', r = (r0', r1') ∧ v = .tup [v0', v1'] ∧ VP true tk tk' r0' v0' ∧ v1' = .int .i64 r1')) := by
 intro q1 f1 ks1 k2 n2 p2 e2 fs2 q2 f2 ks2 k3 n3 p3 e3 fs3 q3 f3 ks3 r hM O tk
 unfold i_CutProof at hM
 refine acalls_of_run Go.Proofs.Try.func35 rfl rfl [] [] (Bor.nil _) [(0, .imm q1 3 f1 (fcellss ks1)), (1, .agg [.int .i64 k2, .int .i64 n2, .imm p2 3 e2 (fcellss fs2), .imm q2 4 f2 (pcellss ks2)]), (2, .agg [.int .i64 k3, .int .i64 n3, .imm p3 3 e3 (fcellss fs3), .imm q3 4 f3 (pcellss ks3)])] (.cons (entS rfl) (.cons (.agg _) (.cons (.agg _) (.nil _)))) (leb rfl) (fun _ h => by cases h) (fun S0 hO htk hfz => ?_)
 refine run_sr ?_
 refine run_op rfl (box_step (d := 3) rfl rfl rfl rfl rfl) rfl (ltb rfl) ?_
 refine run_op rfl (box_step (d := 4) rfl rfl rfl rfl rfl) rfl (ltb rfl) ?_
 refine run_op rfl (box_step (d := 5) rfl rfl rfl rfl rfl) rfl (ltb rfl) ?_
 refine run_op rfl (alloc_step (d := 6) hG rfl rfl rfl) rfl (ltb rfl) ?_
 refine yR rfl ?_
 refine yN ?_
 refine run_seq ?_
 refine run_block ?_
 refine run_sr ?_
 refine yD hG rfl ?_
 refine run_pu rfl (lenImm_step hG rfl rfl rfl rfl (flen _)) rfl (ltb rfl) ?_
 refine run_op rfl (buildSlice_step (d := 13) hG rfl rfl rfl rfl rfl (by rfl) (by rfl) (by rfl) (by decide)) rfl (ltb rfl) ?_
 refine run_sub_ops (Sub.freeze (k := 13) rfl rfl) ?_
 obtain ⟨r4, hg5, hM⟩ := bind_t hM
 refine yK rfl (i_longLists_ok n tk false [(((fers ks1)).length : Int)] hg5 _ _) (callK_retX (fun v tk6 (hle7 : (tk + 1) ≤ tk6) h8 => ?_))
 subst h8
 refine yR rfl ?_
 refine yN ?_
 refine run_ifb rfl rfl (fun hb11 => ?_) (fun hb11 => ?_)
 ·replace hM := ite_t hb11 hM
  refine run_sr ?_
  refine run_pu rfl (build_step hG rfl (by rfl) rfl (fun h => by cases h) (by rfl)) rfl (ltb rfl) ?_
  refine yS hG rfl ?_
  refine yR rfl ?_
  refine yN ?_
  refine run_ret_to ?_
  replace hM := some_t hM
  subst hM
  refine fin_x hG rfl rfl rfl (v' := .tup [.agg [.int .i64 0, .int .i64 0, .imm 0 3 true (fcellss []), .imm 0 4 true (pcellss [])], .int .i64 2]) (by rfl) ⟨rfl, (show tk ≤ tk6 by omega), _, rfl, ⟨_, _, _, _, rfl, rfl, ⟨0, 0, 0, true, [], 0, true, [], rfl, rfl, fun _ => Fr.nil _ _⟩, rfl⟩⟩
 replace hM := ite_f hb11 hM
 refine run_sr ?_
 refine yD hG rfl ?_
 obtain ⟨r12, hg13, hM⟩ := bind_t hM
 refine yK rfl (i_hypsOK_ok n q1 f1 ks1 hg13 _ _) (callK_retX (fun v tk14 (hle15 : tk6 ≤ tk14) h16 => ?_))
 subst h16
 refine run_pu rfl (aun_step rfl rfl rfl) rfl (ltb rfl) ?_
 refine yL rfl ?_
 refine run_splitb (i := 20) rfl (fun hb19 => ?_) (fun hb19 => ?_)
 ·replace hM := ite_t hb19 hM
  refine yO rfl ?_
  refine yO rfl ?_
  refine yO rfl ?_
  refine yP rfl ?_
  refine yL rfl ?_
  refine yO rfl ?_
  refine yO rfl ?_
  refine yO rfl ?_
  refine yP rfl ?_
  refine yR rfl ?_
  refine yN ?_
  refine run_sub_code (σ' := ⟨[(3, .optr (.loc 3) 0 0), (4, .optr (.loc 4) 0 0), (5, .optr (.loc 5) 0 0), (6, .optr (.loc 6) 0 0), (7, .int .i64 0), (16, .bool true)], [(6, ⟨26, 4, true, [[.int .i64 0, .int .i64 0, .imm 0 3 true [], .imm 0 4 true []]]⟩), (5, ⟨26, 4, true, [[.int .i64 k3, .int .i64 n3, .imm p3 3 e3 (fcellss fs3), .imm q3 4 f3 (pcellss ks3)]]⟩), (4, ⟨26, 4, true, [[.int .i64 k2, .int .i64 n2, .imm p2 3 e2 (fcellss fs2), .imm q2 4 f2 (pcellss ks2)]]⟩), (3, ⟨23, 1, true, [[.imm q1 3 f1 (fcellss ks1)]]⟩)], [], O, tk14⟩) (Sub.env _ ⟨rfl, rfl, rfl, rfl, rfl, rfl, trivial⟩) ?_
  refine run_if rfl rfl (fun _ => ?_) (fun h => by cases h)
  refine run_sr ?_
  refine run_pu rfl (build_step hG rfl (by rfl) rfl (fun h => by cases h) (by rfl)) rfl (ltb rfl) ?_
  refine yS hG rfl ?_
  refine yR rfl ?_
  refine yN ?_
  refine run_ret_to ?_
  replace hM := some_t hM
  subst hM
  refine fin_x hG rfl rfl rfl (v' := .tup [.agg [.int .i64 0, .int .i64 0, .imm 0 3 true (fcellss []), .imm 0 4 true (pcellss [])], .int .i64 1]) (by rfl) ⟨rfl, (show tk ≤ tk14 by omega), _, rfl, ⟨_, _, _, _, rfl, rfl, ⟨0, 0, 0, true, [], 0, true, [], rfl, rfl, fun _ => Fr.nil _ _⟩, rfl⟩⟩
 replace hM := ite_f hb19 hM
 refine run_rdG (on_of rfl rfl rfl rfl) (aload_rd hG rfl rfl rfl (by first | (simp [ldok]; done) | exact List.not_mem_nil | trivial)) rfl (ltb rfl) ?_
 obtain ⟨r20, hg21, hM⟩ := bind_t hM
 refine yG (on_of rfl rfl rfl rfl) rfl (i_ProofOK_ok n k2 n2 p2 e2 fs2 q2 f2 ks2 hg21 _ _) (callK_retX (fun v tk22 (hle23 : tk14 ≤ tk22) h24 => ?_))
 subst h24
 refine run_puG (on_of rfl rfl rfl rfl) (aun_step rfl rfl rfl) rfl (ltb rfl) ?_
 refine yP rfl ?_
 refine yL rfl ?_
 refine run_splitb (i := 25) rfl (fun hb27 => ?_) (fun hb27 => ?_)
 ·replace hM := ite_t hb27 hM
  refine yO rfl ?_
  refine yO rfl ?_
  refine yO rfl ?_
  refine yP rfl ?_
  refine yR rfl ?_
  refine yN ?_
  refine run_sub_code (σ' := ⟨[(3, .optr (.loc 3) 0 0), (4, .optr (.loc 4) 0 0), (5, .optr (.loc 5) 0 0), (6, .optr (.loc 6) 0 0), (7, .int .i64 0), (16, .bool true)], [(6, ⟨26, 4, true, [[.int .i64 0, .int .i64 0, .imm 0 3 true [], .imm 0 4 true []]]⟩), (5, ⟨26, 4, true, [[.int .i64 k3, .int .i64 n3, .imm p3 3 e3 (fcellss fs3), .imm q3 4 f3 (pcellss ks3)]]⟩), (4, ⟨26, 4, true, [[.int .i64 k2, .int .i64 n2, .imm p2 3 e2 (fcellss fs2), .imm q2 4 f2 (pcellss ks2)]]⟩), (3, ⟨23, 1, true, [[.imm q1 3 f1 (fcellss ks1)]]⟩)], [], O, tk22⟩) (Sub.env _ ⟨rfl, rfl, rfl, rfl, rfl, rfl, trivial⟩) ?_
  refine run_if rfl rfl (fun _ => ?_) (fun h => by cases h)
  refine run_sr ?_
  refine run_pu rfl (build_step hG rfl (by rfl) rfl (fun h => by cases h) (by rfl)) rfl (ltb rfl) ?_
  refine yS hG rfl ?_
  refine yR rfl ?_
  refine yN ?_
  refine run_ret_to ?_
  replace hM := some_t hM
  subst hM
  refine fin_x hG rfl rfl rfl (v' := .tup [.agg [.int .i64 0, .int .i64 0, .imm 0 3 true (fcellss []), .imm 0 4 true (pcellss [])], .int .i64 1]) (by rfl) ⟨rfl, (show tk ≤ tk22 by omega), _, rfl, ⟨_, _, _, _, rfl, rfl, ⟨0, 0, 0, true, [], 0, true, [], rfl, rfl, fun _ => Fr.nil _ _⟩, rfl⟩⟩
 replace hM := ite_f hb27 hM
 refine run_rdG (on_of rfl rfl rfl rfl) (aload_rd hG rfl rfl rfl (by first | (simp [ldok]; done) | exact List.not_mem_nil | trivial)) rfl (ltb rfl) ?_
 obtain ⟨r28, hg29, hM⟩ := bind_t hM
 refine yG (on_of rfl rfl rfl rfl) rfl (i_ProofOK_ok n k3 n3 p3 e3 fs3 q3 f3 ks3 hg29 _ _) (callK_retX (fun v tk30 (hle31 : tk22 ≤ tk30) h32 => ?_))
 subst h32
 refine run_puG (on_of rfl rfl rfl rfl) (aun_step rfl rfl rfl) rfl (ltb rfl) ?_
 refine yP rfl ?_
 refine yR rfl ?_
 refine yN ?_
 refine run_sub_code (σ' := ⟨[(3, .optr (.loc 3) 0 0), (4, .optr (.loc 4) 0 0), (5, .optr (.loc 5) 0 0), (6, .optr (.loc 6) 0 0), (7, .int .i64 0), (16, .bool (!r28))], [(6, ⟨26, 4, true, [[.int .i64 0, .int .i64 0, .imm 0 3 true [], .imm 0 4 true []]]⟩), (5, ⟨26, 4, true, [[.int .i64 k3, .int .i64 n3, .imm p3 3 e3 (fcellss fs3), .imm q3 4 f3 (pcellss ks3)]]⟩), (4, ⟨26, 4, true, [[.int .i64 k2, .int .i64 n2, .imm p2 3 e2 (fcellss fs2), .imm q2 4 f2 (pcellss ks2)]]⟩), (3, ⟨23, 1, true, [[.imm q1 3 f1 (fcellss ks1)]]⟩)], [], O, tk30⟩) (Sub.env _ ⟨rfl, rfl, rfl, rfl, rfl, rfl, trivial⟩) ?_
 refine run_ifb rfl rfl (fun hb35 => ?_) (fun hb35 => ?_)
 ·replace hM := ite_t hb35 hM
  refine run_sr ?_
  refine run_pu rfl (build_step hG rfl (by rfl) rfl (fun h => by cases h) (by rfl)) rfl (ltb rfl) ?_
  refine yS hG rfl ?_
  refine yR rfl ?_
  refine yN ?_
  refine run_ret_to ?_
  replace hM := some_t hM
  subst hM
  refine fin_x hG rfl rfl rfl (v' := .tup [.agg [.int .i64 0, .int .i64 0, .imm 0 3 true (fcellss []), .imm 0 4 true (pcellss [])], .int .i64 1]) (by rfl) ⟨rfl, (show tk ≤ tk30 by omega), _, rfl, ⟨_, _, _, _, rfl, rfl, ⟨0, 0, 0, true, [], 0, true, [], rfl, rfl, fun _ => Fr.nil _ _⟩, rfl⟩⟩
 replace hM := ite_f hb35 hM
 refine run_skip ?_
 refine run_blk ?_
 refine run_seq ?_
 refine run_sr ?_
 refine run_pu rfl (makeFunc_step (first := []) (cap := [.tmp 3, .tmp 4, .tmp 5]) rfl rfl rfl) rfl (ltb rfl) ?_
 obtain ⟨z36, hg37, hM⟩ := bind_t hM
 refine yK rfl (caught_z (K := 98) (bor := [.loc 3, .loc 4, .loc 5]) (b := [⟨23, 1, true, [[.imm q1 3 f1 (fcellss ks1)]]⟩, ⟨26, 4, true, [[.int .i64 k2, .int .i64 n2, .imm p2 3 e2 (fcellss fs2), .imm q2 4 f2 (pcellss ks2)]]⟩, ⟨26, 4, true, [[.int .i64 k3, .int .i64 n3, .imm p3 3 e3 (fcellss fs3), .imm q3 4 f3 (pcellss ks3)]]⟩]) (caps := [.optr (.loc 3) 0 0, .optr (.loc 4) 0 0, .optr (.loc 5) 0 0]) (caps' := [.optr (.bor 0) 0 0, .optr (.bor 1) 0 0, .optr (.bor 2) 0 0]) (Bor.cons rfl rfl (by decide) (Bor.cons rfl rfl (by decide) (Bor.cons rfl rfl (by decide) (Bor.nil _)))) (.cons (.bor 0 _ _ _ rfl) (.cons (.bor 1 _ _ _ rfl) (.cons (.bor 2 _ _ _ rfl) .nil))) rfl (by intro y h; simp only [List.mem_cons, List.not_mem_nil, or_false] at h; rcases h with rfl | rfl | rfl <;> simp [tch, tch0]) rfl (i_CutProof_c1_ok n (.bor 0) q1 f1 ks1 (.bor 1) k2 n2 p2 e2 fs2 q2 f2 ks2 (.bor 2) k3 n3 p3 e3 fs3 q3 f3 ks3 hg37 _ _ rfl rfl rfl (by decide) (by decide) (by decide))) (callK_retX (fun v tk40 (hle41 : tk30 ≤ tk40) h38 => ?_))
 rcases z36 with r39 | ⟨c43, p44⟩
 ·replace hM := cs_ok hM
  obtain ⟨rfl, _⟩ := h38
  refine run_op rfl (alloc_step (d := 8) hG rfl rfl rfl) rfl (ltb rfl) ?_
  refine yS hG rfl ?_
  refine yN ?_
  refine run_sr ?_
  refine yF hG rfl ?_
  refine yD hG rfl ?_
  refine yB rfl ?_
  refine yN ?_
  refine run_ifb rfl rfl (fun hb45 => ?_) (fun hb45 => ?_)
  ·replace hM := ite_t hb45 hM
   refine run_seq ?_
   refine run_draw [.loc 6] (n := 5) mixed rfl (by intro x hx; simp only [List.mem_cons, List.not_mem_nil, or_false] at hx; rcases hx with rfl <;> rfl) ?_
   refine yT 0 (by kernel_rfl) rfl rfl rfl (ltb rfl) ((build_step hG rfl (by rfl) rfl (fun h => by cases h) (by rfl)).rd _) ?_
   refine yTF hG 1 (by kernel_rfl) rfl ?_
   refine yTL hG 2 (by kernel_rfl) rfl ?_
   refine yW hG 3 (by kernel_rfl) rfl (by kernel_rfl) rfl ?_
   refine yTW 4 (by kernel_rfl) rfl ?_
   refine AAny.done (by kernel_rfl) ?_
   refine run_ret_to ?_
   replace hM := some_t hM
   subst hM
   refine fin_x hG rfl rfl rfl (v' := .tup [.agg [.int .i64 0, .int .i64 0, .imm 0 3 true (fcellss []), .imm 0 4 true (pcellss [])], .int .i64 0]) (by rfl) ⟨rfl, (show tk ≤ tk40 by omega), _, rfl, ⟨_, _, _, _, rfl, rfl, ⟨0, 0, 0, true, [], 0, true, [], rfl, rfl, fun _ => Fr.nil _ _⟩, rfl⟩⟩
  replace hM := ite_f hb45 hM
  refine run_skip ?_
  refine run_sr ?_
  refine yD hG rfl ?_
  refine run_pu rfl (makeFunc_step (first := []) (cap := [.tmp 4]) rfl rfl rfl) rfl (ltb rfl) ?_
  obtain ⟨r46, hg47, hM⟩ := bind_t hM
  refine yK rfl (i_Proof_moved__fn_i_CutProof_c2v_ok n k3 n3 p3 e3 fs3 q3 f3 ks3 0 (.loc 4) k2 n2 p2 e2 fs2 q2 f2 ks2 hg47 _ _ rfl) (callK_retX (fun v tk48 (hle49 : tk40 ≤ tk48) h50 => ?_))
  obtain ⟨k51, n51, p51, e51, fs51, q51, f51, ks51, rfl, rfl, hf52⟩ := h50
  refine run_op rfl (alloc_step (d := 9) hG rfl rfl rfl) rfl (ltb rfl) ?_
  refine yS hG rfl ?_
  refine yN ?_
  refine run_seq ?_
  refine run_sr ?_
  refine yD hG rfl ?_
  obtain ⟨r53, hg54, hM⟩ := bind_t hM
  refine yK rfl (i_ProofOK_ok n k51 n51 p51 e51 fs51 q51 f51 ks51 hg54 _ _) (callK_retX (fun v tk55 (hle56 : tk48 ≤ tk55) h57 => ?_))
  subst h57
  refine run_pu rfl (aun_step rfl rfl rfl) rfl (ltb rfl) ?_
  refine yN ?_
  refine run_sub_code (σ' := ⟨[(6, .optr (.loc 6) 0 0), (7, .int .i64 0), (9, .optr (.loc 9) 0 0), (44, .bool (!r53))], [(9, ⟨26, 4, true, [[.int .i64 k51, .int .i64 n51, .imm p51 3 e51 (fcellss fs51), .imm q51 4 f51 (pcellss ks51)]]⟩), (6, ⟨26, 4, true, [[.int .i64 0, .int .i64 0, .imm 0 3 true [], .imm 0 4 true []]]⟩)], [], O, tk55⟩) (Sub.trans (Sub.drop (k := 8) rfl) (Sub.trans (Sub.drop (k := 5) rfl) (Sub.trans (Sub.drop (k := 4) rfl) (Sub.trans (Sub.drop (k := 3) rfl) (Sub.env _ ⟨rfl, rfl, rfl, rfl, trivial⟩))))) ?_
  refine run_ifb rfl rfl (fun hb60 => ?_) (fun hb60 => ?_)
  ·replace hM := ite_t hb60 hM
   refine run_sr ?_
   refine run_pu rfl (build_step hG rfl (by rfl) rfl (fun h => by cases h) (by rfl)) rfl (ltb rfl) ?_
   refine yS hG rfl ?_
   refine yR rfl ?_
   refine yN ?_
   refine run_ret_to ?_
   replace hM := some_t hM
   subst hM
   refine fin_x hG rfl rfl rfl (v' := .tup [.agg [.int .i64 0, .int .i64 0, .imm 0 3 true (fcellss []), .imm 0 4 true (pcellss [])], .int .i64 11]) (by rfl) ⟨rfl, (show tk ≤ tk55 by omega), _, rfl, ⟨_, _, _, _, rfl, rfl, ⟨0, 0, 0, true, [], 0, true, [], rfl, rfl, fun _ => Fr.nil _ _⟩, rfl⟩⟩
  replace hM := ite_f hb60 hM
  refine run_skip ?_
  refine run_sr ?_
  refine yD hG rfl ?_
  refine yS hG rfl ?_
  refine yR rfl ?_
  refine yN ?_
  refine run_ret_to ?_
  replace hM := some_t hM
  subst hM
  refine fin_x hG rfl rfl rfl (v' := .tup [.agg [.int .i64 k51, .int .i64 n51, .imm p51 3 e51 (fcellss fs51), .imm q51 4 f51 (pcellss ks51)], .int .i64 0]) (by rfl) ⟨rfl, (show tk ≤ tk55 by omega), _, rfl, ⟨_, _, _, _, rfl, rfl, ⟨k51, n51, p51, e51, fs51, q51, f51, ks51, rfl, rfl, fun _ => (show Fr tk tk55 _ from ((show Fr tk40 tk48 _ from hf52 rfl)).mono (by omega) (by omega))⟩, rfl⟩⟩
 replace hM := cs_stop hM
 obtain rfl : v = _ := h38
 refine run_op rfl (alloc_step (d := 8) hG rfl rfl rfl) rfl (ltb rfl) ?_
 refine yS hG rfl ?_
 refine yN ?_
 refine run_sr ?_
 refine yF hG rfl ?_
 refine yD hG rfl ?_
 refine yB rfl ?_
 refine yN ?_
 refine run_ifb rfl rfl (fun hb61 => ?_) (fun hb61 => ?_)
 ·replace hM := ite_t hb61 hM
  refine run_seq ?_
  refine run_draw [.loc 6] (n := 5) mixed rfl (by intro x hx; simp only [List.mem_cons, List.not_mem_nil, or_false] at hx; rcases hx with rfl <;> rfl) ?_
  refine yT 0 (by kernel_rfl) rfl rfl rfl (ltb rfl) ((build_step hG rfl (by rfl) rfl (fun h => by cases h) (by rfl)).rd _) ?_
  refine yTF hG 1 (by kernel_rfl) rfl ?_
  refine yTL hG 2 (by kernel_rfl) rfl ?_
  refine yW hG 3 (by kernel_rfl) rfl (by kernel_rfl) rfl ?_
  refine yTW 4 (by kernel_rfl) rfl ?_
  refine AAny.done (by kernel_rfl) ?_
  refine run_ret_to ?_
  replace hM := some_t hM
  subst hM
  refine fin_x hG rfl rfl rfl (v' := .tup [.agg [.int .i64 0, .int .i64 0, .imm 0 3 true (fcellss []), .imm 0 4 true (pcellss [])], .int .i64 c43]) (by rfl) ⟨rfl, (show tk ≤ tk40 by omega), _, rfl, ⟨_, _, _, _, rfl, rfl, ⟨0, 0, 0, true, [], 0, true, [], rfl, rfl, fun _ => Fr.nil _ _⟩, rfl⟩⟩
 replace hM := ite_f hb61 hM
 refine run_skip ?_
 refine run_sr ?_
 refine yD hG rfl ?_
 refine run_pu rfl (makeFunc_step (first := []) (cap := [.tmp 4]) rfl rfl rfl) rfl (ltb rfl) ?_
 obtain ⟨r62, hg63, hM⟩ := bind_t hM
 refine yK rfl (i_Proof_moved__fn_i_CutProof_c2v_ok n k3 n3 p3 e3 fs3 q3 f3 ks3 0 (.loc 4) k2 n2 p2 e2 fs2 q2 f2 ks2 hg63 _ _ rfl) (callK_retX (fun v tk64 (hle65 : tk40 ≤ tk64) h66 => ?_))
 obtain ⟨k67, n67, p67, e67, fs67, q67, f67, ks67, rfl, rfl, hf68⟩ := h66
 refine run_op rfl (alloc_step (d := 9) hG rfl rfl rfl) rfl (ltb rfl) ?_
 refine yS hG rfl ?_
 refine yN ?_
 refine run_seq ?_
 refine run_sr ?_
 refine yD hG rfl ?_
 obtain ⟨r69, hg70, hM⟩ := bind_t hM
 refine yK rfl (i_ProofOK_ok n k67 n67 p67 e67 fs67 q67 f67 ks67 hg70 _ _) (callK_retX (fun v tk71 (hle72 : tk64 ≤ tk71) h73 => ?_))
 subst h73
 refine run_pu rfl (aun_step rfl rfl rfl) rfl (ltb rfl) ?_
 refine yN ?_
 refine run_sub_code (σ' := ⟨[(6, .optr (.loc 6) 0 0), (7, .int .i64 0), (9, .optr (.loc 9) 0 0), (44, .bool (!r69))], [(9, ⟨26, 4, true, [[.int .i64 k67, .int .i64 n67, .imm p67 3 e67 (fcellss fs67), .imm q67 4 f67 (pcellss ks67)]]⟩), (6, ⟨26, 4, true, [[.int .i64 0, .int .i64 0, .imm 0 3 true [], .imm 0 4 true []]]⟩)], [], O, tk71⟩) (Sub.trans (Sub.drop (k := 8) rfl) (Sub.trans (Sub.drop (k := 5) rfl) (Sub.trans (Sub.drop (k := 4) rfl) (Sub.trans (Sub.drop (k := 3) rfl) (Sub.env _ ⟨rfl, rfl, rfl, rfl, trivial⟩))))) ?_
 refine run_ifb rfl rfl (fun hb76 => ?_) (fun hb76 => ?_)
 ·replace hM := ite_t hb76 hM
  refine run_sr ?_
  refine run_pu rfl (build_step hG rfl (by rfl) rfl (fun h => by cases h) (by rfl)) rfl (ltb rfl) ?_
  refine yS hG rfl ?_
  refine yR rfl ?_
  refine yN ?_
  refine run_ret_to ?_
  replace hM := some_t hM
  subst hM
  refine fin_x hG rfl rfl rfl (v' := .tup [.agg [.int .i64 0, .int .i64 0, .imm 0 3 true (fcellss []), .imm 0 4 true (pcellss [])], .int .i64 11]) (by rfl) ⟨rfl, (show tk ≤ tk71 by omega), _, rfl, ⟨_, _, _, _, rfl, rfl, ⟨0, 0, 0, true, [], 0, true, [], rfl, rfl, fun _ => Fr.nil _ _⟩, rfl⟩⟩
 replace hM := ite_f hb76 hM
 refine run_skip ?_
 refine run_sr ?_
 refine yD hG rfl ?_
 refine yS hG rfl ?_
 refine yR rfl ?_
 refine yN ?_
 refine run_ret_to ?_
 replace hM := some_t hM
 subst hM
 refine fin_x hG rfl rfl rfl (v' := .tup [.agg [.int .i64 k67, .int .i64 n67, .imm p67 3 e67 (fcellss fs67), .imm q67 4 f67 (pcellss ks67)], .int .i64 0]) (by rfl) ⟨rfl, (show tk ≤ tk71 by omega), _, rfl, ⟨_, _, _, _, rfl, rfl, ⟨k67, n67, p67, e67, fs67, q67, f67, ks67, rfl, rfl, fun _ => (show Fr tk tk71 _ from ((show Fr tk40 tk64 _ from hf68 rfl)).mono (by omega) (by omega))⟩, rfl⟩⟩

end Go.Am.Ytpkeophkdemcpaa
