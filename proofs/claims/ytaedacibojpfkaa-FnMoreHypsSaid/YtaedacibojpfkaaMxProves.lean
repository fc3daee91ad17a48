/- Printed by a program of ours: Lean functions that do what the Go functions do, and the contracts. -/
import Derived.Test.YtaedacibojpfkaaMi4
import Derived.Test.YtaedacibojpfkaaTypes
import Derived.Test.YtaedacibojpfkaaMc1
import Derived.Test.YtaedacibojpfkaaMxPB
-- packed
namespace Go.Am.Ytaedacibojpfkaa
open Go Go.Am

def i_Proves_c1 (n : Nat) (l1 : List F) (x2 : Pf) (x3 : F) : Option (Rz F) :=
 zb (i_proves n l1 x2 0) fun r4 =>
 some (.ok r4)

set_option maxRecDepth 100000 in
theorem i_Proves_c1_ok (n : Nat) : ∀ (X0 : ID) (q1 : Nat) (f1 : Bool) (ks1 : List LF) (X1 : ID) (k2 : Int) (n2 : Int) (p2 : Nat) (e2 : Bool) (fs2 : List LF) (q2 : Nat) (f2 : Bool) (ks2 : List LP) (X2 : ID) (k3 : Int) (n3 : Int) (q3 : Nat) (f3 : Bool) (ks3 : List LF) {r : (Rz F)}, i_Proves_c1 n (fers ks1) (Pf.mk k2 n2 (fers fs2) (pers ks2)) (F.mk k3 n3 (fers ks3)) = some r → ∀ (O : Heap) (tk : Nat), O X0 = some ⟨23, 1, true, [[.imm q1 3 f1 (fcellss ks1)]]⟩ → O X1 = some ⟨26, 4, true, [[.int .i64 k2, .int .i64 n2, .imm p2 3 e2 (fcellss fs2), .imm q2 4 f2 (pcellss ks2)]]⟩ → O X2 = some ⟨28, 3, true, [[.int .i64 k3, .int .i64 n3, .imm q3 3 f3 (fcellss ks3)]]⟩ → X0 ≠ X1 → X0 ≠ X2 → X1 ≠ X2 → ACalls Go.Proofs.Try.prog 59 [.optr X0 0 0, .optr X1 0 0, .optr X2 0 0] O tk (RetVZ HT O X2 tk r (fun r v o' tk' => ∃ cs, o' = ⟨28, 3, true, [cs]⟩ ∧ VF false tk tk' r (.agg cs) ∧ v = .tup []) (fun o' => o'.up = o')) := by
 intro X0 q1 f1 ks1 X1 k2 n2 p2 e2 fs2 q2 f2 ks2 X2 k3 n3 q3 f3 ks3 r hM O tk hX0 hX1 hX2 hN01 hN02 hN12
 unfold i_Proves_c1 at hM
 refine acalls_of_run Go.Proofs.Try.func59 rfl rfl [X0, X1, X2] [⟨23, 1, true, [[.imm q1 3 f1 (fcellss ks1)]]⟩, ⟨26, 4, true, [[.int .i64 k2, .int .i64 n2, .imm p2 3 e2 (fcellss fs2), .imm q2 4 f2 (pcellss ks2)]]⟩, ⟨28, 3, true, [[.int .i64 k3, .int .i64 n3, .imm q3 3 f3 (fcellss ks3)]]⟩] (Bor.cons hX0 rfl (by simp only [List.mem_cons, List.not_mem_nil, or_false, not_or]; exact ⟨hN01, hN02⟩) (Bor.cons hX1 rfl (by simp only [List.mem_cons, List.not_mem_nil, or_false, not_or]; exact hN12) (Bor.cons hX2 rfl (List.not_mem_nil) (Bor.nil _)))) [(0, .optr (.bor 0) 0 0), (1, .optr (.bor 1) 0 0), (2, .optr (.bor 2) 0 0)] (.cons (.bor 0 _ _ _ rfl) (.cons (.bor 1 _ _ _ rfl) (.cons (.bor 2 _ _ _ rfl) (.nil _)))) (leb rfl) (by intro y h; simp only [List.mem_cons, List.not_mem_nil, or_false] at h; rcases h with rfl | rfl | rfl <;> simp [tch, tch0]) (fun S0 hO htk hfz => ?_)
 refine run_region ?_
 refine run_ld hG rfl rfl rfl rfl rfl (ltb rfl) ?_
 refine run_ld hG rfl rfl rfl rfl rfl (ltb rfl) ?_
 obtain ⟨z9, hg5, hM⟩ := zb_t hM
 refine run_call rfl rfl rfl (ltb rfl) rfl rfl rfl (fun _ h => absurd h List.not_mem_nil) (i_proves_ok n q1 f1 ks1 k2 n2 p2 e2 fs2 q2 f2 ks2 0 hg5 _ _) (callK_retZ (fun r4 v tk6 hz12 (hle7 : tk ≤ tk6) h8 => ?_) (fun c p tk6 hz (_ : tk ≤ tk6) => by subst hz; obtain rfl := bd_stop hM; exact run_pan_at (⟨⟨28, 3, true, [[.int .i64 k3, .int .i64 n3, .imm q3 3 f3 (fcellss ks3)]]⟩, out_upd (j := 2) (Bor.cons hX0 rfl (by simp only [List.mem_cons, List.not_mem_nil, or_false, not_or]; exact ⟨hN01, hN02⟩) (Bor.cons hX1 rfl (by simp only [List.mem_cons, List.not_mem_nil, or_false, not_or]; exact hN12) (Bor.cons hX2 rfl (List.not_mem_nil) (Bor.nil _)))) rfl, (show tk ≤ tk6 by omega), rfl, rfl⟩)))
 subst hz12
 replace hM := bd_ok hM
 obtain ⟨k10, n10, q10, f10, ks10, rfl, rfl, hf11⟩ := h8
 refine run_op0 rfl (store_step hG rfl rfl rfl rfl rfl rfl rfl rfl) rfl ?_
 refine run_ops_nil ?_
 show Results _ _ _ _
 obtain rfl := some_t hM
 refine fin_x hG rfl rfl rfl (v' := .tup []) (by rfl) ⟨⟨28, 3, true, [[.int .i64 k10, .int .i64 n10, .imm q10 3 f10 (fcellss ks10)]]⟩, out_upd (j := 2) (Bor.cons hX0 rfl (by simp only [List.mem_cons, List.not_mem_nil, or_false, not_or]; exact ⟨hN01, hN02⟩) (Bor.cons hX1 rfl (by simp only [List.mem_cons, List.not_mem_nil, or_false, not_or]; exact hN12) (Bor.cons hX2 rfl (List.not_mem_nil) (Bor.nil _)))) rfl, (show tk ≤ tk6 by omega), _, rfl, ⟨_, rfl, ⟨k10, n10, q10, f10, ks10, rfl, rfl, fun h => by cases h⟩, rfl⟩⟩

def i_Proves (n : Nat) (l1 : List F) (x2 : Pf) : Option (F × Int × Int) :=
 (i_longLists n ([((l1).length : Int)])).bind fun r3 =>
 if r3 = true then
  some ((F.mk 0 0 []), 2, 0)
 else
  (i_hypsOK n l1).bind fun r11 =>
  if (!r11) = true then
   some ((F.mk 0 0 []), 1, 0)
  else
   (i_ProofOK n x2).bind fun r19 =>
   if (!r19) = true then
    some ((F.mk 0 0 []), 1, 0)
   else
    (i_Proves_c1 n l1 x2 (F.mk 0 0 [])).bind fun z27 =>
    z27.cs (fun r30 =>
     if (0 != 0) = true then
      some ((F.mk 0 0 []), 0, 0)
     else
      (i_cloneForm n r30).bind fun r39 =>
      some (r39, 0, 0)) (fun c36 p37 =>
     if (c36 != 0) = true then
      some ((F.mk 0 0 []), c36, p37)
     else
      none)

set_option maxHeartbeats 2000000 in
set_option maxRecDepth 100000 in
theorem i_Proves_ok (n : Nat) : ∀ (q1 : Nat) (f1 : Bool) (ks1 : List LF) (k2 : Int) (n2 : Int) (p2 : Nat) (e2 : Bool) (fs2 : List LF) (q2 : Nat) (f2 : Bool) (ks2 : List LP) {r : (F × Int × Int)}, i_Proves n (fers ks1) (Pf.mk k2 n2 (fers fs2) (pers ks2)) = some r → ∀ (O : Heap) (tk : Nat), ACalls Go.Proofs.Try.prog 11 [.imm q1 3 f1 (fcellss ks1), .agg [.int .i64 k2, .int .i64 n2, .imm p2 3 e2 (fcellss fs2), .imm q2 4 f2 (pcellss ks2)]] O tk (RetX O tk (fun v tk' => ∃ r0' r1' r2' v0' v1' v2', r = (r0', r1', r2') ∧ v = .tup [v0', v1', v2'] ∧ VF true tk tk' r0' v0' ∧ v1' = .int .i64 r1' ∧ v2' = .int .i64 r2')) := by
 intro q1 f1 ks1 k2 n2 p2 e2 fs2 q2 f2 ks2 r hM O tk
 unfold i_Proves at hM
 refine acalls_of_run Go.Proofs.Try.func11 rfl rfl [] [] (Bor.nil _) [(0, .imm q1 3 f1 (fcellss ks1)), (1, .agg [.int .i64 k2, .int .i64 n2, .imm p2 3 e2 (fcellss fs2), .imm q2 4 f2 (pcellss ks2)])] (.cons (entS rfl) (.cons (.agg _) (.nil _))) (leb rfl) (fun _ h => by cases h) (fun S0 hO htk hfz => ?_)
 refine run_sr ?_
 refine run_op rfl (box_step (d := 2) rfl rfl rfl rfl rfl) rfl (ltb rfl) ?_
 refine run_op rfl (box_step (d := 3) rfl rfl rfl rfl rfl) rfl (ltb rfl) ?_
 refine run_op rfl (alloc_step (d := 4) hG rfl rfl rfl) rfl (ltb rfl) ?_
 refine mvR rfl rfl rfl rfl (ltb rfl) ?_
 refine mvR rfl rfl rfl rfl (ltb rfl) ?_
 refine run_ops_nil ?_
 refine run_seq ?_
 refine run_block ?_
 refine run_sr ?_
 refine run_ld hG rfl rfl rfl rfl rfl (ltb rfl) ?_
 refine run_pu rfl (lenImm_step hG rfl rfl rfl rfl (flen _)) rfl (ltb rfl) ?_
 refine run_op rfl (buildSlice_step (d := 12) hG rfl rfl rfl rfl rfl (by rfl) (by rfl) (by rfl) (by decide)) rfl (ltb rfl) ?_
 refine run_sub_ops (Sub.freeze (k := 12) rfl rfl) ?_
 obtain ⟨r3, hg4, hM⟩ := bind_t hM
 refine run_call rfl rfl rfl (ltb rfl) rfl rfl rfl (fun _ h => absurd h List.not_mem_nil) (i_longLists_ok n tk false [(((fers ks1)).length : Int)] hg4 _ _) (callK_retX (fun v tk5 (hle6 : (tk + 1) ≤ tk5) h7 => ?_))
 subst h7
 refine mvR rfl rfl rfl rfl (ltb rfl) ?_
 refine run_ops_nil ?_
 refine run_ifb rfl rfl (fun hb10 => ?_) (fun hb10 => ?_)
 ·replace hM := ite_t hb10 hM
  refine run_sr ?_
  refine run_pu rfl (build_step hG rfl (by rfl) rfl (fun h => by cases h) (by rfl)) rfl (ltb rfl) ?_
  refine run_op0 rfl (store_step hG rfl rfl rfl rfl rfl rfl rfl rfl) rfl ?_
  refine mvR rfl rfl rfl rfl (ltb rfl) ?_
  refine mvR rfl rfl rfl rfl (ltb rfl) ?_
  refine run_ops_nil ?_
  refine run_ret_to ?_
  obtain rfl := some_t hM
  refine fin_x hG rfl rfl rfl (v' := .tup [.agg [.int .i64 0, .int .i64 0, .imm 0 3 true (fcellss [])], .int .i64 2, .int .i64 0]) (by rfl) ⟨rfl, (show tk ≤ tk5 by omega), _, rfl, ⟨_, _, _, _, _, _, rfl, rfl, ⟨0, 0, 0, true, [], rfl, rfl, fun _ => Fr.nil _ _⟩, rfl, rfl⟩⟩
 ·replace hM := ite_f hb10 hM
  refine run_sr ?_
  refine run_ld hG rfl rfl rfl rfl rfl (ltb rfl) ?_
  obtain ⟨r11, hg12, hM⟩ := bind_t hM
  refine run_call rfl rfl rfl (ltb rfl) rfl rfl rfl (fun _ h => absurd h List.not_mem_nil) (i_hypsOK_ok n q1 f1 ks1 hg12 _ _) (callK_retX (fun v tk13 (hle14 : tk5 ≤ tk13) h15 => ?_))
  subst h15
  refine run_pu rfl (aun_step rfl rfl rfl) rfl (ltb rfl) ?_
  refine mvL rfl rfl rfl rfl (ltb rfl) ?_
  refine run_splitb (i := 19) rfl (fun hb18 => ?_) (fun hb18 => ?_)
  ·replace hM := ite_t hb18 hM
   refine run_off (on_of rfl rfl rfl rfl) rfl (ltb rfl) ?_
   refine run_off (on_of rfl rfl rfl rfl) rfl (ltb rfl) ?_
   refine run_off (on_of rfl rfl rfl rfl) rfl (ltb rfl) ?_
   refine run_pu rfl (pick_step rfl rfl rfl) rfl (ltb rfl) ?_
   refine mvR rfl rfl rfl rfl (ltb rfl) ?_
   refine run_ops_nil ?_
   refine run_sub_code (σ' := ⟨[(2, .optr (.loc 2) 0 0), (3, .optr (.loc 3) 0 0), (4, .optr (.loc 4) 0 0), (5, .int .i64 0), (6, .int .i64 0), (15, .bool true)], [(4, ⟨28, 3, true, [[.int .i64 0, .int .i64 0, .imm 0 3 true []]]⟩), (3, ⟨26, 4, true, [[.int .i64 k2, .int .i64 n2, .imm p2 3 e2 (fcellss fs2), .imm q2 4 f2 (pcellss ks2)]]⟩), (2, ⟨23, 1, true, [[.imm q1 3 f1 (fcellss ks1)]]⟩)], [], O, tk13⟩) (Sub.env _ ⟨rfl, rfl, rfl, rfl, rfl, rfl, trivial⟩) ?_
   refine run_if rfl rfl (fun _ => ?_) (fun h => by cases h)
   refine run_sr ?_
   refine run_pu rfl (build_step hG rfl (by rfl) rfl (fun h => by cases h) (by rfl)) rfl (ltb rfl) ?_
   refine run_op0 rfl (store_step hG rfl rfl rfl rfl rfl rfl rfl rfl) rfl ?_
   refine mvR rfl rfl rfl rfl (ltb rfl) ?_
   refine mvR rfl rfl rfl rfl (ltb rfl) ?_
   refine run_ops_nil ?_
   refine run_ret_to ?_
   obtain rfl := some_t hM
   refine fin_x hG rfl rfl rfl (v' := .tup [.agg [.int .i64 0, .int .i64 0, .imm 0 3 true (fcellss [])], .int .i64 1, .int .i64 0]) (by rfl) ⟨rfl, (show tk ≤ tk13 by omega), _, rfl, ⟨_, _, _, _, _, _, rfl, rfl, ⟨0, 0, 0, true, [], rfl, rfl, fun _ => Fr.nil _ _⟩, rfl, rfl⟩⟩
  ·replace hM := ite_f hb18 hM
   refine run_rdG (on_of rfl rfl rfl rfl) (aload_rd hG rfl rfl rfl (by first | (simp [ldok]; done) | exact List.not_mem_nil | trivial)) rfl (ltb rfl) ?_
   obtain ⟨r19, hg20, hM⟩ := bind_t hM
   refine run_callG (on_of rfl rfl rfl rfl) rfl rfl (ltb rfl) rfl rfl rfl (fun _ h => absurd h List.not_mem_nil) (i_ProofOK_ok n k2 n2 p2 e2 fs2 q2 f2 ks2 hg20 _ _) (callK_retX (fun v tk21 (hle22 : tk13 ≤ tk21) h23 => ?_))
   subst h23
   refine run_puG (on_of rfl rfl rfl rfl) (aun_step rfl rfl rfl) rfl (ltb rfl) ?_
   refine run_pu rfl (pick_step rfl rfl rfl) rfl (ltb rfl) ?_
   refine mvR rfl rfl rfl rfl (ltb rfl) ?_
   refine run_ops_nil ?_
   refine run_sub_code (σ' := ⟨[(2, .optr (.loc 2) 0 0), (3, .optr (.loc 3) 0 0), (4, .optr (.loc 4) 0 0), (5, .int .i64 0), (6, .int .i64 0), (15, .bool (!r19))], [(4, ⟨28, 3, true, [[.int .i64 0, .int .i64 0, .imm 0 3 true []]]⟩), (3, ⟨26, 4, true, [[.int .i64 k2, .int .i64 n2, .imm p2 3 e2 (fcellss fs2), .imm q2 4 f2 (pcellss ks2)]]⟩), (2, ⟨23, 1, true, [[.imm q1 3 f1 (fcellss ks1)]]⟩)], [], O, tk21⟩) (Sub.env _ ⟨rfl, rfl, rfl, rfl, rfl, rfl, trivial⟩) ?_
   refine run_ifb rfl rfl (fun hb26 => ?_) (fun hb26 => ?_)
   ·replace hM := ite_t hb26 hM
    refine run_sr ?_
    refine run_pu rfl (build_step hG rfl (by rfl) rfl (fun h => by cases h) (by rfl)) rfl (ltb rfl) ?_
    refine run_op0 rfl (store_step hG rfl rfl rfl rfl rfl rfl rfl rfl) rfl ?_
    refine mvR rfl rfl rfl rfl (ltb rfl) ?_
    refine mvR rfl rfl rfl rfl (ltb rfl) ?_
    refine run_ops_nil ?_
    refine run_ret_to ?_
    obtain rfl := some_t hM
    refine fin_x hG rfl rfl rfl (v' := .tup [.agg [.int .i64 0, .int .i64 0, .imm 0 3 true (fcellss [])], .int .i64 1, .int .i64 0]) (by rfl) ⟨rfl, (show tk ≤ tk21 by omega), _, rfl, ⟨_, _, _, _, _, _, rfl, rfl, ⟨0, 0, 0, true, [], rfl, rfl, fun _ => Fr.nil _ _⟩, rfl, rfl⟩⟩
   ·replace hM := ite_f hb26 hM
    refine run_skip ?_
    refine run_blk ?_
    refine run_sr ?_
    refine run_pu rfl (build_step hG rfl (by rfl) rfl (fun h => by cases h) (by rfl)) rfl (ltb rfl) ?_
    refine run_op rfl (alloc_step (d := 7) hG rfl rfl rfl) rfl (ltb rfl) ?_
    refine run_op0 rfl (store_step hG rfl rfl rfl rfl rfl rfl rfl rfl) rfl ?_
    refine run_ops_nil ?_
    refine run_seq ?_
    refine run_sr ?_
    refine run_pu rfl (makeFunc_step (first := []) (cap := [.tmp 2, .tmp 3, .tmp 7]) rfl rfl rfl) rfl (ltb rfl) ?_
    obtain ⟨z27, hg28, hM⟩ := bind_t hM
    refine run_call rfl rfl rfl (ltb rfl) rfl rfl rfl (fun _ h => absurd h List.not_mem_nil) (caught_vz (j := 2) rfl (K := 59) (bor := [.loc 2, .loc 3, .loc 7]) (b := [⟨23, 1, true, [[.imm q1 3 f1 (fcellss ks1)]]⟩, ⟨26, 4, true, [[.int .i64 k2, .int .i64 n2, .imm p2 3 e2 (fcellss fs2), .imm q2 4 f2 (pcellss ks2)]]⟩, ⟨28, 3, true, [[.int .i64 0, .int .i64 0, .imm 0 3 true []]]⟩]) (caps := [.optr (.loc 2) 0 0, .optr (.loc 3) 0 0, .optr (.loc 7) 0 0]) (caps' := [.optr (.bor 0) 0 0, .optr (.bor 1) 0 0, .optr (.bor 2) 0 0]) (Bor.cons rfl rfl (by decide) (Bor.cons rfl rfl (by decide) (Bor.cons rfl rfl (by decide) (Bor.nil _)))) (.cons (.bor 0 _ _ _ rfl) (.cons (.bor 1 _ _ _ rfl) (.cons (.bor 2 _ _ _ rfl) .nil))) rfl (by intro y h; simp only [List.mem_cons, List.not_mem_nil, or_false] at h; rcases h with rfl | rfl | rfl <;> simp [tch, tch0]) rfl (i_Proves_c1_ok n (.bor 0) q1 f1 ks1 (.bor 1) k2 n2 p2 e2 fs2 q2 f2 ks2 (.bor 2) 0 0 0 true [] hg28 _ _ rfl rfl rfl (by decide) (by decide) (by decide)) (fun a v o' tk' h => by obtain ⟨_, rfl, ⟨_, _, _, _, _, ⟨⟩, rfl, _⟩, _⟩ := h; rfl)) (callK_retV_loc (k := 7) rfl (fun v o'33 tk31 (hle32 : tk21 ≤ tk31) h29 => ?_))
    rcases z27 with r30 | ⟨c36, p37⟩
    ·replace hM := cs_ok hM
     obtain ⟨rfl, _, ⟨_, rfl, ⟨k34, n34, q34, f34, ks34, ⟨⟩, rfl, hf35⟩, rfl⟩⟩ := h29
     refine run_op rfl (alloc_step (d := 8) hG rfl rfl rfl) rfl (ltb rfl) ?_
     refine run_op0 rfl (store_step hG rfl rfl rfl rfl rfl rfl rfl rfl) rfl ?_
     refine run_ops_nil ?_
     refine run_sr ?_
     refine run_pu rfl (fieldAddr_step hG rfl rfl rfl rfl rfl) rfl (ltb rfl) ?_
     refine run_ld hG rfl rfl rfl rfl rfl (ltb rfl) ?_
     refine run_bin rfl rfl rfl rfl rfl rfl rfl (ltb rfl) ?_
     refine run_ops_nil ?_
     refine run_ifb rfl rfl (fun hb38 => ?_) (fun hb38 => ?_)
     ·replace hM := ite_t hb38 hM
      refine run_seq ?_
      refine run_draw [.loc 4] (n := 8) mixed rfl (by intro x hx; simp only [List.mem_cons, List.not_mem_nil, or_false] at hx; rcases hx with rfl <;> rfl) ?_
      refine AAny.take (i := 0) rfl (by kernel_rfl) (by kernel_rfl) (by kernel_rfl) rfl rfl (ltb rfl) ((build_step hG rfl (by rfl) rfl (fun h => by cases h) (by rfl)).rd _) ?_
      refine AAny.take (i := 1) rfl (by kernel_rfl) (by kernel_rfl) (by kernel_rfl) rfl rfl (ltb rfl) ((fieldAddr_step hG rfl rfl rfl rfl rfl).rd _) ?_
      refine AAny.take (i := 2) rfl (by kernel_rfl) (by kernel_rfl) (by kernel_rfl) rfl rfl (ltb rfl) (aload_rd hG rfl rfl rfl (by first | (simp [ldok]; done) | exact List.not_mem_nil | trivial)) ?_
      refine AAny.take (i := 3) rfl (by kernel_rfl) (by kernel_rfl) (by kernel_rfl) rfl rfl (ltb rfl) ((fieldAddr_step hG rfl rfl rfl rfl rfl).rd _) ?_
      refine AAny.take (i := 4) rfl (by kernel_rfl) (by kernel_rfl) (by kernel_rfl) rfl rfl (ltb rfl) (aload_rd hG rfl rfl rfl (by first | (simp [ldok]; done) | exact List.not_mem_nil | trivial)) ?_
      refine AAny.one (i := 5) (by kernel_rfl) (AOp.step0 rfl rfl rfl (store_step hG rfl rfl rfl rfl rfl rfl rfl rfl) (by intro x hx; exact hx) ?_)
      refine AAny.take (i := 6) rfl (by kernel_rfl) (by kernel_rfl) (by kernel_rfl) rfl rfl (ltb rfl) ((move_step (.inr rfl) rfl).rd _) ?_
      refine AAny.take (i := 7) rfl (by kernel_rfl) (by kernel_rfl) (by kernel_rfl) rfl rfl (ltb rfl) ((move_step (.inr rfl) rfl).rd _) ?_
      refine AAny.done (by kernel_rfl) ?_
      refine run_ret_to ?_
      obtain rfl := some_t hM
      refine fin_x hG rfl rfl rfl (v' := .tup [.agg [.int .i64 0, .int .i64 0, .imm 0 3 true (fcellss [])], .int .i64 0, .int .i64 0]) (by rfl) ⟨rfl, (show tk ≤ tk31 by omega), _, rfl, ⟨_, _, _, _, _, _, rfl, rfl, ⟨0, 0, 0, true, [], rfl, rfl, fun _ => Fr.nil _ _⟩, rfl, rfl⟩⟩
     ·replace hM := ite_f hb38 hM
      refine run_skip ?_
      refine run_sr ?_
      refine run_ld hG rfl rfl rfl rfl rfl (ltb rfl) ?_
      obtain ⟨r39, hg40, hM⟩ := bind_t hM
      refine run_call rfl rfl rfl (ltb rfl) rfl rfl rfl (fun _ h => absurd h List.not_mem_nil) (i_cloneForm_ok n k34 n34 q34 f34 ks34 hg40 _ _) (callK_retX (fun v tk41 (hle42 : tk31 ≤ tk41) h43 => ?_))
      obtain ⟨k44, n44, q44, f44, ks44, rfl, rfl, hf45⟩ := h43
      refine run_op0 rfl (store_step hG rfl rfl rfl rfl rfl rfl rfl rfl) rfl ?_
      refine mvR rfl rfl rfl rfl (ltb rfl) ?_
      refine mvR rfl rfl rfl rfl (ltb rfl) ?_
      refine run_ops_nil ?_
      refine run_ret_to ?_
      obtain rfl := some_t hM
      refine fin_x hG rfl rfl rfl (v' := .tup [.agg [.int .i64 k44, .int .i64 n44, .imm q44 3 f44 (fcellss ks44)], .int .i64 0, .int .i64 0]) (by rfl) ⟨rfl, (show tk ≤ tk41 by omega), _, rfl, ⟨_, _, _, _, _, _, rfl, rfl, ⟨k44, n44, q44, f44, ks44, rfl, rfl, fun _ => (show Fr tk tk41 _ from ((show Fr tk31 tk41 _ from hf45 rfl)).mono (by omega) (by omega))⟩, rfl, rfl⟩⟩
    ·replace hM := cs_stop hM
     obtain ⟨rfl, _⟩ := h29
     refine run_op rfl (alloc_step (d := 8) hG rfl rfl rfl) rfl (ltb rfl) ?_
     refine run_op0 rfl (store_step hG rfl rfl rfl rfl rfl rfl rfl rfl) rfl ?_
     refine run_ops_nil ?_
     refine run_sr ?_
     refine run_pu rfl (fieldAddr_step hG rfl rfl rfl rfl rfl) rfl (ltb rfl) ?_
     refine run_ld hG rfl rfl rfl rfl rfl (ltb rfl) ?_
     refine run_bin rfl rfl rfl rfl rfl rfl rfl (ltb rfl) ?_
     refine run_ops_nil ?_
     refine run_ifb rfl rfl (fun hb46 => ?_) (fun hb46 => ?_)
     ·replace hM := ite_t hb46 hM
      refine run_seq ?_
      refine run_draw [.loc 4] (n := 8) mixed rfl (by intro x hx; simp only [List.mem_cons, List.not_mem_nil, or_false] at hx; rcases hx with rfl <;> rfl) ?_
      refine AAny.take (i := 0) rfl (by kernel_rfl) (by kernel_rfl) (by kernel_rfl) rfl rfl (ltb rfl) ((build_step hG rfl (by rfl) rfl (fun h => by cases h) (by rfl)).rd _) ?_
      refine AAny.take (i := 1) rfl (by kernel_rfl) (by kernel_rfl) (by kernel_rfl) rfl rfl (ltb rfl) ((fieldAddr_step hG rfl rfl rfl rfl rfl).rd _) ?_
      refine AAny.take (i := 2) rfl (by kernel_rfl) (by kernel_rfl) (by kernel_rfl) rfl rfl (ltb rfl) (aload_rd hG rfl rfl rfl (by first | (simp [ldok]; done) | exact List.not_mem_nil | trivial)) ?_
      refine AAny.take (i := 3) rfl (by kernel_rfl) (by kernel_rfl) (by kernel_rfl) rfl rfl (ltb rfl) ((fieldAddr_step hG rfl rfl rfl rfl rfl).rd _) ?_
      refine AAny.take (i := 4) rfl (by kernel_rfl) (by kernel_rfl) (by kernel_rfl) rfl rfl (ltb rfl) (aload_rd hG rfl rfl rfl (by first | (simp [ldok]; done) | exact List.not_mem_nil | trivial)) ?_
      refine AAny.one (i := 5) (by kernel_rfl) (AOp.step0 rfl rfl rfl (store_step hG rfl rfl rfl rfl rfl rfl rfl rfl) (by intro x hx; exact hx) ?_)
      refine AAny.take (i := 6) rfl (by kernel_rfl) (by kernel_rfl) (by kernel_rfl) rfl rfl (ltb rfl) ((move_step (.inr rfl) rfl).rd _) ?_
      refine AAny.take (i := 7) rfl (by kernel_rfl) (by kernel_rfl) (by kernel_rfl) rfl rfl (ltb rfl) ((move_step (.inr rfl) rfl).rd _) ?_
      refine AAny.done (by kernel_rfl) ?_
      refine run_ret_to ?_
      obtain rfl := some_t hM
      refine fin_x hG rfl rfl rfl (v' := .tup [.agg [.int .i64 0, .int .i64 0, .imm 0 3 true (fcellss [])], .int .i64 c36, .int .i64 p37]) (by rfl) ⟨rfl, (show tk ≤ tk31 by omega), _, rfl, ⟨_, _, _, _, _, _, rfl, rfl, ⟨0, 0, 0, true, [], rfl, rfl, fun _ => Fr.nil _ _⟩, rfl, rfl⟩⟩
     ·replace hM := ite_f hb46 hM
      refine run_skip ?_
      refine run_sr ?_
      cases hM

set_option maxRecDepth 100000 in
theorem s_l08Two_ex (i1 : Int) (k2 : Int) (n2 : Int) (q2 : Nat) (f2 : Bool) (ks2 : List LF) (k3 : Int) (n3 : Int) (q3 : Nat) (f3 : Bool) (ks3 : List LF) (O : Heap) (tk : Nat) : ACalls Go.Proofs.Try.prog 120 [.int .i64 i1, .agg [.int .i64 k2, .int .i64 n2, .imm q2 3 f2 (fcellss ks2)], .agg [.int .i64 k3, .int .i64 n3, .imm q3 3 f3 (fcellss ks3)]] O tk (RetN O (.agg [.int .i64 i1, .int .i64 0, .imm tk 3 false (fcellss [LF.mk k2 n2 q2 f2 ks2, LF.mk k3 n3 q3 f3 ks3])]) (tk + 1)) := by
 refine acalls_of_run Go.Proofs.Try.func120 rfl rfl [] [] (Bor.nil _) [(0, .int .i64 i1), (1, .agg [.int .i64 k2, .int .i64 n2, .imm q2 3 f2 (fcellss ks2)]), (2, .agg [.int .i64 k3, .int .i64 n3, .imm q3 3 f3 (fcellss ks3)])] (.cons (entS rfl) (.cons (.agg _) (.cons (.agg _) (.nil _)))) (leb rfl) (fun _ h => by cases h) (fun S0 hO htk hfz => ?_)
 refine run_sr ?_
 refine run_op rfl (box_step (d := 4) rfl rfl rfl rfl rfl) rfl (ltb rfl) ?_
 refine run_op rfl (box_step (d := 5) rfl rfl rfl rfl rfl) rfl (ltb rfl) ?_
 refine run_op rfl (alloc_step (d := 6) hG rfl rfl rfl) rfl (ltb rfl) ?_
 refine run_ops_nil ?_
 refine run_sr ?_
 refine mvL rfl rfl rfl rfl (ltb rfl) ?_
 refine run_ld hG rfl rfl rfl rfl rfl (ltb rfl) ?_
 refine run_ld hG rfl rfl rfl rfl rfl (ltb rfl) ?_
 refine run_op rfl (buildSlice_step (d := 10) hG rfl rfl rfl rfl rfl (by rfl) (by rfl) (by rfl) (by decide)) rfl (ltb rfl) ?_
 refine run_pu rfl (build_step hG rfl (by rfl) rfl (fun h => by cases h) (by rfl)) rfl (ltb rfl) ?_
 refine run_op0 rfl (store_step hG rfl rfl rfl rfl rfl rfl rfl rfl) rfl ?_
 refine run_ops_nil ?_
 refine run_ret_to ?_
 refine fin_sub (Sub.freeze (k := 10) rfl rfl) ?_
 refine fin_x hG rfl rfl rfl (v' := .agg [.int .i64 i1, .int .i64 0, .imm tk 3 false (fcellss [LF.mk k2 n2 q2 f2 ks2, LF.mk k3 n3 q3 f3 ks3])]) (by rfl) ⟨rfl, rfl, rfl⟩

def s_l08Proves_L1 (rec_s_l08Proves : List F → Pf → Int → Option (F × Int × Int)) (n : Nat) (x2 : Pf) (l27 : List F) (l28 : List F) (i29 : Int) (i30 : Int) (l31 : List F) : Nat → Int → Int → Option (F × Int × Int)
 | 0, _, _ => none
 | m + 1, i44, i45 =>
  if i45 < ((x2.kids).length : Int) then
   (idx x2.kids i45).bind fun y47 =>
   (rec_s_l08Proves l27 y47 i44).bind fun r52 =>
   if (r52.2.1 != 0) = true then
    some ((F.mk 0 0 []), r52.2.1, r52.2.2)
   else
    (idx l28 i45).bind fun y70 =>
    (s_l08Same n r52.1 y70).bind fun r75 =>
    if (!r75) = true then
     some ((F.mk 0 0 []), 19, i44)
    else
     (idx x2.kids i45).bind fun y83 =>
     (s_l08Size n y83).bind fun r88 =>
     s_l08Proves_L1 rec_s_l08Proves n x2 l27 l28 i29 i30 l31 m (IntKind.i64.wrap (i44 + r88)) (IntKind.i64.wrap (i45 + 1))
  else
   some ((F.mk i29 i30 l31), 0, 0)

def s_l08Proves : Nat → List F → Pf → Int → Option (F × Int × Int)
 | 0, _, _, _ => none
 | n + 1, l1, x2, i3 =>
  if x2.kind = 1 then
   if x2.n ≥ ((l1).length : Int) then
    some ((F.mk 0 0 []), 7, i3)
   else
    (idx l1 (IntKind.i64.wrap ((IntKind.i64.wrap (((l1).length : Int) - 1)) - x2.n))).bind fun y6 =>
    some (y6, 0, 0)
  else
   (idx x2.forms 0).bind fun y11 =>
   jn (fun (i17 : Int) (i18 : Int) (l19 : List F) =>
    jn (fun (l27 : List F) (l28 : List F) (i29 : Int) (i30 : Int) (l31 : List F) =>
     s_l08Proves_L1 (s_l08Proves n) n x2 l27 l28 i29 i30 l31 n (IntKind.i64.wrap (i3 + 1)) 0) fun j26 =>
    if x2.kind = 2 then
     j26 l1 ([y11, (F.mk i17 i18 l19)]) 2 0 ([y11, (F.mk i17 i18 l19)])
    else
     if x2.kind = 3 then
      j26 l1 ([(F.mk 2 0 [y11, (F.mk i17 i18 l19)])]) y11.kind y11.n y11.kids
     else
      if x2.kind = 4 then
       j26 l1 ([(F.mk 2 0 [y11, (F.mk i17 i18 l19)])]) i17 i18 l19
      else
       if x2.kind = 5 then
        (s_l08More l1 y11).bind fun r36 =>
        j26 r36 ([(F.mk i17 i18 l19)]) 3 0 ([y11, (F.mk i17 i18 l19)])
       else
        if x2.kind = 6 then
         j26 l1 ([(F.mk 3 0 [y11, (F.mk i17 i18 l19)]), y11]) i17 i18 l19
        else
         j26 l1 ([(F.mk i17 i18 l19)]) y11.kind y11.n y11.kids) fun j16 =>
   if ((x2.forms).length : Int) > 1 then
    (idx x2.forms 1).bind fun y21 =>
    j16 y21.kind y21.n y21.kids
   else
    j16 4 0 ([])

end Go.Am.Ytaedacibojpfkaa
