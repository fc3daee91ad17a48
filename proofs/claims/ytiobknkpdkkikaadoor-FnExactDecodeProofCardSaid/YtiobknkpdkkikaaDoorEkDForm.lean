/- Printed by a program of ours: Lean functions that do what the Go functions do, and the contracts. -/
import Derived.Test.YtiobknkpdkkikaaDoorMl0
import Derived.Test.YtiobknkpdkkikaaDoorMb1
import Derived.Test.YtiobknkpdkkikaaDoorMb3
import Derived.Test.YtiobknkpdkkikaaDoorTypes
import Derived.Test.YtiobknkpdkkikaaDoorMi4
import Derived.Test.YtiobknkpdkkikaaDoorMc1
import Derived.Test.YtiobknkpdkkikaaDoorDkTerm
-- packed
namespace Go.Am.YtiobknkpdkkikaaDoor
open Go Go.Am

set_option maxRecDepth 100000 in
theorem i_bottom_ex (O : Heap) (tk : Nat) : ACalls Go.Proofs.Tryd.prog 101 [] O tk (RetN O (.agg [.int .i64 4, .int .i64 0, .imm 0 3 true (fcellss [])]) tk) := by
 refine acalls_of_run Go.Proofs.Tryd.func101 rfl rfl [] [] (Bor.nil _) [] (.nil _) (leb rfl) (fun _ h => by cases h) (fun S0 hO htk hfz => ?_)
 refine run_sr ?_
 refine run_op rfl (alloc_step (d := 0) hG rfl rfl rfl) rfl (ltb rfl) ?_
 refine run_ops_nil ?_
 refine run_sr ?_
 refine run_pu rfl (build_step hG rfl (by rfl) rfl (fun h => by cases h) (by rfl)) rfl (ltb rfl) ?_
 refine run_op0 rfl (store_step hG rfl rfl rfl rfl rfl rfl rfl rfl) rfl ?_
 refine run_ops_nil ?_
 refine run_ret_to ?_
 refine fin_x hG rfl rfl rfl (v' := .agg [.int .i64 4, .int .i64 0, .imm 0 3 true (fcellss [])]) (by rfl) ⟨rfl, rfl, rfl⟩

set_option maxRecDepth 100000 in
theorem i_and_ex (k1 : Int) (n1 : Int) (q1 : Nat) (f1 : Bool) (ks1 : List LF) (k2 : Int) (n2 : Int) (q2 : Nat) (f2 : Bool) (ks2 : List LF) (O : Heap) (tk : Nat) : ACalls Go.Proofs.Tryd.prog 102 [.agg [.int .i64 k1, .int .i64 n1, .imm q1 3 f1 (fcellss ks1)], .agg [.int .i64 k2, .int .i64 n2, .imm q2 3 f2 (fcellss ks2)]] O tk (RetN O (.agg [.int .i64 2, .int .i64 0, .imm tk 3 false (fcellss [LF.mk k1 n1 q1 f1 ks1, LF.mk k2 n2 q2 f2 ks2])]) (tk + 1)) := by
 refine acalls_of_run Go.Proofs.Tryd.func102 rfl rfl [] [] (Bor.nil _) [(0, .agg [.int .i64 k1, .int .i64 n1, .imm q1 3 f1 (fcellss ks1)]), (1, .agg [.int .i64 k2, .int .i64 n2, .imm q2 3 f2 (fcellss ks2)])] (.cons (.agg _) (.cons (.agg _) (.nil _))) (leb rfl) (fun _ h => by cases h) (fun S0 hO htk hfz => ?_)
 refine run_sr ?_
 refine run_op rfl (box_step (d := 2) rfl rfl rfl rfl rfl) rfl (ltb rfl) ?_
 refine run_op rfl (box_step (d := 3) rfl rfl rfl rfl rfl) rfl (ltb rfl) ?_
 refine run_op rfl (alloc_step (d := 4) hG rfl rfl rfl) rfl (ltb rfl) ?_
 refine run_ops_nil ?_
 refine run_sr ?_
 refine run_ld hG rfl rfl rfl rfl rfl (ltb rfl) ?_
 refine run_ld hG rfl rfl rfl rfl rfl (ltb rfl) ?_
 refine run_op rfl (buildSlice_step (d := 7) hG rfl rfl rfl rfl rfl (by rfl) (by rfl) (by rfl) (by decide)) rfl (ltb rfl) ?_
 refine run_pu rfl (build_step hG rfl (by rfl) rfl (fun h => by cases h) (by rfl)) rfl (ltb rfl) ?_
 refine run_op0 rfl (store_step hG rfl rfl rfl rfl rfl rfl rfl rfl) rfl ?_
 refine run_ops_nil ?_
 refine run_ret_to ?_
 refine fin_sub (Sub.freeze (k := 7) rfl rfl) ?_
 refine fin_x hG rfl rfl rfl (v' := .agg [.int .i64 2, .int .i64 0, .imm tk 3 false (fcellss [LF.mk k1 n1 q1 f1 ks1, LF.mk k2 n2 q2 f2 ks2])]) (by rfl) ⟨rfl, rfl, rfl⟩

set_option maxRecDepth 100000 in
theorem i_implies_ex (k1 : Int) (n1 : Int) (q1 : Nat) (f1 : Bool) (ks1 : List LF) (k2 : Int) (n2 : Int) (q2 : Nat) (f2 : Bool) (ks2 : List LF) (O : Heap) (tk : Nat) : ACalls Go.Proofs.Tryd.prog 103 [.agg [.int .i64 k1, .int .i64 n1, .imm q1 3 f1 (fcellss ks1)], .agg [.int .i64 k2, .int .i64 n2, .imm q2 3 f2 (fcellss ks2)]] O tk (RetN O (.agg [.int .i64 3, .int .i64 0, .imm tk 3 false (fcellss [LF.mk k1 n1 q1 f1 ks1, LF.mk k2 n2 q2 f2 ks2])]) (tk + 1)) := by
 refine acalls_of_run Go.Proofs.Tryd.func103 rfl rfl [] [] (Bor.nil _) [(0, .agg [.int .i64 k1, .int .i64 n1, .imm q1 3 f1 (fcellss ks1)]), (1, .agg [.int .i64 k2, .int .i64 n2, .imm q2 3 f2 (fcellss ks2)])] (.cons (.agg _) (.cons (.agg _) (.nil _))) (leb rfl) (fun _ h => by cases h) (fun S0 hO htk hfz => ?_)
 refine run_sr ?_
 refine run_op rfl (box_step (d := 2) rfl rfl rfl rfl rfl) rfl (ltb rfl) ?_
 refine run_op rfl (box_step (d := 3) rfl rfl rfl rfl rfl) rfl (ltb rfl) ?_
 refine run_op rfl (alloc_step (d := 4) hG rfl rfl rfl) rfl (ltb rfl) ?_
 refine run_ops_nil ?_
 refine run_sr ?_
 refine run_ld hG rfl rfl rfl rfl rfl (ltb rfl) ?_
 refine run_ld hG rfl rfl rfl rfl rfl (ltb rfl) ?_
 refine run_op rfl (buildSlice_step (d := 7) hG rfl rfl rfl rfl rfl (by rfl) (by rfl) (by rfl) (by decide)) rfl (ltb rfl) ?_
 refine run_pu rfl (build_step hG rfl (by rfl) rfl (fun h => by cases h) (by rfl)) rfl (ltb rfl) ?_
 refine run_op0 rfl (store_step hG rfl rfl rfl rfl rfl rfl rfl rfl) rfl ?_
 refine run_ops_nil ?_
 refine run_ret_to ?_
 refine fin_sub (Sub.freeze (k := 7) rfl rfl) ?_
 refine fin_x hG rfl rfl rfl (v' := .agg [.int .i64 3, .int .i64 0, .imm tk 3 false (fcellss [LF.mk k1 n1 q1 f1 ks1, LF.mk k2 n2 q2 f2 ks2])]) (by rfl) ⟨rfl, rfl, rfl⟩

def i_readForm_L1 (x1 : T) (j2 : Option (Rz F)) : Nat → Int → Option (Rz F)
 | 0, _ => none
 | m + 1, i6 =>
  if i6 < 6 then
   (strSub (⟨#[112, 48, 112, 49, 112, 50, 112, 51, 112, 52, 112, 53]⟩ : ByteArray) (IntKind.i64.wrap (2 * i6)) (IntKind.i64.wrap ((IntKind.i64.wrap (2 * i6)) + 2))).bind fun y8 =>
   if (x1.name.toList == y8.toList) = true then
    some (.ok (F.mk 1 i6 []))
   else
    i_readForm_L1 x1 j2 m (IntKind.i64.wrap (i6 + 1))
  else
   j2

def i_readForm : Nat → T → Option (Rz F)
 | 0, _ => none
 | n + 1, x1 =>
  jn (
   jn (
    (idx x1.kids 0).bind fun y17 =>
    (idx x1.kids 1).bind fun y22 =>
    zb (i_readForm n y17) fun r27 =>
    zb (i_readForm n y22) fun r36 =>
    if (x1.name.toList == (⟨#[97, 110, 100]⟩ : ByteArray).toList) = true then
     some (.ok (F.mk 2 0 [r27, r36]))
    else
     some (.ok (F.mk 3 0 [r27, r36]))) fun j12 =>
   if (x1.kind != 6) = true then
    some (.stop 3 0)
   else
    if (((x1.kids).length : Int) != 2) = true then
     some (.stop 3 0)
    else
     if (!(x1.name.toList == (⟨#[97, 110, 100]⟩ : ByteArray).toList)) = true then
      if (!(x1.name.toList == (⟨#[105, 109, 112]⟩ : ByteArray).toList)) = true then
       some (.stop 3 0)
      else
       j12
     else
      j12) fun j2 =>
  if x1.kind = 6 then
   if ((x1.kids).length : Int) = 0 then
    if (x1.name.toList == (⟨#[98, 111, 116]⟩ : ByteArray).toList) = true then
     some (.ok (F.mk 4 0 []))
    else
     i_readForm_L1 x1 j2 n 0
   else
    j2
  else
   j2

set_option maxHeartbeats 2000000 in
set_option maxRecDepth 100000 in
theorem i_readForm_st (n : Nat) (ih_i_readForm : ∀ (k1 : Int) (n1 : Int) (s1 : ByteArray) (q1 : Nat) (f1 : Bool) (ks1 : List LT) {r : (Rz F)}, i_readForm n (T.mk k1 n1 s1 (ers ks1)) = some r → ∀ (O : Heap) (tk : Nat), ACalls Go.Proofs.Tryd.prog 63 [.agg [.int .i64 k1, .int .i64 n1, .str s1, .imm q1 4 f1 (cellss ks1)]] O tk (RetZ HT O tk r (fun r v tk' => VF true tk tk' r v))) : ∀ (k1 : Int) (n1 : Int) (s1 : ByteArray) (q1 : Nat) (f1 : Bool) (ks1 : List LT) {r : (Rz F)}, i_readForm (n + 1) (T.mk k1 n1 s1 (ers ks1)) = some r → ∀ (O : Heap) (tk : Nat), ACalls Go.Proofs.Tryd.prog 63 [.agg [.int .i64 k1, .int .i64 n1, .str s1, .imm q1 4 f1 (cellss ks1)]] O tk (RetZ HT O tk r (fun r v tk' => VF true tk tk' r v)) := by
 intro k1 n1 s1 q1 f1 ks1 r hM O tk
 rw [i_readForm] at hM
 refine acalls_of_run Go.Proofs.Tryd.func63 rfl rfl [] [] (Bor.nil _) [(0, .agg [.int .i64 k1, .int .i64 n1, .str s1, .imm q1 4 f1 (cellss ks1)])] (.cons (.agg _) (.nil _)) (leb rfl) (fun _ h => by cases h) (fun S0 hO htk hfz => ?_)
 refine run_sr ?_
 refine run_op rfl (box_step (d := 1) rfl rfl rfl rfl rfl) rfl (ltb rfl) ?_
 refine run_op rfl (alloc_step (d := 2) hG rfl rfl rfl) rfl (ltb rfl) ?_
 refine run_ops_nil ?_
 refine run_seq ?_
 refine run_seq ?_
 obtain ⟨j2, hj186, hM⟩ := jn_t hM
 refine run_cutL [.code _, .code _] (fun σ' => ∃ (tkj2 : Nat), tk ≤ tkj2 ∧ j2 = some r ∧ Sub ⟨Go.Proofs.Tryd.prog, S0, Go.Proofs.Tryd.f63.ntmps, [], fun _ => False, []⟩ σ' ⟨[(1, .optr (.loc 1) 0 0), (2, .optr (.loc 2) 0 0)], [(2, ⟨50, 3, true, [[.int .i64 0, .int .i64 0, .imm 0 3 true []]]⟩), (1, ⟨34, 4, true, [[.int .i64 k1, .int .i64 n1, .str s1, .imm q1 4 f1 (cellss ks1)]]⟩)], [], O, tkj2⟩) rfl ?_ ?_
 ·refine run_region ?_
  refine run_pu rfl (fieldAddr_step hG rfl rfl rfl rfl rfl) rfl (ltb rfl) ?_
  refine run_ld hG rfl rfl rfl rfl rfl (ltb rfl) ?_
  refine run_bin rfl rfl rfl rfl rfl rfl rfl (ltb rfl) ?_
  refine mvL rfl rfl rfl rfl (ltb rfl) ?_
  refine run_splitd (i := 9) rfl (fun hb3 => ?_) (fun hb3 => ?_)
  ·replace hM := ite_t hb3 hM
   refine run_puG (on_of rfl rfl rfl rfl) (fieldAddr_step hG rfl rfl rfl rfl rfl) rfl (ltb rfl) ?_
   refine run_rdG (on_of rfl rfl rfl rfl) (aload_rd hG rfl rfl rfl (by first | (simp [ldok]; done) | exact List.not_mem_nil | trivial)) rfl (ltb rfl) ?_
   refine run_puG (on_of rfl rfl rfl rfl) (lenImm_step hG rfl rfl rfl rfl (tlen _)) rfl (ltb rfl) ?_
   refine run_puG (on_of rfl rfl rfl rfl) (abin_step rfl rfl rfl rfl (fun _ h => by cases h)) rfl (ltb rfl) ?_
   refine run_pu rfl (pick_step rfl rfl rfl) rfl (ltb rfl) ?_
   refine run_ops_nil ?_
   refine run_ifd rfl rfl (fun hb4 => ?_) (fun hb4 => ?_)
   ·replace hM := ite_t hb4 hM
    refine run_seq ?_
    refine run_sr ?_
    refine run_pu rfl (fieldAddr_step hG rfl rfl rfl rfl rfl) rfl (ltb rfl) ?_
    refine run_ld hG rfl rfl rfl rfl rfl (ltb rfl) ?_
    refine run_bin rfl rfl rfl rfl rfl rfl rfl (ltb rfl) ?_
    refine run_ops_nil ?_
    refine run_sub_code (σ' := ⟨[(1, .optr (.loc 1) 0 0), (2, .optr (.loc 2) 0 0), (17, .bool (s1.toList == (⟨#[98, 111, 116]⟩ : ByteArray).toList))], [(2, ⟨50, 3, true, [[.int .i64 0, .int .i64 0, .imm 0 3 true []]]⟩), (1, ⟨34, 4, true, [[.int .i64 k1, .int .i64 n1, .str s1, .imm q1 4 f1 (cellss ks1)]]⟩)], [], O, tk⟩) (Sub.env _ ⟨rfl, rfl, rfl, trivial⟩) ?_
    refine run_ifb rfl rfl (fun hb5 => ?_) (fun hb5 => ?_)
    ·replace hM := ite_t hb5 hM
     refine run_sr ?_
     refine run_call rfl rfl rfl (ltb rfl) rfl rfl rfl (fun _ h => absurd h List.not_mem_nil) (i_bottom_ex  _ _) (callK_retN ?_)
     skip
     refine run_op0 rfl (store_step hG rfl rfl rfl rfl rfl rfl rfl rfl) rfl ?_
     refine run_ops_nil ?_
     refine run_ret_to ?_
     refine cut_ret ?_
     obtain rfl := some_t hM
     refine fin_x hG rfl rfl rfl (v' := .agg [.int .i64 4, .int .i64 0, .imm 0 3 true (fcellss [])]) (by rfl) ⟨rfl, (show tk ≤ tk by omega), _, rfl, ⟨4, 0, 0, true, [], rfl, rfl, fun _ => Fr.nil _ _⟩⟩
    ·replace hM := ite_f hb5 hM
     refine run_skip ?_
     refine run_sr ?_
     refine mvL rfl rfl rfl rfl (ltb rfl) ?_
     refine run_ops_nil ?_
     refine run_block ?_
     refine run_rounds (fun m σ => ∃ (i6 : Int) (tki_readForm_L1 : Nat), tk ≤ tki_readForm_L1 ∧ i_readForm_L1 (T.mk k1 n1 s1 (ers ks1)) j2 m i6 = some r ∧ σ = ⟨[(1, .optr (.loc 1) 0 0), (2, .optr (.loc 2) 0 0), (19, .int .i64 i6)], [(2, ⟨50, 3, true, [[.int .i64 0, .int .i64 0, .imm 0 3 true []]]⟩), (1, ⟨34, 4, true, [[.int .i64 k1, .int .i64 n1, .str s1, .imm q1 4 f1 (cellss ks1)]]⟩)], [], O, tki_readForm_L1⟩) n (Sub.env [(1, .optr (.loc 1) 0 0), (2, .optr (.loc 2) 0 0), (19, .int .i64 0)] ⟨rfl, rfl, rfl, trivial⟩) ⟨0, tk, Nat.le_refl _, hM, rfl⟩ (fun m σ hI => ?_)
     clear hM
     obtain ⟨i6, tki_readForm_L1, hle11, hM, rfl⟩ := hI
     obtain _ | m := m
     ·exact absurd hM (by rw [i_readForm_L1]; exact fun h => by cases h)
     rw [i_readForm_L1] at hM
     refine run_sr ?_
     refine run_bin rfl rfl rfl rfl rfl rfl rfl (ltb rfl) ?_
     refine run_ops_nil ?_
     refine run_seq ?_
     refine run_ifd rfl rfl (fun hb7 => ?_) (fun hb7 => ?_)
     ·replace hM := ite_t hb7 hM
      refine run_skip ?_
      refine run_seq ?_
      refine run_block ?_
      refine run_sr ?_
      refine mvL rfl rfl rfl rfl (ltb rfl) ?_
      refine mvR rfl rfl rfl rfl (ltb rfl) ?_
      refine run_ops_nil ?_
      refine run_seq ?_
      refine run_draw [] (n := 9) mixed rfl (fun _ h => absurd h List.not_mem_nil) ?_
      refine AAny.take (i := 0) rfl (by kernel_rfl) (by kernel_rfl) (by kernel_rfl) rfl rfl (ltb rfl) ((fieldAddr_step hG rfl rfl rfl rfl rfl).rd _) ?_
      refine AAny.take (i := 1) rfl (by kernel_rfl) (by kernel_rfl) (by kernel_rfl) rfl rfl (ltb rfl) (aload_rd hG rfl rfl rfl (by first | (simp [ldok]; done) | exact List.not_mem_nil | trivial)) ?_
      refine AAny.take (i := 2) rfl (by kernel_rfl) (by kernel_rfl) (by kernel_rfl) rfl rfl (ltb rfl) ((move_step (.inl rfl) rfl).rd _) ?_
      refine AAny.take (i := 3) rfl (by kernel_rfl) (by kernel_rfl) (by kernel_rfl) rfl rfl (ltb rfl) ((abin_step rfl rfl rfl rfl (fun _ h => by cases h)).rd _) ?_
      refine AAny.take (i := 4) rfl (by kernel_rfl) (by kernel_rfl) (by kernel_rfl) rfl rfl (ltb rfl) ((move_step (.inl rfl) rfl).rd _) ?_
      refine AAny.take (i := 5) rfl (by kernel_rfl) (by kernel_rfl) (by kernel_rfl) rfl rfl (ltb rfl) ((abin_step rfl rfl rfl rfl (fun _ h => by cases h)).rd _) ?_
      refine AAny.take (i := 6) rfl (by kernel_rfl) (by kernel_rfl) (by kernel_rfl) rfl rfl (ltb rfl) ((abin_step rfl rfl rfl rfl (fun _ h => by cases h)).rd _) ?_
      obtain ⟨y8, hy9, hM⟩ := bind_t hM
      refine AAny.take (i := 7) rfl (by kernel_rfl) (by kernel_rfl) (by kernel_rfl) rfl rfl (ltb rfl) ((strSlice_step hG rfl rfl rfl rfl rfl rfl hy9).rd _) ?_
      refine AAny.take (i := 8) rfl (by kernel_rfl) (by kernel_rfl) (by kernel_rfl) rfl rfl (ltb rfl) ((abin_step rfl rfl rfl rfl (fun _ h => by cases h)).rd _) ?_
      refine AAny.done (by kernel_rfl) ?_
      refine run_ifb rfl rfl (fun hb10 => ?_) (fun hb10 => ?_)
      ·replace hM := ite_t hb10 hM
       refine run_sr ?_
       refine mvL rfl rfl rfl rfl (ltb rfl) ?_
       refine run_pu rfl (build_step hG rfl (by rfl) rfl (fun h => by cases h) (by rfl)) rfl (ltb rfl) ?_
       refine run_op0 rfl (store_step hG rfl rfl rfl rfl rfl rfl rfl rfl) rfl ?_
       refine run_ops_nil ?_
       refine run_ret_to ?_
       refine cut_ret ?_
       obtain rfl := some_t hM
       refine fin_x hG rfl rfl rfl (v' := .agg [.int .i64 1, .int .i64 i6, .imm 0 3 true (fcellss [])]) (by rfl) ⟨rfl, (show tk ≤ tki_readForm_L1 by omega), _, rfl, ⟨1, i6, 0, true, [], rfl, rfl, fun _ => Fr.nil _ _⟩⟩
      ·replace hM := ite_f hb10 hM
       refine run_skip ?_
       refine run_blk ?_
       refine run_region ?_
       refine run_bin rfl rfl rfl rfl rfl rfl rfl (ltb rfl) ?_
       refine mvL rfl rfl rfl rfl (ltb rfl) ?_
       refine run_ops_nil ?_
       exact run_loop_end ⟨m, _, Nat.lt_succ_self _, ⟨(IntKind.i64.wrap (i6 + 1)), tki_readForm_L1, (show tk ≤ tki_readForm_L1 by omega), hM, rfl⟩, Sub.env [(1, .optr (.loc 1) 0 0), (2, .optr (.loc 2) 0 0), (19, .int .i64 (IntKind.i64.wrap (i6 + 1)))] ⟨rfl, rfl, rfl, trivial⟩⟩
     ·replace hM := ite_f hb7 hM
      refine run_exit_to rfl ?_
      exact ⟨tki_readForm_L1, (show tk ≤ tki_readForm_L1 by omega), hM, Sub.env [(1, .optr (.loc 1) 0 0), (2, .optr (.loc 2) 0 0)] ⟨rfl, rfl, trivial⟩⟩
   ·replace hM := ite_f hb4 hM
    refine run_skip ?_
    exact ⟨tk, (show tk ≤ tk by omega), hM, Sub.env [(1, .optr (.loc 1) 0 0), (2, .optr (.loc 2) 0 0)] ⟨rfl, rfl, trivial⟩⟩
  ·replace hM := ite_f hb3 hM
   refine run_off (on_of rfl rfl rfl rfl) rfl (ltb rfl) ?_
   refine run_off (on_of rfl rfl rfl rfl) rfl (ltb rfl) ?_
   refine run_off (on_of rfl rfl rfl rfl) rfl (ltb rfl) ?_
   refine run_off (on_of rfl rfl rfl rfl) rfl (ltb rfl) ?_
   refine run_pu rfl (pick_step rfl rfl rfl) rfl (ltb rfl) ?_
   refine run_ops_nil ?_
   refine run_if rfl rfl (fun h => by cases h) (fun _ => ?_)
   refine run_skip ?_
   exact ⟨tk, (show tk ≤ tk by omega), hM, Sub.env [(1, .optr (.loc 1) 0 0), (2, .optr (.loc 2) 0 0)] ⟨rfl, rfl, trivial⟩⟩
 ·clear hM
  rintro σ' ⟨tkj2, hle185, hM, hsub⟩
  rw [hj186] at hM
  clear hj186
  refine run_sub_code hsub ?_
  refine run_seq ?_
  refine run_seq ?_
  obtain ⟨j12, hj184, hM⟩ := jn_t hM
  refine run_cutL [.code _, .code _] (fun σ' => ∃ (tkj12 : Nat), tkj2 ≤ tkj12 ∧ j12 = some r ∧ Sub ⟨Go.Proofs.Tryd.prog, S0, Go.Proofs.Tryd.f63.ntmps, [], fun _ => False, []⟩ σ' ⟨[(1, .optr (.loc 1) 0 0), (2, .optr (.loc 2) 0 0)], [(2, ⟨50, 3, true, [[.int .i64 0, .int .i64 0, .imm 0 3 true []]]⟩), (1, ⟨34, 4, true, [[.int .i64 k1, .int .i64 n1, .str s1, .imm q1 4 f1 (cellss ks1)]]⟩)], [], O, tkj12⟩) rfl ?_ ?_
  ·refine run_region ?_
   refine run_pu rfl (fieldAddr_step hG rfl rfl rfl rfl rfl) rfl (ltb rfl) ?_
   refine run_ld hG rfl rfl rfl rfl rfl (ltb rfl) ?_
   refine run_bin rfl rfl rfl rfl rfl rfl rfl (ltb rfl) ?_
   refine mvL rfl rfl rfl rfl (ltb rfl) ?_
   refine run_splitb (i := 37) rfl (fun hb13 => ?_) (fun hb13 => ?_)
   ·replace hM := ite_t hb13 hM
    refine run_off (on_of rfl rfl rfl rfl) rfl (ltb rfl) ?_
    refine run_off (on_of rfl rfl rfl rfl) rfl (ltb rfl) ?_
    refine run_off (on_of rfl rfl rfl rfl) rfl (ltb rfl) ?_
    refine run_off (on_of rfl rfl rfl rfl) rfl (ltb rfl) ?_
    refine run_pu rfl (pick_step rfl rfl rfl) rfl (ltb rfl) ?_
    refine mvL rfl rfl rfl rfl (ltb rfl) ?_
    refine run_off (on_of rfl rfl rfl rfl) rfl (ltb rfl) ?_
    refine run_off (on_of rfl rfl rfl rfl) rfl (ltb rfl) ?_
    refine run_off (on_of rfl rfl rfl rfl) rfl (ltb rfl) ?_
    refine run_off (on_of rfl rfl rfl rfl) rfl (ltb rfl) ?_
    refine run_off (off_un rfl rfl rfl) rfl (ltb rfl) ?_
    refine run_off (off_un rfl rfl rfl) rfl (ltb rfl) ?_
    refine run_off (off_un rfl rfl rfl) rfl (ltb rfl) ?_
    refine run_off (on_of rfl rfl rfl rfl) rfl (ltb rfl) ?_
    refine run_pu rfl (pick_step rfl rfl rfl) rfl (ltb rfl) ?_
    refine run_ops_nil ?_
    refine run_if rfl rfl (fun _ => ?_) (fun h => by cases h)
    refine run_region ?_
    obtain rfl := some_t hM
    exact run_call rfl rfl rfl (ltb rfl) rfl rfl rfl (fun _ h => absurd h List.not_mem_nil) (i_stop_ok 3 0 _ _) (callK_retS (run_pan_at (cut_pan (⟨rfl, (show tk ≤ tkj2 by omega), rfl⟩))))
   ·replace hM := ite_f hb13 hM
    refine run_puG (on_of rfl rfl rfl rfl) (fieldAddr_step hG rfl rfl rfl rfl rfl) rfl (ltb rfl) ?_
    refine run_rdG (on_of rfl rfl rfl rfl) (aload_rd hG rfl rfl rfl (by first | (simp [ldok]; done) | exact List.not_mem_nil | trivial)) rfl (ltb rfl) ?_
    refine run_puG (on_of rfl rfl rfl rfl) (lenImm_step hG rfl rfl rfl rfl (tlen _)) rfl (ltb rfl) ?_
    refine run_puG (on_of rfl rfl rfl rfl) (abin_step rfl rfl rfl rfl (fun _ h => by cases h)) rfl (ltb rfl) ?_
    refine run_pu rfl (pick_step rfl rfl rfl) rfl (ltb rfl) ?_
    refine mvL rfl rfl rfl rfl (ltb rfl) ?_
    refine run_splitb (i := 43) rfl (fun hb14 => ?_) (fun hb14 => ?_)
    ·replace hM := ite_t hb14 hM
     refine run_off (on_of rfl rfl rfl rfl) rfl (ltb rfl) ?_
     refine run_off (on_of rfl rfl rfl rfl) rfl (ltb rfl) ?_
     refine run_off (on_of rfl rfl rfl rfl) rfl (ltb rfl) ?_
     refine run_off (on_of rfl rfl rfl rfl) rfl (ltb rfl) ?_
     refine run_off (off_un rfl rfl rfl) rfl (ltb rfl) ?_
     refine run_off (off_un rfl rfl rfl) rfl (ltb rfl) ?_
     refine run_off (off_un rfl rfl rfl) rfl (ltb rfl) ?_
     refine run_off (on_of rfl rfl rfl rfl) rfl (ltb rfl) ?_
     refine run_pu rfl (pick_step rfl rfl rfl) rfl (ltb rfl) ?_
     refine run_ops_nil ?_
     refine run_if rfl rfl (fun _ => ?_) (fun h => by cases h)
     refine run_region ?_
     obtain rfl := some_t hM
     exact run_call rfl rfl rfl (ltb rfl) rfl rfl rfl (fun _ h => absurd h List.not_mem_nil) (i_stop_ok 3 0 _ _) (callK_retS (run_pan_at (cut_pan (⟨rfl, (show tk ≤ tkj2 by omega), rfl⟩))))
    ·replace hM := ite_f hb14 hM
     refine run_puG (on_of rfl rfl rfl rfl) (fieldAddr_step hG rfl rfl rfl rfl rfl) rfl (ltb rfl) ?_
     refine run_rdG (on_of rfl rfl rfl rfl) (aload_rd hG rfl rfl rfl (by first | (simp [ldok]; done) | exact List.not_mem_nil | trivial)) rfl (ltb rfl) ?_
     refine run_puG (on_of rfl rfl rfl rfl) (abin_step rfl rfl rfl rfl (fun _ h => by cases h)) rfl (ltb rfl) ?_
     refine run_puG (on_of rfl rfl rfl rfl) (move_step (.inl rfl) rfl) rfl (ltb rfl) ?_
     refine run_splitb (i := 47) rfl (fun hb15 => ?_) (fun hb15 => ?_)
     ·replace hM := ite_t hb15 hM
      refine run_puG (on_of rfl rfl rfl rfl) (fieldAddr_step hG rfl rfl rfl rfl rfl) rfl (ltb rfl) ?_
      refine run_rdG (on_of rfl rfl rfl rfl) (aload_rd hG rfl rfl rfl (by first | (simp [ldok]; done) | exact List.not_mem_nil | trivial)) rfl (ltb rfl) ?_
      refine run_puG (on_of rfl rfl rfl rfl) (abin_step rfl rfl rfl rfl (fun _ h => by cases h)) rfl (ltb rfl) ?_
      refine run_puG (on_of rfl rfl rfl rfl) (pick_step rfl rfl rfl) rfl (ltb rfl) ?_
      refine run_pu rfl (pick_step rfl rfl rfl) rfl (ltb rfl) ?_
      refine run_ops_nil ?_
      refine run_sub_code (σ' := ⟨[(1, .optr (.loc 1) 0 0), (2, .optr (.loc 2) 0 0), (52, .bool (!(s1.toList == (⟨#[105, 109, 112]⟩ : ByteArray).toList)))], [(2, ⟨50, 3, true, [[.int .i64 0, .int .i64 0, .imm 0 3 true []]]⟩), (1, ⟨34, 4, true, [[.int .i64 k1, .int .i64 n1, .str s1, .imm q1 4 f1 (cellss ks1)]]⟩)], [], O, tkj2⟩) (Sub.env _ ⟨rfl, rfl, rfl, trivial⟩) ?_
      refine run_ifb rfl rfl (fun hb16 => ?_) (fun hb16 => ?_)
      ·replace hM := ite_t hb16 hM
       refine run_region ?_
       obtain rfl := some_t hM
       exact run_call rfl rfl rfl (ltb rfl) rfl rfl rfl (fun _ h => absurd h List.not_mem_nil) (i_stop_ok 3 0 _ _) (callK_retS (run_pan_at (cut_pan (⟨rfl, (show tk ≤ tkj2 by omega), rfl⟩))))
      ·replace hM := ite_f hb16 hM
       refine run_skip ?_
       exact ⟨tkj2, (show tkj2 ≤ tkj2 by omega), hM, Sub.env [(1, .optr (.loc 1) 0 0), (2, .optr (.loc 2) 0 0)] ⟨rfl, rfl, trivial⟩⟩
     ·replace hM := ite_f hb15 hM
      refine run_off (on_of rfl rfl rfl rfl) rfl (ltb rfl) ?_
      refine run_off (on_of rfl rfl rfl rfl) rfl (ltb rfl) ?_
      refine run_off (on_of rfl rfl rfl rfl) rfl (ltb rfl) ?_
      refine run_puG (on_of rfl rfl rfl rfl) (pick_step rfl rfl rfl) rfl (ltb rfl) ?_
      refine run_pu rfl (pick_step rfl rfl rfl) rfl (ltb rfl) ?_
      refine run_ops_nil ?_
      refine run_sub_code (σ' := ⟨[(1, .optr (.loc 1) 0 0), (2, .optr (.loc 2) 0 0), (52, .bool false)], [(2, ⟨50, 3, true, [[.int .i64 0, .int .i64 0, .imm 0 3 true []]]⟩), (1, ⟨34, 4, true, [[.int .i64 k1, .int .i64 n1, .str s1, .imm q1 4 f1 (cellss ks1)]]⟩)], [], O, tkj2⟩) (Sub.env _ ⟨rfl, rfl, rfl, trivial⟩) ?_
      refine run_if rfl rfl (fun h => by cases h) (fun _ => ?_)
      refine run_skip ?_
      exact ⟨tkj2, (show tkj2 ≤ tkj2 by omega), hM, Sub.env [(1, .optr (.loc 1) 0 0), (2, .optr (.loc 2) 0 0)] ⟨rfl, rfl, trivial⟩⟩
  ·clear hM
   rintro σ' ⟨tkj12, hle183, hM, hsub⟩
   rw [hj184] at hM
   clear hj184
   refine run_sub_code hsub ?_
   refine run_seq ?_
   refine run_draw [] (n := 14) mixed rfl (fun _ h => absurd h List.not_mem_nil) ?_
   refine AAny.take (i := 0) rfl (by kernel_rfl) (by kernel_rfl) (by kernel_rfl) rfl rfl (ltb rfl) ((fieldAddr_step hG rfl rfl rfl rfl rfl).rd _) ?_
   refine AAny.take (i := 1) rfl (by kernel_rfl) (by kernel_rfl) (by kernel_rfl) rfl rfl (ltb rfl) (aload_rd hG rfl rfl rfl (by first | (simp [ldok]; done) | exact List.not_mem_nil | trivial)) ?_
   obtain ⟨y17, hy18, hM⟩ := bind_t hM
   obtain ⟨k19, n19, s19, q19, f19, ks19, rfl, hc20, hi21⟩ := tidx (ks := ks1) hy18
   refine AAny.take (i := 2) rfl (by kernel_rfl) (by kernel_rfl) (by kernel_rfl) rfl rfl (ltb rfl) ((indexImm_step hG rfl rfl rfl hi21 rfl rfl rfl rfl hc20).rd _) ?_
   refine AAny.take (i := 3) rfl (by kernel_rfl) (by kernel_rfl) (by kernel_rfl) rfl rfl (ltb rfl) (aload_rd hG rfl rfl rfl (by first | (simp [ldok]; done) | exact List.not_mem_nil | trivial)) ?_
   refine AAny.take (i := 5) rfl (by kernel_rfl) (by kernel_rfl) (by kernel_rfl) rfl rfl (ltb rfl) ((fieldAddr_step hG rfl rfl rfl rfl rfl).rd _) ?_
   refine AAny.take (i := 6) rfl (by kernel_rfl) (by kernel_rfl) (by kernel_rfl) rfl rfl (ltb rfl) (aload_rd hG rfl rfl rfl (by first | (simp [ldok]; done) | exact List.not_mem_nil | trivial)) ?_
   obtain ⟨y22, hy23, hM⟩ := bind_t hM
   obtain ⟨k24, n24, s24, q24, f24, ks24, rfl, hc25, hi26⟩ := tidx (ks := ks1) hy23
   refine AAny.take (i := 7) rfl (by kernel_rfl) (by kernel_rfl) (by kernel_rfl) rfl rfl (ltb rfl) ((indexImm_step hG rfl rfl rfl hi26 rfl rfl rfl rfl hc25).rd _) ?_
   refine AAny.take (i := 8) rfl (by kernel_rfl) (by kernel_rfl) (by kernel_rfl) rfl rfl (ltb rfl) (aload_rd hG rfl rfl rfl (by first | (simp [ldok]; done) | exact List.not_mem_nil | trivial)) ?_
   refine AAny.eachN (rs := [4, 10, 11]) (by kernel_rfl) (fun h => by cases h) (fun i hi => ?_)
   simp only [List.mem_cons, List.not_mem_nil, or_false] at hi
   rcases hi with rfl | rfl | rfl
   ·refine AOpN.of ?_
    obtain ⟨z32, hg28, hM⟩ := zb_t hM
    refine AOp.call rfl rfl rfl rfl (ltb rfl) rfl rfl rfl (fun _ h => absurd h List.not_mem_nil) (fun _ h => absurd h List.not_mem_nil) (ih_i_readForm k19 n19 s19 q19 f19 ks19 hg28 _ _) (callK_retZ (fun r27 v tk29 hz35 (hle30 : tkj12 ≤ tk29) h31 => ?_) (fun c p tk29 hz (_ : tkj12 ≤ tk29) => by subst hz; obtain rfl := bd_stop hM; exact run_pan_at (⟨rfl, (show tk ≤ tk29 by omega), rfl⟩)))
    subst hz35
    replace hM := bd_ok hM
    obtain ⟨k33, n33, q33, f33, ks33, rfl, rfl, hf34⟩ := h31
    refine AAny.eachN (rs := [9, 10, 11]) (by kernel_rfl) (fun h => by cases h) (fun i hi => ?_)
    simp only [List.mem_cons, List.not_mem_nil, or_false] at hi
    rcases hi with rfl | rfl | rfl
    ·refine AOpN.of ?_
     obtain ⟨z41, hg37, hM⟩ := zb_t hM
     refine AOp.call rfl rfl rfl rfl (ltb rfl) rfl rfl rfl (fun _ h => absurd h List.not_mem_nil) (fun _ h => absurd h List.not_mem_nil) (ih_i_readForm k24 n24 s24 q24 f24 ks24 hg37 _ _) (callK_retZ (fun r36 v tk38 hz44 (hle39 : tk29 ≤ tk38) h40 => ?_) (fun c p tk38 hz (_ : tk29 ≤ tk38) => by subst hz; obtain rfl := bd_stop hM; exact run_pan_at (⟨rfl, (show tk ≤ tk38 by omega), rfl⟩)))
     subst hz44
     replace hM := bd_ok hM
     obtain ⟨k42, n42, q42, f42, ks42, rfl, rfl, hf43⟩ := h40
     refine AAny.eachN (rs := [10, 11]) (by kernel_rfl) (fun h => by cases h) (fun i hi => ?_)
     simp only [List.mem_cons, List.not_mem_nil, or_false] at hi
     rcases hi with rfl | rfl
     ·refine AOpN.alloc hG rfl rfl rfl (ltb rfl) rfl rfl rfl ?_
      refine AAny.eachN (rs := [11]) (by kernel_rfl) (fun h => by cases h) (fun i hi => ?_)
      simp only [List.mem_cons, List.not_mem_nil, or_false] at hi
      subst hi
      ·refine AOpN.alloc hG rfl rfl rfl (ltb rfl) rfl rfl rfl ?_
       refine AAny.one (i := 12) (by kernel_rfl) (AOp.step0 rfl rfl rfl (store_step hG rfl rfl rfl rfl rfl rfl rfl rfl) (by intro x hx; have hx : x ∈ [ID.loc 4] := hx; simp only [List.mem_cons, List.not_mem_nil, or_false] at hx; subst hx; simp) ?_)
       refine AAny.one (i := 13) (by kernel_rfl) (AOp.step0 rfl rfl rfl (store_step hG rfl rfl rfl rfl rfl rfl rfl rfl) (by intro x hx; have hx : x ∈ [ID.loc 5] := hx; simp only [List.mem_cons, List.not_mem_nil, or_false] at hx; subst hx; simp) ?_)
       refine AAny.done (by kernel_rfl) ?_
       refine run_sub_code (σ' := ⟨[(1, .optr (.loc 1) 0 0), (2, .optr (.loc 2) 0 0), (4, .optr (.loc 4) 0 0), (5, .optr (.loc 5) 0 0)], [(5, ⟨50, 3, true, [[.int .i64 k42, .int .i64 n42, .imm q42 3 f42 (fcellss ks42)]]⟩), (4, ⟨50, 3, true, [[.int .i64 k33, .int .i64 n33, .imm q33 3 f33 (fcellss ks33)]]⟩), (2, ⟨50, 3, true, [[.int .i64 0, .int .i64 0, .imm 0 3 true []]]⟩), (1, ⟨34, 4, true, [[.int .i64 k1, .int .i64 n1, .str s1, .imm q1 4 f1 (cellss ks1)]]⟩)], [], O, tk38⟩) (Sub.env _ ⟨rfl, rfl, rfl, rfl, trivial⟩) ?_
       refine run_seq ?_
       refine run_sr ?_
       refine run_pu rfl (fieldAddr_step hG rfl rfl rfl rfl rfl) rfl (ltb rfl) ?_
       refine run_ld hG rfl rfl rfl rfl rfl (ltb rfl) ?_
       refine run_bin rfl rfl rfl rfl rfl rfl rfl (ltb rfl) ?_
       refine run_ops_nil ?_
       refine run_ifb rfl rfl (fun hb45 => ?_) (fun hb45 => ?_)
       ·replace hM := ite_t hb45 hM
        refine run_sr ?_
        refine run_ld hG rfl rfl rfl rfl rfl (ltb rfl) ?_
        refine run_ld hG rfl rfl rfl rfl rfl (ltb rfl) ?_
        refine run_call rfl rfl rfl (ltb rfl) rfl rfl rfl (fun _ h => absurd h List.not_mem_nil) (i_and_ex k33 n33 q33 f33 ks33 k42 n42 q42 f42 ks42 _ _) (callK_retN ?_)
        skip
        refine run_op0 rfl (store_step hG rfl rfl rfl rfl rfl rfl rfl rfl) rfl ?_
        refine run_ops_nil ?_
        refine run_ret_to ?_
        obtain rfl := some_t hM
        refine fin_x hG rfl rfl rfl (v' := .agg [.int .i64 2, .int .i64 0, .imm tk38 3 false (fcellss [LF.mk k33 n33 q33 f33 ks33, LF.mk k42 n42 q42 f42 ks42])]) (by rfl) ⟨rfl, (show tk ≤ (tk38 + 1) by omega), _, rfl, ⟨2, 0, tk38, false, [LF.mk k33 n33 q33 f33 ks33, LF.mk k42 n42 q42 f42 ks42], rfl, rfl, fun _ => (show Fr tk (tk38 + 1) _ from (show Fr tkj12 (tk38 + 1) _ from Fr.fstop (show Fr tkj12 tk38 _ from (Fr.fcons (show Fr tkj12 tk29 _ from ((show Fr tkj12 tk29 _ from hf34 rfl)).mono (by omega) (by omega)) (Fr.fcons ((show Fr tk29 tk38 _ from hf43 rfl)) (show Fr tk38 tk38 _ from Fr.nil _ _) (by omega) (by omega)) (by omega) (by omega)).mono (by omega) (by omega)) (by omega) (by omega)).mono (by omega) (by omega))⟩⟩
       ·replace hM := ite_f hb45 hM
        refine run_skip ?_
        refine run_sr ?_
        refine run_ld hG rfl rfl rfl rfl rfl (ltb rfl) ?_
        refine run_ld hG rfl rfl rfl rfl rfl (ltb rfl) ?_
        refine run_call rfl rfl rfl (ltb rfl) rfl rfl rfl (fun _ h => absurd h List.not_mem_nil) (i_implies_ex k33 n33 q33 f33 ks33 k42 n42 q42 f42 ks42 _ _) (callK_retN ?_)
        skip
        refine run_op0 rfl (store_step hG rfl rfl rfl rfl rfl rfl rfl rfl) rfl ?_
        refine run_ops_nil ?_
        refine run_ret_to ?_
        obtain rfl := some_t hM
        refine fin_x hG rfl rfl rfl (v' := .agg [.int .i64 3, .int .i64 0, .imm tk38 3 false (fcellss [LF.mk k33 n33 q33 f33 ks33, LF.mk k42 n42 q42 f42 ks42])]) (by rfl) ⟨rfl, (show tk ≤ (tk38 + 1) by omega), _, rfl, ⟨3, 0, tk38, false, [LF.mk k33 n33 q33 f33 ks33, LF.mk k42 n42 q42 f42 ks42], rfl, rfl, fun _ => (show Fr tk (tk38 + 1) _ from (show Fr tkj12 (tk38 + 1) _ from Fr.fstop (show Fr tkj12 tk38 _ from (Fr.fcons (show Fr tkj12 tk29 _ from ((show Fr tkj12 tk29 _ from hf34 rfl)).mono (by omega) (by omega)) (Fr.fcons ((show Fr tk29 tk38 _ from hf43 rfl)) (show Fr tk38 tk38 _ from Fr.nil _ _) (by omega) (by omega)) (by omega) (by omega)).mono (by omega) (by omega)) (by omega) (by omega)).mono (by omega) (by omega))⟩⟩
     ·refine AOpN.alloc hG rfl rfl rfl (ltb rfl) rfl rfl rfl ?_
      refine AAny.eachN (rs := [10]) (by kernel_rfl) (fun h => by cases h) (fun i hi => ?_)
      simp only [List.mem_cons, List.not_mem_nil, or_false] at hi
      subst hi
      ·refine AOpN.alloc hG rfl rfl rfl (ltb rfl) rfl rfl rfl ?_
       refine AAny.one (i := 12) (by kernel_rfl) (AOp.step0 rfl rfl rfl (store_step hG rfl rfl rfl rfl rfl rfl rfl rfl) (by intro x hx; have hx : x ∈ [ID.loc 4] := hx; simp only [List.mem_cons, List.not_mem_nil, or_false] at hx; subst hx; simp) ?_)
       refine AAny.one (i := 13) (by kernel_rfl) (AOp.step0 rfl rfl rfl (store_step hG rfl rfl rfl rfl rfl rfl rfl rfl) (by intro x hx; have hx : x ∈ [ID.loc 5] := hx; simp only [List.mem_cons, List.not_mem_nil, or_false] at hx; subst hx; simp) ?_)
       refine AAny.done (by kernel_rfl) ?_
       refine run_sub_code (σ' := ⟨[(1, .optr (.loc 1) 0 0), (2, .optr (.loc 2) 0 0), (5, .optr (.loc 5) 0 0), (4, .optr (.loc 4) 0 0)], [(4, ⟨50, 3, true, [[.int .i64 k33, .int .i64 n33, .imm q33 3 f33 (fcellss ks33)]]⟩), (5, ⟨50, 3, true, [[.int .i64 k42, .int .i64 n42, .imm q42 3 f42 (fcellss ks42)]]⟩), (2, ⟨50, 3, true, [[.int .i64 0, .int .i64 0, .imm 0 3 true []]]⟩), (1, ⟨34, 4, true, [[.int .i64 k1, .int .i64 n1, .str s1, .imm q1 4 f1 (cellss ks1)]]⟩)], [], O, tk38⟩) (Sub.env _ ⟨rfl, rfl, rfl, rfl, trivial⟩) ?_
       refine run_seq ?_
       refine run_sr ?_
       refine run_pu rfl (fieldAddr_step hG rfl rfl rfl rfl rfl) rfl (ltb rfl) ?_
       refine run_ld hG rfl rfl rfl rfl rfl (ltb rfl) ?_
       refine run_bin rfl rfl rfl rfl rfl rfl rfl (ltb rfl) ?_
       refine run_ops_nil ?_
       refine run_ifb rfl rfl (fun hb46 => ?_) (fun hb46 => ?_)
       ·replace hM := ite_t hb46 hM
        refine run_sr ?_
        refine run_ld hG rfl rfl rfl rfl rfl (ltb rfl) ?_
        refine run_ld hG rfl rfl rfl rfl rfl (ltb rfl) ?_
        refine run_call rfl rfl rfl (ltb rfl) rfl rfl rfl (fun _ h => absurd h List.not_mem_nil) (i_and_ex k33 n33 q33 f33 ks33 k42 n42 q42 f42 ks42 _ _) (callK_retN ?_)
        skip
        refine run_op0 rfl (store_step hG rfl rfl rfl rfl rfl rfl rfl rfl) rfl ?_
        refine run_ops_nil ?_
        refine run_ret_to ?_
        obtain rfl := some_t hM
        refine fin_x hG rfl rfl rfl (v' := .agg [.int .i64 2, .int .i64 0, .imm tk38 3 false (fcellss [LF.mk k33 n33 q33 f33 ks33, LF.mk k42 n42 q42 f42 ks42])]) (by rfl) ⟨rfl, (show tk ≤ (tk38 + 1) by omega), _, rfl, ⟨2, 0, tk38, false, [LF.mk k33 n33 q33 f33 ks33, LF.mk k42 n42 q42 f42 ks42], rfl, rfl, fun _ => (show Fr tk (tk38 + 1) _ from (show Fr tkj12 (tk38 + 1) _ from Fr.fstop (show Fr tkj12 tk38 _ from (Fr.fcons (show Fr tkj12 tk29 _ from ((show Fr tkj12 tk29 _ from hf34 rfl)).mono (by omega) (by omega)) (Fr.fcons ((show Fr tk29 tk38 _ from hf43 rfl)) (show Fr tk38 tk38 _ from Fr.nil _ _) (by omega) (by omega)) (by omega) (by omega)).mono (by omega) (by omega)) (by omega) (by omega)).mono (by omega) (by omega))⟩⟩
       ·replace hM := ite_f hb46 hM
        refine run_skip ?_
        refine run_sr ?_
        refine run_ld hG rfl rfl rfl rfl rfl (ltb rfl) ?_
        refine run_ld hG rfl rfl rfl rfl rfl (ltb rfl) ?_
        refine run_call rfl rfl rfl (ltb rfl) rfl rfl rfl (fun _ h => absurd h List.not_mem_nil) (i_implies_ex k33 n33 q33 f33 ks33 k42 n42 q42 f42 ks42 _ _) (callK_retN ?_)
        skip
        refine run_op0 rfl (store_step hG rfl rfl rfl rfl rfl rfl rfl rfl) rfl ?_
        refine run_ops_nil ?_
        refine run_ret_to ?_
        obtain rfl := some_t hM
        refine fin_x hG rfl rfl rfl (v' := .agg [.int .i64 3, .int .i64 0, .imm tk38 3 false (fcellss [LF.mk k33 n33 q33 f33 ks33, LF.mk k42 n42 q42 f42 ks42])]) (by rfl) ⟨rfl, (show tk ≤ (tk38 + 1) by omega), _, rfl, ⟨3, 0, tk38, false, [LF.mk k33 n33 q33 f33 ks33, LF.mk k42 n42 q42 f42 ks42], rfl, rfl, fun _ => (show Fr tk (tk38 + 1) _ from (show Fr tkj12 (tk38 + 1) _ from Fr.fstop (show Fr tkj12 tk38 _ from (Fr.fcons (show Fr tkj12 tk29 _ from ((show Fr tkj12 tk29 _ from hf34 rfl)).mono (by omega) (by omega)) (Fr.fcons ((show Fr tk29 tk38 _ from hf43 rfl)) (show Fr tk38 tk38 _ from Fr.nil _ _) (by omega) (by omega)) (by omega) (by omega)).mono (by omega) (by omega)) (by omega) (by omega)).mono (by omega) (by omega))⟩⟩
    ·refine AOpN.alloc hG rfl rfl rfl (ltb rfl) rfl rfl rfl ?_
     refine AAny.eachN (rs := [9, 11]) (by kernel_rfl) (fun h => by cases h) (fun i hi => ?_)
     simp only [List.mem_cons, List.not_mem_nil, or_false] at hi
     rcases hi with rfl | rfl
     ·refine AOpN.of ?_
      obtain ⟨z52, hg48, hM⟩ := zb_t hM
      refine AOp.call rfl rfl rfl rfl (ltb rfl) rfl rfl rfl (fun _ h => absurd h List.not_mem_nil) (fun _ h => absurd h List.not_mem_nil) (ih_i_readForm k24 n24 s24 q24 f24 ks24 hg48 _ _) (callK_retZ (fun r47 v tk49 hz55 (hle50 : tk29 ≤ tk49) h51 => ?_) (fun c p tk49 hz (_ : tk29 ≤ tk49) => by subst hz; obtain rfl := bd_stop hM; exact run_pan_at (⟨rfl, (show tk ≤ tk49 by omega), rfl⟩)))
      subst hz55
      replace hM := bd_ok hM
      obtain ⟨k53, n53, q53, f53, ks53, rfl, rfl, hf54⟩ := h51
      refine AAny.eachN (rs := [11]) (by kernel_rfl) (fun h => by cases h) (fun i hi => ?_)
      simp only [List.mem_cons, List.not_mem_nil, or_false] at hi
      subst hi
      ·refine AOpN.alloc hG rfl rfl rfl (ltb rfl) rfl rfl rfl ?_
       refine AAny.one (i := 12) (by kernel_rfl) (AOp.step0 rfl rfl rfl (store_step hG rfl rfl rfl rfl rfl rfl rfl rfl) (by intro x hx; have hx : x ∈ [ID.loc 4] := hx; simp only [List.mem_cons, List.not_mem_nil, or_false] at hx; subst hx; simp) ?_)
       refine AAny.one (i := 13) (by kernel_rfl) (AOp.step0 rfl rfl rfl (store_step hG rfl rfl rfl rfl rfl rfl rfl rfl) (by intro x hx; have hx : x ∈ [ID.loc 5] := hx; simp only [List.mem_cons, List.not_mem_nil, or_false] at hx; subst hx; simp) ?_)
       refine AAny.done (by kernel_rfl) ?_
       refine run_sub_code (σ' := ⟨[(1, .optr (.loc 1) 0 0), (2, .optr (.loc 2) 0 0), (4, .optr (.loc 4) 0 0), (5, .optr (.loc 5) 0 0)], [(5, ⟨50, 3, true, [[.int .i64 k53, .int .i64 n53, .imm q53 3 f53 (fcellss ks53)]]⟩), (4, ⟨50, 3, true, [[.int .i64 k33, .int .i64 n33, .imm q33 3 f33 (fcellss ks33)]]⟩), (2, ⟨50, 3, true, [[.int .i64 0, .int .i64 0, .imm 0 3 true []]]⟩), (1, ⟨34, 4, true, [[.int .i64 k1, .int .i64 n1, .str s1, .imm q1 4 f1 (cellss ks1)]]⟩)], [], O, tk49⟩) (Sub.env _ ⟨rfl, rfl, rfl, rfl, trivial⟩) ?_
       refine run_seq ?_
       refine run_sr ?_
       refine run_pu rfl (fieldAddr_step hG rfl rfl rfl rfl rfl) rfl (ltb rfl) ?_
       refine run_ld hG rfl rfl rfl rfl rfl (ltb rfl) ?_
       refine run_bin rfl rfl rfl rfl rfl rfl rfl (ltb rfl) ?_
       refine run_ops_nil ?_
       refine run_ifb rfl rfl (fun hb56 => ?_) (fun hb56 => ?_)
       ·replace hM := ite_t hb56 hM
        refine run_sr ?_
        refine run_ld hG rfl rfl rfl rfl rfl (ltb rfl) ?_
        refine run_ld hG rfl rfl rfl rfl rfl (ltb rfl) ?_
        refine run_call rfl rfl rfl (ltb rfl) rfl rfl rfl (fun _ h => absurd h List.not_mem_nil) (i_and_ex k33 n33 q33 f33 ks33 k53 n53 q53 f53 ks53 _ _) (callK_retN ?_)
        skip
        refine run_op0 rfl (store_step hG rfl rfl rfl rfl rfl rfl rfl rfl) rfl ?_
        refine run_ops_nil ?_
        refine run_ret_to ?_
        obtain rfl := some_t hM
        refine fin_x hG rfl rfl rfl (v' := .agg [.int .i64 2, .int .i64 0, .imm tk49 3 false (fcellss [LF.mk k33 n33 q33 f33 ks33, LF.mk k53 n53 q53 f53 ks53])]) (by rfl) ⟨rfl, (show tk ≤ (tk49 + 1) by omega), _, rfl, ⟨2, 0, tk49, false, [LF.mk k33 n33 q33 f33 ks33, LF.mk k53 n53 q53 f53 ks53], rfl, rfl, fun _ => (show Fr tk (tk49 + 1) _ from (show Fr tkj12 (tk49 + 1) _ from Fr.fstop (show Fr tkj12 tk49 _ from (Fr.fcons (show Fr tkj12 tk29 _ from ((show Fr tkj12 tk29 _ from hf34 rfl)).mono (by omega) (by omega)) (Fr.fcons ((show Fr tk29 tk49 _ from hf54 rfl)) (show Fr tk49 tk49 _ from Fr.nil _ _) (by omega) (by omega)) (by omega) (by omega)).mono (by omega) (by omega)) (by omega) (by omega)).mono (by omega) (by omega))⟩⟩
       ·replace hM := ite_f hb56 hM
        refine run_skip ?_
        refine run_sr ?_
        refine run_ld hG rfl rfl rfl rfl rfl (ltb rfl) ?_
        refine run_ld hG rfl rfl rfl rfl rfl (ltb rfl) ?_
        refine run_call rfl rfl rfl (ltb rfl) rfl rfl rfl (fun _ h => absurd h List.not_mem_nil) (i_implies_ex k33 n33 q33 f33 ks33 k53 n53 q53 f53 ks53 _ _) (callK_retN ?_)
        skip
        refine run_op0 rfl (store_step hG rfl rfl rfl rfl rfl rfl rfl rfl) rfl ?_
        refine run_ops_nil ?_
        refine run_ret_to ?_
        obtain rfl := some_t hM
        refine fin_x hG rfl rfl rfl (v' := .agg [.int .i64 3, .int .i64 0, .imm tk49 3 false (fcellss [LF.mk k33 n33 q33 f33 ks33, LF.mk k53 n53 q53 f53 ks53])]) (by rfl) ⟨rfl, (show tk ≤ (tk49 + 1) by omega), _, rfl, ⟨3, 0, tk49, false, [LF.mk k33 n33 q33 f33 ks33, LF.mk k53 n53 q53 f53 ks53], rfl, rfl, fun _ => (show Fr tk (tk49 + 1) _ from (show Fr tkj12 (tk49 + 1) _ from Fr.fstop (show Fr tkj12 tk49 _ from (Fr.fcons (show Fr tkj12 tk29 _ from ((show Fr tkj12 tk29 _ from hf34 rfl)).mono (by omega) (by omega)) (Fr.fcons ((show Fr tk29 tk49 _ from hf54 rfl)) (show Fr tk49 tk49 _ from Fr.nil _ _) (by omega) (by omega)) (by omega) (by omega)).mono (by omega) (by omega)) (by omega) (by omega)).mono (by omega) (by omega))⟩⟩
     ·refine AOpN.alloc hG rfl rfl rfl (ltb rfl) rfl rfl rfl ?_
      obtain ⟨z62, hg58, hM⟩ := zb_t hM
      refine AAny.one (i := 9) (by kernel_rfl) (AOp.call rfl rfl rfl rfl (ltb rfl) rfl rfl rfl (fun _ h => absurd h List.not_mem_nil) (fun _ h => absurd h List.not_mem_nil) (ih_i_readForm k24 n24 s24 q24 f24 ks24 hg58 _ _) (callK_retZ (fun r57 v tk59 hz65 (hle60 : tk29 ≤ tk59) h61 => ?_) (fun c p tk59 hz (_ : tk29 ≤ tk59) => by subst hz; obtain rfl := bd_stop hM; exact run_pan_at (⟨rfl, (show tk ≤ tk59 by omega), rfl⟩))))
      subst hz65
      replace hM := bd_ok hM
      obtain ⟨k63, n63, q63, f63, ks63, rfl, rfl, hf64⟩ := h61
      refine AAny.one (i := 12) (by kernel_rfl) (AOp.step0 rfl rfl rfl (store_step hG rfl rfl rfl rfl rfl rfl rfl rfl) (by intro x hx; have hx : x ∈ [ID.loc 4] := hx; simp only [List.mem_cons, List.not_mem_nil, or_false] at hx; subst hx; simp) ?_)
      refine AAny.one (i := 13) (by kernel_rfl) (AOp.step0 rfl rfl rfl (store_step hG rfl rfl rfl rfl rfl rfl rfl rfl) (by intro x hx; have hx : x ∈ [ID.loc 5] := hx; simp only [List.mem_cons, List.not_mem_nil, or_false] at hx; subst hx; simp) ?_)
      refine AAny.done (by kernel_rfl) ?_
      refine run_sub_code (σ' := ⟨[(1, .optr (.loc 1) 0 0), (2, .optr (.loc 2) 0 0), (4, .optr (.loc 4) 0 0), (5, .optr (.loc 5) 0 0)], [(5, ⟨50, 3, true, [[.int .i64 k63, .int .i64 n63, .imm q63 3 f63 (fcellss ks63)]]⟩), (4, ⟨50, 3, true, [[.int .i64 k33, .int .i64 n33, .imm q33 3 f33 (fcellss ks33)]]⟩), (2, ⟨50, 3, true, [[.int .i64 0, .int .i64 0, .imm 0 3 true []]]⟩), (1, ⟨34, 4, true, [[.int .i64 k1, .int .i64 n1, .str s1, .imm q1 4 f1 (cellss ks1)]]⟩)], [], O, tk59⟩) (Sub.env _ ⟨rfl, rfl, rfl, rfl, trivial⟩) ?_
      refine run_seq ?_
      refine run_sr ?_
      refine run_pu rfl (fieldAddr_step hG rfl rfl rfl rfl rfl) rfl (ltb rfl) ?_
      refine run_ld hG rfl rfl rfl rfl rfl (ltb rfl) ?_
      refine run_bin rfl rfl rfl rfl rfl rfl rfl (ltb rfl) ?_
      refine run_ops_nil ?_
      refine run_ifb rfl rfl (fun hb66 => ?_) (fun hb66 => ?_)
      ·replace hM := ite_t hb66 hM
       refine run_sr ?_
       refine run_ld hG rfl rfl rfl rfl rfl (ltb rfl) ?_
       refine run_ld hG rfl rfl rfl rfl rfl (ltb rfl) ?_
       refine run_call rfl rfl rfl (ltb rfl) rfl rfl rfl (fun _ h => absurd h List.not_mem_nil) (i_and_ex k33 n33 q33 f33 ks33 k63 n63 q63 f63 ks63 _ _) (callK_retN ?_)
       skip
       refine run_op0 rfl (store_step hG rfl rfl rfl rfl rfl rfl rfl rfl) rfl ?_
       refine run_ops_nil ?_
       refine run_ret_to ?_
       obtain rfl := some_t hM
       refine fin_x hG rfl rfl rfl (v' := .agg [.int .i64 2, .int .i64 0, .imm tk59 3 false (fcellss [LF.mk k33 n33 q33 f33 ks33, LF.mk k63 n63 q63 f63 ks63])]) (by rfl) ⟨rfl, (show tk ≤ (tk59 + 1) by omega), _, rfl, ⟨2, 0, tk59, false, [LF.mk k33 n33 q33 f33 ks33, LF.mk k63 n63 q63 f63 ks63], rfl, rfl, fun _ => (show Fr tk (tk59 + 1) _ from (show Fr tkj12 (tk59 + 1) _ from Fr.fstop (show Fr tkj12 tk59 _ from (Fr.fcons (show Fr tkj12 tk29 _ from ((show Fr tkj12 tk29 _ from hf34 rfl)).mono (by omega) (by omega)) (Fr.fcons ((show Fr tk29 tk59 _ from hf64 rfl)) (show Fr tk59 tk59 _ from Fr.nil _ _) (by omega) (by omega)) (by omega) (by omega)).mono (by omega) (by omega)) (by omega) (by omega)).mono (by omega) (by omega))⟩⟩
      ·replace hM := ite_f hb66 hM
       refine run_skip ?_
       refine run_sr ?_
       refine run_ld hG rfl rfl rfl rfl rfl (ltb rfl) ?_
       refine run_ld hG rfl rfl rfl rfl rfl (ltb rfl) ?_
       refine run_call rfl rfl rfl (ltb rfl) rfl rfl rfl (fun _ h => absurd h List.not_mem_nil) (i_implies_ex k33 n33 q33 f33 ks33 k63 n63 q63 f63 ks63 _ _) (callK_retN ?_)
       skip
       refine run_op0 rfl (store_step hG rfl rfl rfl rfl rfl rfl rfl rfl) rfl ?_
       refine run_ops_nil ?_
       refine run_ret_to ?_
       obtain rfl := some_t hM
       refine fin_x hG rfl rfl rfl (v' := .agg [.int .i64 3, .int .i64 0, .imm tk59 3 false (fcellss [LF.mk k33 n33 q33 f33 ks33, LF.mk k63 n63 q63 f63 ks63])]) (by rfl) ⟨rfl, (show tk ≤ (tk59 + 1) by omega), _, rfl, ⟨3, 0, tk59, false, [LF.mk k33 n33 q33 f33 ks33, LF.mk k63 n63 q63 f63 ks63], rfl, rfl, fun _ => (show Fr tk (tk59 + 1) _ from (show Fr tkj12 (tk59 + 1) _ from Fr.fstop (show Fr tkj12 tk59 _ from (Fr.fcons (show Fr tkj12 tk29 _ from ((show Fr tkj12 tk29 _ from hf34 rfl)).mono (by omega) (by omega)) (Fr.fcons ((show Fr tk29 tk59 _ from hf64 rfl)) (show Fr tk59 tk59 _ from Fr.nil _ _) (by omega) (by omega)) (by omega) (by omega)).mono (by omega) (by omega)) (by omega) (by omega)).mono (by omega) (by omega))⟩⟩
    ·refine AOpN.alloc hG rfl rfl rfl (ltb rfl) rfl rfl rfl ?_
     refine AAny.eachN (rs := [9, 10]) (by kernel_rfl) (fun h => by cases h) (fun i hi => ?_)
     simp only [List.mem_cons, List.not_mem_nil, or_false] at hi
     rcases hi with rfl | rfl
     ·refine AOpN.of ?_
      obtain ⟨z72, hg68, hM⟩ := zb_t hM
      refine AOp.call rfl rfl rfl rfl (ltb rfl) rfl rfl rfl (fun _ h => absurd h List.not_mem_nil) (fun _ h => absurd h List.not_mem_nil) (ih_i_readForm k24 n24 s24 q24 f24 ks24 hg68 _ _) (callK_retZ (fun r67 v tk69 hz75 (hle70 : tk29 ≤ tk69) h71 => ?_) (fun c p tk69 hz (_ : tk29 ≤ tk69) => by subst hz; obtain rfl := bd_stop hM; exact run_pan_at (⟨rfl, (show tk ≤ tk69 by omega), rfl⟩)))
      subst hz75
      replace hM := bd_ok hM
      obtain ⟨k73, n73, q73, f73, ks73, rfl, rfl, hf74⟩ := h71
      refine AAny.eachN (rs := [10]) (by kernel_rfl) (fun h => by cases h) (fun i hi => ?_)
      simp only [List.mem_cons, List.not_mem_nil, or_false] at hi
      subst hi
      ·refine AOpN.alloc hG rfl rfl rfl (ltb rfl) rfl rfl rfl ?_
       refine AAny.one (i := 12) (by kernel_rfl) (AOp.step0 rfl rfl rfl (store_step hG rfl rfl rfl rfl rfl rfl rfl rfl) (by intro x hx; have hx : x ∈ [ID.loc 4] := hx; simp only [List.mem_cons, List.not_mem_nil, or_false] at hx; subst hx; simp) ?_)
       refine AAny.one (i := 13) (by kernel_rfl) (AOp.step0 rfl rfl rfl (store_step hG rfl rfl rfl rfl rfl rfl rfl rfl) (by intro x hx; have hx : x ∈ [ID.loc 5] := hx; simp only [List.mem_cons, List.not_mem_nil, or_false] at hx; subst hx; simp) ?_)
       refine AAny.done (by kernel_rfl) ?_
       refine run_sub_code (σ' := ⟨[(1, .optr (.loc 1) 0 0), (2, .optr (.loc 2) 0 0), (5, .optr (.loc 5) 0 0), (4, .optr (.loc 4) 0 0)], [(4, ⟨50, 3, true, [[.int .i64 k33, .int .i64 n33, .imm q33 3 f33 (fcellss ks33)]]⟩), (5, ⟨50, 3, true, [[.int .i64 k73, .int .i64 n73, .imm q73 3 f73 (fcellss ks73)]]⟩), (2, ⟨50, 3, true, [[.int .i64 0, .int .i64 0, .imm 0 3 true []]]⟩), (1, ⟨34, 4, true, [[.int .i64 k1, .int .i64 n1, .str s1, .imm q1 4 f1 (cellss ks1)]]⟩)], [], O, tk69⟩) (Sub.env _ ⟨rfl, rfl, rfl, rfl, trivial⟩) ?_
       refine run_seq ?_
       refine run_sr ?_
       refine run_pu rfl (fieldAddr_step hG rfl rfl rfl rfl rfl) rfl (ltb rfl) ?_
       refine run_ld hG rfl rfl rfl rfl rfl (ltb rfl) ?_
       refine run_bin rfl rfl rfl rfl rfl rfl rfl (ltb rfl) ?_
       refine run_ops_nil ?_
       refine run_ifb rfl rfl (fun hb76 => ?_) (fun hb76 => ?_)
       ·replace hM := ite_t hb76 hM
        refine run_sr ?_
        refine run_ld hG rfl rfl rfl rfl rfl (ltb rfl) ?_
        refine run_ld hG rfl rfl rfl rfl rfl (ltb rfl) ?_
        refine run_call rfl rfl rfl (ltb rfl) rfl rfl rfl (fun _ h => absurd h List.not_mem_nil) (i_and_ex k33 n33 q33 f33 ks33 k73 n73 q73 f73 ks73 _ _) (callK_retN ?_)
        skip
        refine run_op0 rfl (store_step hG rfl rfl rfl rfl rfl rfl rfl rfl) rfl ?_
        refine run_ops_nil ?_
        refine run_ret_to ?_
        obtain rfl := some_t hM
        refine fin_x hG rfl rfl rfl (v' := .agg [.int .i64 2, .int .i64 0, .imm tk69 3 false (fcellss [LF.mk k33 n33 q33 f33 ks33, LF.mk k73 n73 q73 f73 ks73])]) (by rfl) ⟨rfl, (show tk ≤ (tk69 + 1) by omega), _, rfl, ⟨2, 0, tk69, false, [LF.mk k33 n33 q33 f33 ks33, LF.mk k73 n73 q73 f73 ks73], rfl, rfl, fun _ => (show Fr tk (tk69 + 1) _ from (show Fr tkj12 (tk69 + 1) _ from Fr.fstop (show Fr tkj12 tk69 _ from (Fr.fcons (show Fr tkj12 tk29 _ from ((show Fr tkj12 tk29 _ from hf34 rfl)).mono (by omega) (by omega)) (Fr.fcons ((show Fr tk29 tk69 _ from hf74 rfl)) (show Fr tk69 tk69 _ from Fr.nil _ _) (by omega) (by omega)) (by omega) (by omega)).mono (by omega) (by omega)) (by omega) (by omega)).mono (by omega) (by omega))⟩⟩
       ·replace hM := ite_f hb76 hM
        refine run_skip ?_
        refine run_sr ?_
        refine run_ld hG rfl rfl rfl rfl rfl (ltb rfl) ?_
        refine run_ld hG rfl rfl rfl rfl rfl (ltb rfl) ?_
        refine run_call rfl rfl rfl (ltb rfl) rfl rfl rfl (fun _ h => absurd h List.not_mem_nil) (i_implies_ex k33 n33 q33 f33 ks33 k73 n73 q73 f73 ks73 _ _) (callK_retN ?_)
        skip
        refine run_op0 rfl (store_step hG rfl rfl rfl rfl rfl rfl rfl rfl) rfl ?_
        refine run_ops_nil ?_
        refine run_ret_to ?_
        obtain rfl := some_t hM
        refine fin_x hG rfl rfl rfl (v' := .agg [.int .i64 3, .int .i64 0, .imm tk69 3 false (fcellss [LF.mk k33 n33 q33 f33 ks33, LF.mk k73 n73 q73 f73 ks73])]) (by rfl) ⟨rfl, (show tk ≤ (tk69 + 1) by omega), _, rfl, ⟨3, 0, tk69, false, [LF.mk k33 n33 q33 f33 ks33, LF.mk k73 n73 q73 f73 ks73], rfl, rfl, fun _ => (show Fr tk (tk69 + 1) _ from (show Fr tkj12 (tk69 + 1) _ from Fr.fstop (show Fr tkj12 tk69 _ from (Fr.fcons (show Fr tkj12 tk29 _ from ((show Fr tkj12 tk29 _ from hf34 rfl)).mono (by omega) (by omega)) (Fr.fcons ((show Fr tk29 tk69 _ from hf74 rfl)) (show Fr tk69 tk69 _ from Fr.nil _ _) (by omega) (by omega)) (by omega) (by omega)).mono (by omega) (by omega)) (by omega) (by omega)).mono (by omega) (by omega))⟩⟩
     ·refine AOpN.alloc hG rfl rfl rfl (ltb rfl) rfl rfl rfl ?_
      obtain ⟨z82, hg78, hM⟩ := zb_t hM
      refine AAny.one (i := 9) (by kernel_rfl) (AOp.call rfl rfl rfl rfl (ltb rfl) rfl rfl rfl (fun _ h => absurd h List.not_mem_nil) (fun _ h => absurd h List.not_mem_nil) (ih_i_readForm k24 n24 s24 q24 f24 ks24 hg78 _ _) (callK_retZ (fun r77 v tk79 hz85 (hle80 : tk29 ≤ tk79) h81 => ?_) (fun c p tk79 hz (_ : tk29 ≤ tk79) => by subst hz; obtain rfl := bd_stop hM; exact run_pan_at (⟨rfl, (show tk ≤ tk79 by omega), rfl⟩))))
      subst hz85
      replace hM := bd_ok hM
      obtain ⟨k83, n83, q83, f83, ks83, rfl, rfl, hf84⟩ := h81
      refine AAny.one (i := 12) (by kernel_rfl) (AOp.step0 rfl rfl rfl (store_step hG rfl rfl rfl rfl rfl rfl rfl rfl) (by intro x hx; have hx : x ∈ [ID.loc 4] := hx; simp only [List.mem_cons, List.not_mem_nil, or_false] at hx; subst hx; simp) ?_)
      refine AAny.one (i := 13) (by kernel_rfl) (AOp.step0 rfl rfl rfl (store_step hG rfl rfl rfl rfl rfl rfl rfl rfl) (by intro x hx; have hx : x ∈ [ID.loc 5] := hx; simp only [List.mem_cons, List.not_mem_nil, or_false] at hx; subst hx; simp) ?_)
      refine AAny.done (by kernel_rfl) ?_
      refine run_sub_code (σ' := ⟨[(1, .optr (.loc 1) 0 0), (2, .optr (.loc 2) 0 0), (5, .optr (.loc 5) 0 0), (4, .optr (.loc 4) 0 0)], [(4, ⟨50, 3, true, [[.int .i64 k33, .int .i64 n33, .imm q33 3 f33 (fcellss ks33)]]⟩), (5, ⟨50, 3, true, [[.int .i64 k83, .int .i64 n83, .imm q83 3 f83 (fcellss ks83)]]⟩), (2, ⟨50, 3, true, [[.int .i64 0, .int .i64 0, .imm 0 3 true []]]⟩), (1, ⟨34, 4, true, [[.int .i64 k1, .int .i64 n1, .str s1, .imm q1 4 f1 (cellss ks1)]]⟩)], [], O, tk79⟩) (Sub.env _ ⟨rfl, rfl, rfl, rfl, trivial⟩) ?_
      refine run_seq ?_
      refine run_sr ?_
      refine run_pu rfl (fieldAddr_step hG rfl rfl rfl rfl rfl) rfl (ltb rfl) ?_
      refine run_ld hG rfl rfl rfl rfl rfl (ltb rfl) ?_
      refine run_bin rfl rfl rfl rfl rfl rfl rfl (ltb rfl) ?_
      refine run_ops_nil ?_
      refine run_ifb rfl rfl (fun hb86 => ?_) (fun hb86 => ?_)
      ·replace hM := ite_t hb86 hM
       refine run_sr ?_
       refine run_ld hG rfl rfl rfl rfl rfl (ltb rfl) ?_
       refine run_ld hG rfl rfl rfl rfl rfl (ltb rfl) ?_
       refine run_call rfl rfl rfl (ltb rfl) rfl rfl rfl (fun _ h => absurd h List.not_mem_nil) (i_and_ex k33 n33 q33 f33 ks33 k83 n83 q83 f83 ks83 _ _) (callK_retN ?_)
       skip
       refine run_op0 rfl (store_step hG rfl rfl rfl rfl rfl rfl rfl rfl) rfl ?_
       refine run_ops_nil ?_
       refine run_ret_to ?_
       obtain rfl := some_t hM
       refine fin_x hG rfl rfl rfl (v' := .agg [.int .i64 2, .int .i64 0, .imm tk79 3 false (fcellss [LF.mk k33 n33 q33 f33 ks33, LF.mk k83 n83 q83 f83 ks83])]) (by rfl) ⟨rfl, (show tk ≤ (tk79 + 1) by omega), _, rfl, ⟨2, 0, tk79, false, [LF.mk k33 n33 q33 f33 ks33, LF.mk k83 n83 q83 f83 ks83], rfl, rfl, fun _ => (show Fr tk (tk79 + 1) _ from (show Fr tkj12 (tk79 + 1) _ from Fr.fstop (show Fr tkj12 tk79 _ from (Fr.fcons (show Fr tkj12 tk29 _ from ((show Fr tkj12 tk29 _ from hf34 rfl)).mono (by omega) (by omega)) (Fr.fcons ((show Fr tk29 tk79 _ from hf84 rfl)) (show Fr tk79 tk79 _ from Fr.nil _ _) (by omega) (by omega)) (by omega) (by omega)).mono (by omega) (by omega)) (by omega) (by omega)).mono (by omega) (by omega))⟩⟩
      ·replace hM := ite_f hb86 hM
       refine run_skip ?_
       refine run_sr ?_
       refine run_ld hG rfl rfl rfl rfl rfl (ltb rfl) ?_
       refine run_ld hG rfl rfl rfl rfl rfl (ltb rfl) ?_
       refine run_call rfl rfl rfl (ltb rfl) rfl rfl rfl (fun _ h => absurd h List.not_mem_nil) (i_implies_ex k33 n33 q33 f33 ks33 k83 n83 q83 f83 ks83 _ _) (callK_retN ?_)
       skip
       refine run_op0 rfl (store_step hG rfl rfl rfl rfl rfl rfl rfl rfl) rfl ?_
       refine run_ops_nil ?_
       refine run_ret_to ?_
       obtain rfl := some_t hM
       refine fin_x hG rfl rfl rfl (v' := .agg [.int .i64 3, .int .i64 0, .imm tk79 3 false (fcellss [LF.mk k33 n33 q33 f33 ks33, LF.mk k83 n83 q83 f83 ks83])]) (by rfl) ⟨rfl, (show tk ≤ (tk79 + 1) by omega), _, rfl, ⟨3, 0, tk79, false, [LF.mk k33 n33 q33 f33 ks33, LF.mk k83 n83 q83 f83 ks83], rfl, rfl, fun _ => (show Fr tk (tk79 + 1) _ from (show Fr tkj12 (tk79 + 1) _ from Fr.fstop (show Fr tkj12 tk79 _ from (Fr.fcons (show Fr tkj12 tk29 _ from ((show Fr tkj12 tk29 _ from hf34 rfl)).mono (by omega) (by omega)) (Fr.fcons ((show Fr tk29 tk79 _ from hf84 rfl)) (show Fr tk79 tk79 _ from Fr.nil _ _) (by omega) (by omega)) (by omega) (by omega)).mono (by omega) (by omega)) (by omega) (by omega)).mono (by omega) (by omega))⟩⟩
   ·refine AOpN.alloc hG rfl rfl rfl (ltb rfl) rfl rfl rfl ?_
    refine AAny.eachN (rs := [4, 11]) (by kernel_rfl) (fun h => by cases h) (fun i hi => ?_)
    simp only [List.mem_cons, List.not_mem_nil, or_false] at hi
    rcases hi with rfl | rfl
    ·refine AOpN.of ?_
     obtain ⟨z92, hg88, hM⟩ := zb_t hM
     refine AOp.call rfl rfl rfl rfl (ltb rfl) rfl rfl rfl (fun _ h => absurd h List.not_mem_nil) (fun _ h => absurd h List.not_mem_nil) (ih_i_readForm k19 n19 s19 q19 f19 ks19 hg88 _ _) (callK_retZ (fun r87 v tk89 hz95 (hle90 : tkj12 ≤ tk89) h91 => ?_) (fun c p tk89 hz (_ : tkj12 ≤ tk89) => by subst hz; obtain rfl := bd_stop hM; exact run_pan_at (⟨rfl, (show tk ≤ tk89 by omega), rfl⟩)))
     subst hz95
     replace hM := bd_ok hM
     obtain ⟨k93, n93, q93, f93, ks93, rfl, rfl, hf94⟩ := h91
     refine AAny.eachN (rs := [9, 11]) (by kernel_rfl) (fun h => by cases h) (fun i hi => ?_)
     simp only [List.mem_cons, List.not_mem_nil, or_false] at hi
     rcases hi with rfl | rfl
     ·refine AOpN.of ?_
      obtain ⟨z101, hg97, hM⟩ := zb_t hM
      refine AOp.call rfl rfl rfl rfl (ltb rfl) rfl rfl rfl (fun _ h => absurd h List.not_mem_nil) (fun _ h => absurd h List.not_mem_nil) (ih_i_readForm k24 n24 s24 q24 f24 ks24 hg97 _ _) (callK_retZ (fun r96 v tk98 hz104 (hle99 : tk89 ≤ tk98) h100 => ?_) (fun c p tk98 hz (_ : tk89 ≤ tk98) => by subst hz; obtain rfl := bd_stop hM; exact run_pan_at (⟨rfl, (show tk ≤ tk98 by omega), rfl⟩)))
      subst hz104
      replace hM := bd_ok hM
      obtain ⟨k102, n102, q102, f102, ks102, rfl, rfl, hf103⟩ := h100
      refine AAny.eachN (rs := [11]) (by kernel_rfl) (fun h => by cases h) (fun i hi => ?_)
      simp only [List.mem_cons, List.not_mem_nil, or_false] at hi
      subst hi
      ·refine AOpN.alloc hG rfl rfl rfl (ltb rfl) rfl rfl rfl ?_
       refine AAny.one (i := 12) (by kernel_rfl) (AOp.step0 rfl rfl rfl (store_step hG rfl rfl rfl rfl rfl rfl rfl rfl) (by intro x hx; have hx : x ∈ [ID.loc 4] := hx; simp only [List.mem_cons, List.not_mem_nil, or_false] at hx; subst hx; simp) ?_)
       refine AAny.one (i := 13) (by kernel_rfl) (AOp.step0 rfl rfl rfl (store_step hG rfl rfl rfl rfl rfl rfl rfl rfl) (by intro x hx; have hx : x ∈ [ID.loc 5] := hx; simp only [List.mem_cons, List.not_mem_nil, or_false] at hx; subst hx; simp) ?_)
       refine AAny.done (by kernel_rfl) ?_
       refine run_sub_code (σ' := ⟨[(1, .optr (.loc 1) 0 0), (2, .optr (.loc 2) 0 0), (4, .optr (.loc 4) 0 0), (5, .optr (.loc 5) 0 0)], [(5, ⟨50, 3, true, [[.int .i64 k102, .int .i64 n102, .imm q102 3 f102 (fcellss ks102)]]⟩), (4, ⟨50, 3, true, [[.int .i64 k93, .int .i64 n93, .imm q93 3 f93 (fcellss ks93)]]⟩), (2, ⟨50, 3, true, [[.int .i64 0, .int .i64 0, .imm 0 3 true []]]⟩), (1, ⟨34, 4, true, [[.int .i64 k1, .int .i64 n1, .str s1, .imm q1 4 f1 (cellss ks1)]]⟩)], [], O, tk98⟩) (Sub.env _ ⟨rfl, rfl, rfl, rfl, trivial⟩) ?_
       refine run_seq ?_
       refine run_sr ?_
       refine run_pu rfl (fieldAddr_step hG rfl rfl rfl rfl rfl) rfl (ltb rfl) ?_
       refine run_ld hG rfl rfl rfl rfl rfl (ltb rfl) ?_
       refine run_bin rfl rfl rfl rfl rfl rfl rfl (ltb rfl) ?_
       refine run_ops_nil ?_
       refine run_ifb rfl rfl (fun hb105 => ?_) (fun hb105 => ?_)
       ·replace hM := ite_t hb105 hM
        refine run_sr ?_
        refine run_ld hG rfl rfl rfl rfl rfl (ltb rfl) ?_
        refine run_ld hG rfl rfl rfl rfl rfl (ltb rfl) ?_
        refine run_call rfl rfl rfl (ltb rfl) rfl rfl rfl (fun _ h => absurd h List.not_mem_nil) (i_and_ex k93 n93 q93 f93 ks93 k102 n102 q102 f102 ks102 _ _) (callK_retN ?_)
        skip
        refine run_op0 rfl (store_step hG rfl rfl rfl rfl rfl rfl rfl rfl) rfl ?_
        refine run_ops_nil ?_
        refine run_ret_to ?_
        obtain rfl := some_t hM
        refine fin_x hG rfl rfl rfl (v' := .agg [.int .i64 2, .int .i64 0, .imm tk98 3 false (fcellss [LF.mk k93 n93 q93 f93 ks93, LF.mk k102 n102 q102 f102 ks102])]) (by rfl) ⟨rfl, (show tk ≤ (tk98 + 1) by omega), _, rfl, ⟨2, 0, tk98, false, [LF.mk k93 n93 q93 f93 ks93, LF.mk k102 n102 q102 f102 ks102], rfl, rfl, fun _ => (show Fr tk (tk98 + 1) _ from (show Fr tkj12 (tk98 + 1) _ from Fr.fstop (show Fr tkj12 tk98 _ from (Fr.fcons (show Fr tkj12 tk89 _ from ((show Fr tkj12 tk89 _ from hf94 rfl)).mono (by omega) (by omega)) (Fr.fcons ((show Fr tk89 tk98 _ from hf103 rfl)) (show Fr tk98 tk98 _ from Fr.nil _ _) (by omega) (by omega)) (by omega) (by omega)).mono (by omega) (by omega)) (by omega) (by omega)).mono (by omega) (by omega))⟩⟩
       ·replace hM := ite_f hb105 hM
        refine run_skip ?_
        refine run_sr ?_
        refine run_ld hG rfl rfl rfl rfl rfl (ltb rfl) ?_
        refine run_ld hG rfl rfl rfl rfl rfl (ltb rfl) ?_
        refine run_call rfl rfl rfl (ltb rfl) rfl rfl rfl (fun _ h => absurd h List.not_mem_nil) (i_implies_ex k93 n93 q93 f93 ks93 k102 n102 q102 f102 ks102 _ _) (callK_retN ?_)
        skip
        refine run_op0 rfl (store_step hG rfl rfl rfl rfl rfl rfl rfl rfl) rfl ?_
        refine run_ops_nil ?_
        refine run_ret_to ?_
        obtain rfl := some_t hM
        refine fin_x hG rfl rfl rfl (v' := .agg [.int .i64 3, .int .i64 0, .imm tk98 3 false (fcellss [LF.mk k93 n93 q93 f93 ks93, LF.mk k102 n102 q102 f102 ks102])]) (by rfl) ⟨rfl, (show tk ≤ (tk98 + 1) by omega), _, rfl, ⟨3, 0, tk98, false, [LF.mk k93 n93 q93 f93 ks93, LF.mk k102 n102 q102 f102 ks102], rfl, rfl, fun _ => (show Fr tk (tk98 + 1) _ from (show Fr tkj12 (tk98 + 1) _ from Fr.fstop (show Fr tkj12 tk98 _ from (Fr.fcons (show Fr tkj12 tk89 _ from ((show Fr tkj12 tk89 _ from hf94 rfl)).mono (by omega) (by omega)) (Fr.fcons ((show Fr tk89 tk98 _ from hf103 rfl)) (show Fr tk98 tk98 _ from Fr.nil _ _) (by omega) (by omega)) (by omega) (by omega)).mono (by omega) (by omega)) (by omega) (by omega)).mono (by omega) (by omega))⟩⟩
     ·refine AOpN.alloc hG rfl rfl rfl (ltb rfl) rfl rfl rfl ?_
      obtain ⟨z111, hg107, hM⟩ := zb_t hM
      refine AAny.one (i := 9) (by kernel_rfl) (AOp.call rfl rfl rfl rfl (ltb rfl) rfl rfl rfl (fun _ h => absurd h List.not_mem_nil) (fun _ h => absurd h List.not_mem_nil) (ih_i_readForm k24 n24 s24 q24 f24 ks24 hg107 _ _) (callK_retZ (fun r106 v tk108 hz114 (hle109 : tk89 ≤ tk108) h110 => ?_) (fun c p tk108 hz (_ : tk89 ≤ tk108) => by subst hz; obtain rfl := bd_stop hM; exact run_pan_at (⟨rfl, (show tk ≤ tk108 by omega), rfl⟩))))
      subst hz114
      replace hM := bd_ok hM
      obtain ⟨k112, n112, q112, f112, ks112, rfl, rfl, hf113⟩ := h110
      refine AAny.one (i := 12) (by kernel_rfl) (AOp.step0 rfl rfl rfl (store_step hG rfl rfl rfl rfl rfl rfl rfl rfl) (by intro x hx; have hx : x ∈ [ID.loc 4] := hx; simp only [List.mem_cons, List.not_mem_nil, or_false] at hx; subst hx; simp) ?_)
      refine AAny.one (i := 13) (by kernel_rfl) (AOp.step0 rfl rfl rfl (store_step hG rfl rfl rfl rfl rfl rfl rfl rfl) (by intro x hx; have hx : x ∈ [ID.loc 5] := hx; simp only [List.mem_cons, List.not_mem_nil, or_false] at hx; subst hx; simp) ?_)
      refine AAny.done (by kernel_rfl) ?_
      refine run_sub_code (σ' := ⟨[(1, .optr (.loc 1) 0 0), (2, .optr (.loc 2) 0 0), (4, .optr (.loc 4) 0 0), (5, .optr (.loc 5) 0 0)], [(5, ⟨50, 3, true, [[.int .i64 k112, .int .i64 n112, .imm q112 3 f112 (fcellss ks112)]]⟩), (4, ⟨50, 3, true, [[.int .i64 k93, .int .i64 n93, .imm q93 3 f93 (fcellss ks93)]]⟩), (2, ⟨50, 3, true, [[.int .i64 0, .int .i64 0, .imm 0 3 true []]]⟩), (1, ⟨34, 4, true, [[.int .i64 k1, .int .i64 n1, .str s1, .imm q1 4 f1 (cellss ks1)]]⟩)], [], O, tk108⟩) (Sub.env _ ⟨rfl, rfl, rfl, rfl, trivial⟩) ?_
      refine run_seq ?_
      refine run_sr ?_
      refine run_pu rfl (fieldAddr_step hG rfl rfl rfl rfl rfl) rfl (ltb rfl) ?_
      refine run_ld hG rfl rfl rfl rfl rfl (ltb rfl) ?_
      refine run_bin rfl rfl rfl rfl rfl rfl rfl (ltb rfl) ?_
      refine run_ops_nil ?_
      refine run_ifb rfl rfl (fun hb115 => ?_) (fun hb115 => ?_)
      ·replace hM := ite_t hb115 hM
       refine run_sr ?_
       refine run_ld hG rfl rfl rfl rfl rfl (ltb rfl) ?_
       refine run_ld hG rfl rfl rfl rfl rfl (ltb rfl) ?_
       refine run_call rfl rfl rfl (ltb rfl) rfl rfl rfl (fun _ h => absurd h List.not_mem_nil) (i_and_ex k93 n93 q93 f93 ks93 k112 n112 q112 f112 ks112 _ _) (callK_retN ?_)
       skip
       refine run_op0 rfl (store_step hG rfl rfl rfl rfl rfl rfl rfl rfl) rfl ?_
       refine run_ops_nil ?_
       refine run_ret_to ?_
       obtain rfl := some_t hM
       refine fin_x hG rfl rfl rfl (v' := .agg [.int .i64 2, .int .i64 0, .imm tk108 3 false (fcellss [LF.mk k93 n93 q93 f93 ks93, LF.mk k112 n112 q112 f112 ks112])]) (by rfl) ⟨rfl, (show tk ≤ (tk108 + 1) by omega), _, rfl, ⟨2, 0, tk108, false, [LF.mk k93 n93 q93 f93 ks93, LF.mk k112 n112 q112 f112 ks112], rfl, rfl, fun _ => (show Fr tk (tk108 + 1) _ from (show Fr tkj12 (tk108 + 1) _ from Fr.fstop (show Fr tkj12 tk108 _ from (Fr.fcons (show Fr tkj12 tk89 _ from ((show Fr tkj12 tk89 _ from hf94 rfl)).mono (by omega) (by omega)) (Fr.fcons ((show Fr tk89 tk108 _ from hf113 rfl)) (show Fr tk108 tk108 _ from Fr.nil _ _) (by omega) (by omega)) (by omega) (by omega)).mono (by omega) (by omega)) (by omega) (by omega)).mono (by omega) (by omega))⟩⟩
      ·replace hM := ite_f hb115 hM
       refine run_skip ?_
       refine run_sr ?_
       refine run_ld hG rfl rfl rfl rfl rfl (ltb rfl) ?_
       refine run_ld hG rfl rfl rfl rfl rfl (ltb rfl) ?_
       refine run_call rfl rfl rfl (ltb rfl) rfl rfl rfl (fun _ h => absurd h List.not_mem_nil) (i_implies_ex k93 n93 q93 f93 ks93 k112 n112 q112 f112 ks112 _ _) (callK_retN ?_)
       skip
       refine run_op0 rfl (store_step hG rfl rfl rfl rfl rfl rfl rfl rfl) rfl ?_
       refine run_ops_nil ?_
       refine run_ret_to ?_
       obtain rfl := some_t hM
       refine fin_x hG rfl rfl rfl (v' := .agg [.int .i64 3, .int .i64 0, .imm tk108 3 false (fcellss [LF.mk k93 n93 q93 f93 ks93, LF.mk k112 n112 q112 f112 ks112])]) (by rfl) ⟨rfl, (show tk ≤ (tk108 + 1) by omega), _, rfl, ⟨3, 0, tk108, false, [LF.mk k93 n93 q93 f93 ks93, LF.mk k112 n112 q112 f112 ks112], rfl, rfl, fun _ => (show Fr tk (tk108 + 1) _ from (show Fr tkj12 (tk108 + 1) _ from Fr.fstop (show Fr tkj12 tk108 _ from (Fr.fcons (show Fr tkj12 tk89 _ from ((show Fr tkj12 tk89 _ from hf94 rfl)).mono (by omega) (by omega)) (Fr.fcons ((show Fr tk89 tk108 _ from hf113 rfl)) (show Fr tk108 tk108 _ from Fr.nil _ _) (by omega) (by omega)) (by omega) (by omega)).mono (by omega) (by omega)) (by omega) (by omega)).mono (by omega) (by omega))⟩⟩
    ·refine AOpN.alloc hG rfl rfl rfl (ltb rfl) rfl rfl rfl ?_
     obtain ⟨z121, hg117, hM⟩ := zb_t hM
     refine AAny.one (i := 4) (by kernel_rfl) (AOp.call rfl rfl rfl rfl (ltb rfl) rfl rfl rfl (fun _ h => absurd h List.not_mem_nil) (fun _ h => absurd h List.not_mem_nil) (ih_i_readForm k19 n19 s19 q19 f19 ks19 hg117 _ _) (callK_retZ (fun r116 v tk118 hz124 (hle119 : tkj12 ≤ tk118) h120 => ?_) (fun c p tk118 hz (_ : tkj12 ≤ tk118) => by subst hz; obtain rfl := bd_stop hM; exact run_pan_at (⟨rfl, (show tk ≤ tk118 by omega), rfl⟩))))
     subst hz124
     replace hM := bd_ok hM
     obtain ⟨k122, n122, q122, f122, ks122, rfl, rfl, hf123⟩ := h120
     obtain ⟨z130, hg126, hM⟩ := zb_t hM
     refine AAny.one (i := 9) (by kernel_rfl) (AOp.call rfl rfl rfl rfl (ltb rfl) rfl rfl rfl (fun _ h => absurd h List.not_mem_nil) (fun _ h => absurd h List.not_mem_nil) (ih_i_readForm k24 n24 s24 q24 f24 ks24 hg126 _ _) (callK_retZ (fun r125 v tk127 hz133 (hle128 : tk118 ≤ tk127) h129 => ?_) (fun c p tk127 hz (_ : tk118 ≤ tk127) => by subst hz; obtain rfl := bd_stop hM; exact run_pan_at (⟨rfl, (show tk ≤ tk127 by omega), rfl⟩))))
     subst hz133
     replace hM := bd_ok hM
     obtain ⟨k131, n131, q131, f131, ks131, rfl, rfl, hf132⟩ := h129
     refine AAny.one (i := 12) (by kernel_rfl) (AOp.step0 rfl rfl rfl (store_step hG rfl rfl rfl rfl rfl rfl rfl rfl) (by intro x hx; have hx : x ∈ [ID.loc 4] := hx; simp only [List.mem_cons, List.not_mem_nil, or_false] at hx; subst hx; simp) ?_)
     refine AAny.one (i := 13) (by kernel_rfl) (AOp.step0 rfl rfl rfl (store_step hG rfl rfl rfl rfl rfl rfl rfl rfl) (by intro x hx; have hx : x ∈ [ID.loc 5] := hx; simp only [List.mem_cons, List.not_mem_nil, or_false] at hx; subst hx; simp) ?_)
     refine AAny.done (by kernel_rfl) ?_
     refine run_sub_code (σ' := ⟨[(1, .optr (.loc 1) 0 0), (2, .optr (.loc 2) 0 0), (4, .optr (.loc 4) 0 0), (5, .optr (.loc 5) 0 0)], [(5, ⟨50, 3, true, [[.int .i64 k131, .int .i64 n131, .imm q131 3 f131 (fcellss ks131)]]⟩), (4, ⟨50, 3, true, [[.int .i64 k122, .int .i64 n122, .imm q122 3 f122 (fcellss ks122)]]⟩), (2, ⟨50, 3, true, [[.int .i64 0, .int .i64 0, .imm 0 3 true []]]⟩), (1, ⟨34, 4, true, [[.int .i64 k1, .int .i64 n1, .str s1, .imm q1 4 f1 (cellss ks1)]]⟩)], [], O, tk127⟩) (Sub.env _ ⟨rfl, rfl, rfl, rfl, trivial⟩) ?_
     refine run_seq ?_
     refine run_sr ?_
     refine run_pu rfl (fieldAddr_step hG rfl rfl rfl rfl rfl) rfl (ltb rfl) ?_
     refine run_ld hG rfl rfl rfl rfl rfl (ltb rfl) ?_
     refine run_bin rfl rfl rfl rfl rfl rfl rfl (ltb rfl) ?_
     refine run_ops_nil ?_
     refine run_ifb rfl rfl (fun hb134 => ?_) (fun hb134 => ?_)
     ·replace hM := ite_t hb134 hM
      refine run_sr ?_
      refine run_ld hG rfl rfl rfl rfl rfl (ltb rfl) ?_
      refine run_ld hG rfl rfl rfl rfl rfl (ltb rfl) ?_
      refine run_call rfl rfl rfl (ltb rfl) rfl rfl rfl (fun _ h => absurd h List.not_mem_nil) (i_and_ex k122 n122 q122 f122 ks122 k131 n131 q131 f131 ks131 _ _) (callK_retN ?_)
      skip
      refine run_op0 rfl (store_step hG rfl rfl rfl rfl rfl rfl rfl rfl) rfl ?_
      refine run_ops_nil ?_
      refine run_ret_to ?_
      obtain rfl := some_t hM
      refine fin_x hG rfl rfl rfl (v' := .agg [.int .i64 2, .int .i64 0, .imm tk127 3 false (fcellss [LF.mk k122 n122 q122 f122 ks122, LF.mk k131 n131 q131 f131 ks131])]) (by rfl) ⟨rfl, (show tk ≤ (tk127 + 1) by omega), _, rfl, ⟨2, 0, tk127, false, [LF.mk k122 n122 q122 f122 ks122, LF.mk k131 n131 q131 f131 ks131], rfl, rfl, fun _ => (show Fr tk (tk127 + 1) _ from (show Fr tkj12 (tk127 + 1) _ from Fr.fstop (show Fr tkj12 tk127 _ from (Fr.fcons (show Fr tkj12 tk118 _ from ((show Fr tkj12 tk118 _ from hf123 rfl)).mono (by omega) (by omega)) (Fr.fcons ((show Fr tk118 tk127 _ from hf132 rfl)) (show Fr tk127 tk127 _ from Fr.nil _ _) (by omega) (by omega)) (by omega) (by omega)).mono (by omega) (by omega)) (by omega) (by omega)).mono (by omega) (by omega))⟩⟩
     ·replace hM := ite_f hb134 hM
      refine run_skip ?_
      refine run_sr ?_
      refine run_ld hG rfl rfl rfl rfl rfl (ltb rfl) ?_
      refine run_ld hG rfl rfl rfl rfl rfl (ltb rfl) ?_
      refine run_call rfl rfl rfl (ltb rfl) rfl rfl rfl (fun _ h => absurd h List.not_mem_nil) (i_implies_ex k122 n122 q122 f122 ks122 k131 n131 q131 f131 ks131 _ _) (callK_retN ?_)
      skip
      refine run_op0 rfl (store_step hG rfl rfl rfl rfl rfl rfl rfl rfl) rfl ?_
      refine run_ops_nil ?_
      refine run_ret_to ?_
      obtain rfl := some_t hM
      refine fin_x hG rfl rfl rfl (v' := .agg [.int .i64 3, .int .i64 0, .imm tk127 3 false (fcellss [LF.mk k122 n122 q122 f122 ks122, LF.mk k131 n131 q131 f131 ks131])]) (by rfl) ⟨rfl, (show tk ≤ (tk127 + 1) by omega), _, rfl, ⟨3, 0, tk127, false, [LF.mk k122 n122 q122 f122 ks122, LF.mk k131 n131 q131 f131 ks131], rfl, rfl, fun _ => (show Fr tk (tk127 + 1) _ from (show Fr tkj12 (tk127 + 1) _ from Fr.fstop (show Fr tkj12 tk127 _ from (Fr.fcons (show Fr tkj12 tk118 _ from ((show Fr tkj12 tk118 _ from hf123 rfl)).mono (by omega) (by omega)) (Fr.fcons ((show Fr tk118 tk127 _ from hf132 rfl)) (show Fr tk127 tk127 _ from Fr.nil _ _) (by omega) (by omega)) (by omega) (by omega)).mono (by omega) (by omega)) (by omega) (by omega)).mono (by omega) (by omega))⟩⟩
   ·refine AOpN.alloc hG rfl rfl rfl (ltb rfl) rfl rfl rfl ?_
    refine AAny.eachN (rs := [4, 10]) (by kernel_rfl) (fun h => by cases h) (fun i hi => ?_)
    simp only [List.mem_cons, List.not_mem_nil, or_false] at hi
    rcases hi with rfl | rfl
    ·refine AOpN.of ?_
     obtain ⟨z140, hg136, hM⟩ := zb_t hM
     refine AOp.call rfl rfl rfl rfl (ltb rfl) rfl rfl rfl (fun _ h => absurd h List.not_mem_nil) (fun _ h => absurd h List.not_mem_nil) (ih_i_readForm k19 n19 s19 q19 f19 ks19 hg136 _ _) (callK_retZ (fun r135 v tk137 hz143 (hle138 : tkj12 ≤ tk137) h139 => ?_) (fun c p tk137 hz (_ : tkj12 ≤ tk137) => by subst hz; obtain rfl := bd_stop hM; exact run_pan_at (⟨rfl, (show tk ≤ tk137 by omega), rfl⟩)))
     subst hz143
     replace hM := bd_ok hM
     obtain ⟨k141, n141, q141, f141, ks141, rfl, rfl, hf142⟩ := h139
     refine AAny.eachN (rs := [9, 10]) (by kernel_rfl) (fun h => by cases h) (fun i hi => ?_)
     simp only [List.mem_cons, List.not_mem_nil, or_false] at hi
     rcases hi with rfl | rfl
     ·refine AOpN.of ?_
      obtain ⟨z149, hg145, hM⟩ := zb_t hM
      refine AOp.call rfl rfl rfl rfl (ltb rfl) rfl rfl rfl (fun _ h => absurd h List.not_mem_nil) (fun _ h => absurd h List.not_mem_nil) (ih_i_readForm k24 n24 s24 q24 f24 ks24 hg145 _ _) (callK_retZ (fun r144 v tk146 hz152 (hle147 : tk137 ≤ tk146) h148 => ?_) (fun c p tk146 hz (_ : tk137 ≤ tk146) => by subst hz; obtain rfl := bd_stop hM; exact run_pan_at (⟨rfl, (show tk ≤ tk146 by omega), rfl⟩)))
      subst hz152
      replace hM := bd_ok hM
      obtain ⟨k150, n150, q150, f150, ks150, rfl, rfl, hf151⟩ := h148
      refine AAny.eachN (rs := [10]) (by kernel_rfl) (fun h => by cases h) (fun i hi => ?_)
      simp only [List.mem_cons, List.not_mem_nil, or_false] at hi
      subst hi
      ·refine AOpN.alloc hG rfl rfl rfl (ltb rfl) rfl rfl rfl ?_
       refine AAny.one (i := 12) (by kernel_rfl) (AOp.step0 rfl rfl rfl (store_step hG rfl rfl rfl rfl rfl rfl rfl rfl) (by intro x hx; have hx : x ∈ [ID.loc 4] := hx; simp only [List.mem_cons, List.not_mem_nil, or_false] at hx; subst hx; simp) ?_)
       refine AAny.one (i := 13) (by kernel_rfl) (AOp.step0 rfl rfl rfl (store_step hG rfl rfl rfl rfl rfl rfl rfl rfl) (by intro x hx; have hx : x ∈ [ID.loc 5] := hx; simp only [List.mem_cons, List.not_mem_nil, or_false] at hx; subst hx; simp) ?_)
       refine AAny.done (by kernel_rfl) ?_
       refine run_sub_code (σ' := ⟨[(1, .optr (.loc 1) 0 0), (2, .optr (.loc 2) 0 0), (5, .optr (.loc 5) 0 0), (4, .optr (.loc 4) 0 0)], [(4, ⟨50, 3, true, [[.int .i64 k141, .int .i64 n141, .imm q141 3 f141 (fcellss ks141)]]⟩), (5, ⟨50, 3, true, [[.int .i64 k150, .int .i64 n150, .imm q150 3 f150 (fcellss ks150)]]⟩), (2, ⟨50, 3, true, [[.int .i64 0, .int .i64 0, .imm 0 3 true []]]⟩), (1, ⟨34, 4, true, [[.int .i64 k1, .int .i64 n1, .str s1, .imm q1 4 f1 (cellss ks1)]]⟩)], [], O, tk146⟩) (Sub.env _ ⟨rfl, rfl, rfl, rfl, trivial⟩) ?_
       refine run_seq ?_
       refine run_sr ?_
       refine run_pu rfl (fieldAddr_step hG rfl rfl rfl rfl rfl) rfl (ltb rfl) ?_
       refine run_ld hG rfl rfl rfl rfl rfl (ltb rfl) ?_
       refine run_bin rfl rfl rfl rfl rfl rfl rfl (ltb rfl) ?_
       refine run_ops_nil ?_
       refine run_ifb rfl rfl (fun hb153 => ?_) (fun hb153 => ?_)
       ·replace hM := ite_t hb153 hM
        refine run_sr ?_
        refine run_ld hG rfl rfl rfl rfl rfl (ltb rfl) ?_
        refine run_ld hG rfl rfl rfl rfl rfl (ltb rfl) ?_
        refine run_call rfl rfl rfl (ltb rfl) rfl rfl rfl (fun _ h => absurd h List.not_mem_nil) (i_and_ex k141 n141 q141 f141 ks141 k150 n150 q150 f150 ks150 _ _) (callK_retN ?_)
        skip
        refine run_op0 rfl (store_step hG rfl rfl rfl rfl rfl rfl rfl rfl) rfl ?_
        refine run_ops_nil ?_
        refine run_ret_to ?_
        obtain rfl := some_t hM
        refine fin_x hG rfl rfl rfl (v' := .agg [.int .i64 2, .int .i64 0, .imm tk146 3 false (fcellss [LF.mk k141 n141 q141 f141 ks141, LF.mk k150 n150 q150 f150 ks150])]) (by rfl) ⟨rfl, (show tk ≤ (tk146 + 1) by omega), _, rfl, ⟨2, 0, tk146, false, [LF.mk k141 n141 q141 f141 ks141, LF.mk k150 n150 q150 f150 ks150], rfl, rfl, fun _ => (show Fr tk (tk146 + 1) _ from (show Fr tkj12 (tk146 + 1) _ from Fr.fstop (show Fr tkj12 tk146 _ from (Fr.fcons (show Fr tkj12 tk137 _ from ((show Fr tkj12 tk137 _ from hf142 rfl)).mono (by omega) (by omega)) (Fr.fcons ((show Fr tk137 tk146 _ from hf151 rfl)) (show Fr tk146 tk146 _ from Fr.nil _ _) (by omega) (by omega)) (by omega) (by omega)).mono (by omega) (by omega)) (by omega) (by omega)).mono (by omega) (by omega))⟩⟩
       ·replace hM := ite_f hb153 hM
        refine run_skip ?_
        refine run_sr ?_
        refine run_ld hG rfl rfl rfl rfl rfl (ltb rfl) ?_
        refine run_ld hG rfl rfl rfl rfl rfl (ltb rfl) ?_
        refine run_call rfl rfl rfl (ltb rfl) rfl rfl rfl (fun _ h => absurd h List.not_mem_nil) (i_implies_ex k141 n141 q141 f141 ks141 k150 n150 q150 f150 ks150 _ _) (callK_retN ?_)
        skip
        refine run_op0 rfl (store_step hG rfl rfl rfl rfl rfl rfl rfl rfl) rfl ?_
        refine run_ops_nil ?_
        refine run_ret_to ?_
        obtain rfl := some_t hM
        refine fin_x hG rfl rfl rfl (v' := .agg [.int .i64 3, .int .i64 0, .imm tk146 3 false (fcellss [LF.mk k141 n141 q141 f141 ks141, LF.mk k150 n150 q150 f150 ks150])]) (by rfl) ⟨rfl, (show tk ≤ (tk146 + 1) by omega), _, rfl, ⟨3, 0, tk146, false, [LF.mk k141 n141 q141 f141 ks141, LF.mk k150 n150 q150 f150 ks150], rfl, rfl, fun _ => (show Fr tk (tk146 + 1) _ from (show Fr tkj12 (tk146 + 1) _ from Fr.fstop (show Fr tkj12 tk146 _ from (Fr.fcons (show Fr tkj12 tk137 _ from ((show Fr tkj12 tk137 _ from hf142 rfl)).mono (by omega) (by omega)) (Fr.fcons ((show Fr tk137 tk146 _ from hf151 rfl)) (show Fr tk146 tk146 _ from Fr.nil _ _) (by omega) (by omega)) (by omega) (by omega)).mono (by omega) (by omega)) (by omega) (by omega)).mono (by omega) (by omega))⟩⟩
     ·refine AOpN.alloc hG rfl rfl rfl (ltb rfl) rfl rfl rfl ?_
      obtain ⟨z159, hg155, hM⟩ := zb_t hM
      refine AAny.one (i := 9) (by kernel_rfl) (AOp.call rfl rfl rfl rfl (ltb rfl) rfl rfl rfl (fun _ h => absurd h List.not_mem_nil) (fun _ h => absurd h List.not_mem_nil) (ih_i_readForm k24 n24 s24 q24 f24 ks24 hg155 _ _) (callK_retZ (fun r154 v tk156 hz162 (hle157 : tk137 ≤ tk156) h158 => ?_) (fun c p tk156 hz (_ : tk137 ≤ tk156) => by subst hz; obtain rfl := bd_stop hM; exact run_pan_at (⟨rfl, (show tk ≤ tk156 by omega), rfl⟩))))
      subst hz162
      replace hM := bd_ok hM
      obtain ⟨k160, n160, q160, f160, ks160, rfl, rfl, hf161⟩ := h158
      refine AAny.one (i := 12) (by kernel_rfl) (AOp.step0 rfl rfl rfl (store_step hG rfl rfl rfl rfl rfl rfl rfl rfl) (by intro x hx; have hx : x ∈ [ID.loc 4] := hx; simp only [List.mem_cons, List.not_mem_nil, or_false] at hx; subst hx; simp) ?_)
      refine AAny.one (i := 13) (by kernel_rfl) (AOp.step0 rfl rfl rfl (store_step hG rfl rfl rfl rfl rfl rfl rfl rfl) (by intro x hx; have hx : x ∈ [ID.loc 5] := hx; simp only [List.mem_cons, List.not_mem_nil, or_false] at hx; subst hx; simp) ?_)
      refine AAny.done (by kernel_rfl) ?_
      refine run_sub_code (σ' := ⟨[(1, .optr (.loc 1) 0 0), (2, .optr (.loc 2) 0 0), (5, .optr (.loc 5) 0 0), (4, .optr (.loc 4) 0 0)], [(4, ⟨50, 3, true, [[.int .i64 k141, .int .i64 n141, .imm q141 3 f141 (fcellss ks141)]]⟩), (5, ⟨50, 3, true, [[.int .i64 k160, .int .i64 n160, .imm q160 3 f160 (fcellss ks160)]]⟩), (2, ⟨50, 3, true, [[.int .i64 0, .int .i64 0, .imm 0 3 true []]]⟩), (1, ⟨34, 4, true, [[.int .i64 k1, .int .i64 n1, .str s1, .imm q1 4 f1 (cellss ks1)]]⟩)], [], O, tk156⟩) (Sub.env _ ⟨rfl, rfl, rfl, rfl, trivial⟩) ?_
      refine run_seq ?_
      refine run_sr ?_
      refine run_pu rfl (fieldAddr_step hG rfl rfl rfl rfl rfl) rfl (ltb rfl) ?_
      refine run_ld hG rfl rfl rfl rfl rfl (ltb rfl) ?_
      refine run_bin rfl rfl rfl rfl rfl rfl rfl (ltb rfl) ?_
      refine run_ops_nil ?_
      refine run_ifb rfl rfl (fun hb163 => ?_) (fun hb163 => ?_)
      ·replace hM := ite_t hb163 hM
       refine run_sr ?_
       refine run_ld hG rfl rfl rfl rfl rfl (ltb rfl) ?_
       refine run_ld hG rfl rfl rfl rfl rfl (ltb rfl) ?_
       refine run_call rfl rfl rfl (ltb rfl) rfl rfl rfl (fun _ h => absurd h List.not_mem_nil) (i_and_ex k141 n141 q141 f141 ks141 k160 n160 q160 f160 ks160 _ _) (callK_retN ?_)
       skip
       refine run_op0 rfl (store_step hG rfl rfl rfl rfl rfl rfl rfl rfl) rfl ?_
       refine run_ops_nil ?_
       refine run_ret_to ?_
       obtain rfl := some_t hM
       refine fin_x hG rfl rfl rfl (v' := .agg [.int .i64 2, .int .i64 0, .imm tk156 3 false (fcellss [LF.mk k141 n141 q141 f141 ks141, LF.mk k160 n160 q160 f160 ks160])]) (by rfl) ⟨rfl, (show tk ≤ (tk156 + 1) by omega), _, rfl, ⟨2, 0, tk156, false, [LF.mk k141 n141 q141 f141 ks141, LF.mk k160 n160 q160 f160 ks160], rfl, rfl, fun _ => (show Fr tk (tk156 + 1) _ from (show Fr tkj12 (tk156 + 1) _ from Fr.fstop (show Fr tkj12 tk156 _ from (Fr.fcons (show Fr tkj12 tk137 _ from ((show Fr tkj12 tk137 _ from hf142 rfl)).mono (by omega) (by omega)) (Fr.fcons ((show Fr tk137 tk156 _ from hf161 rfl)) (show Fr tk156 tk156 _ from Fr.nil _ _) (by omega) (by omega)) (by omega) (by omega)).mono (by omega) (by omega)) (by omega) (by omega)).mono (by omega) (by omega))⟩⟩
      ·replace hM := ite_f hb163 hM
       refine run_skip ?_
       refine run_sr ?_
       refine run_ld hG rfl rfl rfl rfl rfl (ltb rfl) ?_
       refine run_ld hG rfl rfl rfl rfl rfl (ltb rfl) ?_
       refine run_call rfl rfl rfl (ltb rfl) rfl rfl rfl (fun _ h => absurd h List.not_mem_nil) (i_implies_ex k141 n141 q141 f141 ks141 k160 n160 q160 f160 ks160 _ _) (callK_retN ?_)
       skip
       refine run_op0 rfl (store_step hG rfl rfl rfl rfl rfl rfl rfl rfl) rfl ?_
       refine run_ops_nil ?_
       refine run_ret_to ?_
       obtain rfl := some_t hM
       refine fin_x hG rfl rfl rfl (v' := .agg [.int .i64 3, .int .i64 0, .imm tk156 3 false (fcellss [LF.mk k141 n141 q141 f141 ks141, LF.mk k160 n160 q160 f160 ks160])]) (by rfl) ⟨rfl, (show tk ≤ (tk156 + 1) by omega), _, rfl, ⟨3, 0, tk156, false, [LF.mk k141 n141 q141 f141 ks141, LF.mk k160 n160 q160 f160 ks160], rfl, rfl, fun _ => (show Fr tk (tk156 + 1) _ from (show Fr tkj12 (tk156 + 1) _ from Fr.fstop (show Fr tkj12 tk156 _ from (Fr.fcons (show Fr tkj12 tk137 _ from ((show Fr tkj12 tk137 _ from hf142 rfl)).mono (by omega) (by omega)) (Fr.fcons ((show Fr tk137 tk156 _ from hf161 rfl)) (show Fr tk156 tk156 _ from Fr.nil _ _) (by omega) (by omega)) (by omega) (by omega)).mono (by omega) (by omega)) (by omega) (by omega)).mono (by omega) (by omega))⟩⟩
    ·refine AOpN.alloc hG rfl rfl rfl (ltb rfl) rfl rfl rfl ?_
     obtain ⟨z169, hg165, hM⟩ := zb_t hM
     refine AAny.one (i := 4) (by kernel_rfl) (AOp.call rfl rfl rfl rfl (ltb rfl) rfl rfl rfl (fun _ h => absurd h List.not_mem_nil) (fun _ h => absurd h List.not_mem_nil) (ih_i_readForm k19 n19 s19 q19 f19 ks19 hg165 _ _) (callK_retZ (fun r164 v tk166 hz172 (hle167 : tkj12 ≤ tk166) h168 => ?_) (fun c p tk166 hz (_ : tkj12 ≤ tk166) => by subst hz; obtain rfl := bd_stop hM; exact run_pan_at (⟨rfl, (show tk ≤ tk166 by omega), rfl⟩))))
     subst hz172
     replace hM := bd_ok hM
     obtain ⟨k170, n170, q170, f170, ks170, rfl, rfl, hf171⟩ := h168
     obtain ⟨z178, hg174, hM⟩ := zb_t hM
     refine AAny.one (i := 9) (by kernel_rfl) (AOp.call rfl rfl rfl rfl (ltb rfl) rfl rfl rfl (fun _ h => absurd h List.not_mem_nil) (fun _ h => absurd h List.not_mem_nil) (ih_i_readForm k24 n24 s24 q24 f24 ks24 hg174 _ _) (callK_retZ (fun r173 v tk175 hz181 (hle176 : tk166 ≤ tk175) h177 => ?_) (fun c p tk175 hz (_ : tk166 ≤ tk175) => by subst hz; obtain rfl := bd_stop hM; exact run_pan_at (⟨rfl, (show tk ≤ tk175 by omega), rfl⟩))))
     subst hz181
     replace hM := bd_ok hM
     obtain ⟨k179, n179, q179, f179, ks179, rfl, rfl, hf180⟩ := h177
     refine AAny.one (i := 12) (by kernel_rfl) (AOp.step0 rfl rfl rfl (store_step hG rfl rfl rfl rfl rfl rfl rfl rfl) (by intro x hx; have hx : x ∈ [ID.loc 4] := hx; simp only [List.mem_cons, List.not_mem_nil, or_false] at hx; subst hx; simp) ?_)
     refine AAny.one (i := 13) (by kernel_rfl) (AOp.step0 rfl rfl rfl (store_step hG rfl rfl rfl rfl rfl rfl rfl rfl) (by intro x hx; have hx : x ∈ [ID.loc 5] := hx; simp only [List.mem_cons, List.not_mem_nil, or_false] at hx; subst hx; simp) ?_)
     refine AAny.done (by kernel_rfl) ?_
     refine run_sub_code (σ' := ⟨[(1, .optr (.loc 1) 0 0), (2, .optr (.loc 2) 0 0), (5, .optr (.loc 5) 0 0), (4, .optr (.loc 4) 0 0)], [(4, ⟨50, 3, true, [[.int .i64 k170, .int .i64 n170, .imm q170 3 f170 (fcellss ks170)]]⟩), (5, ⟨50, 3, true, [[.int .i64 k179, .int .i64 n179, .imm q179 3 f179 (fcellss ks179)]]⟩), (2, ⟨50, 3, true, [[.int .i64 0, .int .i64 0, .imm 0 3 true []]]⟩), (1, ⟨34, 4, true, [[.int .i64 k1, .int .i64 n1, .str s1, .imm q1 4 f1 (cellss ks1)]]⟩)], [], O, tk175⟩) (Sub.env _ ⟨rfl, rfl, rfl, rfl, trivial⟩) ?_
     refine run_seq ?_
     refine run_sr ?_
     refine run_pu rfl (fieldAddr_step hG rfl rfl rfl rfl rfl) rfl (ltb rfl) ?_
     refine run_ld hG rfl rfl rfl rfl rfl (ltb rfl) ?_
     refine run_bin rfl rfl rfl rfl rfl rfl rfl (ltb rfl) ?_
     refine run_ops_nil ?_
     refine run_ifb rfl rfl (fun hb182 => ?_) (fun hb182 => ?_)
     ·replace hM := ite_t hb182 hM
      refine run_sr ?_
      refine run_ld hG rfl rfl rfl rfl rfl (ltb rfl) ?_
      refine run_ld hG rfl rfl rfl rfl rfl (ltb rfl) ?_
      refine run_call rfl rfl rfl (ltb rfl) rfl rfl rfl (fun _ h => absurd h List.not_mem_nil) (i_and_ex k170 n170 q170 f170 ks170 k179 n179 q179 f179 ks179 _ _) (callK_retN ?_)
      skip
      refine run_op0 rfl (store_step hG rfl rfl rfl rfl rfl rfl rfl rfl) rfl ?_
      refine run_ops_nil ?_
      refine run_ret_to ?_
      obtain rfl := some_t hM
      refine fin_x hG rfl rfl rfl (v' := .agg [.int .i64 2, .int .i64 0, .imm tk175 3 false (fcellss [LF.mk k170 n170 q170 f170 ks170, LF.mk k179 n179 q179 f179 ks179])]) (by rfl) ⟨rfl, (show tk ≤ (tk175 + 1) by omega), _, rfl, ⟨2, 0, tk175, false, [LF.mk k170 n170 q170 f170 ks170, LF.mk k179 n179 q179 f179 ks179], rfl, rfl, fun _ => (show Fr tk (tk175 + 1) _ from (show Fr tkj12 (tk175 + 1) _ from Fr.fstop (show Fr tkj12 tk175 _ from (Fr.fcons (show Fr tkj12 tk166 _ from ((show Fr tkj12 tk166 _ from hf171 rfl)).mono (by omega) (by omega)) (Fr.fcons ((show Fr tk166 tk175 _ from hf180 rfl)) (show Fr tk175 tk175 _ from Fr.nil _ _) (by omega) (by omega)) (by omega) (by omega)).mono (by omega) (by omega)) (by omega) (by omega)).mono (by omega) (by omega))⟩⟩
     ·replace hM := ite_f hb182 hM
      refine run_skip ?_
      refine run_sr ?_
      refine run_ld hG rfl rfl rfl rfl rfl (ltb rfl) ?_
      refine run_ld hG rfl rfl rfl rfl rfl (ltb rfl) ?_
      refine run_call rfl rfl rfl (ltb rfl) rfl rfl rfl (fun _ h => absurd h List.not_mem_nil) (i_implies_ex k170 n170 q170 f170 ks170 k179 n179 q179 f179 ks179 _ _) (callK_retN ?_)
      skip
      refine run_op0 rfl (store_step hG rfl rfl rfl rfl rfl rfl rfl rfl) rfl ?_
      refine run_ops_nil ?_
      refine run_ret_to ?_
      obtain rfl := some_t hM
      refine fin_x hG rfl rfl rfl (v' := .agg [.int .i64 3, .int .i64 0, .imm tk175 3 false (fcellss [LF.mk k170 n170 q170 f170 ks170, LF.mk k179 n179 q179 f179 ks179])]) (by rfl) ⟨rfl, (show tk ≤ (tk175 + 1) by omega), _, rfl, ⟨3, 0, tk175, false, [LF.mk k170 n170 q170 f170 ks170, LF.mk k179 n179 q179 f179 ks179], rfl, rfl, fun _ => (show Fr tk (tk175 + 1) _ from (show Fr tkj12 (tk175 + 1) _ from Fr.fstop (show Fr tkj12 tk175 _ from (Fr.fcons (show Fr tkj12 tk166 _ from ((show Fr tkj12 tk166 _ from hf171 rfl)).mono (by omega) (by omega)) (Fr.fcons ((show Fr tk166 tk175 _ from hf180 rfl)) (show Fr tk175 tk175 _ from Fr.nil _ _) (by omega) (by omega)) (by omega) (by omega)).mono (by omega) (by omega)) (by omega) (by omega)).mono (by omega) (by omega))⟩⟩

theorem i_readForm_all : ∀ (n : Nat), (∀ (k1 : Int) (n1 : Int) (s1 : ByteArray) (q1 : Nat) (f1 : Bool) (ks1 : List LT) {r : (Rz F)}, i_readForm n (T.mk k1 n1 s1 (ers ks1)) = some r → ∀ (O : Heap) (tk : Nat), ACalls Go.Proofs.Tryd.prog 63 [.agg [.int .i64 k1, .int .i64 n1, .str s1, .imm q1 4 f1 (cellss ks1)]] O tk (RetZ HT O tk r (fun r v tk' => VF true tk tk' r v)))
 | 0 => by intro k1 n1 s1 q1 f1 ks1 r hM; rw [i_readForm] at hM; cases hM
 | n + 1 => have ih := i_readForm_all n; i_readForm_st n (ih)

theorem i_readForm_ok (n : Nat) : ∀ (k1 : Int) (n1 : Int) (s1 : ByteArray) (q1 : Nat) (f1 : Bool) (ks1 : List LT) {r : (Rz F)}, i_readForm n (T.mk k1 n1 s1 (ers ks1)) = some r → ∀ (O : Heap) (tk : Nat), ACalls Go.Proofs.Tryd.prog 63 [.agg [.int .i64 k1, .int .i64 n1, .str s1, .imm q1 4 f1 (cellss ks1)]] O tk (RetZ HT O tk r (fun r v tk' => VF true tk tk' r v)) := i_readForm_all n

def i_badTerm (n : Nat) (x1 : T) : Option Bool :=
 (i_TermOK n x1).bind fun r2 =>
 some (!r2)

set_option maxRecDepth 100000 in
theorem i_badTerm_ok (n : Nat) : ∀ (k1 : Int) (n1 : Int) (s1 : ByteArray) (q1 : Nat) (f1 : Bool) (ks1 : List LT) {r : Bool}, i_badTerm n (T.mk k1 n1 s1 (ers ks1)) = some r → ∀ (O : Heap) (tk : Nat), ACalls Go.Proofs.Tryd.prog 42 [.agg [.int .i64 k1, .int .i64 n1, .str s1, .imm q1 4 f1 (cellss ks1)]] O tk (RetX O tk (fun v tk' => v = .bool r)) := by
 intro k1 n1 s1 q1 f1 ks1 r hM O tk
 unfold i_badTerm at hM
 refine acalls_of_run Go.Proofs.Tryd.func42 rfl rfl [] [] (Bor.nil _) [(0, .agg [.int .i64 k1, .int .i64 n1, .str s1, .imm q1 4 f1 (cellss ks1)])] (.cons (.agg _) (.nil _)) (leb rfl) (fun _ h => by cases h) (fun S0 hO htk hfz => ?_)
 refine run_sr ?_
 refine run_op rfl (box_step (d := 1) rfl rfl rfl rfl rfl) rfl (ltb rfl) ?_
 refine mvR rfl rfl rfl rfl (ltb rfl) ?_
 refine run_ops_nil ?_
 refine run_sr ?_
 refine run_ld hG rfl rfl rfl rfl rfl (ltb rfl) ?_
 obtain ⟨r2, hg3, hM⟩ := bind_t hM
 refine run_call rfl rfl rfl (ltb rfl) rfl rfl rfl (fun _ h => absurd h List.not_mem_nil) (i_TermOK_ok n k1 n1 s1 q1 f1 ks1 hg3 _ _) (callK_retX (fun v tk4 (hle5 : tk ≤ tk4) h6 => ?_))
 subst h6
 refine run_pu rfl (aun_step rfl rfl rfl) rfl (ltb rfl) ?_
 refine mvR rfl rfl rfl rfl (ltb rfl) ?_
 refine run_ops_nil ?_
 refine run_ret_to ?_
 obtain rfl := some_t hM
 refine fin_x hG rfl rfl rfl (v' := .bool (!r2)) (by rfl) ⟨rfl, (show tk ≤ tk4 by omega), _, rfl, rfl⟩

def s_l00Digits : Nat → Int → Option ByteArray
 | 0, _ => none
 | n + 1, i1 =>
  if i1 = (-9223372036854775808) then
   some (⟨#[45, 57, 50, 50, 51, 51, 55, 50, 48, 51, 54, 56, 53, 52, 55, 55, 53, 56, 48, 56]⟩)
  else
   if i1 < 0 then
    (s_l00Digits n (IntKind.i64.wrap (0 - i1))).bind fun r4 =>
    chk ((⟨#[45]⟩ : ByteArray).size + r4.size ≤ 9223372036854775807) <|
    some ((⟨#[45]⟩ : ByteArray) ++ r4)
   else
    if i1 < 10 then
     some (bytesOf [(IntKind.u8.wrap (IntKind.i64.wrap (48 + i1)))])
    else
     (s_l00Digits n (IntKind.i64.wrap (Int.tdiv i1 10))).bind fun r13 =>
     chk (r13.size + (bytesOf [(IntKind.u8.wrap (IntKind.i64.wrap (48 + (Int.tmod i1 10))))]).size ≤ 9223372036854775807) <|
     some (r13 ++ (bytesOf [(IntKind.u8.wrap (IntKind.i64.wrap (48 + (Int.tmod i1 10))))]))

set_option maxRecDepth 100000 in
theorem s_l00Digits_st (n : Nat) (ih_s_l00Digits : ∀ (i1 : Int) {r : ByteArray}, s_l00Digits n i1 = some r → ∀ (O : Heap) (tk : Nat), ACalls Go.Proofs.Tryd.prog 97 [.int .i64 i1] O tk (RetX O tk (fun v tk' => v = .str r))) : ∀ (i1 : Int) {r : ByteArray}, s_l00Digits (n + 1) i1 = some r → ∀ (O : Heap) (tk : Nat), ACalls Go.Proofs.Tryd.prog 97 [.int .i64 i1] O tk (RetX O tk (fun v tk' => v = .str r)) := by
 intro i1 r hM O tk
 rw [s_l00Digits] at hM
 refine acalls_of_run Go.Proofs.Tryd.func97 rfl rfl [] [] (Bor.nil _) [(0, .int .i64 i1)] (.cons (entS rfl) (.nil _)) (leb rfl) (fun _ h => by cases h) (fun S0 hO htk hfz => ?_)
 refine run_sr ?_
 refine mvR rfl rfl rfl rfl (ltb rfl) ?_
 refine run_ops_nil ?_
 refine run_seq ?_
 refine run_sr ?_
 refine mvL rfl rfl rfl rfl (ltb rfl) ?_
 refine run_bin rfl rfl rfl rfl rfl rfl rfl (ltb rfl) ?_
 refine run_ops_nil ?_
 refine run_ifd rfl rfl (fun hb2 => ?_) (fun hb2 => ?_)
 ·replace hM := ite_t hb2 hM
  refine run_sr ?_
  refine mvR rfl rfl rfl rfl (ltb rfl) ?_
  refine run_ops_nil ?_
  refine run_ret_to ?_
  obtain rfl := some_t hM
  refine fin_x hG rfl rfl rfl (v' := .str ⟨#[45, 57, 50, 50, 51, 51, 55, 50, 48, 51, 54, 56, 53, 52, 55, 55, 53, 56, 48, 56]⟩) (by rfl) ⟨rfl, (show tk ≤ tk by omega), _, rfl, rfl⟩
 ·replace hM := ite_f hb2 hM
  refine run_skip ?_
  refine run_seq ?_
  refine run_sr ?_
  refine mvL rfl rfl rfl rfl (ltb rfl) ?_
  refine run_bin rfl rfl rfl rfl rfl rfl rfl (ltb rfl) ?_
  refine run_ops_nil ?_
  refine run_ifd rfl rfl (fun hb3 => ?_) (fun hb3 => ?_)
  ·replace hM := ite_t hb3 hM
   refine run_sr ?_
   refine mvL rfl rfl rfl rfl (ltb rfl) ?_
   refine run_pu rfl (aun_step rfl rfl rfl) rfl (ltb rfl) ?_
   obtain ⟨r4, hg5, hM⟩ := bind_t hM
   refine run_call rfl rfl rfl (ltb rfl) rfl rfl rfl (fun _ h => absurd h List.not_mem_nil) (ih_s_l00Digits (IntKind.i64.wrap (0 - i1)) hg5 _ _) (callK_retX (fun v tk6 (hle7 : tk ≤ tk6) h8 => ?_))
   subst h8
   obtain ⟨hc11, hM⟩ := chk_t hM
   refine run_pu rfl (strAdd_step rfl rfl rfl hc11) rfl (ltb rfl) ?_
   refine mvR rfl rfl rfl rfl (ltb rfl) ?_
   refine run_ops_nil ?_
   refine run_ret_to ?_
   obtain rfl := some_t hM
   refine fin_x hG rfl rfl rfl (v' := .str ((⟨#[45]⟩ : ByteArray) ++ r4)) (by rfl) ⟨rfl, (show tk ≤ tk6 by omega), _, rfl, rfl⟩
  ·replace hM := ite_f hb3 hM
   refine run_skip ?_
   refine run_seq ?_
   refine run_sr ?_
   refine mvL rfl rfl rfl rfl (ltb rfl) ?_
   refine run_bin rfl rfl rfl rfl rfl rfl rfl (ltb rfl) ?_
   refine run_ops_nil ?_
   refine run_ifd rfl rfl (fun hb12 => ?_) (fun hb12 => ?_)
   ·replace hM := ite_t hb12 hM
    refine run_sr ?_
    refine mvL rfl rfl rfl rfl (ltb rfl) ?_
    refine run_bin rfl rfl rfl rfl rfl rfl rfl (ltb rfl) ?_
    refine run_pu rfl (convInt_step hG rfl rfl rfl rfl rfl) rfl (ltb rfl) ?_
    refine run_op rfl (buildSlice_step (d := 16) hG rfl rfl rfl rfl rfl (by rfl) (by rfl) (by rfl) (by decide)) rfl (ltb rfl) ?_
    refine run_rd rfl (bytesStr_rd hG rfl rfl rfl (xs := [(IntKind.u8.wrap (IntKind.i64.wrap (48 + i1)))]) rfl (by simp) rfl rfl rfl rfl rfl rfl) rfl (ltb rfl) ?_
    refine mvR rfl rfl rfl rfl (ltb rfl) ?_
    refine run_ops_nil ?_
    refine run_ret_to ?_
    obtain rfl := some_t hM
    refine fin_x hG rfl rfl rfl (v' := .str (bytesOf [(IntKind.u8.wrap (IntKind.i64.wrap (48 + i1)))])) (by rfl) ⟨rfl, (show tk ≤ tk by omega), _, rfl, rfl⟩
   ·replace hM := ite_f hb12 hM
    refine run_skip ?_
    refine run_seq ?_
    refine run_draw [] (n := 11) mixed rfl (fun _ h => absurd h List.not_mem_nil) ?_
    refine AAny.take (i := 0) rfl (by kernel_rfl) (by kernel_rfl) (by kernel_rfl) rfl rfl (ltb rfl) ((move_step (.inl rfl) rfl).rd _) ?_
    refine AAny.take (i := 1) rfl (by kernel_rfl) (by kernel_rfl) (by kernel_rfl) rfl rfl (ltb rfl) ((abin_step rfl rfl rfl rfl (fun _ h => by cases h)).rd _) ?_
    refine AAny.take (i := 3) rfl (by kernel_rfl) (by kernel_rfl) (by kernel_rfl) rfl rfl (ltb rfl) ((move_step (.inl rfl) rfl).rd _) ?_
    refine AAny.take (i := 4) rfl (by kernel_rfl) (by kernel_rfl) (by kernel_rfl) rfl rfl (ltb rfl) ((abin_step rfl rfl rfl rfl (fun _ h => by cases h)).rd _) ?_
    refine AAny.take (i := 5) rfl (by kernel_rfl) (by kernel_rfl) (by kernel_rfl) rfl rfl (ltb rfl) ((abin_step rfl rfl rfl rfl (fun _ h => by cases h)).rd _) ?_
    refine AAny.take (i := 6) rfl (by kernel_rfl) (by kernel_rfl) (by kernel_rfl) rfl rfl (ltb rfl) ((convInt_step hG rfl rfl rfl rfl rfl).rd _) ?_
    refine AAny.each (rs := [2, 7]) (by kernel_rfl) (fun h => by cases h) (fun i hi => ?_)
    simp only [List.mem_cons, List.not_mem_nil, or_false] at hi
    rcases hi with rfl | rfl
    ·obtain ⟨r13, hg14, hM⟩ := bind_t hM
     refine AOp.call rfl rfl rfl rfl (ltb rfl) rfl rfl rfl (fun _ h => absurd h List.not_mem_nil) (fun _ h => absurd h List.not_mem_nil) (ih_s_l00Digits (IntKind.i64.wrap (Int.tdiv i1 10)) hg14 _ _) (callK_retX (fun v tk15 (hle16 : tk ≤ tk15) h17 => ?_))
     subst h17
     refine AAny.one (i := 7) (by kernel_rfl) (AOp.step rfl rfl rfl (ltb rfl) (buildSlice_step (d := 25) hG rfl rfl rfl rfl rfl (by rfl) (by rfl) (by rfl) (by decide)) (fun _ h => absurd h List.not_mem_nil) ?_)
     refine AAny.take (i := 8) rfl (by kernel_rfl) (by kernel_rfl) (by kernel_rfl) rfl rfl (ltb rfl) (bytesStr_rd hG rfl rfl rfl (xs := [(IntKind.u8.wrap (IntKind.i64.wrap (48 + (Int.tmod i1 10))))]) rfl (by simp) rfl rfl rfl rfl rfl rfl) ?_
     obtain ⟨hc20, hM⟩ := chk_t hM
     refine AAny.take (i := 9) rfl (by kernel_rfl) (by kernel_rfl) (by kernel_rfl) rfl rfl (ltb rfl) ((strAdd_step rfl rfl rfl hc20).rd _) ?_
     refine AAny.take (i := 10) rfl (by kernel_rfl) (by kernel_rfl) (by kernel_rfl) rfl rfl (ltb rfl) ((move_step (.inr rfl) rfl).rd _) ?_
     refine AAny.done (by kernel_rfl) ?_
     refine run_ret_to ?_
     obtain rfl := some_t hM
     refine fin_x hG rfl rfl rfl (v' := .str (r13 ++ (bytesOf [(IntKind.u8.wrap (IntKind.i64.wrap (48 + (Int.tmod i1 10))))]))) (by rfl) ⟨rfl, (show tk ≤ tk15 by omega), _, rfl, rfl⟩
    ·refine AOp.step rfl rfl rfl (ltb rfl) (buildSlice_step (d := 25) hG rfl rfl rfl rfl rfl (by rfl) (by rfl) (by rfl) (by decide)) (fun _ h => absurd h List.not_mem_nil) ?_
     refine AAny.take (i := 8) rfl (by kernel_rfl) (by kernel_rfl) (by kernel_rfl) rfl rfl (ltb rfl) (bytesStr_rd hG rfl rfl rfl (xs := [(IntKind.u8.wrap (IntKind.i64.wrap (48 + (Int.tmod i1 10))))]) rfl (by simp) rfl rfl rfl rfl rfl rfl) ?_
     obtain ⟨r21, hg22, hM⟩ := bind_t hM
     refine AAny.one (i := 2) (by kernel_rfl) (AOp.call rfl rfl rfl rfl (ltb rfl) rfl rfl rfl (fun _ h => absurd h List.not_mem_nil) (fun _ h => absurd h List.not_mem_nil) (ih_s_l00Digits (IntKind.i64.wrap (Int.tdiv i1 10)) hg22 _ _) (callK_retX (fun v tk23 (hle24 : tk ≤ tk23) h25 => ?_)))
     subst h25
     obtain ⟨hc28, hM⟩ := chk_t hM
     refine AAny.take (i := 9) rfl (by kernel_rfl) (by kernel_rfl) (by kernel_rfl) rfl rfl (ltb rfl) ((strAdd_step rfl rfl rfl hc28).rd _) ?_
     refine AAny.take (i := 10) rfl (by kernel_rfl) (by kernel_rfl) (by kernel_rfl) rfl rfl (ltb rfl) ((move_step (.inr rfl) rfl).rd _) ?_
     refine AAny.done (by kernel_rfl) ?_
     refine run_ret_to ?_
     obtain rfl := some_t hM
     refine fin_x hG rfl rfl rfl (v' := .str (r21 ++ (bytesOf [(IntKind.u8.wrap (IntKind.i64.wrap (48 + (Int.tmod i1 10))))]))) (by rfl) ⟨rfl, (show tk ≤ tk23 by omega), _, rfl, rfl⟩

theorem s_l00Digits_all : ∀ (n : Nat), (∀ (i1 : Int) {r : ByteArray}, s_l00Digits n i1 = some r → ∀ (O : Heap) (tk : Nat), ACalls Go.Proofs.Tryd.prog 97 [.int .i64 i1] O tk (RetX O tk (fun v tk' => v = .str r)))
 | 0 => by intro i1 r hM; rw [s_l00Digits] at hM; cases hM
 | n + 1 => have ih := s_l00Digits_all n; s_l00Digits_st n (ih)

theorem s_l00Digits_ok (n : Nat) : ∀ (i1 : Int) {r : ByteArray}, s_l00Digits n i1 = some r → ∀ (O : Heap) (tk : Nat), ACalls Go.Proofs.Tryd.prog 97 [.int .i64 i1] O tk (RetX O tk (fun v tk' => v = .str r)) := s_l00Digits_all n

def s_l08Atom_L1 (n : Nat) (t1 : ByteArray) : Nat → Int → Option Int
 | 0, _ => none
 | m + 1, i2 =>
  if i2 < 6 then
   (s_l00Digits n i2).bind fun r4 =>
   chk ((⟨#[112]⟩ : ByteArray).size + r4.size ≤ 9223372036854775807) <|
   if (t1.toList == ((⟨#[112]⟩ : ByteArray) ++ r4).toList) = true then
    some i2
   else
    s_l08Atom_L1 n t1 m (IntKind.i64.wrap (i2 + 1))
  else
   some (-1)

def s_l08Atom (n : Nat) (t1 : ByteArray) : Option Int :=
 s_l08Atom_L1 n t1 n 0

set_option maxRecDepth 100000 in
theorem s_l08Atom_ok (n : Nat) : ∀ (t1 : ByteArray) {r : Int}, s_l08Atom n t1 = some r → ∀ (O : Heap) (tk : Nat), ACalls Go.Proofs.Tryd.prog 100 [.str t1] O tk (RetX O tk (fun v tk' => v = .int .i64 r)) := by
 intro t1 r hM O tk
 unfold s_l08Atom at hM
 refine acalls_of_run Go.Proofs.Tryd.func100 rfl rfl [] [] (Bor.nil _) [(0, .str t1)] (.cons (entS rfl) (.nil _)) (leb rfl) (fun _ h => by cases h) (fun S0 hO htk hfz => ?_)
 refine run_sr ?_
 refine mvR rfl rfl rfl rfl (ltb rfl) ?_
 refine run_ops_nil ?_
 refine run_seq ?_
 refine run_sr ?_
 refine mvR rfl rfl rfl rfl (ltb rfl) ?_
 refine run_ops_nil ?_
 refine run_block ?_
 refine run_rounds (fun m σ => ∃ (i2 : Int) (tks_l08Atom_L1 : Nat), tk ≤ tks_l08Atom_L1 ∧ s_l08Atom_L1 n t1 m i2 = some r ∧ σ = ⟨[(0, .str t1), (2, .int .i64 0), (3, .int .i64 i2)], [], [], O, tks_l08Atom_L1⟩) n (Sub.env [(0, .str t1), (2, .int .i64 0), (3, .int .i64 0)] ⟨rfl, rfl, rfl, trivial⟩) ⟨0, tk, Nat.le_refl _, hM, rfl⟩ (fun m σ hI => ?_)
 clear hM
 obtain ⟨i2, tks_l08Atom_L1, hle13, hM, rfl⟩ := hI
 obtain _ | m := m
 ·exact absurd hM (by rw [s_l08Atom_L1]; exact fun h => by cases h)
 rw [s_l08Atom_L1] at hM
 refine run_seq ?_
 refine run_sr ?_
 refine mvL rfl rfl rfl rfl (ltb rfl) ?_
 refine run_bin rfl rfl rfl rfl rfl rfl rfl (ltb rfl) ?_
 refine run_ops_nil ?_
 refine run_ifd rfl rfl (fun hb3 => ?_) (fun hb3 => ?_)
 ·replace hM := ite_t hb3 hM
  refine run_skip ?_
  refine run_seq ?_
  refine run_block ?_
  refine run_sr ?_
  refine mvL rfl rfl rfl rfl (ltb rfl) ?_
  refine mvL rfl rfl rfl rfl (ltb rfl) ?_
  obtain ⟨r4, hg5, hM⟩ := bind_t hM
  refine run_call rfl rfl rfl (ltb rfl) rfl rfl rfl (fun _ h => absurd h List.not_mem_nil) (s_l00Digits_ok n i2 hg5 _ _) (callK_retX (fun v tk6 (hle7 : tks_l08Atom_L1 ≤ tk6) h8 => ?_))
  subst h8
  obtain ⟨hc11, hM⟩ := chk_t hM
  refine run_pu rfl (strAdd_step rfl rfl rfl hc11) rfl (ltb rfl) ?_
  refine run_bin rfl rfl rfl rfl rfl rfl rfl (ltb rfl) ?_
  refine run_ops_nil ?_
  refine run_ifb rfl rfl (fun hb12 => ?_) (fun hb12 => ?_)
  ·replace hM := ite_t hb12 hM
   refine run_sr ?_
   refine mvL rfl rfl rfl rfl (ltb rfl) ?_
   refine mvR rfl rfl rfl rfl (ltb rfl) ?_
   refine run_ops_nil ?_
   refine run_ret_to ?_
   obtain rfl := some_t hM
   refine fin_x hG rfl rfl rfl (v' := .int .i64 i2) (by rfl) ⟨rfl, (show tk ≤ tk6 by omega), _, rfl, rfl⟩
  ·replace hM := ite_f hb12 hM
   refine run_skip ?_
   refine run_blk ?_
   refine run_region ?_
   refine mvL rfl rfl rfl rfl (ltb rfl) ?_
   refine run_bin rfl rfl rfl rfl rfl rfl rfl (ltb rfl) ?_
   refine mvR rfl rfl rfl rfl (ltb rfl) ?_
   refine run_ops_nil ?_
   exact run_loop_end ⟨m, _, Nat.lt_succ_self _, ⟨(IntKind.i64.wrap (i2 + 1)), tk6, (show tk ≤ tk6 by omega), hM, rfl⟩, Sub.env [(0, .str t1), (2, .int .i64 0), (3, .int .i64 (IntKind.i64.wrap (i2 + 1)))] ⟨rfl, rfl, rfl, trivial⟩⟩
 ·replace hM := ite_f hb3 hM
  refine run_exit_to rfl ?_
  refine run_sr ?_
  refine mvR rfl rfl rfl rfl (ltb rfl) ?_
  refine run_ops_nil ?_
  refine run_ret_to ?_
  obtain rfl := some_t hM
  refine fin_x hG rfl rfl rfl (v' := .int .i64 (-1)) (by rfl) ⟨rfl, (show tk ≤ tks_l08Atom_L1 by omega), _, rfl, rfl⟩

set_option maxRecDepth 100000 in
theorem s_l08Two_ex (i1 : Int) (k2 : Int) (n2 : Int) (q2 : Nat) (f2 : Bool) (ks2 : List LF) (k3 : Int) (n3 : Int) (q3 : Nat) (f3 : Bool) (ks3 : List LF) (O : Heap) (tk : Nat) : ACalls Go.Proofs.Tryd.prog 99 [.int .i64 i1, .agg [.int .i64 k2, .int .i64 n2, .imm q2 3 f2 (fcellss ks2)], .agg [.int .i64 k3, .int .i64 n3, .imm q3 3 f3 (fcellss ks3)]] O tk (RetN O (.agg [.int .i64 i1, .int .i64 0, .imm tk 3 false (fcellss [LF.mk k2 n2 q2 f2 ks2, LF.mk k3 n3 q3 f3 ks3])]) (tk + 1)) := by
 refine acalls_of_run Go.Proofs.Tryd.func99 rfl rfl [] [] (Bor.nil _) [(0, .int .i64 i1), (1, .agg [.int .i64 k2, .int .i64 n2, .imm q2 3 f2 (fcellss ks2)]), (2, .agg [.int .i64 k3, .int .i64 n3, .imm q3 3 f3 (fcellss ks3)])] (.cons (entS rfl) (.cons (.agg _) (.cons (.agg _) (.nil _)))) (leb rfl) (fun _ h => by cases h) (fun S0 hO htk hfz => ?_)
 refine run_sr ?_
 refine run_op rfl (box_step (d := 4) rfl rfl rfl rfl rfl) rfl (ltb rfl) ?_
 refine run_op rfl (box_step (d := 5) rfl rfl rfl rfl rfl) rfl (ltb rfl) ?_
 refine run_op rfl (alloc_step (d := 6) hG rfl rfl rfl) rfl (ltb rfl) ?_
 refine run_ops_nil ?_
 refine run_sr ?_
 refine mvL rfl rfl rfl rfl (ltb rfl) ?_
 refine run_ld hG rfl rfl rfl rfl rfl (ltb rfl) ?_
 refine run_ld hG rfl rfl rfl rfl rfl (ltb rfl) ?_
 refine run_op rfl (buildSlice_step (d := 10) hG rfl rfl rfl rfl rfl (by rfl) (by rfl) (by rfl) (by decide)) rfl (ltb rfl) ?_
 refine run_pu rfl (build_step hG rfl (by rfl) rfl (fun h => by cases h) (by rfl)) rfl (ltb rfl) ?_
 refine run_op0 rfl (store_step hG rfl rfl rfl rfl rfl rfl rfl rfl) rfl ?_
 refine run_ops_nil ?_
 refine run_ret_to ?_
 refine fin_sub (Sub.freeze (k := 10) rfl rfl) ?_
 refine fin_x hG rfl rfl rfl (v' := .agg [.int .i64 i1, .int .i64 0, .imm tk 3 false (fcellss [LF.mk k2 n2 q2 f2 ks2, LF.mk k3 n3 q3 f3 ks3])]) (by rfl) ⟨rfl, rfl, rfl⟩

def s_l08Back : Nat → T → Option (F × Bool)
 | 0, _ => none
 | n + 1, x1 =>
  if (x1.kind != 6) = true then
   some ((F.mk 0 0 []), false)
  else
   jn (
    if (((x1.kids).length : Int) != 0) = true then
     some ((F.mk 0 0 []), false)
    else
     if (x1.name.toList == (⟨#[98, 111, 116]⟩ : ByteArray).toList) = true then
      some ((F.mk 4 0 []), true)
     else
      (s_l08Atom n x1.name).bind fun r87 =>
      some ((F.mk 1 (imax r87 0) []), (decide (r87 ≥ 0)))) fun j3 =>
   if ((x1.kids).length : Int) = 2 then
    if (x1.name.toList == (⟨#[97, 110, 100]⟩ : ByteArray).toList) = true then
     (idx x1.kids 0).bind fun y6 =>
     (s_l08Back n y6).bind fun r11 =>
     (idx x1.kids 1).bind fun y24 =>
     (s_l08Back n y24).bind fun r29 =>
     if (x1.name.toList == (⟨#[105, 109, 112]⟩ : ByteArray).toList) = true then
      if r11.2 = true then
       some ((F.mk 3 0 [r11.1, r29.1]), r29.2)
      else
       some ((F.mk 3 0 [r11.1, r29.1]), false)
     else
      if r11.2 = true then
       some ((F.mk 2 0 [r11.1, r29.1]), r29.2)
      else
       some ((F.mk 2 0 [r11.1, r29.1]), false)
    else
     if (x1.name.toList == (⟨#[105, 109, 112]⟩ : ByteArray).toList) = true then
      (idx x1.kids 0).bind fun y46 =>
      (s_l08Back n y46).bind fun r51 =>
      (idx x1.kids 1).bind fun y64 =>
      (s_l08Back n y64).bind fun r69 =>
      if (x1.name.toList == (⟨#[105, 109, 112]⟩ : ByteArray).toList) = true then
       if r51.2 = true then
        some ((F.mk 3 0 [r51.1, r69.1]), r69.2)
       else
        some ((F.mk 3 0 [r51.1, r69.1]), false)
      else
       if r51.2 = true then
        some ((F.mk 2 0 [r51.1, r69.1]), r69.2)
       else
        some ((F.mk 2 0 [r51.1, r69.1]), false)
     else
      j3
   else
    j3

set_option maxHeartbeats 2000000 in
set_option maxRecDepth 100000 in
theorem s_l08Back_st (n : Nat) (ih_s_l08Back : ∀ (k1 : Int) (n1 : Int) (s1 : ByteArray) (q1 : Nat) (f1 : Bool) (ks1 : List LT) {r : (F × Bool)}, s_l08Back n (T.mk k1 n1 s1 (ers ks1)) = some r → ∀ (O : Heap) (tk : Nat), ACalls Go.Proofs.Tryd.prog 61 [.agg [.int .i64 k1, .int .i64 n1, .str s1, .imm q1 4 f1 (cellss ks1)]] O tk (RetX O tk (fun v tk' => ∃ r0' r1' v0' v1', r = (r0', r1') ∧ v = .tup [v0', v1'] ∧ VF true tk tk' r0' v0' ∧ v1' = .bool r1'))) : ∀ (k1 : Int) (n1 : Int) (s1 : ByteArray) (q1 : Nat) (f1 : Bool) (ks1 : List LT) {r : (F × Bool)}, s_l08Back (n + 1) (T.mk k1 n1 s1 (ers ks1)) = some r → ∀ (O : Heap) (tk : Nat), ACalls Go.Proofs.Tryd.prog 61 [.agg [.int .i64 k1, .int .i64 n1, .str s1, .imm q1 4 f1 (cellss ks1)]] O tk (RetX O tk (fun v tk' => ∃ r0' r1' v0' v1', r = (r0', r1') ∧ v = .tup [v0', v1'] ∧ VF true tk tk' r0' v0' ∧ v1' = .bool r1')) := by
 intro k1 n1 s1 q1 f1 ks1 r hM O tk
 rw [s_l08Back] at hM
 refine acalls_of_run Go.Proofs.Tryd.func61 rfl rfl [] [] (Bor.nil _) [(0, .agg [.int .i64 k1, .int .i64 n1, .str s1, .imm q1 4 f1 (cellss ks1)])] (.cons (.agg _) (.nil _)) (leb rfl) (fun _ h => by cases h) (fun S0 hO htk hfz => ?_)
 refine run_sr ?_
 refine run_op rfl (box_step (d := 1) rfl rfl rfl rfl rfl) rfl (ltb rfl) ?_
 refine run_op rfl (alloc_step (d := 2) hG rfl rfl rfl) rfl (ltb rfl) ?_
 refine mvR rfl rfl rfl rfl (ltb rfl) ?_
 refine run_ops_nil ?_
 refine run_seq ?_
 refine run_sr ?_
 refine run_pu rfl (fieldAddr_step hG rfl rfl rfl rfl rfl) rfl (ltb rfl) ?_
 refine run_ld hG rfl rfl rfl rfl rfl (ltb rfl) ?_
 refine run_bin rfl rfl rfl rfl rfl rfl rfl (ltb rfl) ?_
 refine run_ops_nil ?_
 refine run_ifb rfl rfl (fun hb2 => ?_) (fun hb2 => ?_)
 ·replace hM := ite_t hb2 hM
  refine run_sr ?_
  refine run_pu rfl (build_step hG rfl (by rfl) rfl (fun h => by cases h) (by rfl)) rfl (ltb rfl) ?_
  refine run_op0 rfl (store_step hG rfl rfl rfl rfl rfl rfl rfl rfl) rfl ?_
  refine mvR rfl rfl rfl rfl (ltb rfl) ?_
  refine run_ops_nil ?_
  refine run_ret_to ?_
  obtain rfl := some_t hM
  refine fin_x hG rfl rfl rfl (v' := .tup [.agg [.int .i64 0, .int .i64 0, .imm 0 3 true (fcellss [])], .bool false]) (by rfl) ⟨rfl, (show tk ≤ tk by omega), _, rfl, ⟨_, _, _, _, rfl, rfl, ⟨0, 0, 0, true, [], rfl, rfl, fun _ => Fr.nil _ _⟩, rfl⟩⟩
 ·replace hM := ite_f hb2 hM
  refine run_skip ?_
  refine run_seq ?_
  refine run_seq ?_
  obtain ⟨j3, hj95, hM⟩ := jn_t hM
  refine run_cutL [.code _, .code _] (fun σ' => ∃ (tkj3 : Nat), tk ≤ tkj3 ∧ j3 = some r ∧ Sub ⟨Go.Proofs.Tryd.prog, S0, Go.Proofs.Tryd.f61.ntmps, [], fun _ => False, []⟩ σ' ⟨[(1, .optr (.loc 1) 0 0), (2, .optr (.loc 2) 0 0), (3, .bool false)], [(2, ⟨50, 3, true, [[.int .i64 0, .int .i64 0, .imm 0 3 true []]]⟩), (1, ⟨34, 4, true, [[.int .i64 k1, .int .i64 n1, .str s1, .imm q1 4 f1 (cellss ks1)]]⟩)], [], O, tkj3⟩) rfl ?_ ?_
  ·refine run_region ?_
   refine run_pu rfl (fieldAddr_step hG rfl rfl rfl rfl rfl) rfl (ltb rfl) ?_
   refine run_ld hG rfl rfl rfl rfl rfl (ltb rfl) ?_
   refine run_pu rfl (lenImm_step hG rfl rfl rfl rfl (tlen _)) rfl (ltb rfl) ?_
   refine run_bin rfl rfl rfl rfl rfl rfl rfl (ltb rfl) ?_
   refine mvL rfl rfl rfl rfl (ltb rfl) ?_
   refine run_splitd (i := 18) rfl (fun hb4 => ?_) (fun hb4 => ?_)
   ·replace hM := ite_t hb4 hM
    refine run_puG (on_of rfl rfl rfl rfl) (fieldAddr_step hG rfl rfl rfl rfl rfl) rfl (ltb rfl) ?_
    refine run_rdG (on_of rfl rfl rfl rfl) (aload_rd hG rfl rfl rfl (by first | (simp [ldok]; done) | exact List.not_mem_nil | trivial)) rfl (ltb rfl) ?_
    refine run_puG (on_of rfl rfl rfl rfl) (abin_step rfl rfl rfl rfl (fun _ h => by cases h)) rfl (ltb rfl) ?_
    refine run_puG (on_of rfl rfl rfl rfl) (move_step (.inl rfl) rfl) rfl (ltb rfl) ?_
    refine run_splitb (i := 22) rfl (fun hb5 => ?_) (fun hb5 => ?_)
    ·replace hM := ite_t hb5 hM
     refine run_off (on_of rfl rfl rfl rfl) rfl (ltb rfl) ?_
     refine run_off (on_of rfl rfl rfl rfl) rfl (ltb rfl) ?_
     refine run_off (on_of rfl rfl rfl rfl) rfl (ltb rfl) ?_
     refine run_puG (on_of rfl rfl rfl rfl) (pick_step rfl rfl rfl) rfl (ltb rfl) ?_
     refine run_pu rfl (pick_step rfl rfl rfl) rfl (ltb rfl) ?_
     refine run_ops_nil ?_
     refine run_sub_code (σ' := ⟨[(1, .optr (.loc 1) 0 0), (2, .optr (.loc 2) 0 0), (3, .bool false), (27, .bool true)], [(2, ⟨50, 3, true, [[.int .i64 0, .int .i64 0, .imm 0 3 true []]]⟩), (1, ⟨34, 4, true, [[.int .i64 k1, .int .i64 n1, .str s1, .imm q1 4 f1 (cellss ks1)]]⟩)], [], O, tk⟩) (Sub.env _ ⟨rfl, rfl, rfl, rfl, trivial⟩) ?_
     refine run_if rfl rfl (fun _ => ?_) (fun h => by cases h)
     refine run_sr ?_
     refine run_pu rfl (fieldAddr_step hG rfl rfl rfl rfl rfl) rfl (ltb rfl) ?_
     refine run_ld hG rfl rfl rfl rfl rfl (ltb rfl) ?_
     obtain ⟨y6, hy7, hM⟩ := bind_t hM
     obtain ⟨k8, n8, s8, q8, f8, ks8, rfl, hc9, hi10⟩ := tidx (ks := ks1) hy7
     refine run_pu rfl (indexImm_step hG rfl rfl rfl hi10 rfl rfl rfl rfl hc9) rfl (ltb rfl) ?_
     refine run_ld hG rfl rfl rfl rfl rfl (ltb rfl) ?_
     obtain ⟨r11, hg12, hM⟩ := bind_t hM
     refine run_call rfl rfl rfl (ltb rfl) rfl rfl rfl (fun _ h => absurd h List.not_mem_nil) (ih_s_l08Back k8 n8 s8 q8 f8 ks8 hg12 _ _) (callK_retX (fun v tk13 (hle14 : tk ≤ tk13) h15 => ?_))
     obtain ⟨ra20, ra21, va22, va23, rfl, rfl, ⟨k16, n16, q16, f16, ks16, rfl, rfl, hf17⟩, rfl⟩ := h15
     refine mvL rfl rfl rfl rfl (ltb rfl) ?_
     refine run_pu rfl (extract_step rfl rfl rfl) rfl (ltb rfl) ?_
     refine run_pu rfl (extract_step rfl rfl rfl) rfl (ltb rfl) ?_
     refine run_op rfl (alloc_step (d := 4) hG rfl rfl rfl) rfl (ltb rfl) ?_
     refine run_op0 rfl (store_step hG rfl rfl rfl rfl rfl rfl rfl rfl) rfl ?_
     refine mvR rfl rfl rfl rfl (ltb rfl) ?_
     refine run_ops_nil ?_
     refine run_sr ?_
     refine run_pu rfl (fieldAddr_step hG rfl rfl rfl rfl rfl) rfl (ltb rfl) ?_
     refine run_ld hG rfl rfl rfl rfl rfl (ltb rfl) ?_
     obtain ⟨y24, hy25, hM⟩ := bind_t hM
     obtain ⟨k26, n26, s26, q26, f26, ks26, rfl, hc27, hi28⟩ := tidx (ks := ks1) hy25
     refine run_pu rfl (indexImm_step hG rfl rfl rfl hi28 rfl rfl rfl rfl hc27) rfl (ltb rfl) ?_
     refine run_ld hG rfl rfl rfl rfl rfl (ltb rfl) ?_
     obtain ⟨r29, hg30, hM⟩ := bind_t hM
     refine run_call rfl rfl rfl (ltb rfl) rfl rfl rfl (fun _ h => absurd h List.not_mem_nil) (ih_s_l08Back k26 n26 s26 q26 f26 ks26 hg30 _ _) (callK_retX (fun v tk31 (hle32 : tk13 ≤ tk31) h33 => ?_))
     obtain ⟨ra38, ra39, va40, va41, rfl, rfl, ⟨k34, n34, q34, f34, ks34, rfl, rfl, hf35⟩, rfl⟩ := h33
     refine mvL rfl rfl rfl rfl (ltb rfl) ?_
     refine run_pu rfl (extract_step rfl rfl rfl) rfl (ltb rfl) ?_
     refine run_pu rfl (extract_step rfl rfl rfl) rfl (ltb rfl) ?_
     refine run_op rfl (alloc_step (d := 6) hG rfl rfl rfl) rfl (ltb rfl) ?_
     refine run_op0 rfl (store_step hG rfl rfl rfl rfl rfl rfl rfl rfl) rfl ?_
     refine mvR rfl rfl rfl rfl (ltb rfl) ?_
     refine run_ops_nil ?_
     refine run_sub_code (σ' := ⟨[(1, .optr (.loc 1) 0 0), (2, .optr (.loc 2) 0 0), (3, .bool false), (4, .optr (.loc 4) 0 0), (5, .bool ra21), (6, .optr (.loc 6) 0 0), (7, .bool ra39)], [(6, ⟨50, 3, true, [[.int .i64 k34, .int .i64 n34, .imm q34 3 f34 (fcellss ks34)]]⟩), (4, ⟨50, 3, true, [[.int .i64 k16, .int .i64 n16, .imm q16 3 f16 (fcellss ks16)]]⟩), (2, ⟨50, 3, true, [[.int .i64 0, .int .i64 0, .imm 0 3 true []]]⟩), (1, ⟨34, 4, true, [[.int .i64 k1, .int .i64 n1, .str s1, .imm q1 4 f1 (cellss ks1)]]⟩)], [], O, tk31⟩) (Sub.env _ ⟨rfl, rfl, rfl, rfl, rfl, rfl, rfl, trivial⟩) ?_
     refine run_sr ?_
     refine mvR rfl rfl rfl rfl (ltb rfl) ?_
     refine run_ops_nil ?_
     refine run_seq ?_
     refine run_sr ?_
     refine run_pu rfl (fieldAddr_step hG rfl rfl rfl rfl rfl) rfl (ltb rfl) ?_
     refine run_ld hG rfl rfl rfl rfl rfl (ltb rfl) ?_
     refine run_bin rfl rfl rfl rfl rfl rfl rfl (ltb rfl) ?_
     refine run_ops_nil ?_
     refine run_ifb rfl rfl (fun hb42 => ?_) (fun hb42 => ?_)
     ·replace hM := ite_t hb42 hM
      refine run_region ?_
      refine mvR rfl rfl rfl rfl (ltb rfl) ?_
      refine run_ops_nil ?_
      refine run_sr ?_
      refine mvL rfl rfl rfl rfl (ltb rfl) ?_
      refine run_ld hG rfl rfl rfl rfl rfl (ltb rfl) ?_
      refine run_ld hG rfl rfl rfl rfl rfl (ltb rfl) ?_
      refine run_call rfl rfl rfl (ltb rfl) rfl rfl rfl (fun _ h => absurd h List.not_mem_nil) (s_l08Two_ex 3 k16 n16 q16 f16 ks16 k34 n34 q34 f34 ks34 _ _) (callK_retN ?_)
      skip
      refine mvL rfl rfl rfl rfl (ltb rfl) ?_
      refine mvL rfl rfl rfl rfl (ltb rfl) ?_
      refine run_splitb (i := 52) rfl (fun hb43 => ?_) (fun hb43 => ?_)
      ·replace hM := ite_t hb43 hM
       refine run_puG (on_of rfl rfl rfl rfl) (move_step (.inl rfl) rfl) rfl (ltb rfl) ?_
       refine run_pu rfl (pick_step rfl rfl rfl) rfl (ltb rfl) ?_
       refine run_op0 rfl (store_step hG rfl rfl rfl rfl rfl rfl rfl rfl) rfl ?_
       refine mvR rfl rfl rfl rfl (ltb rfl) ?_
       refine run_ops_nil ?_
       refine run_ret_to ?_
       refine cut_ret ?_
       obtain rfl := some_t hM
       refine fin_x hG rfl rfl rfl (v' := .tup [.agg [.int .i64 3, .int .i64 0, .imm tk31 3 false (fcellss [LF.mk k16 n16 q16 f16 ks16, LF.mk k34 n34 q34 f34 ks34])], .bool ra39]) (by rfl) ⟨rfl, (show tk ≤ (tk31 + 1) by omega), _, rfl, ⟨_, _, _, _, rfl, rfl, ⟨3, 0, tk31, false, [LF.mk k16 n16 q16 f16 ks16, LF.mk k34 n34 q34 f34 ks34], rfl, rfl, fun _ => (show Fr tk (tk31 + 1) _ from (show Fr tk (tk31 + 1) _ from Fr.fstop (show Fr tk tk31 _ from (Fr.fcons (show Fr tk tk13 _ from ((show Fr tk tk13 _ from hf17 rfl)).mono (by omega) (by omega)) (Fr.fcons ((show Fr tk13 tk31 _ from hf35 rfl)) (show Fr tk31 tk31 _ from Fr.nil _ _) (by omega) (by omega)) (by omega) (by omega)).mono (by omega) (by omega)) (by omega) (by omega)).mono (by omega) (by omega))⟩, rfl⟩⟩
      ·replace hM := ite_f hb43 hM
       refine run_off (on_of rfl rfl rfl rfl) rfl (ltb rfl) ?_
       refine run_pu rfl (pick_step rfl rfl rfl) rfl (ltb rfl) ?_
       refine run_op0 rfl (store_step hG rfl rfl rfl rfl rfl rfl rfl rfl) rfl ?_
       refine mvR rfl rfl rfl rfl (ltb rfl) ?_
       refine run_ops_nil ?_
       refine run_ret_to ?_
       refine cut_ret ?_
       obtain rfl := some_t hM
       refine fin_x hG rfl rfl rfl (v' := .tup [.agg [.int .i64 3, .int .i64 0, .imm tk31 3 false (fcellss [LF.mk k16 n16 q16 f16 ks16, LF.mk k34 n34 q34 f34 ks34])], .bool false]) (by rfl) ⟨rfl, (show tk ≤ (tk31 + 1) by omega), _, rfl, ⟨_, _, _, _, rfl, rfl, ⟨3, 0, tk31, false, [LF.mk k16 n16 q16 f16 ks16, LF.mk k34 n34 q34 f34 ks34], rfl, rfl, fun _ => (show Fr tk (tk31 + 1) _ from (show Fr tk (tk31 + 1) _ from Fr.fstop (show Fr tk tk31 _ from (Fr.fcons (show Fr tk tk13 _ from ((show Fr tk tk13 _ from hf17 rfl)).mono (by omega) (by omega)) (Fr.fcons ((show Fr tk13 tk31 _ from hf35 rfl)) (show Fr tk31 tk31 _ from Fr.nil _ _) (by omega) (by omega)) (by omega) (by omega)).mono (by omega) (by omega)) (by omega) (by omega)).mono (by omega) (by omega))⟩, rfl⟩⟩
     ·replace hM := ite_f hb42 hM
      refine run_skip ?_
      refine run_sr ?_
      refine mvL rfl rfl rfl rfl (ltb rfl) ?_
      refine run_ld hG rfl rfl rfl rfl rfl (ltb rfl) ?_
      refine run_ld hG rfl rfl rfl rfl rfl (ltb rfl) ?_
      refine run_call rfl rfl rfl (ltb rfl) rfl rfl rfl (fun _ h => absurd h List.not_mem_nil) (s_l08Two_ex 2 k16 n16 q16 f16 ks16 k34 n34 q34 f34 ks34 _ _) (callK_retN ?_)
      skip
      refine mvL rfl rfl rfl rfl (ltb rfl) ?_
      refine mvL rfl rfl rfl rfl (ltb rfl) ?_
      refine run_splitb (i := 52) rfl (fun hb44 => ?_) (fun hb44 => ?_)
      ·replace hM := ite_t hb44 hM
       refine run_puG (on_of rfl rfl rfl rfl) (move_step (.inl rfl) rfl) rfl (ltb rfl) ?_
       refine run_pu rfl (pick_step rfl rfl rfl) rfl (ltb rfl) ?_
       refine run_op0 rfl (store_step hG rfl rfl rfl rfl rfl rfl rfl rfl) rfl ?_
       refine mvR rfl rfl rfl rfl (ltb rfl) ?_
       refine run_ops_nil ?_
       refine run_ret_to ?_
       refine cut_ret ?_
       obtain rfl := some_t hM
       refine fin_x hG rfl rfl rfl (v' := .tup [.agg [.int .i64 2, .int .i64 0, .imm tk31 3 false (fcellss [LF.mk k16 n16 q16 f16 ks16, LF.mk k34 n34 q34 f34 ks34])], .bool ra39]) (by rfl) ⟨rfl, (show tk ≤ (tk31 + 1) by omega), _, rfl, ⟨_, _, _, _, rfl, rfl, ⟨2, 0, tk31, false, [LF.mk k16 n16 q16 f16 ks16, LF.mk k34 n34 q34 f34 ks34], rfl, rfl, fun _ => (show Fr tk (tk31 + 1) _ from (show Fr tk (tk31 + 1) _ from Fr.fstop (show Fr tk tk31 _ from (Fr.fcons (show Fr tk tk13 _ from ((show Fr tk tk13 _ from hf17 rfl)).mono (by omega) (by omega)) (Fr.fcons ((show Fr tk13 tk31 _ from hf35 rfl)) (show Fr tk31 tk31 _ from Fr.nil _ _) (by omega) (by omega)) (by omega) (by omega)).mono (by omega) (by omega)) (by omega) (by omega)).mono (by omega) (by omega))⟩, rfl⟩⟩
      ·replace hM := ite_f hb44 hM
       refine run_off (on_of rfl rfl rfl rfl) rfl (ltb rfl) ?_
       refine run_pu rfl (pick_step rfl rfl rfl) rfl (ltb rfl) ?_
       refine run_op0 rfl (store_step hG rfl rfl rfl rfl rfl rfl rfl rfl) rfl ?_
       refine mvR rfl rfl rfl rfl (ltb rfl) ?_
       refine run_ops_nil ?_
       refine run_ret_to ?_
       refine cut_ret ?_
       obtain rfl := some_t hM
       refine fin_x hG rfl rfl rfl (v' := .tup [.agg [.int .i64 2, .int .i64 0, .imm tk31 3 false (fcellss [LF.mk k16 n16 q16 f16 ks16, LF.mk k34 n34 q34 f34 ks34])], .bool false]) (by rfl) ⟨rfl, (show tk ≤ (tk31 + 1) by omega), _, rfl, ⟨_, _, _, _, rfl, rfl, ⟨2, 0, tk31, false, [LF.mk k16 n16 q16 f16 ks16, LF.mk k34 n34 q34 f34 ks34], rfl, rfl, fun _ => (show Fr tk (tk31 + 1) _ from (show Fr tk (tk31 + 1) _ from Fr.fstop (show Fr tk tk31 _ from (Fr.fcons (show Fr tk tk13 _ from ((show Fr tk tk13 _ from hf17 rfl)).mono (by omega) (by omega)) (Fr.fcons ((show Fr tk13 tk31 _ from hf35 rfl)) (show Fr tk31 tk31 _ from Fr.nil _ _) (by omega) (by omega)) (by omega) (by omega)).mono (by omega) (by omega)) (by omega) (by omega)).mono (by omega) (by omega))⟩, rfl⟩⟩
    ·replace hM := ite_f hb5 hM
     refine run_puG (on_of rfl rfl rfl rfl) (fieldAddr_step hG rfl rfl rfl rfl rfl) rfl (ltb rfl) ?_
     refine run_rdG (on_of rfl rfl rfl rfl) (aload_rd hG rfl rfl rfl (by first | (simp [ldok]; done) | exact List.not_mem_nil | trivial)) rfl (ltb rfl) ?_
     refine run_puG (on_of rfl rfl rfl rfl) (abin_step rfl rfl rfl rfl (fun _ h => by cases h)) rfl (ltb rfl) ?_
     refine run_puG (on_of rfl rfl rfl rfl) (pick_step rfl rfl rfl) rfl (ltb rfl) ?_
     refine run_pu rfl (pick_step rfl rfl rfl) rfl (ltb rfl) ?_
     refine run_ops_nil ?_
     refine run_sub_code (σ' := ⟨[(1, .optr (.loc 1) 0 0), (2, .optr (.loc 2) 0 0), (3, .bool false), (27, .bool (s1.toList == (⟨#[105, 109, 112]⟩ : ByteArray).toList))], [(2, ⟨50, 3, true, [[.int .i64 0, .int .i64 0, .imm 0 3 true []]]⟩), (1, ⟨34, 4, true, [[.int .i64 k1, .int .i64 n1, .str s1, .imm q1 4 f1 (cellss ks1)]]⟩)], [], O, tk⟩) (Sub.env _ ⟨rfl, rfl, rfl, rfl, trivial⟩) ?_
     refine run_ifb rfl rfl (fun hb45 => ?_) (fun hb45 => ?_)
     ·replace hM := ite_t hb45 hM
      refine run_sr ?_
      refine run_pu rfl (fieldAddr_step hG rfl rfl rfl rfl rfl) rfl (ltb rfl) ?_
      refine run_ld hG rfl rfl rfl rfl rfl (ltb rfl) ?_
      obtain ⟨y46, hy47, hM⟩ := bind_t hM
      obtain ⟨k48, n48, s48, q48, f48, ks48, rfl, hc49, hi50⟩ := tidx (ks := ks1) hy47
      refine run_pu rfl (indexImm_step hG rfl rfl rfl hi50 rfl rfl rfl rfl hc49) rfl (ltb rfl) ?_
      refine run_ld hG rfl rfl rfl rfl rfl (ltb rfl) ?_
      obtain ⟨r51, hg52, hM⟩ := bind_t hM
      refine run_call rfl rfl rfl (ltb rfl) rfl rfl rfl (fun _ h => absurd h List.not_mem_nil) (ih_s_l08Back k48 n48 s48 q48 f48 ks48 hg52 _ _) (callK_retX (fun v tk53 (hle54 : tk ≤ tk53) h55 => ?_))
      obtain ⟨ra60, ra61, va62, va63, rfl, rfl, ⟨k56, n56, q56, f56, ks56, rfl, rfl, hf57⟩, rfl⟩ := h55
      refine mvL rfl rfl rfl rfl (ltb rfl) ?_
      refine run_pu rfl (extract_step rfl rfl rfl) rfl (ltb rfl) ?_
      refine run_pu rfl (extract_step rfl rfl rfl) rfl (ltb rfl) ?_
      refine run_op rfl (alloc_step (d := 4) hG rfl rfl rfl) rfl (ltb rfl) ?_
      refine run_op0 rfl (store_step hG rfl rfl rfl rfl rfl rfl rfl rfl) rfl ?_
      refine mvR rfl rfl rfl rfl (ltb rfl) ?_
      refine run_ops_nil ?_
      refine run_sr ?_
      refine run_pu rfl (fieldAddr_step hG rfl rfl rfl rfl rfl) rfl (ltb rfl) ?_
      refine run_ld hG rfl rfl rfl rfl rfl (ltb rfl) ?_
      obtain ⟨y64, hy65, hM⟩ := bind_t hM
      obtain ⟨k66, n66, s66, q66, f66, ks66, rfl, hc67, hi68⟩ := tidx (ks := ks1) hy65
      refine run_pu rfl (indexImm_step hG rfl rfl rfl hi68 rfl rfl rfl rfl hc67) rfl (ltb rfl) ?_
      refine run_ld hG rfl rfl rfl rfl rfl (ltb rfl) ?_
      obtain ⟨r69, hg70, hM⟩ := bind_t hM
      refine run_call rfl rfl rfl (ltb rfl) rfl rfl rfl (fun _ h => absurd h List.not_mem_nil) (ih_s_l08Back k66 n66 s66 q66 f66 ks66 hg70 _ _) (callK_retX (fun v tk71 (hle72 : tk53 ≤ tk71) h73 => ?_))
      obtain ⟨ra78, ra79, va80, va81, rfl, rfl, ⟨k74, n74, q74, f74, ks74, rfl, rfl, hf75⟩, rfl⟩ := h73
      refine mvL rfl rfl rfl rfl (ltb rfl) ?_
      refine run_pu rfl (extract_step rfl rfl rfl) rfl (ltb rfl) ?_
      refine run_pu rfl (extract_step rfl rfl rfl) rfl (ltb rfl) ?_
      refine run_op rfl (alloc_step (d := 6) hG rfl rfl rfl) rfl (ltb rfl) ?_
      refine run_op0 rfl (store_step hG rfl rfl rfl rfl rfl rfl rfl rfl) rfl ?_
      refine mvR rfl rfl rfl rfl (ltb rfl) ?_
      refine run_ops_nil ?_
      refine run_sub_code (σ' := ⟨[(1, .optr (.loc 1) 0 0), (2, .optr (.loc 2) 0 0), (3, .bool false), (4, .optr (.loc 4) 0 0), (5, .bool ra61), (6, .optr (.loc 6) 0 0), (7, .bool ra79)], [(6, ⟨50, 3, true, [[.int .i64 k74, .int .i64 n74, .imm q74 3 f74 (fcellss ks74)]]⟩), (4, ⟨50, 3, true, [[.int .i64 k56, .int .i64 n56, .imm q56 3 f56 (fcellss ks56)]]⟩), (2, ⟨50, 3, true, [[.int .i64 0, .int .i64 0, .imm 0 3 true []]]⟩), (1, ⟨34, 4, true, [[.int .i64 k1, .int .i64 n1, .str s1, .imm q1 4 f1 (cellss ks1)]]⟩)], [], O, tk71⟩) (Sub.env _ ⟨rfl, rfl, rfl, rfl, rfl, rfl, rfl, trivial⟩) ?_
      refine run_sr ?_
      refine mvR rfl rfl rfl rfl (ltb rfl) ?_
      refine run_ops_nil ?_
      refine run_seq ?_
      refine run_sr ?_
      refine run_pu rfl (fieldAddr_step hG rfl rfl rfl rfl rfl) rfl (ltb rfl) ?_
      refine run_ld hG rfl rfl rfl rfl rfl (ltb rfl) ?_
      refine run_bin rfl rfl rfl rfl rfl rfl rfl (ltb rfl) ?_
      refine run_ops_nil ?_
      refine run_ifb rfl rfl (fun hb82 => ?_) (fun hb82 => ?_)
      ·replace hM := ite_t hb82 hM
       refine run_region ?_
       refine mvR rfl rfl rfl rfl (ltb rfl) ?_
       refine run_ops_nil ?_
       refine run_sr ?_
       refine mvL rfl rfl rfl rfl (ltb rfl) ?_
       refine run_ld hG rfl rfl rfl rfl rfl (ltb rfl) ?_
       refine run_ld hG rfl rfl rfl rfl rfl (ltb rfl) ?_
       refine run_call rfl rfl rfl (ltb rfl) rfl rfl rfl (fun _ h => absurd h List.not_mem_nil) (s_l08Two_ex 3 k56 n56 q56 f56 ks56 k74 n74 q74 f74 ks74 _ _) (callK_retN ?_)
       skip
       refine mvL rfl rfl rfl rfl (ltb rfl) ?_
       refine mvL rfl rfl rfl rfl (ltb rfl) ?_
       refine run_splitb (i := 52) rfl (fun hb83 => ?_) (fun hb83 => ?_)
       ·replace hM := ite_t hb83 hM
        refine run_puG (on_of rfl rfl rfl rfl) (move_step (.inl rfl) rfl) rfl (ltb rfl) ?_
        refine run_pu rfl (pick_step rfl rfl rfl) rfl (ltb rfl) ?_
        refine run_op0 rfl (store_step hG rfl rfl rfl rfl rfl rfl rfl rfl) rfl ?_
        refine mvR rfl rfl rfl rfl (ltb rfl) ?_
        refine run_ops_nil ?_
        refine run_ret_to ?_
        refine cut_ret ?_
        obtain rfl := some_t hM
        refine fin_x hG rfl rfl rfl (v' := .tup [.agg [.int .i64 3, .int .i64 0, .imm tk71 3 false (fcellss [LF.mk k56 n56 q56 f56 ks56, LF.mk k74 n74 q74 f74 ks74])], .bool ra79]) (by rfl) ⟨rfl, (show tk ≤ (tk71 + 1) by omega), _, rfl, ⟨_, _, _, _, rfl, rfl, ⟨3, 0, tk71, false, [LF.mk k56 n56 q56 f56 ks56, LF.mk k74 n74 q74 f74 ks74], rfl, rfl, fun _ => (show Fr tk (tk71 + 1) _ from (show Fr tk (tk71 + 1) _ from Fr.fstop (show Fr tk tk71 _ from (Fr.fcons (show Fr tk tk53 _ from ((show Fr tk tk53 _ from hf57 rfl)).mono (by omega) (by omega)) (Fr.fcons ((show Fr tk53 tk71 _ from hf75 rfl)) (show Fr tk71 tk71 _ from Fr.nil _ _) (by omega) (by omega)) (by omega) (by omega)).mono (by omega) (by omega)) (by omega) (by omega)).mono (by omega) (by omega))⟩, rfl⟩⟩
       ·replace hM := ite_f hb83 hM
        refine run_off (on_of rfl rfl rfl rfl) rfl (ltb rfl) ?_
        refine run_pu rfl (pick_step rfl rfl rfl) rfl (ltb rfl) ?_
        refine run_op0 rfl (store_step hG rfl rfl rfl rfl rfl rfl rfl rfl) rfl ?_
        refine mvR rfl rfl rfl rfl (ltb rfl) ?_
        refine run_ops_nil ?_
        refine run_ret_to ?_
        refine cut_ret ?_
        obtain rfl := some_t hM
        refine fin_x hG rfl rfl rfl (v' := .tup [.agg [.int .i64 3, .int .i64 0, .imm tk71 3 false (fcellss [LF.mk k56 n56 q56 f56 ks56, LF.mk k74 n74 q74 f74 ks74])], .bool false]) (by rfl) ⟨rfl, (show tk ≤ (tk71 + 1) by omega), _, rfl, ⟨_, _, _, _, rfl, rfl, ⟨3, 0, tk71, false, [LF.mk k56 n56 q56 f56 ks56, LF.mk k74 n74 q74 f74 ks74], rfl, rfl, fun _ => (show Fr tk (tk71 + 1) _ from (show Fr tk (tk71 + 1) _ from Fr.fstop (show Fr tk tk71 _ from (Fr.fcons (show Fr tk tk53 _ from ((show Fr tk tk53 _ from hf57 rfl)).mono (by omega) (by omega)) (Fr.fcons ((show Fr tk53 tk71 _ from hf75 rfl)) (show Fr tk71 tk71 _ from Fr.nil _ _) (by omega) (by omega)) (by omega) (by omega)).mono (by omega) (by omega)) (by omega) (by omega)).mono (by omega) (by omega))⟩, rfl⟩⟩
      ·replace hM := ite_f hb82 hM
       refine run_skip ?_
       refine run_sr ?_
       refine mvL rfl rfl rfl rfl (ltb rfl) ?_
       refine run_ld hG rfl rfl rfl rfl rfl (ltb rfl) ?_
       refine run_ld hG rfl rfl rfl rfl rfl (ltb rfl) ?_
       refine run_call rfl rfl rfl (ltb rfl) rfl rfl rfl (fun _ h => absurd h List.not_mem_nil) (s_l08Two_ex 2 k56 n56 q56 f56 ks56 k74 n74 q74 f74 ks74 _ _) (callK_retN ?_)
       skip
       refine mvL rfl rfl rfl rfl (ltb rfl) ?_
       refine mvL rfl rfl rfl rfl (ltb rfl) ?_
       refine run_splitb (i := 52) rfl (fun hb84 => ?_) (fun hb84 => ?_)
       ·replace hM := ite_t hb84 hM
        refine run_puG (on_of rfl rfl rfl rfl) (move_step (.inl rfl) rfl) rfl (ltb rfl) ?_
        refine run_pu rfl (pick_step rfl rfl rfl) rfl (ltb rfl) ?_
        refine run_op0 rfl (store_step hG rfl rfl rfl rfl rfl rfl rfl rfl) rfl ?_
        refine mvR rfl rfl rfl rfl (ltb rfl) ?_
        refine run_ops_nil ?_
        refine run_ret_to ?_
        refine cut_ret ?_
        obtain rfl := some_t hM
        refine fin_x hG rfl rfl rfl (v' := .tup [.agg [.int .i64 2, .int .i64 0, .imm tk71 3 false (fcellss [LF.mk k56 n56 q56 f56 ks56, LF.mk k74 n74 q74 f74 ks74])], .bool ra79]) (by rfl) ⟨rfl, (show tk ≤ (tk71 + 1) by omega), _, rfl, ⟨_, _, _, _, rfl, rfl, ⟨2, 0, tk71, false, [LF.mk k56 n56 q56 f56 ks56, LF.mk k74 n74 q74 f74 ks74], rfl, rfl, fun _ => (show Fr tk (tk71 + 1) _ from (show Fr tk (tk71 + 1) _ from Fr.fstop (show Fr tk tk71 _ from (Fr.fcons (show Fr tk tk53 _ from ((show Fr tk tk53 _ from hf57 rfl)).mono (by omega) (by omega)) (Fr.fcons ((show Fr tk53 tk71 _ from hf75 rfl)) (show Fr tk71 tk71 _ from Fr.nil _ _) (by omega) (by omega)) (by omega) (by omega)).mono (by omega) (by omega)) (by omega) (by omega)).mono (by omega) (by omega))⟩, rfl⟩⟩
       ·replace hM := ite_f hb84 hM
        refine run_off (on_of rfl rfl rfl rfl) rfl (ltb rfl) ?_
        refine run_pu rfl (pick_step rfl rfl rfl) rfl (ltb rfl) ?_
        refine run_op0 rfl (store_step hG rfl rfl rfl rfl rfl rfl rfl rfl) rfl ?_
        refine mvR rfl rfl rfl rfl (ltb rfl) ?_
        refine run_ops_nil ?_
        refine run_ret_to ?_
        refine cut_ret ?_
        obtain rfl := some_t hM
        refine fin_x hG rfl rfl rfl (v' := .tup [.agg [.int .i64 2, .int .i64 0, .imm tk71 3 false (fcellss [LF.mk k56 n56 q56 f56 ks56, LF.mk k74 n74 q74 f74 ks74])], .bool false]) (by rfl) ⟨rfl, (show tk ≤ (tk71 + 1) by omega), _, rfl, ⟨_, _, _, _, rfl, rfl, ⟨2, 0, tk71, false, [LF.mk k56 n56 q56 f56 ks56, LF.mk k74 n74 q74 f74 ks74], rfl, rfl, fun _ => (show Fr tk (tk71 + 1) _ from (show Fr tk (tk71 + 1) _ from Fr.fstop (show Fr tk tk71 _ from (Fr.fcons (show Fr tk tk53 _ from ((show Fr tk tk53 _ from hf57 rfl)).mono (by omega) (by omega)) (Fr.fcons ((show Fr tk53 tk71 _ from hf75 rfl)) (show Fr tk71 tk71 _ from Fr.nil _ _) (by omega) (by omega)) (by omega) (by omega)).mono (by omega) (by omega)) (by omega) (by omega)).mono (by omega) (by omega))⟩, rfl⟩⟩
     ·replace hM := ite_f hb45 hM
      refine run_skip ?_
      exact ⟨tk, (show tk ≤ tk by omega), hM, Sub.env [(1, .optr (.loc 1) 0 0), (2, .optr (.loc 2) 0 0), (3, .bool false)] ⟨rfl, rfl, rfl, trivial⟩⟩
   ·replace hM := ite_f hb4 hM
    refine run_off (on_of rfl rfl rfl rfl) rfl (ltb rfl) ?_
    refine run_off (on_of rfl rfl rfl rfl) rfl (ltb rfl) ?_
    refine run_off (on_of rfl rfl rfl rfl) rfl (ltb rfl) ?_
    refine run_off (on_of rfl rfl rfl rfl) rfl (ltb rfl) ?_
    refine run_off (off_un rfl rfl rfl) rfl (ltb rfl) ?_
    refine run_off (off_un rfl rfl rfl) rfl (ltb rfl) ?_
    refine run_off (off_un rfl rfl rfl) rfl (ltb rfl) ?_
    refine run_off (on_of rfl rfl rfl rfl) rfl (ltb rfl) ?_
    refine run_pu rfl (pick_step rfl rfl rfl) rfl (ltb rfl) ?_
    refine run_ops_nil ?_
    refine run_if rfl rfl (fun h => by cases h) (fun _ => ?_)
    refine run_skip ?_
    exact ⟨tk, (show tk ≤ tk by omega), hM, Sub.env [(1, .optr (.loc 1) 0 0), (2, .optr (.loc 2) 0 0), (3, .bool false)] ⟨rfl, rfl, rfl, trivial⟩⟩
  ·clear hM
   rintro σ' ⟨tkj3, hle94, hM, hsub⟩
   rw [hj95] at hM
   clear hj95
   refine run_sub_code hsub ?_
   refine run_seq ?_
   refine run_sr ?_
   refine run_pu rfl (fieldAddr_step hG rfl rfl rfl rfl rfl) rfl (ltb rfl) ?_
   refine run_ld hG rfl rfl rfl rfl rfl (ltb rfl) ?_
   refine run_pu rfl (lenImm_step hG rfl rfl rfl rfl (tlen _)) rfl (ltb rfl) ?_
   refine run_bin rfl rfl rfl rfl rfl rfl rfl (ltb rfl) ?_
   refine run_ops_nil ?_
   refine run_ifb rfl rfl (fun hb85 => ?_) (fun hb85 => ?_)
   ·replace hM := ite_t hb85 hM
    refine run_sr ?_
    refine run_pu rfl (build_step hG rfl (by rfl) rfl (fun h => by cases h) (by rfl)) rfl (ltb rfl) ?_
    refine run_op0 rfl (store_step hG rfl rfl rfl rfl rfl rfl rfl rfl) rfl ?_
    refine mvR rfl rfl rfl rfl (ltb rfl) ?_
    refine run_ops_nil ?_
    refine run_ret_to ?_
    obtain rfl := some_t hM
    refine fin_x hG rfl rfl rfl (v' := .tup [.agg [.int .i64 0, .int .i64 0, .imm 0 3 true (fcellss [])], .bool false]) (by rfl) ⟨rfl, (show tk ≤ tkj3 by omega), _, rfl, ⟨_, _, _, _, rfl, rfl, ⟨0, 0, 0, true, [], rfl, rfl, fun _ => Fr.nil _ _⟩, rfl⟩⟩
   ·replace hM := ite_f hb85 hM
    refine run_skip ?_
    refine run_seq ?_
    refine run_sr ?_
    refine run_pu rfl (fieldAddr_step hG rfl rfl rfl rfl rfl) rfl (ltb rfl) ?_
    refine run_ld hG rfl rfl rfl rfl rfl (ltb rfl) ?_
    refine run_bin rfl rfl rfl rfl rfl rfl rfl (ltb rfl) ?_
    refine run_ops_nil ?_
    refine run_ifb rfl rfl (fun hb86 => ?_) (fun hb86 => ?_)
    ·replace hM := ite_t hb86 hM
     refine run_sr ?_
     refine run_pu rfl (build_step hG rfl (by rfl) rfl (fun h => by cases h) (by rfl)) rfl (ltb rfl) ?_
     refine run_op0 rfl (store_step hG rfl rfl rfl rfl rfl rfl rfl rfl) rfl ?_
     refine mvR rfl rfl rfl rfl (ltb rfl) ?_
     refine run_ops_nil ?_
     refine run_ret_to ?_
     obtain rfl := some_t hM
     refine fin_x hG rfl rfl rfl (v' := .tup [.agg [.int .i64 4, .int .i64 0, .imm 0 3 true (fcellss [])], .bool true]) (by rfl) ⟨rfl, (show tk ≤ tkj3 by omega), _, rfl, ⟨_, _, _, _, rfl, rfl, ⟨4, 0, 0, true, [], rfl, rfl, fun _ => Fr.nil _ _⟩, rfl⟩⟩
    ·replace hM := ite_f hb86 hM
     refine run_skip ?_
     refine run_sr ?_
     refine run_pu rfl (fieldAddr_step hG rfl rfl rfl rfl rfl) rfl (ltb rfl) ?_
     refine run_ld hG rfl rfl rfl rfl rfl (ltb rfl) ?_
     obtain ⟨r87, hg88, hM⟩ := bind_t hM
     refine run_call rfl rfl rfl (ltb rfl) rfl rfl rfl (fun _ h => absurd h List.not_mem_nil) (s_l08Atom_ok n s1 hg88 _ _) (callK_retX (fun v tk89 (hle90 : tkj3 ≤ tk89) h91 => ?_))
     subst h91
     refine mvR rfl rfl rfl rfl (ltb rfl) ?_
     refine run_ops_nil ?_
     refine run_sr ?_
     refine mvL rfl rfl rfl rfl (ltb rfl) ?_
     refine run_pu rfl (max_step rfl rfl rfl) rfl (ltb rfl) ?_
     refine run_pu rfl (build_step hG rfl (by rfl) rfl (fun h => by cases h) (by rfl)) rfl (ltb rfl) ?_
     refine mvL rfl rfl rfl rfl (ltb rfl) ?_
     refine run_bin rfl rfl rfl rfl rfl rfl rfl (ltb rfl) ?_
     refine run_op0 rfl (store_step hG rfl rfl rfl rfl rfl rfl rfl rfl) rfl ?_
     refine mvR rfl rfl rfl rfl (ltb rfl) ?_
     refine run_ops_nil ?_
     refine run_ret_to ?_
     obtain rfl := some_t hM
     refine fin_x hG rfl rfl rfl (v' := .tup [.agg [.int .i64 1, .int .i64 (imax r87 0), .imm 0 3 true (fcellss [])], .bool (decide (r87 ≥ 0))]) (by rfl) ⟨rfl, (show tk ≤ tk89 by omega), _, rfl, ⟨_, _, _, _, rfl, rfl, ⟨1, (imax r87 0), 0, true, [], rfl, rfl, fun _ => Fr.nil _ _⟩, rfl⟩⟩

theorem s_l08Back_all : ∀ (n : Nat), (∀ (k1 : Int) (n1 : Int) (s1 : ByteArray) (q1 : Nat) (f1 : Bool) (ks1 : List LT) {r : (F × Bool)}, s_l08Back n (T.mk k1 n1 s1 (ers ks1)) = some r → ∀ (O : Heap) (tk : Nat), ACalls Go.Proofs.Tryd.prog 61 [.agg [.int .i64 k1, .int .i64 n1, .str s1, .imm q1 4 f1 (cellss ks1)]] O tk (RetX O tk (fun v tk' => ∃ r0' r1' v0' v1', r = (r0', r1') ∧ v = .tup [v0', v1'] ∧ VF true tk tk' r0' v0' ∧ v1' = .bool r1')))
 | 0 => by intro k1 n1 s1 q1 f1 ks1 r hM; rw [s_l08Back] at hM; cases hM
 | n + 1 => have ih := s_l08Back_all n; s_l08Back_st n (ih)

theorem s_l08Back_ok (n : Nat) : ∀ (k1 : Int) (n1 : Int) (s1 : ByteArray) (q1 : Nat) (f1 : Bool) (ks1 : List LT) {r : (F × Bool)}, s_l08Back n (T.mk k1 n1 s1 (ers ks1)) = some r → ∀ (O : Heap) (tk : Nat), ACalls Go.Proofs.Tryd.prog 61 [.agg [.int .i64 k1, .int .i64 n1, .str s1, .imm q1 4 f1 (cellss ks1)]] O tk (RetX O tk (fun v tk' => ∃ r0' r1' v0' v1', r = (r0', r1') ∧ v = .tup [v0', v1'] ∧ VF true tk tk' r0' v0' ∧ v1' = .bool r1')) := s_l08Back_all n

end Go.Am.YtiobknkpdkkikaaDoor
