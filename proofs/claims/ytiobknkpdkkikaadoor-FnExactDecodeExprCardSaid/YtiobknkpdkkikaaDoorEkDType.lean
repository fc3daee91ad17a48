/- Printed by a program of ours: Lean functions that do what the Go functions do, and the contracts. -/
import Derived.Test.YtiobknkpdkkikaaDoorMl0
import Derived.Test.YtiobknkpdkkikaaDoorMb1
import Derived.Test.YtiobknkpdkkikaaDoorMb3
import Derived.Test.YtiobknkpdkkikaaDoorTypes
import Derived.Test.YtiobknkpdkkikaaDoorMi4
import Derived.Test.YtiobknkpdkkikaaDoorMc1
import Derived.Test.YtiobknkpdkkikaaDoorDkTerm
-- packed
namespace Go.Am.YtiobknkpdkkikaaDoor
open Go Go.Am

set_option maxRecDepth 100000 in
theorem i_function_ex (k1 : Int) (n1 : Int) (q1 : Nat) (f1 : Bool) (ks1 : List LF) (k2 : Int) (n2 : Int) (q2 : Nat) (f2 : Bool) (ks2 : List LF) (O : Heap) (tk : Nat) : ACalls Go.Proofs.Tryd.prog 98 [.agg [.int .i64 k1, .int .i64 n1, .imm q1 3 f1 (fcellss ks1)], .agg [.int .i64 k2, .int .i64 n2, .imm q2 3 f2 (fcellss ks2)]] O tk (RetN O (.agg [.int .i64 2, .int .i64 0, .imm tk 3 false (fcellss [LF.mk k1 n1 q1 f1 ks1, LF.mk k2 n2 q2 f2 ks2])]) (tk + 1)) := by
 refine acalls_of_run Go.Proofs.Tryd.func98 rfl rfl [] [] (Bor.nil _) [(0, .agg [.int .i64 k1, .int .i64 n1, .imm q1 3 f1 (fcellss ks1)]), (1, .agg [.int .i64 k2, .int .i64 n2, .imm q2 3 f2 (fcellss ks2)])] (.cons (.agg _) (.cons (.agg _) (.nil _))) (leb rfl) (fun _ h => by cases h) (fun S0 hO htk hfz => ?_)
 refine run_sr ?_
 refine run_op rfl (box_step (d := 2) rfl rfl rfl rfl rfl) rfl (ltb rfl) ?_
 refine run_op rfl (box_step (d := 3) rfl rfl rfl rfl rfl) rfl (ltb rfl) ?_
 refine run_op rfl (alloc_step (d := 4) hG rfl rfl rfl) rfl (ltb rfl) ?_
 refine run_ops_nil ?_
 refine run_sr ?_
 refine run_ld hG rfl rfl rfl rfl rfl (ltb rfl) ?_
 refine run_ld hG rfl rfl rfl rfl rfl (ltb rfl) ?_
 refine run_op rfl (buildSlice_step (d := 7) hG rfl rfl rfl rfl rfl (by rfl) (by rfl) (by rfl) (by decide)) rfl (ltb rfl) ?_
 refine run_pu rfl (build_step hG rfl (by rfl) rfl (fun h => by cases h) (by rfl)) rfl (ltb rfl) ?_
 refine run_op0 rfl (store_step hG rfl rfl rfl rfl rfl rfl rfl rfl) rfl ?_
 refine run_ops_nil ?_
 refine run_ret_to ?_
 refine fin_sub (Sub.freeze (k := 7) rfl rfl) ?_
 refine fin_x hG rfl rfl rfl (v' := .agg [.int .i64 2, .int .i64 0, .imm tk 3 false (fcellss [LF.mk k1 n1 q1 f1 ks1, LF.mk k2 n2 q2 f2 ks2])]) (by rfl) ⟨rfl, rfl, rfl⟩

def i_readType_L1 (x1 : T) (j2 : Option (Rz F)) : Nat → Int → Option (Rz F)
 | 0, _ => none
 | m + 1, i5 =>
  if i5 < 6 then
   (strSub (⟨#[98, 48, 98, 49, 98, 50, 98, 51, 98, 52, 98, 53]⟩ : ByteArray) (IntKind.i64.wrap (2 * i5)) (IntKind.i64.wrap ((IntKind.i64.wrap (2 * i5)) + 2))).bind fun y7 =>
   if (x1.name.toList == y7.toList) = true then
    some (.ok (F.mk 1 i5 []))
   else
    i_readType_L1 x1 j2 m (IntKind.i64.wrap (i5 + 1))
  else
   j2

def i_readType : Nat → T → Option (Rz F)
 | 0, _ => none
 | n + 1, x1 =>
  jn (
   if (x1.kind != 6) = true then
    some (.stop 3 0)
   else
    if (!(x1.name.toList == (⟨#[97, 114, 114]⟩ : ByteArray).toList)) = true then
     some (.stop 3 0)
    else
     if (((x1.kids).length : Int) != 2) = true then
      some (.stop 3 0)
     else
      (idx x1.kids 0).bind fun y14 =>
      (idx x1.kids 1).bind fun y19 =>
      zb (i_readType n y14) fun r24 =>
      zb (i_readType n y19) fun r33 =>
      some (.ok (F.mk 2 0 [r24, r33]))) fun j2 =>
  if x1.kind = 6 then
   if ((x1.kids).length : Int) = 0 then
    i_readType_L1 x1 j2 n 0
   else
    j2
  else
   j2

set_option maxHeartbeats 2000000 in
set_option maxRecDepth 100000 in
theorem i_readType_st (n : Nat) (ih_i_readType : ∀ (k1 : Int) (n1 : Int) (s1 : ByteArray) (q1 : Nat) (f1 : Bool) (ks1 : List LT) {r : (Rz F)}, i_readType n (T.mk k1 n1 s1 (ers ks1)) = some r → ∀ (O : Heap) (tk : Nat), ACalls Go.Proofs.Tryd.prog 57 [.agg [.int .i64 k1, .int .i64 n1, .str s1, .imm q1 4 f1 (cellss ks1)]] O tk (RetZ HT O tk r (fun r v tk' => VF true tk tk' r v))) : ∀ (k1 : Int) (n1 : Int) (s1 : ByteArray) (q1 : Nat) (f1 : Bool) (ks1 : List LT) {r : (Rz F)}, i_readType (n + 1) (T.mk k1 n1 s1 (ers ks1)) = some r → ∀ (O : Heap) (tk : Nat), ACalls Go.Proofs.Tryd.prog 57 [.agg [.int .i64 k1, .int .i64 n1, .str s1, .imm q1 4 f1 (cellss ks1)]] O tk (RetZ HT O tk r (fun r v tk' => VF true tk tk' r v)) := by
 intro k1 n1 s1 q1 f1 ks1 r hM O tk
 rw [i_readType] at hM
 refine acalls_of_run Go.Proofs.Tryd.func57 rfl rfl [] [] (Bor.nil _) [(0, .agg [.int .i64 k1, .int .i64 n1, .str s1, .imm q1 4 f1 (cellss ks1)])] (.cons (.agg _) (.nil _)) (leb rfl) (fun _ h => by cases h) (fun S0 hO htk hfz => ?_)
 refine run_sr ?_
 refine run_op rfl (box_step (d := 1) rfl rfl rfl rfl rfl) rfl (ltb rfl) ?_
 refine run_op rfl (alloc_step (d := 2) hG rfl rfl rfl) rfl (ltb rfl) ?_
 refine run_ops_nil ?_
 refine run_seq ?_
 refine run_seq ?_
 obtain ⟨j2, hj43, hM⟩ := jn_t hM
 refine run_cutL [.code _, .code _] (fun σ' => ∃ (tkj2 : Nat), tk ≤ tkj2 ∧ j2 = some r ∧ Sub ⟨Go.Proofs.Tryd.prog, S0, Go.Proofs.Tryd.f57.ntmps, [], fun _ => False, []⟩ σ' ⟨[(1, .optr (.loc 1) 0 0), (2, .optr (.loc 2) 0 0)], [(2, ⟨43, 3, true, [[.int .i64 0, .int .i64 0, .imm 0 3 true []]]⟩), (1, ⟨34, 4, true, [[.int .i64 k1, .int .i64 n1, .str s1, .imm q1 4 f1 (cellss ks1)]]⟩)], [], O, tkj2⟩) rfl ?_ ?_
 ·refine run_region ?_
  refine run_pu rfl (fieldAddr_step hG rfl rfl rfl rfl rfl) rfl (ltb rfl) ?_
  refine run_ld hG rfl rfl rfl rfl rfl (ltb rfl) ?_
  refine run_bin rfl rfl rfl rfl rfl rfl rfl (ltb rfl) ?_
  refine mvL rfl rfl rfl rfl (ltb rfl) ?_
  refine run_splitd (i := 7) rfl (fun hb3 => ?_) (fun hb3 => ?_)
  ·replace hM := ite_t hb3 hM
   refine run_puG (on_of rfl rfl rfl rfl) (fieldAddr_step hG rfl rfl rfl rfl rfl) rfl (ltb rfl) ?_
   refine run_rdG (on_of rfl rfl rfl rfl) (aload_rd hG rfl rfl rfl (by first | (simp [ldok]; done) | exact List.not_mem_nil | trivial)) rfl (ltb rfl) ?_
   refine run_puG (on_of rfl rfl rfl rfl) (lenImm_step hG rfl rfl rfl rfl (tlen _)) rfl (ltb rfl) ?_
   refine run_puG (on_of rfl rfl rfl rfl) (abin_step rfl rfl rfl rfl (fun _ h => by cases h)) rfl (ltb rfl) ?_
   refine run_pu rfl (pick_step rfl rfl rfl) rfl (ltb rfl) ?_
   refine run_ops_nil ?_
   refine run_ifd rfl rfl (fun hb4 => ?_) (fun hb4 => ?_)
   ·replace hM := ite_t hb4 hM
    refine run_sr ?_
    refine mvL rfl rfl rfl rfl (ltb rfl) ?_
    refine run_ops_nil ?_
    refine run_block ?_
    refine run_rounds (fun m σ => ∃ (i5 : Int) (tki_readType_L1 : Nat), tk ≤ tki_readType_L1 ∧ i_readType_L1 (T.mk k1 n1 s1 (ers ks1)) j2 m i5 = some r ∧ σ = ⟨[(1, .optr (.loc 1) 0 0), (2, .optr (.loc 2) 0 0), (13, .int .i64 i5)], [(2, ⟨43, 3, true, [[.int .i64 0, .int .i64 0, .imm 0 3 true []]]⟩), (1, ⟨34, 4, true, [[.int .i64 k1, .int .i64 n1, .str s1, .imm q1 4 f1 (cellss ks1)]]⟩)], [], O, tki_readType_L1⟩) n (Sub.env [(1, .optr (.loc 1) 0 0), (2, .optr (.loc 2) 0 0), (13, .int .i64 0)] ⟨rfl, rfl, rfl, trivial⟩) ⟨0, tk, Nat.le_refl _, hM, rfl⟩ (fun m σ hI => ?_)
    clear hM
    obtain ⟨i5, tki_readType_L1, hle10, hM, rfl⟩ := hI
    obtain _ | m := m
    ·exact absurd hM (by rw [i_readType_L1]; exact fun h => by cases h)
    rw [i_readType_L1] at hM
    refine run_sr ?_
    refine run_bin rfl rfl rfl rfl rfl rfl rfl (ltb rfl) ?_
    refine run_ops_nil ?_
    refine run_seq ?_
    refine run_ifd rfl rfl (fun hb6 => ?_) (fun hb6 => ?_)
    ·replace hM := ite_t hb6 hM
     refine run_skip ?_
     refine run_seq ?_
     refine run_block ?_
     refine run_sr ?_
     refine mvL rfl rfl rfl rfl (ltb rfl) ?_
     refine mvR rfl rfl rfl rfl (ltb rfl) ?_
     refine run_ops_nil ?_
     refine run_seq ?_
     refine run_draw [] (n := 9) mixed rfl (fun _ h => absurd h List.not_mem_nil) ?_
     refine AAny.take (i := 0) rfl (by kernel_rfl) (by kernel_rfl) (by kernel_rfl) rfl rfl (ltb rfl) ((fieldAddr_step hG rfl rfl rfl rfl rfl).rd _) ?_
     refine AAny.take (i := 1) rfl (by kernel_rfl) (by kernel_rfl) (by kernel_rfl) rfl rfl (ltb rfl) (aload_rd hG rfl rfl rfl (by first | (simp [ldok]; done) | exact List.not_mem_nil | trivial)) ?_
     refine AAny.take (i := 2) rfl (by kernel_rfl) (by kernel_rfl) (by kernel_rfl) rfl rfl (ltb rfl) ((move_step (.inl rfl) rfl).rd _) ?_
     refine AAny.take (i := 3) rfl (by kernel_rfl) (by kernel_rfl) (by kernel_rfl) rfl rfl (ltb rfl) ((abin_step rfl rfl rfl rfl (fun _ h => by cases h)).rd _) ?_
     refine AAny.take (i := 4) rfl (by kernel_rfl) (by kernel_rfl) (by kernel_rfl) rfl rfl (ltb rfl) ((move_step (.inl rfl) rfl).rd _) ?_
     refine AAny.take (i := 5) rfl (by kernel_rfl) (by kernel_rfl) (by kernel_rfl) rfl rfl (ltb rfl) ((abin_step rfl rfl rfl rfl (fun _ h => by cases h)).rd _) ?_
     refine AAny.take (i := 6) rfl (by kernel_rfl) (by kernel_rfl) (by kernel_rfl) rfl rfl (ltb rfl) ((abin_step rfl rfl rfl rfl (fun _ h => by cases h)).rd _) ?_
     obtain ⟨y7, hy8, hM⟩ := bind_t hM
     refine AAny.take (i := 7) rfl (by kernel_rfl) (by kernel_rfl) (by kernel_rfl) rfl rfl (ltb rfl) ((strSlice_step hG rfl rfl rfl rfl rfl rfl hy8).rd _) ?_
     refine AAny.take (i := 8) rfl (by kernel_rfl) (by kernel_rfl) (by kernel_rfl) rfl rfl (ltb rfl) ((abin_step rfl rfl rfl rfl (fun _ h => by cases h)).rd _) ?_
     refine AAny.done (by kernel_rfl) ?_
     refine run_ifb rfl rfl (fun hb9 => ?_) (fun hb9 => ?_)
     ·replace hM := ite_t hb9 hM
      refine run_sr ?_
      refine mvL rfl rfl rfl rfl (ltb rfl) ?_
      refine run_pu rfl (build_step hG rfl (by rfl) rfl (fun h => by cases h) (by rfl)) rfl (ltb rfl) ?_
      refine run_op0 rfl (store_step hG rfl rfl rfl rfl rfl rfl rfl rfl) rfl ?_
      refine run_ops_nil ?_
      refine run_ret_to ?_
      refine cut_ret ?_
      obtain rfl := some_t hM
      refine fin_x hG rfl rfl rfl (v' := .agg [.int .i64 1, .int .i64 i5, .imm 0 3 true (fcellss [])]) (by rfl) ⟨rfl, (show tk ≤ tki_readType_L1 by omega), _, rfl, ⟨1, i5, 0, true, [], rfl, rfl, fun _ => Fr.nil _ _⟩⟩
     ·replace hM := ite_f hb9 hM
      refine run_skip ?_
      refine run_blk ?_
      refine run_region ?_
      refine run_bin rfl rfl rfl rfl rfl rfl rfl (ltb rfl) ?_
      refine mvL rfl rfl rfl rfl (ltb rfl) ?_
      refine run_ops_nil ?_
      exact run_loop_end ⟨m, _, Nat.lt_succ_self _, ⟨(IntKind.i64.wrap (i5 + 1)), tki_readType_L1, (show tk ≤ tki_readType_L1 by omega), hM, rfl⟩, Sub.env [(1, .optr (.loc 1) 0 0), (2, .optr (.loc 2) 0 0), (13, .int .i64 (IntKind.i64.wrap (i5 + 1)))] ⟨rfl, rfl, rfl, trivial⟩⟩
    ·replace hM := ite_f hb6 hM
     refine run_exit_to rfl ?_
     exact ⟨tki_readType_L1, (show tk ≤ tki_readType_L1 by omega), hM, Sub.env [(1, .optr (.loc 1) 0 0), (2, .optr (.loc 2) 0 0)] ⟨rfl, rfl, trivial⟩⟩
   ·replace hM := ite_f hb4 hM
    refine run_skip ?_
    exact ⟨tk, (show tk ≤ tk by omega), hM, Sub.env [(1, .optr (.loc 1) 0 0), (2, .optr (.loc 2) 0 0)] ⟨rfl, rfl, trivial⟩⟩
  ·replace hM := ite_f hb3 hM
   refine run_off (on_of rfl rfl rfl rfl) rfl (ltb rfl) ?_
   refine run_off (on_of rfl rfl rfl rfl) rfl (ltb rfl) ?_
   refine run_off (on_of rfl rfl rfl rfl) rfl (ltb rfl) ?_
   refine run_off (on_of rfl rfl rfl rfl) rfl (ltb rfl) ?_
   refine run_pu rfl (pick_step rfl rfl rfl) rfl (ltb rfl) ?_
   refine run_ops_nil ?_
   refine run_if rfl rfl (fun h => by cases h) (fun _ => ?_)
   refine run_skip ?_
   exact ⟨tk, (show tk ≤ tk by omega), hM, Sub.env [(1, .optr (.loc 1) 0 0), (2, .optr (.loc 2) 0 0)] ⟨rfl, rfl, trivial⟩⟩
 ·clear hM
  rintro σ' ⟨tkj2, hle42, hM, hsub⟩
  rw [hj43] at hM
  clear hj43
  refine run_sub_code hsub ?_
  refine run_seq ?_
  refine run_sr ?_
  refine run_pu rfl (fieldAddr_step hG rfl rfl rfl rfl rfl) rfl (ltb rfl) ?_
  refine run_ld hG rfl rfl rfl rfl rfl (ltb rfl) ?_
  refine run_bin rfl rfl rfl rfl rfl rfl rfl (ltb rfl) ?_
  refine mvL rfl rfl rfl rfl (ltb rfl) ?_
  refine run_splitb (i := 31) rfl (fun hb11 => ?_) (fun hb11 => ?_)
  ·replace hM := ite_t hb11 hM
   refine run_off (on_of rfl rfl rfl rfl) rfl (ltb rfl) ?_
   refine run_off (on_of rfl rfl rfl rfl) rfl (ltb rfl) ?_
   refine run_off (on_of rfl rfl rfl rfl) rfl (ltb rfl) ?_
   refine run_pu rfl (pick_step rfl rfl rfl) rfl (ltb rfl) ?_
   refine mvL rfl rfl rfl rfl (ltb rfl) ?_
   refine run_off (on_of rfl rfl rfl rfl) rfl (ltb rfl) ?_
   refine run_off (on_of rfl rfl rfl rfl) rfl (ltb rfl) ?_
   refine run_off (on_of rfl rfl rfl rfl) rfl (ltb rfl) ?_
   refine run_off (on_of rfl rfl rfl rfl) rfl (ltb rfl) ?_
   refine run_pu rfl (pick_step rfl rfl rfl) rfl (ltb rfl) ?_
   refine run_ops_nil ?_
   refine run_if rfl rfl (fun _ => ?_) (fun h => by cases h)
   refine run_region ?_
   obtain rfl := some_t hM
   exact run_call rfl rfl rfl (ltb rfl) rfl rfl rfl (fun _ h => absurd h List.not_mem_nil) (i_stop_ok 3 0 _ _) (callK_retS (run_pan_at (⟨rfl, (show tk ≤ tkj2 by omega), rfl⟩)))
  ·replace hM := ite_f hb11 hM
   refine run_puG (on_of rfl rfl rfl rfl) (fieldAddr_step hG rfl rfl rfl rfl rfl) rfl (ltb rfl) ?_
   refine run_rdG (on_of rfl rfl rfl rfl) (aload_rd hG rfl rfl rfl (by first | (simp [ldok]; done) | exact List.not_mem_nil | trivial)) rfl (ltb rfl) ?_
   refine run_puG (on_of rfl rfl rfl rfl) (abin_step rfl rfl rfl rfl (fun _ h => by cases h)) rfl (ltb rfl) ?_
   refine run_pu rfl (pick_step rfl rfl rfl) rfl (ltb rfl) ?_
   refine mvL rfl rfl rfl rfl (ltb rfl) ?_
   refine run_splitb (i := 36) rfl (fun hb12 => ?_) (fun hb12 => ?_)
   ·replace hM := ite_t hb12 hM
    refine run_off (on_of rfl rfl rfl rfl) rfl (ltb rfl) ?_
    refine run_off (on_of rfl rfl rfl rfl) rfl (ltb rfl) ?_
    refine run_off (on_of rfl rfl rfl rfl) rfl (ltb rfl) ?_
    refine run_off (on_of rfl rfl rfl rfl) rfl (ltb rfl) ?_
    refine run_pu rfl (pick_step rfl rfl rfl) rfl (ltb rfl) ?_
    refine run_ops_nil ?_
    refine run_if rfl rfl (fun _ => ?_) (fun h => by cases h)
    refine run_region ?_
    obtain rfl := some_t hM
    exact run_call rfl rfl rfl (ltb rfl) rfl rfl rfl (fun _ h => absurd h List.not_mem_nil) (i_stop_ok 3 0 _ _) (callK_retS (run_pan_at (⟨rfl, (show tk ≤ tkj2 by omega), rfl⟩)))
   ·replace hM := ite_f hb12 hM
    refine run_puG (on_of rfl rfl rfl rfl) (fieldAddr_step hG rfl rfl rfl rfl rfl) rfl (ltb rfl) ?_
    refine run_rdG (on_of rfl rfl rfl rfl) (aload_rd hG rfl rfl rfl (by first | (simp [ldok]; done) | exact List.not_mem_nil | trivial)) rfl (ltb rfl) ?_
    refine run_puG (on_of rfl rfl rfl rfl) (lenImm_step hG rfl rfl rfl rfl (tlen _)) rfl (ltb rfl) ?_
    refine run_puG (on_of rfl rfl rfl rfl) (abin_step rfl rfl rfl rfl (fun _ h => by cases h)) rfl (ltb rfl) ?_
    refine run_pu rfl (pick_step rfl rfl rfl) rfl (ltb rfl) ?_
    refine run_ops_nil ?_
    refine run_sub_code (σ' := ⟨[(1, .optr (.loc 1) 0 0), (2, .optr (.loc 2) 0 0), (41, .bool ((((ers ks1)).length : Int) != 2))], [(2, ⟨43, 3, true, [[.int .i64 0, .int .i64 0, .imm 0 3 true []]]⟩), (1, ⟨34, 4, true, [[.int .i64 k1, .int .i64 n1, .str s1, .imm q1 4 f1 (cellss ks1)]]⟩)], [], O, tkj2⟩) (Sub.env _ ⟨rfl, rfl, rfl, trivial⟩) ?_
    refine run_ifb rfl rfl (fun hb13 => ?_) (fun hb13 => ?_)
    ·replace hM := ite_t hb13 hM
     refine run_region ?_
     obtain rfl := some_t hM
     exact run_call rfl rfl rfl (ltb rfl) rfl rfl rfl (fun _ h => absurd h List.not_mem_nil) (i_stop_ok 3 0 _ _) (callK_retS (run_pan_at (⟨rfl, (show tk ≤ tkj2 by omega), rfl⟩)))
    ·replace hM := ite_f hb13 hM
     refine run_skip ?_
     refine run_seq ?_
     refine run_draw [.loc 2] (n := 12) mixed rfl (by intro x hx; simp only [List.mem_cons, List.not_mem_nil, or_false] at hx; rcases hx with rfl <;> rfl) ?_
     refine AAny.take (i := 0) rfl (by kernel_rfl) (by kernel_rfl) (by kernel_rfl) rfl rfl (ltb rfl) ((fieldAddr_step hG rfl rfl rfl rfl rfl).rd _) ?_
     refine AAny.take (i := 1) rfl (by kernel_rfl) (by kernel_rfl) (by kernel_rfl) rfl rfl (ltb rfl) (aload_rd hG rfl rfl rfl (by first | (simp [ldok]; done) | exact List.not_mem_nil | trivial)) ?_
     obtain ⟨y14, hy15, hM⟩ := bind_t hM
     obtain ⟨k16, n16, s16, q16, f16, ks16, rfl, hc17, hi18⟩ := tidx (ks := ks1) hy15
     refine AAny.take (i := 2) rfl (by kernel_rfl) (by kernel_rfl) (by kernel_rfl) rfl rfl (ltb rfl) ((indexImm_step hG rfl rfl rfl hi18 rfl rfl rfl rfl hc17).rd _) ?_
     refine AAny.take (i := 3) rfl (by kernel_rfl) (by kernel_rfl) (by kernel_rfl) rfl rfl (ltb rfl) (aload_rd hG rfl rfl rfl (by first | (simp [ldok]; done) | exact List.not_mem_nil | trivial)) ?_
     refine AAny.take (i := 5) rfl (by kernel_rfl) (by kernel_rfl) (by kernel_rfl) rfl rfl (ltb rfl) ((fieldAddr_step hG rfl rfl rfl rfl rfl).rd _) ?_
     refine AAny.take (i := 6) rfl (by kernel_rfl) (by kernel_rfl) (by kernel_rfl) rfl rfl (ltb rfl) (aload_rd hG rfl rfl rfl (by first | (simp [ldok]; done) | exact List.not_mem_nil | trivial)) ?_
     obtain ⟨y19, hy20, hM⟩ := bind_t hM
     obtain ⟨k21, n21, s21, q21, f21, ks21, rfl, hc22, hi23⟩ := tidx (ks := ks1) hy20
     refine AAny.take (i := 7) rfl (by kernel_rfl) (by kernel_rfl) (by kernel_rfl) rfl rfl (ltb rfl) ((indexImm_step hG rfl rfl rfl hi23 rfl rfl rfl rfl hc22).rd _) ?_
     refine AAny.take (i := 8) rfl (by kernel_rfl) (by kernel_rfl) (by kernel_rfl) rfl rfl (ltb rfl) (aload_rd hG rfl rfl rfl (by first | (simp [ldok]; done) | exact List.not_mem_nil | trivial)) ?_
     obtain ⟨z29, hg25, hM⟩ := zb_t hM
     refine AAny.one (i := 4) (by kernel_rfl) (AOp.call rfl rfl rfl rfl (ltb rfl) rfl rfl rfl (fun _ h => absurd h List.not_mem_nil) (fun _ h => absurd h List.not_mem_nil) (ih_i_readType k16 n16 s16 q16 f16 ks16 hg25 _ _) (callK_retZ (fun r24 v tk26 hz32 (hle27 : tkj2 ≤ tk26) h28 => ?_) (fun c p tk26 hz (_ : tkj2 ≤ tk26) => by subst hz; obtain rfl := bd_stop hM; exact run_pan_at (⟨rfl, (show tk ≤ tk26 by omega), rfl⟩))))
     subst hz32
     replace hM := bd_ok hM
     obtain ⟨k30, n30, q30, f30, ks30, rfl, rfl, hf31⟩ := h28
     obtain ⟨z38, hg34, hM⟩ := zb_t hM
     refine AAny.one (i := 9) (by kernel_rfl) (AOp.call rfl rfl rfl rfl (ltb rfl) rfl rfl rfl (fun _ h => absurd h List.not_mem_nil) (fun _ h => absurd h List.not_mem_nil) (ih_i_readType k21 n21 s21 q21 f21 ks21 hg34 _ _) (callK_retZ (fun r33 v tk35 hz41 (hle36 : tk26 ≤ tk35) h37 => ?_) (fun c p tk35 hz (_ : tk26 ≤ tk35) => by subst hz; obtain rfl := bd_stop hM; exact run_pan_at (⟨rfl, (show tk ≤ tk35 by omega), rfl⟩))))
     subst hz41
     replace hM := bd_ok hM
     obtain ⟨k39, n39, q39, f39, ks39, rfl, rfl, hf40⟩ := h37
     refine AAny.one (i := 10) (by kernel_rfl) (AOp.call rfl rfl rfl rfl (ltb rfl) rfl rfl rfl (fun _ h => absurd h List.not_mem_nil) (fun _ h => absurd h List.not_mem_nil) (i_function_ex k30 n30 q30 f30 ks30 k39 n39 q39 f39 ks39 _ _) (callK_retN ?_))
     skip
     refine AAny.one (i := 11) (by kernel_rfl) (AOp.step0 rfl rfl rfl (store_step hG rfl rfl rfl rfl rfl rfl rfl rfl) (by intro x hx; exact hx) ?_)
     refine AAny.done (by kernel_rfl) ?_
     refine run_ret_to ?_
     obtain rfl := some_t hM
     refine fin_x hG rfl rfl rfl (v' := .agg [.int .i64 2, .int .i64 0, .imm tk35 3 false (fcellss [LF.mk k30 n30 q30 f30 ks30, LF.mk k39 n39 q39 f39 ks39])]) (by rfl) ⟨rfl, (show tk ≤ (tk35 + 1) by omega), _, rfl, ⟨2, 0, tk35, false, [LF.mk k30 n30 q30 f30 ks30, LF.mk k39 n39 q39 f39 ks39], rfl, rfl, fun _ => (show Fr tk (tk35 + 1) _ from (show Fr tkj2 (tk35 + 1) _ from Fr.fstop (show Fr tkj2 tk35 _ from (Fr.fcons (show Fr tkj2 tk26 _ from ((show Fr tkj2 tk26 _ from hf31 rfl)).mono (by omega) (by omega)) (Fr.fcons ((show Fr tk26 tk35 _ from hf40 rfl)) (show Fr tk35 tk35 _ from Fr.nil _ _) (by omega) (by omega)) (by omega) (by omega)).mono (by omega) (by omega)) (by omega) (by omega)).mono (by omega) (by omega))⟩⟩

theorem i_readType_all : ∀ (n : Nat), (∀ (k1 : Int) (n1 : Int) (s1 : ByteArray) (q1 : Nat) (f1 : Bool) (ks1 : List LT) {r : (Rz F)}, i_readType n (T.mk k1 n1 s1 (ers ks1)) = some r → ∀ (O : Heap) (tk : Nat), ACalls Go.Proofs.Tryd.prog 57 [.agg [.int .i64 k1, .int .i64 n1, .str s1, .imm q1 4 f1 (cellss ks1)]] O tk (RetZ HT O tk r (fun r v tk' => VF true tk tk' r v)))
 | 0 => by intro k1 n1 s1 q1 f1 ks1 r hM; rw [i_readType] at hM; cases hM
 | n + 1 => have ih := i_readType_all n; i_readType_st n (ih)

theorem i_readType_ok (n : Nat) : ∀ (k1 : Int) (n1 : Int) (s1 : ByteArray) (q1 : Nat) (f1 : Bool) (ks1 : List LT) {r : (Rz F)}, i_readType n (T.mk k1 n1 s1 (ers ks1)) = some r → ∀ (O : Heap) (tk : Nat), ACalls Go.Proofs.Tryd.prog 57 [.agg [.int .i64 k1, .int .i64 n1, .str s1, .imm q1 4 f1 (cellss ks1)]] O tk (RetZ HT O tk r (fun r v tk' => VF true tk tk' r v)) := i_readType_all n

def i_badTerm (n : Nat) (x1 : T) : Option Bool :=
 (i_TermOK n x1).bind fun r2 =>
 some (!r2)

set_option maxRecDepth 100000 in
theorem i_badTerm_ok (n : Nat) : ∀ (k1 : Int) (n1 : Int) (s1 : ByteArray) (q1 : Nat) (f1 : Bool) (ks1 : List LT) {r : Bool}, i_badTerm n (T.mk k1 n1 s1 (ers ks1)) = some r → ∀ (O : Heap) (tk : Nat), ACalls Go.Proofs.Tryd.prog 42 [.agg [.int .i64 k1, .int .i64 n1, .str s1, .imm q1 4 f1 (cellss ks1)]] O tk (RetX O tk (fun v tk' => v = .bool r)) := by
 intro k1 n1 s1 q1 f1 ks1 r hM O tk
 unfold i_badTerm at hM
 refine acalls_of_run Go.Proofs.Tryd.func42 rfl rfl [] [] (Bor.nil _) [(0, .agg [.int .i64 k1, .int .i64 n1, .str s1, .imm q1 4 f1 (cellss ks1)])] (.cons (.agg _) (.nil _)) (leb rfl) (fun _ h => by cases h) (fun S0 hO htk hfz => ?_)
 refine run_sr ?_
 refine run_op rfl (box_step (d := 1) rfl rfl rfl rfl rfl) rfl (ltb rfl) ?_
 refine mvR rfl rfl rfl rfl (ltb rfl) ?_
 refine run_ops_nil ?_
 refine run_sr ?_
 refine run_ld hG rfl rfl rfl rfl rfl (ltb rfl) ?_
 obtain ⟨r2, hg3, hM⟩ := bind_t hM
 refine run_call rfl rfl rfl (ltb rfl) rfl rfl rfl (fun _ h => absurd h List.not_mem_nil) (i_TermOK_ok n k1 n1 s1 q1 f1 ks1 hg3 _ _) (callK_retX (fun v tk4 (hle5 : tk ≤ tk4) h6 => ?_))
 subst h6
 refine run_pu rfl (aun_step rfl rfl rfl) rfl (ltb rfl) ?_
 refine mvR rfl rfl rfl rfl (ltb rfl) ?_
 refine run_ops_nil ?_
 refine run_ret_to ?_
 obtain rfl := some_t hM
 refine fin_x hG rfl rfl rfl (v' := .bool (!r2)) (by rfl) ⟨rfl, (show tk ≤ tk4 by omega), _, rfl, rfl⟩

def i_DecodeType_c1__kv (n : Nat) (x1 : T) (x2 : F) : Option (Rz F) :=
 zb (i_readType n x1) fun r3 =>
 some (.ok r3)

set_option maxRecDepth 100000 in
theorem i_DecodeType_c1__kv_ok (n : Nat) : ∀ (k1 : Int) (n1 : Int) (s1 : ByteArray) (q1 : Nat) (f1 : Bool) (ks1 : List LT) (X0 : ID) (k2 : Int) (n2 : Int) (q2 : Nat) (f2 : Bool) (ks2 : List LF) {r : (Rz F)}, i_DecodeType_c1__kv n (T.mk k1 n1 s1 (ers ks1)) (F.mk k2 n2 (fers ks2)) = some r → ∀ (O : Heap) (tk : Nat), O X0 = some ⟨43, 3, true, [[.int .i64 k2, .int .i64 n2, .imm q2 3 f2 (fcellss ks2)]]⟩ → ACalls Go.Proofs.Tryd.prog 56 [.cptr [.int .i64 k1, .int .i64 n1, .str s1, .imm q1 4 f1 (cellss ks1)], .optr X0 0 0] O tk (RetVZ HT O X0 tk r (fun r v o' tk' => ∃ cs, o' = ⟨43, 3, true, [cs]⟩ ∧ VF true tk tk' r (.agg cs) ∧ v = .tup []) (fun o' => o'.up = o')) := by
 intro k1 n1 s1 q1 f1 ks1 X0 k2 n2 q2 f2 ks2 r hM O tk hX0
 unfold i_DecodeType_c1__kv at hM
 refine acalls_of_run Go.Proofs.Tryd.func56 rfl rfl [X0] [⟨43, 3, true, [[.int .i64 k2, .int .i64 n2, .imm q2 3 f2 (fcellss ks2)]]⟩] (Bor.one hX0 rfl) [(0, .cptr [.int .i64 k1, .int .i64 n1, .str s1, .imm q1 4 f1 (cellss ks1)]), (1, .optr (.bor 0) 0 0)] (.cons (.cptr _) (.cons (.bor 0 _ _ _ rfl) (.nil _))) (leb rfl) (by intro y h; simp only [List.mem_cons, List.not_mem_nil, or_false] at h; rcases h with rfl <;> simp [tch, tch0]) (fun S0 hO htk hfz => ?_)
 refine run_region ?_
 refine run_ld hG rfl rfl rfl rfl rfl (ltb rfl) ?_
 obtain ⟨z8, hg4, hM⟩ := zb_t hM
 refine run_call rfl rfl rfl (ltb rfl) rfl rfl rfl (fun _ h => absurd h List.not_mem_nil) (i_readType_ok n k1 n1 s1 q1 f1 ks1 hg4 _ _) (callK_retZ (fun r3 v tk5 hz11 (hle6 : tk ≤ tk5) h7 => ?_) (fun c p tk5 hz (_ : tk ≤ tk5) => by subst hz; obtain rfl := bd_stop hM; exact run_pan_at (⟨⟨43, 3, true, [[.int .i64 k2, .int .i64 n2, .imm q2 3 f2 (fcellss ks2)]]⟩, rfl, (show tk ≤ tk5 by omega), rfl, rfl⟩)))
 subst hz11
 replace hM := bd_ok hM
 obtain ⟨k9, n9, q9, f9, ks9, rfl, rfl, hf10⟩ := h7
 refine run_op0 rfl (store_step hG rfl rfl rfl rfl rfl rfl rfl rfl) rfl ?_
 refine run_ops_nil ?_
 show Results _ _ _ _
 obtain rfl := some_t hM
 refine fin_x hG rfl rfl rfl (v' := .tup []) (by rfl) ⟨⟨43, 3, true, [[.int .i64 k9, .int .i64 n9, .imm q9 3 f9 (fcellss ks9)]]⟩, rfl, (show tk ≤ tk5 by omega), _, rfl, ⟨_, rfl, ⟨k9, n9, q9, f9, ks9, rfl, rfl, fun _ => (show Fr tk tk5 _ from ((show Fr tk tk5 _ from hf10 rfl)).mono (by omega) (by omega))⟩, rfl⟩⟩

def i_DecodeType (n : Nat) (x1 : T) : Option (F × Int) :=
 (i_badTerm n x1).bind fun r2 =>
 if r2 = true then
  some ((F.mk 0 0 []), 1)
 else
  (i_DecodeType_c1__kv n x1 (F.mk 0 0 [])).bind fun z10 =>
  z10.cs (fun r13 =>
   if (0 != 0) = true then
    some ((F.mk 0 0 []), 0)
   else
    some (r13, 0)) (fun c19 p20 =>
   if (c19 != 0) = true then
    some ((F.mk 0 0 []), c19)
   else
    none)

set_option maxRecDepth 100000 in
theorem i_DecodeType_ok (n : Nat) : ∀ (k1 : Int) (n1 : Int) (s1 : ByteArray) (q1 : Nat) (f1 : Bool) (ks1 : List LT) {r : (F × Int)}, i_DecodeType n (T.mk k1 n1 s1 (ers ks1)) = some r → ∀ (O : Heap) (tk : Nat), ACalls Go.Proofs.Tryd.prog 19 [.agg [.int .i64 k1, .int .i64 n1, .str s1, .imm q1 4 f1 (cellss ks1)]] O tk (RetX O tk (fun v tk' => ∃ r0' r1' v0' v1', r = (r0', r1') ∧ v = .tup [v0', v1'] ∧ VF true tk tk' r0' v0' ∧ v1' = .int .i64 r1')) := by
 intro k1 n1 s1 q1 f1 ks1 r hM O tk
 unfold i_DecodeType at hM
 refine acalls_of_run Go.Proofs.Tryd.func19 rfl rfl [] [] (Bor.nil _) [(0, .agg [.int .i64 k1, .int .i64 n1, .str s1, .imm q1 4 f1 (cellss ks1)])] (.cons (.agg _) (.nil _)) (leb rfl) (fun _ h => by cases h) (fun S0 hO htk hfz => ?_)
 refine run_sr ?_
 refine run_op rfl (box_step (d := 1) rfl rfl rfl rfl rfl) rfl (ltb rfl) ?_
 refine run_op rfl (alloc_step (d := 2) hG rfl rfl rfl) rfl (ltb rfl) ?_
 refine mvR rfl rfl rfl rfl (ltb rfl) ?_
 refine run_ops_nil ?_
 refine run_seq ?_
 refine run_sr ?_
 refine run_ld hG rfl rfl rfl rfl rfl (ltb rfl) ?_
 obtain ⟨r2, hg3, hM⟩ := bind_t hM
 refine run_call rfl rfl rfl (ltb rfl) rfl rfl rfl (fun _ h => absurd h List.not_mem_nil) (i_badTerm_ok n k1 n1 s1 q1 f1 ks1 hg3 _ _) (callK_retX (fun v tk4 (hle5 : tk ≤ tk4) h6 => ?_))
 subst h6
 refine run_ops_nil ?_
 refine run_ifb rfl rfl (fun hb9 => ?_) (fun hb9 => ?_)
 ·replace hM := ite_t hb9 hM
  refine run_sr ?_
  refine run_pu rfl (build_step hG rfl (by rfl) rfl (fun h => by cases h) (by rfl)) rfl (ltb rfl) ?_
  refine run_op0 rfl (store_step hG rfl rfl rfl rfl rfl rfl rfl rfl) rfl ?_
  refine mvR rfl rfl rfl rfl (ltb rfl) ?_
  refine run_ops_nil ?_
  refine run_ret_to ?_
  obtain rfl := some_t hM
  refine fin_x hG rfl rfl rfl (v' := .tup [.agg [.int .i64 0, .int .i64 0, .imm 0 3 true (fcellss [])], .int .i64 1]) (by rfl) ⟨rfl, (show tk ≤ tk4 by omega), _, rfl, ⟨_, _, _, _, rfl, rfl, ⟨0, 0, 0, true, [], rfl, rfl, fun _ => Fr.nil _ _⟩, rfl⟩⟩
 ·replace hM := ite_f hb9 hM
  refine run_skip ?_
  refine run_sr ?_
  refine run_pu rfl (build_step hG rfl (by rfl) rfl (fun h => by cases h) (by rfl)) rfl (ltb rfl) ?_
  refine run_op rfl (alloc_step (d := 4) hG rfl rfl rfl) rfl (ltb rfl) ?_
  refine run_op0 rfl (store_step hG rfl rfl rfl rfl rfl rfl rfl rfl) rfl ?_
  refine run_ops_nil ?_
  refine run_seq ?_
  refine run_sr ?_
  refine run_sub_ops (Sub.frbox (k := 1) (env' := [(0, .agg [.int .i64 k1, .int .i64 n1, .str s1, .imm q1 4 f1 (cellss ks1)]), (1, .cptr [.int .i64 k1, .int .i64 n1, .str s1, .imm q1 4 f1 (cellss ks1)]), (2, .optr (.loc 2) 0 0), (3, .int .i64 0), (6, .agg [.int .i64 k1, .int .i64 n1, .str s1, .imm q1 4 f1 (cellss ks1)]), (7, .bool r2), (9, .agg [.int .i64 0, .int .i64 0, .imm 0 3 true []]), (4, .optr (.loc 4) 0 0)]) rfl rfl (.keep 0 _ _ rfl (.ptr 1 0 _ rfl (.keep 2 _ _ rfl (.keep 3 _ _ rfl (.keep 6 _ _ rfl (.keep 7 _ _ rfl (.keep 9 _ _ rfl (.keep 4 _ _ rfl .nil))))))))) ?_
  refine run_pu rfl (makeFunc_step (first := []) (cap := [.tmp 1, .tmp 4]) rfl rfl rfl) rfl (ltb rfl) ?_
  obtain ⟨z10, hg11, hM⟩ := bind_t hM
  refine run_call rfl rfl rfl (ltb rfl) rfl rfl rfl (fun _ h => absurd h List.not_mem_nil) (caught_vz (j := 0) rfl (K := 56) (bor := [.loc 4]) (b := [⟨43, 3, true, [[.int .i64 0, .int .i64 0, .imm 0 3 true []]]⟩]) (caps := [.cptr [.int .i64 k1, .int .i64 n1, .str s1, .imm q1 4 f1 (cellss ks1)], .optr (.loc 4) 0 0]) (caps' := [.cptr [.int .i64 k1, .int .i64 n1, .str s1, .imm q1 4 f1 (cellss ks1)], .optr (.bor 0) 0 0]) (Bor.cons rfl rfl (by decide) (Bor.nil _)) (.cons (.cptr _) (.cons (.bor 0 _ _ _ rfl) .nil)) rfl (by intro y h; simp only [List.mem_cons, List.not_mem_nil, or_false] at h; rcases h with rfl <;> simp [tch, tch0]) rfl (i_DecodeType_c1__kv_ok n k1 n1 s1 q1 f1 ks1 (.bor 0) 0 0 0 true [] hg11 _ _ rfl) (fun a v o' tk' h => by obtain ⟨_, rfl, ⟨_, _, _, _, _, ⟨⟩, rfl, _⟩, _⟩ := h; rfl)) (callK_retV_loc (k := 4) rfl (fun v o'16 tk14 (hle15 : tk4 ≤ tk14) h12 => ?_))
  rcases z10 with r13 | ⟨c19, p20⟩
  ·replace hM := cs_ok hM
   obtain ⟨rfl, _, ⟨_, rfl, ⟨k17, n17, q17, f17, ks17, ⟨⟩, rfl, hf18⟩, rfl⟩⟩ := h12
   refine run_op rfl (alloc_step (d := 5) hG rfl rfl rfl) rfl (ltb rfl) ?_
   refine run_op0 rfl (store_step hG rfl rfl rfl rfl rfl rfl rfl rfl) rfl ?_
   refine run_ops_nil ?_
   refine run_sr ?_
   refine run_pu rfl (fieldAddr_step hG rfl rfl rfl rfl rfl) rfl (ltb rfl) ?_
   refine run_ld hG rfl rfl rfl rfl rfl (ltb rfl) ?_
   refine run_bin rfl rfl rfl rfl rfl rfl rfl (ltb rfl) ?_
   refine run_ops_nil ?_
   refine run_sub_code (σ' := ⟨[(2, .optr (.loc 2) 0 0), (3, .int .i64 0), (4, .optr (.loc 4) 0 0), (5, .optr (.loc 5) 0 0), (14, .bool (0 != 0))], [(5, ⟨74, 2, true, [[.int .i64 0, .int .i64 0]]⟩), (4, ⟨43, 3, true, [[.int .i64 k17, .int .i64 n17, .imm q17 3 f17 (fcellss ks17)]]⟩), (2, ⟨43, 3, true, [[.int .i64 0, .int .i64 0, .imm 0 3 true []]]⟩)], [], O, tk14⟩) (Sub.env _ ⟨rfl, rfl, rfl, rfl, rfl, trivial⟩) ?_
   refine run_ifb rfl rfl (fun hb21 => ?_) (fun hb21 => ?_)
   ·replace hM := ite_t hb21 hM
    refine run_seq ?_
    refine run_draw [.loc 2] (n := 5) mixed rfl (by intro x hx; simp only [List.mem_cons, List.not_mem_nil, or_false] at hx; rcases hx with rfl <;> rfl) ?_
    refine AAny.take (i := 0) rfl (by kernel_rfl) (by kernel_rfl) (by kernel_rfl) rfl rfl (ltb rfl) ((build_step hG rfl (by rfl) rfl (fun h => by cases h) (by rfl)).rd _) ?_
    refine AAny.take (i := 1) rfl (by kernel_rfl) (by kernel_rfl) (by kernel_rfl) rfl rfl (ltb rfl) ((fieldAddr_step hG rfl rfl rfl rfl rfl).rd _) ?_
    refine AAny.take (i := 2) rfl (by kernel_rfl) (by kernel_rfl) (by kernel_rfl) rfl rfl (ltb rfl) (aload_rd hG rfl rfl rfl (by first | (simp [ldok]; done) | exact List.not_mem_nil | trivial)) ?_
    refine AAny.one (i := 3) (by kernel_rfl) (AOp.step0 rfl rfl rfl (store_step hG rfl rfl rfl rfl rfl rfl rfl rfl) (by intro x hx; exact hx) ?_)
    refine AAny.take (i := 4) rfl (by kernel_rfl) (by kernel_rfl) (by kernel_rfl) rfl rfl (ltb rfl) ((move_step (.inr rfl) rfl).rd _) ?_
    refine AAny.done (by kernel_rfl) ?_
    refine run_ret_to ?_
    obtain rfl := some_t hM
    refine fin_x hG rfl rfl rfl (v' := .tup [.agg [.int .i64 0, .int .i64 0, .imm 0 3 true (fcellss [])], .int .i64 0]) (by rfl) ⟨rfl, (show tk ≤ tk14 by omega), _, rfl, ⟨_, _, _, _, rfl, rfl, ⟨0, 0, 0, true, [], rfl, rfl, fun _ => Fr.nil _ _⟩, rfl⟩⟩
   ·replace hM := ite_f hb21 hM
    refine run_skip ?_
    refine run_sr ?_
    refine run_ld hG rfl rfl rfl rfl rfl (ltb rfl) ?_
    refine run_op0 rfl (store_step hG rfl rfl rfl rfl rfl rfl rfl rfl) rfl ?_
    refine mvR rfl rfl rfl rfl (ltb rfl) ?_
    refine run_ops_nil ?_
    refine run_ret_to ?_
    obtain rfl := some_t hM
    refine fin_x hG rfl rfl rfl (v' := .tup [.agg [.int .i64 k17, .int .i64 n17, .imm q17 3 f17 (fcellss ks17)], .int .i64 0]) (by rfl) ⟨rfl, (show tk ≤ tk14 by omega), _, rfl, ⟨_, _, _, _, rfl, rfl, ⟨k17, n17, q17, f17, ks17, rfl, rfl, fun _ => (show Fr tk tk14 _ from ((show Fr tk4 tk14 _ from hf18 rfl)).mono (by omega) (by omega))⟩, rfl⟩⟩
  ·replace hM := cs_stop hM
   obtain ⟨rfl, _⟩ := h12
   refine run_op rfl (alloc_step (d := 5) hG rfl rfl rfl) rfl (ltb rfl) ?_
   refine run_op0 rfl (store_step hG rfl rfl rfl rfl rfl rfl rfl rfl) rfl ?_
   refine run_ops_nil ?_
   refine run_sr ?_
   refine run_pu rfl (fieldAddr_step hG rfl rfl rfl rfl rfl) rfl (ltb rfl) ?_
   refine run_ld hG rfl rfl rfl rfl rfl (ltb rfl) ?_
   refine run_bin rfl rfl rfl rfl rfl rfl rfl (ltb rfl) ?_
   refine run_ops_nil ?_
   refine run_sub_code (σ' := ⟨[(2, .optr (.loc 2) 0 0), (3, .int .i64 0), (4, .optr (.loc 4) 0 0), (5, .optr (.loc 5) 0 0), (14, .bool (c19 != 0))], [(5, ⟨74, 2, true, [[.int .i64 c19, .int .i64 p20]]⟩), (4, o'16), (2, ⟨43, 3, true, [[.int .i64 0, .int .i64 0, .imm 0 3 true []]]⟩)], [], O, tk14⟩) (Sub.env _ ⟨rfl, rfl, rfl, rfl, rfl, trivial⟩) ?_
   refine run_ifb rfl rfl (fun hb22 => ?_) (fun hb22 => ?_)
   ·replace hM := ite_t hb22 hM
    refine run_seq ?_
    refine run_draw [.loc 2] (n := 5) mixed rfl (by intro x hx; simp only [List.mem_cons, List.not_mem_nil, or_false] at hx; rcases hx with rfl <;> rfl) ?_
    refine AAny.take (i := 0) rfl (by kernel_rfl) (by kernel_rfl) (by kernel_rfl) rfl rfl (ltb rfl) ((build_step hG rfl (by rfl) rfl (fun h => by cases h) (by rfl)).rd _) ?_
    refine AAny.take (i := 1) rfl (by kernel_rfl) (by kernel_rfl) (by kernel_rfl) rfl rfl (ltb rfl) ((fieldAddr_step hG rfl rfl rfl rfl rfl).rd _) ?_
    refine AAny.take (i := 2) rfl (by kernel_rfl) (by kernel_rfl) (by kernel_rfl) rfl rfl (ltb rfl) (aload_rd hG rfl rfl rfl (by first | (simp [ldok]; done) | exact List.not_mem_nil | trivial)) ?_
    refine AAny.one (i := 3) (by kernel_rfl) (AOp.step0 rfl rfl rfl (store_step hG rfl rfl rfl rfl rfl rfl rfl rfl) (by intro x hx; exact hx) ?_)
    refine AAny.take (i := 4) rfl (by kernel_rfl) (by kernel_rfl) (by kernel_rfl) rfl rfl (ltb rfl) ((move_step (.inr rfl) rfl).rd _) ?_
    refine AAny.done (by kernel_rfl) ?_
    refine run_ret_to ?_
    obtain rfl := some_t hM
    refine fin_x hG rfl rfl rfl (v' := .tup [.agg [.int .i64 0, .int .i64 0, .imm 0 3 true (fcellss [])], .int .i64 c19]) (by rfl) ⟨rfl, (show tk ≤ tk14 by omega), _, rfl, ⟨_, _, _, _, rfl, rfl, ⟨0, 0, 0, true, [], rfl, rfl, fun _ => Fr.nil _ _⟩, rfl⟩⟩
   ·replace hM := ite_f hb22 hM
    refine run_skip ?_
    refine run_sr ?_
    cases hM

def s_l00Digits : Nat → Int → Option ByteArray
 | 0, _ => none
 | n + 1, i1 =>
  if i1 = (-9223372036854775808) then
   some (⟨#[45, 57, 50, 50, 51, 51, 55, 50, 48, 51, 54, 56, 53, 52, 55, 55, 53, 56, 48, 56]⟩)
  else
   if i1 < 0 then
    (s_l00Digits n (IntKind.i64.wrap (0 - i1))).bind fun r4 =>
    chk ((⟨#[45]⟩ : ByteArray).size + r4.size ≤ 9223372036854775807) <|
    some ((⟨#[45]⟩ : ByteArray) ++ r4)
   else
    if i1 < 10 then
     some (bytesOf [(IntKind.u8.wrap (IntKind.i64.wrap (48 + i1)))])
    else
     (s_l00Digits n (IntKind.i64.wrap (Int.tdiv i1 10))).bind fun r13 =>
     chk (r13.size + (bytesOf [(IntKind.u8.wrap (IntKind.i64.wrap (48 + (Int.tmod i1 10))))]).size ≤ 9223372036854775807) <|
     some (r13 ++ (bytesOf [(IntKind.u8.wrap (IntKind.i64.wrap (48 + (Int.tmod i1 10))))]))

set_option maxRecDepth 100000 in
theorem s_l00Digits_st (n : Nat) (ih_s_l00Digits : ∀ (i1 : Int) {r : ByteArray}, s_l00Digits n i1 = some r → ∀ (O : Heap) (tk : Nat), ACalls Go.Proofs.Tryd.prog 97 [.int .i64 i1] O tk (RetX O tk (fun v tk' => v = .str r))) : ∀ (i1 : Int) {r : ByteArray}, s_l00Digits (n + 1) i1 = some r → ∀ (O : Heap) (tk : Nat), ACalls Go.Proofs.Tryd.prog 97 [.int .i64 i1] O tk (RetX O tk (fun v tk' => v = .str r)) := by
 intro i1 r hM O tk
 rw [s_l00Digits] at hM
 refine acalls_of_run Go.Proofs.Tryd.func97 rfl rfl [] [] (Bor.nil _) [(0, .int .i64 i1)] (.cons (entS rfl) (.nil _)) (leb rfl) (fun _ h => by cases h) (fun S0 hO htk hfz => ?_)
 refine run_sr ?_
 refine mvR rfl rfl rfl rfl (ltb rfl) ?_
 refine run_ops_nil ?_
 refine run_seq ?_
 refine run_sr ?_
 refine mvL rfl rfl rfl rfl (ltb rfl) ?_
 refine run_bin rfl rfl rfl rfl rfl rfl rfl (ltb rfl) ?_
 refine run_ops_nil ?_
 refine run_ifd rfl rfl (fun hb2 => ?_) (fun hb2 => ?_)
 ·replace hM := ite_t hb2 hM
  refine run_sr ?_
  refine mvR rfl rfl rfl rfl (ltb rfl) ?_
  refine run_ops_nil ?_
  refine run_ret_to ?_
  obtain rfl := some_t hM
  refine fin_x hG rfl rfl rfl (v' := .str ⟨#[45, 57, 50, 50, 51, 51, 55, 50, 48, 51, 54, 56, 53, 52, 55, 55, 53, 56, 48, 56]⟩) (by rfl) ⟨rfl, (show tk ≤ tk by omega), _, rfl, rfl⟩
 ·replace hM := ite_f hb2 hM
  refine run_skip ?_
  refine run_seq ?_
  refine run_sr ?_
  refine mvL rfl rfl rfl rfl (ltb rfl) ?_
  refine run_bin rfl rfl rfl rfl rfl rfl rfl (ltb rfl) ?_
  refine run_ops_nil ?_
  refine run_ifd rfl rfl (fun hb3 => ?_) (fun hb3 => ?_)
  ·replace hM := ite_t hb3 hM
   refine run_sr ?_
   refine mvL rfl rfl rfl rfl (ltb rfl) ?_
   refine run_pu rfl (aun_step rfl rfl rfl) rfl (ltb rfl) ?_
   obtain ⟨r4, hg5, hM⟩ := bind_t hM
   refine run_call rfl rfl rfl (ltb rfl) rfl rfl rfl (fun _ h => absurd h List.not_mem_nil) (ih_s_l00Digits (IntKind.i64.wrap (0 - i1)) hg5 _ _) (callK_retX (fun v tk6 (hle7 : tk ≤ tk6) h8 => ?_))
   subst h8
   obtain ⟨hc11, hM⟩ := chk_t hM
   refine run_pu rfl (strAdd_step rfl rfl rfl hc11) rfl (ltb rfl) ?_
   refine mvR rfl rfl rfl rfl (ltb rfl) ?_
   refine run_ops_nil ?_
   refine run_ret_to ?_
   obtain rfl := some_t hM
   refine fin_x hG rfl rfl rfl (v' := .str ((⟨#[45]⟩ : ByteArray) ++ r4)) (by rfl) ⟨rfl, (show tk ≤ tk6 by omega), _, rfl, rfl⟩
  ·replace hM := ite_f hb3 hM
   refine run_skip ?_
   refine run_seq ?_
   refine run_sr ?_
   refine mvL rfl rfl rfl rfl (ltb rfl) ?_
   refine run_bin rfl rfl rfl rfl rfl rfl rfl (ltb rfl) ?_
   refine run_ops_nil ?_
   refine run_ifd rfl rfl (fun hb12 => ?_) (fun hb12 => ?_)
   ·replace hM := ite_t hb12 hM
    refine run_sr ?_
    refine mvL rfl rfl rfl rfl (ltb rfl) ?_
    refine run_bin rfl rfl rfl rfl rfl rfl rfl (ltb rfl) ?_
    refine run_pu rfl (convInt_step hG rfl rfl rfl rfl rfl) rfl (ltb rfl) ?_
    refine run_op rfl (buildSlice_step (d := 16) hG rfl rfl rfl rfl rfl (by rfl) (by rfl) (by rfl) (by decide)) rfl (ltb rfl) ?_
    refine run_rd rfl (bytesStr_rd hG rfl rfl rfl (xs := [(IntKind.u8.wrap (IntKind.i64.wrap (48 + i1)))]) rfl (by simp) rfl rfl rfl rfl rfl rfl) rfl (ltb rfl) ?_
    refine mvR rfl rfl rfl rfl (ltb rfl) ?_
    refine run_ops_nil ?_
    refine run_ret_to ?_
    obtain rfl := some_t hM
    refine fin_x hG rfl rfl rfl (v' := .str (bytesOf [(IntKind.u8.wrap (IntKind.i64.wrap (48 + i1)))])) (by rfl) ⟨rfl, (show tk ≤ tk by omega), _, rfl, rfl⟩
   ·replace hM := ite_f hb12 hM
    refine run_skip ?_
    refine run_seq ?_
    refine run_draw [] (n := 11) mixed rfl (fun _ h => absurd h List.not_mem_nil) ?_
    refine AAny.take (i := 0) rfl (by kernel_rfl) (by kernel_rfl) (by kernel_rfl) rfl rfl (ltb rfl) ((move_step (.inl rfl) rfl).rd _) ?_
    refine AAny.take (i := 1) rfl (by kernel_rfl) (by kernel_rfl) (by kernel_rfl) rfl rfl (ltb rfl) ((abin_step rfl rfl rfl rfl (fun _ h => by cases h)).rd _) ?_
    refine AAny.take (i := 3) rfl (by kernel_rfl) (by kernel_rfl) (by kernel_rfl) rfl rfl (ltb rfl) ((move_step (.inl rfl) rfl).rd _) ?_
    refine AAny.take (i := 4) rfl (by kernel_rfl) (by kernel_rfl) (by kernel_rfl) rfl rfl (ltb rfl) ((abin_step rfl rfl rfl rfl (fun _ h => by cases h)).rd _) ?_
    refine AAny.take (i := 5) rfl (by kernel_rfl) (by kernel_rfl) (by kernel_rfl) rfl rfl (ltb rfl) ((abin_step rfl rfl rfl rfl (fun _ h => by cases h)).rd _) ?_
    refine AAny.take (i := 6) rfl (by kernel_rfl) (by kernel_rfl) (by kernel_rfl) rfl rfl (ltb rfl) ((convInt_step hG rfl rfl rfl rfl rfl).rd _) ?_
    refine AAny.each (rs := [2, 7]) (by kernel_rfl) (fun h => by cases h) (fun i hi => ?_)
    simp only [List.mem_cons, List.not_mem_nil, or_false] at hi
    rcases hi with rfl | rfl
    ·obtain ⟨r13, hg14, hM⟩ := bind_t hM
     refine AOp.call rfl rfl rfl rfl (ltb rfl) rfl rfl rfl (fun _ h => absurd h List.not_mem_nil) (fun _ h => absurd h List.not_mem_nil) (ih_s_l00Digits (IntKind.i64.wrap (Int.tdiv i1 10)) hg14 _ _) (callK_retX (fun v tk15 (hle16 : tk ≤ tk15) h17 => ?_))
     subst h17
     refine AAny.one (i := 7) (by kernel_rfl) (AOp.step rfl rfl rfl (ltb rfl) (buildSlice_step (d := 25) hG rfl rfl rfl rfl rfl (by rfl) (by rfl) (by rfl) (by decide)) (fun _ h => absurd h List.not_mem_nil) ?_)
     refine AAny.take (i := 8) rfl (by kernel_rfl) (by kernel_rfl) (by kernel_rfl) rfl rfl (ltb rfl) (bytesStr_rd hG rfl rfl rfl (xs := [(IntKind.u8.wrap (IntKind.i64.wrap (48 + (Int.tmod i1 10))))]) rfl (by simp) rfl rfl rfl rfl rfl rfl) ?_
     obtain ⟨hc20, hM⟩ := chk_t hM
     refine AAny.take (i := 9) rfl (by kernel_rfl) (by kernel_rfl) (by kernel_rfl) rfl rfl (ltb rfl) ((strAdd_step rfl rfl rfl hc20).rd _) ?_
     refine AAny.take (i := 10) rfl (by kernel_rfl) (by kernel_rfl) (by kernel_rfl) rfl rfl (ltb rfl) ((move_step (.inr rfl) rfl).rd _) ?_
     refine AAny.done (by kernel_rfl) ?_
     refine run_ret_to ?_
     obtain rfl := some_t hM
     refine fin_x hG rfl rfl rfl (v' := .str (r13 ++ (bytesOf [(IntKind.u8.wrap (IntKind.i64.wrap (48 + (Int.tmod i1 10))))]))) (by rfl) ⟨rfl, (show tk ≤ tk15 by omega), _, rfl, rfl⟩
    ·refine AOp.step rfl rfl rfl (ltb rfl) (buildSlice_step (d := 25) hG rfl rfl rfl rfl rfl (by rfl) (by rfl) (by rfl) (by decide)) (fun _ h => absurd h List.not_mem_nil) ?_
     refine AAny.take (i := 8) rfl (by kernel_rfl) (by kernel_rfl) (by kernel_rfl) rfl rfl (ltb rfl) (bytesStr_rd hG rfl rfl rfl (xs := [(IntKind.u8.wrap (IntKind.i64.wrap (48 + (Int.tmod i1 10))))]) rfl (by simp) rfl rfl rfl rfl rfl rfl) ?_
     obtain ⟨r21, hg22, hM⟩ := bind_t hM
     refine AAny.one (i := 2) (by kernel_rfl) (AOp.call rfl rfl rfl rfl (ltb rfl) rfl rfl rfl (fun _ h => absurd h List.not_mem_nil) (fun _ h => absurd h List.not_mem_nil) (ih_s_l00Digits (IntKind.i64.wrap (Int.tdiv i1 10)) hg22 _ _) (callK_retX (fun v tk23 (hle24 : tk ≤ tk23) h25 => ?_)))
     subst h25
     obtain ⟨hc28, hM⟩ := chk_t hM
     refine AAny.take (i := 9) rfl (by kernel_rfl) (by kernel_rfl) (by kernel_rfl) rfl rfl (ltb rfl) ((strAdd_step rfl rfl rfl hc28).rd _) ?_
     refine AAny.take (i := 10) rfl (by kernel_rfl) (by kernel_rfl) (by kernel_rfl) rfl rfl (ltb rfl) ((move_step (.inr rfl) rfl).rd _) ?_
     refine AAny.done (by kernel_rfl) ?_
     refine run_ret_to ?_
     obtain rfl := some_t hM
     refine fin_x hG rfl rfl rfl (v' := .str (r21 ++ (bytesOf [(IntKind.u8.wrap (IntKind.i64.wrap (48 + (Int.tmod i1 10))))]))) (by rfl) ⟨rfl, (show tk ≤ tk23 by omega), _, rfl, rfl⟩

theorem s_l00Digits_all : ∀ (n : Nat), (∀ (i1 : Int) {r : ByteArray}, s_l00Digits n i1 = some r → ∀ (O : Heap) (tk : Nat), ACalls Go.Proofs.Tryd.prog 97 [.int .i64 i1] O tk (RetX O tk (fun v tk' => v = .str r)))
 | 0 => by intro i1 r hM; rw [s_l00Digits] at hM; cases hM
 | n + 1 => have ih := s_l00Digits_all n; s_l00Digits_st n (ih)

theorem s_l00Digits_ok (n : Nat) : ∀ (i1 : Int) {r : ByteArray}, s_l00Digits n i1 = some r → ∀ (O : Heap) (tk : Nat), ACalls Go.Proofs.Tryd.prog 97 [.int .i64 i1] O tk (RetX O tk (fun v tk' => v = .str r)) := s_l00Digits_all n

set_option maxRecDepth 100000 in
theorem s_l09Fun_ex (k1 : Int) (n1 : Int) (q1 : Nat) (f1 : Bool) (ks1 : List LF) (k2 : Int) (n2 : Int) (q2 : Nat) (f2 : Bool) (ks2 : List LF) (O : Heap) (tk : Nat) : ACalls Go.Proofs.Tryd.prog 96 [.agg [.int .i64 k1, .int .i64 n1, .imm q1 3 f1 (fcellss ks1)], .agg [.int .i64 k2, .int .i64 n2, .imm q2 3 f2 (fcellss ks2)]] O tk (RetN O (.agg [.int .i64 2, .int .i64 0, .imm tk 3 false (fcellss [LF.mk k1 n1 q1 f1 ks1, LF.mk k2 n2 q2 f2 ks2])]) (tk + 1)) := by
 refine acalls_of_run Go.Proofs.Tryd.func96 rfl rfl [] [] (Bor.nil _) [(0, .agg [.int .i64 k1, .int .i64 n1, .imm q1 3 f1 (fcellss ks1)]), (1, .agg [.int .i64 k2, .int .i64 n2, .imm q2 3 f2 (fcellss ks2)])] (.cons (.agg _) (.cons (.agg _) (.nil _))) (leb rfl) (fun _ h => by cases h) (fun S0 hO htk hfz => ?_)
 refine run_sr ?_
 refine run_op rfl (box_step (d := 2) rfl rfl rfl rfl rfl) rfl (ltb rfl) ?_
 refine run_op rfl (box_step (d := 3) rfl rfl rfl rfl rfl) rfl (ltb rfl) ?_
 refine run_op rfl (alloc_step (d := 4) hG rfl rfl rfl) rfl (ltb rfl) ?_
 refine run_ops_nil ?_
 refine run_sr ?_
 refine run_ld hG rfl rfl rfl rfl rfl (ltb rfl) ?_
 refine run_ld hG rfl rfl rfl rfl rfl (ltb rfl) ?_
 refine run_op rfl (buildSlice_step (d := 7) hG rfl rfl rfl rfl rfl (by rfl) (by rfl) (by rfl) (by decide)) rfl (ltb rfl) ?_
 refine run_pu rfl (build_step hG rfl (by rfl) rfl (fun h => by cases h) (by rfl)) rfl (ltb rfl) ?_
 refine run_op0 rfl (store_step hG rfl rfl rfl rfl rfl rfl rfl rfl) rfl ?_
 refine run_ops_nil ?_
 refine run_ret_to ?_
 refine fin_sub (Sub.freeze (k := 7) rfl rfl) ?_
 refine fin_x hG rfl rfl rfl (v' := .agg [.int .i64 2, .int .i64 0, .imm tk 3 false (fcellss [LF.mk k1 n1 q1 f1 ks1, LF.mk k2 n2 q2 f2 ks2])]) (by rfl) ⟨rfl, rfl, rfl⟩

def s_l09TypeBack_L1 (n : Nat) (x1 : T) : Nat → Int → Option (F × Bool)
 | 0, _ => none
 | m + 1, i43 =>
  if i43 < 6 then
   (s_l00Digits n i43).bind fun r45 =>
   chk ((⟨#[98]⟩ : ByteArray).size + r45.size ≤ 9223372036854775807) <|
   if (x1.name.toList == ((⟨#[98]⟩ : ByteArray) ++ r45).toList) = true then
    some ((F.mk 1 i43 []), (((x1.kids).length : Int) == 0))
   else
    s_l09TypeBack_L1 n x1 m (IntKind.i64.wrap (i43 + 1))
  else
   some ((F.mk 0 0 []), false)

def s_l09TypeBack : Nat → T → Option (F × Bool)
 | 0, _ => none
 | n + 1, x1 =>
  if (x1.kind != 6) = true then
   some ((F.mk 0 0 []), false)
  else
   jn (
    s_l09TypeBack_L1 n x1 n 0) fun j3 =>
   if (x1.name.toList == (⟨#[97, 114, 114]⟩ : ByteArray).toList) = true then
    if ((x1.kids).length : Int) = 2 then
     (idx x1.kids 0).bind fun y6 =>
     (s_l09TypeBack n y6).bind fun r11 =>
     (idx x1.kids 1).bind fun y24 =>
     (s_l09TypeBack n y24).bind fun r29 =>
     if r11.2 = true then
      some ((F.mk 2 0 [r11.1, r29.1]), r29.2)
     else
      some ((F.mk 2 0 [r11.1, r29.1]), false)
    else
     j3
   else
    j3

set_option maxHeartbeats 2000000 in
set_option maxRecDepth 100000 in
theorem s_l09TypeBack_st (n : Nat) (ih_s_l09TypeBack : ∀ (k1 : Int) (n1 : Int) (s1 : ByteArray) (q1 : Nat) (f1 : Bool) (ks1 : List LT) {r : (F × Bool)}, s_l09TypeBack n (T.mk k1 n1 s1 (ers ks1)) = some r → ∀ (O : Heap) (tk : Nat), ACalls Go.Proofs.Tryd.prog 55 [.agg [.int .i64 k1, .int .i64 n1, .str s1, .imm q1 4 f1 (cellss ks1)]] O tk (RetX O tk (fun v tk' => ∃ r0' r1' v0' v1', r = (r0', r1') ∧ v = .tup [v0', v1'] ∧ VF true tk tk' r0' v0' ∧ v1' = .bool r1'))) : ∀ (k1 : Int) (n1 : Int) (s1 : ByteArray) (q1 : Nat) (f1 : Bool) (ks1 : List LT) {r : (F × Bool)}, s_l09TypeBack (n + 1) (T.mk k1 n1 s1 (ers ks1)) = some r → ∀ (O : Heap) (tk : Nat), ACalls Go.Proofs.Tryd.prog 55 [.agg [.int .i64 k1, .int .i64 n1, .str s1, .imm q1 4 f1 (cellss ks1)]] O tk (RetX O tk (fun v tk' => ∃ r0' r1' v0' v1', r = (r0', r1') ∧ v = .tup [v0', v1'] ∧ VF true tk tk' r0' v0' ∧ v1' = .bool r1')) := by
 intro k1 n1 s1 q1 f1 ks1 r hM O tk
 rw [s_l09TypeBack] at hM
 refine acalls_of_run Go.Proofs.Tryd.func55 rfl rfl [] [] (Bor.nil _) [(0, .agg [.int .i64 k1, .int .i64 n1, .str s1, .imm q1 4 f1 (cellss ks1)])] (.cons (.agg _) (.nil _)) (leb rfl) (fun _ h => by cases h) (fun S0 hO htk hfz => ?_)
 refine run_sr ?_
 refine run_op rfl (box_step (d := 1) rfl rfl rfl rfl rfl) rfl (ltb rfl) ?_
 refine run_op rfl (alloc_step (d := 2) hG rfl rfl rfl) rfl (ltb rfl) ?_
 refine mvR rfl rfl rfl rfl (ltb rfl) ?_
 refine run_ops_nil ?_
 refine run_seq ?_
 refine run_sr ?_
 refine run_pu rfl (fieldAddr_step hG rfl rfl rfl rfl rfl) rfl (ltb rfl) ?_
 refine run_ld hG rfl rfl rfl rfl rfl (ltb rfl) ?_
 refine run_bin rfl rfl rfl rfl rfl rfl rfl (ltb rfl) ?_
 refine run_ops_nil ?_
 refine run_ifb rfl rfl (fun hb2 => ?_) (fun hb2 => ?_)
 ·replace hM := ite_t hb2 hM
  refine run_sr ?_
  refine run_pu rfl (build_step hG rfl (by rfl) rfl (fun h => by cases h) (by rfl)) rfl (ltb rfl) ?_
  refine run_op0 rfl (store_step hG rfl rfl rfl rfl rfl rfl rfl rfl) rfl ?_
  refine mvR rfl rfl rfl rfl (ltb rfl) ?_
  refine run_ops_nil ?_
  refine run_ret_to ?_
  obtain rfl := some_t hM
  refine fin_x hG rfl rfl rfl (v' := .tup [.agg [.int .i64 0, .int .i64 0, .imm 0 3 true (fcellss [])], .bool false]) (by rfl) ⟨rfl, (show tk ≤ tk by omega), _, rfl, ⟨_, _, _, _, rfl, rfl, ⟨0, 0, 0, true, [], rfl, rfl, fun _ => Fr.nil _ _⟩, rfl⟩⟩
 ·replace hM := ite_f hb2 hM
  refine run_skip ?_
  refine run_seq ?_
  refine run_seq ?_
  obtain ⟨j3, hj56, hM⟩ := jn_t hM
  refine run_cutL [.code _, .code _] (fun σ' => ∃ (tkj3 : Nat), tk ≤ tkj3 ∧ j3 = some r ∧ Sub ⟨Go.Proofs.Tryd.prog, S0, Go.Proofs.Tryd.f55.ntmps, [], fun _ => False, []⟩ σ' ⟨[(1, .optr (.loc 1) 0 0), (2, .optr (.loc 2) 0 0), (3, .bool false)], [(2, ⟨43, 3, true, [[.int .i64 0, .int .i64 0, .imm 0 3 true []]]⟩), (1, ⟨34, 4, true, [[.int .i64 k1, .int .i64 n1, .str s1, .imm q1 4 f1 (cellss ks1)]]⟩)], [], O, tkj3⟩) rfl ?_ ?_
  ·refine run_region ?_
   refine run_pu rfl (fieldAddr_step hG rfl rfl rfl rfl rfl) rfl (ltb rfl) ?_
   refine run_ld hG rfl rfl rfl rfl rfl (ltb rfl) ?_
   refine run_bin rfl rfl rfl rfl rfl rfl rfl (ltb rfl) ?_
   refine mvL rfl rfl rfl rfl (ltb rfl) ?_
   refine run_splitb (i := 16) rfl (fun hb4 => ?_) (fun hb4 => ?_)
   ·replace hM := ite_t hb4 hM
    refine run_puG (on_of rfl rfl rfl rfl) (fieldAddr_step hG rfl rfl rfl rfl rfl) rfl (ltb rfl) ?_
    refine run_rdG (on_of rfl rfl rfl rfl) (aload_rd hG rfl rfl rfl (by first | (simp [ldok]; done) | exact List.not_mem_nil | trivial)) rfl (ltb rfl) ?_
    refine run_puG (on_of rfl rfl rfl rfl) (lenImm_step hG rfl rfl rfl rfl (tlen _)) rfl (ltb rfl) ?_
    refine run_puG (on_of rfl rfl rfl rfl) (abin_step rfl rfl rfl rfl (fun _ h => by cases h)) rfl (ltb rfl) ?_
    refine run_pu rfl (pick_step rfl rfl rfl) rfl (ltb rfl) ?_
    refine run_ops_nil ?_
    refine run_sub_code (σ' := ⟨[(1, .optr (.loc 1) 0 0), (2, .optr (.loc 2) 0 0), (3, .bool false), (21, .bool ((((ers ks1)).length : Int) == 2))], [(2, ⟨43, 3, true, [[.int .i64 0, .int .i64 0, .imm 0 3 true []]]⟩), (1, ⟨34, 4, true, [[.int .i64 k1, .int .i64 n1, .str s1, .imm q1 4 f1 (cellss ks1)]]⟩)], [], O, tk⟩) (Sub.env _ ⟨rfl, rfl, rfl, rfl, trivial⟩) ?_
    refine run_ifd rfl rfl (fun hb5 => ?_) (fun hb5 => ?_)
    ·replace hM := ite_t hb5 hM
     refine run_sr ?_
     refine run_pu rfl (fieldAddr_step hG rfl rfl rfl rfl rfl) rfl (ltb rfl) ?_
     refine run_ld hG rfl rfl rfl rfl rfl (ltb rfl) ?_
     obtain ⟨y6, hy7, hM⟩ := bind_t hM
     obtain ⟨k8, n8, s8, q8, f8, ks8, rfl, hc9, hi10⟩ := tidx (ks := ks1) hy7
     refine run_pu rfl (indexImm_step hG rfl rfl rfl hi10 rfl rfl rfl rfl hc9) rfl (ltb rfl) ?_
     refine run_ld hG rfl rfl rfl rfl rfl (ltb rfl) ?_
     obtain ⟨r11, hg12, hM⟩ := bind_t hM
     refine run_call rfl rfl rfl (ltb rfl) rfl rfl rfl (fun _ h => absurd h List.not_mem_nil) (ih_s_l09TypeBack k8 n8 s8 q8 f8 ks8 hg12 _ _) (callK_retX (fun v tk13 (hle14 : tk ≤ tk13) h15 => ?_))
     obtain ⟨ra20, ra21, va22, va23, rfl, rfl, ⟨k16, n16, q16, f16, ks16, rfl, rfl, hf17⟩, rfl⟩ := h15
     refine mvL rfl rfl rfl rfl (ltb rfl) ?_
     refine run_pu rfl (extract_step rfl rfl rfl) rfl (ltb rfl) ?_
     refine run_pu rfl (extract_step rfl rfl rfl) rfl (ltb rfl) ?_
     refine run_op rfl (alloc_step (d := 4) hG rfl rfl rfl) rfl (ltb rfl) ?_
     refine run_op0 rfl (store_step hG rfl rfl rfl rfl rfl rfl rfl rfl) rfl ?_
     refine mvR rfl rfl rfl rfl (ltb rfl) ?_
     refine run_ops_nil ?_
     refine run_sr ?_
     refine run_pu rfl (fieldAddr_step hG rfl rfl rfl rfl rfl) rfl (ltb rfl) ?_
     refine run_ld hG rfl rfl rfl rfl rfl (ltb rfl) ?_
     obtain ⟨y24, hy25, hM⟩ := bind_t hM
     obtain ⟨k26, n26, s26, q26, f26, ks26, rfl, hc27, hi28⟩ := tidx (ks := ks1) hy25
     refine run_pu rfl (indexImm_step hG rfl rfl rfl hi28 rfl rfl rfl rfl hc27) rfl (ltb rfl) ?_
     refine run_ld hG rfl rfl rfl rfl rfl (ltb rfl) ?_
     obtain ⟨r29, hg30, hM⟩ := bind_t hM
     refine run_call rfl rfl rfl (ltb rfl) rfl rfl rfl (fun _ h => absurd h List.not_mem_nil) (ih_s_l09TypeBack k26 n26 s26 q26 f26 ks26 hg30 _ _) (callK_retX (fun v tk31 (hle32 : tk13 ≤ tk31) h33 => ?_))
     obtain ⟨ra38, ra39, va40, va41, rfl, rfl, ⟨k34, n34, q34, f34, ks34, rfl, rfl, hf35⟩, rfl⟩ := h33
     refine mvL rfl rfl rfl rfl (ltb rfl) ?_
     refine run_pu rfl (extract_step rfl rfl rfl) rfl (ltb rfl) ?_
     refine run_pu rfl (extract_step rfl rfl rfl) rfl (ltb rfl) ?_
     refine run_op rfl (alloc_step (d := 6) hG rfl rfl rfl) rfl (ltb rfl) ?_
     refine run_op0 rfl (store_step hG rfl rfl rfl rfl rfl rfl rfl rfl) rfl ?_
     refine mvR rfl rfl rfl rfl (ltb rfl) ?_
     refine run_ops_nil ?_
     refine run_sub_code (σ' := ⟨[(1, .optr (.loc 1) 0 0), (2, .optr (.loc 2) 0 0), (3, .bool false), (4, .optr (.loc 4) 0 0), (5, .bool ra21), (6, .optr (.loc 6) 0 0), (7, .bool ra39)], [(6, ⟨43, 3, true, [[.int .i64 k34, .int .i64 n34, .imm q34 3 f34 (fcellss ks34)]]⟩), (4, ⟨43, 3, true, [[.int .i64 k16, .int .i64 n16, .imm q16 3 f16 (fcellss ks16)]]⟩), (2, ⟨43, 3, true, [[.int .i64 0, .int .i64 0, .imm 0 3 true []]]⟩), (1, ⟨34, 4, true, [[.int .i64 k1, .int .i64 n1, .str s1, .imm q1 4 f1 (cellss ks1)]]⟩)], [], O, tk31⟩) (Sub.env _ ⟨rfl, rfl, rfl, rfl, rfl, rfl, rfl, trivial⟩) ?_
     refine run_sr ?_
     refine run_ld hG rfl rfl rfl rfl rfl (ltb rfl) ?_
     refine run_ld hG rfl rfl rfl rfl rfl (ltb rfl) ?_
     refine run_call rfl rfl rfl (ltb rfl) rfl rfl rfl (fun _ h => absurd h List.not_mem_nil) (s_l09Fun_ex k16 n16 q16 f16 ks16 k34 n34 q34 f34 ks34 _ _) (callK_retN ?_)
     skip
     refine mvL rfl rfl rfl rfl (ltb rfl) ?_
     refine mvL rfl rfl rfl rfl (ltb rfl) ?_
     refine run_splitb (i := 42) rfl (fun hb42 => ?_) (fun hb42 => ?_)
     ·replace hM := ite_t hb42 hM
      refine run_puG (on_of rfl rfl rfl rfl) (move_step (.inl rfl) rfl) rfl (ltb rfl) ?_
      refine run_pu rfl (pick_step rfl rfl rfl) rfl (ltb rfl) ?_
      refine run_op0 rfl (store_step hG rfl rfl rfl rfl rfl rfl rfl rfl) rfl ?_
      refine mvR rfl rfl rfl rfl (ltb rfl) ?_
      refine run_ops_nil ?_
      refine run_ret_to ?_
      refine cut_ret ?_
      obtain rfl := some_t hM
      refine fin_x hG rfl rfl rfl (v' := .tup [.agg [.int .i64 2, .int .i64 0, .imm tk31 3 false (fcellss [LF.mk k16 n16 q16 f16 ks16, LF.mk k34 n34 q34 f34 ks34])], .bool ra39]) (by rfl) ⟨rfl, (show tk ≤ (tk31 + 1) by omega), _, rfl, ⟨_, _, _, _, rfl, rfl, ⟨2, 0, tk31, false, [LF.mk k16 n16 q16 f16 ks16, LF.mk k34 n34 q34 f34 ks34], rfl, rfl, fun _ => (show Fr tk (tk31 + 1) _ from (show Fr tk (tk31 + 1) _ from Fr.fstop (show Fr tk tk31 _ from (Fr.fcons (show Fr tk tk13 _ from ((show Fr tk tk13 _ from hf17 rfl)).mono (by omega) (by omega)) (Fr.fcons ((show Fr tk13 tk31 _ from hf35 rfl)) (show Fr tk31 tk31 _ from Fr.nil _ _) (by omega) (by omega)) (by omega) (by omega)).mono (by omega) (by omega)) (by omega) (by omega)).mono (by omega) (by omega))⟩, rfl⟩⟩
     ·replace hM := ite_f hb42 hM
      refine run_off (on_of rfl rfl rfl rfl) rfl (ltb rfl) ?_
      refine run_pu rfl (pick_step rfl rfl rfl) rfl (ltb rfl) ?_
      refine run_op0 rfl (store_step hG rfl rfl rfl rfl rfl rfl rfl rfl) rfl ?_
      refine mvR rfl rfl rfl rfl (ltb rfl) ?_
      refine run_ops_nil ?_
      refine run_ret_to ?_
      refine cut_ret ?_
      obtain rfl := some_t hM
      refine fin_x hG rfl rfl rfl (v' := .tup [.agg [.int .i64 2, .int .i64 0, .imm tk31 3 false (fcellss [LF.mk k16 n16 q16 f16 ks16, LF.mk k34 n34 q34 f34 ks34])], .bool false]) (by rfl) ⟨rfl, (show tk ≤ (tk31 + 1) by omega), _, rfl, ⟨_, _, _, _, rfl, rfl, ⟨2, 0, tk31, false, [LF.mk k16 n16 q16 f16 ks16, LF.mk k34 n34 q34 f34 ks34], rfl, rfl, fun _ => (show Fr tk (tk31 + 1) _ from (show Fr tk (tk31 + 1) _ from Fr.fstop (show Fr tk tk31 _ from (Fr.fcons (show Fr tk tk13 _ from ((show Fr tk tk13 _ from hf17 rfl)).mono (by omega) (by omega)) (Fr.fcons ((show Fr tk13 tk31 _ from hf35 rfl)) (show Fr tk31 tk31 _ from Fr.nil _ _) (by omega) (by omega)) (by omega) (by omega)).mono (by omega) (by omega)) (by omega) (by omega)).mono (by omega) (by omega))⟩, rfl⟩⟩
    ·replace hM := ite_f hb5 hM
     refine run_skip ?_
     exact ⟨tk, (show tk ≤ tk by omega), hM, Sub.env [(1, .optr (.loc 1) 0 0), (2, .optr (.loc 2) 0 0), (3, .bool false)] ⟨rfl, rfl, rfl, trivial⟩⟩
   ·replace hM := ite_f hb4 hM
    refine run_off (on_of rfl rfl rfl rfl) rfl (ltb rfl) ?_
    refine run_off (on_of rfl rfl rfl rfl) rfl (ltb rfl) ?_
    refine run_off (on_of rfl rfl rfl rfl) rfl (ltb rfl) ?_
    refine run_off (on_of rfl rfl rfl rfl) rfl (ltb rfl) ?_
    refine run_pu rfl (pick_step rfl rfl rfl) rfl (ltb rfl) ?_
    refine run_ops_nil ?_
    refine run_if rfl rfl (fun h => by cases h) (fun _ => ?_)
    refine run_skip ?_
    exact ⟨tk, (show tk ≤ tk by omega), hM, Sub.env [(1, .optr (.loc 1) 0 0), (2, .optr (.loc 2) 0 0), (3, .bool false)] ⟨rfl, rfl, rfl, trivial⟩⟩
  ·clear hM
   rintro σ' ⟨tkj3, hle55, hM, hsub⟩
   rw [hj56] at hM
   clear hj56
   refine run_sub_code hsub ?_
   refine run_seq ?_
   refine run_sr ?_
   refine mvR rfl rfl rfl rfl (ltb rfl) ?_
   refine run_ops_nil ?_
   refine run_block ?_
   refine run_rounds (fun m σ => ∃ (i43 : Int) (tks_l09TypeBack_L1 : Nat), tkj3 ≤ tks_l09TypeBack_L1 ∧ s_l09TypeBack_L1 n (T.mk k1 n1 s1 (ers ks1)) m i43 = some r ∧ σ = ⟨[(1, .optr (.loc 1) 0 0), (2, .optr (.loc 2) 0 0), (3, .bool false), (8, .int .i64 i43)], [(2, ⟨43, 3, true, [[.int .i64 0, .int .i64 0, .imm 0 3 true []]]⟩), (1, ⟨34, 4, true, [[.int .i64 k1, .int .i64 n1, .str s1, .imm q1 4 f1 (cellss ks1)]]⟩)], [], O, tks_l09TypeBack_L1⟩) n (Sub.env [(1, .optr (.loc 1) 0 0), (2, .optr (.loc 2) 0 0), (3, .bool false), (8, .int .i64 0)] ⟨rfl, rfl, rfl, rfl, trivial⟩) ⟨0, tkj3, Nat.le_refl _, hM, rfl⟩ (fun m σ hI => ?_)
   clear hM
   obtain ⟨i43, tks_l09TypeBack_L1, hle54, hM, rfl⟩ := hI
   obtain _ | m := m
   ·exact absurd hM (by rw [s_l09TypeBack_L1]; exact fun h => by cases h)
   rw [s_l09TypeBack_L1] at hM
   refine run_seq ?_
   refine run_sr ?_
   refine mvL rfl rfl rfl rfl (ltb rfl) ?_
   refine run_bin rfl rfl rfl rfl rfl rfl rfl (ltb rfl) ?_
   refine run_ops_nil ?_
   refine run_ifd rfl rfl (fun hb44 => ?_) (fun hb44 => ?_)
   ·replace hM := ite_t hb44 hM
    refine run_skip ?_
    refine run_seq ?_
    refine run_block ?_
    refine run_seq ?_
    refine run_draw [] (n := 6) mixed rfl (fun _ h => absurd h List.not_mem_nil) ?_
    refine AAny.take (i := 0) rfl (by kernel_rfl) (by kernel_rfl) (by kernel_rfl) rfl rfl (ltb rfl) ((fieldAddr_step hG rfl rfl rfl rfl rfl).rd _) ?_
    refine AAny.take (i := 1) rfl (by kernel_rfl) (by kernel_rfl) (by kernel_rfl) rfl rfl (ltb rfl) (aload_rd hG rfl rfl rfl (by first | (simp [ldok]; done) | exact List.not_mem_nil | trivial)) ?_
    refine AAny.take (i := 2) rfl (by kernel_rfl) (by kernel_rfl) (by kernel_rfl) rfl rfl (ltb rfl) ((move_step (.inl rfl) rfl).rd _) ?_
    obtain ⟨r45, hg46, hM⟩ := bind_t hM
    refine AAny.one (i := 3) (by kernel_rfl) (AOp.call rfl rfl rfl rfl (ltb rfl) rfl rfl rfl (fun _ h => absurd h List.not_mem_nil) (fun _ h => absurd h List.not_mem_nil) (s_l00Digits_ok n i43 hg46 _ _) (callK_retX (fun v tk47 (hle48 : tks_l09TypeBack_L1 ≤ tk47) h49 => ?_)))
    subst h49
    obtain ⟨hc52, hM⟩ := chk_t hM
    refine AAny.take (i := 4) rfl (by kernel_rfl) (by kernel_rfl) (by kernel_rfl) rfl rfl (ltb rfl) ((strAdd_step rfl rfl rfl hc52).rd _) ?_
    refine AAny.take (i := 5) rfl (by kernel_rfl) (by kernel_rfl) (by kernel_rfl) rfl rfl (ltb rfl) ((abin_step rfl rfl rfl rfl (fun _ h => by cases h)).rd _) ?_
    refine AAny.done (by kernel_rfl) ?_
    refine run_ifb rfl rfl (fun hb53 => ?_) (fun hb53 => ?_)
    ·replace hM := ite_t hb53 hM
     refine run_seq ?_
     refine run_draw [.loc 2] (n := 8) mixed rfl (by intro x hx; simp only [List.mem_cons, List.not_mem_nil, or_false] at hx; rcases hx with rfl <;> rfl) ?_
     refine AAny.take (i := 0) rfl (by kernel_rfl) (by kernel_rfl) (by kernel_rfl) rfl rfl (ltb rfl) ((move_step (.inl rfl) rfl).rd _) ?_
     refine AAny.take (i := 1) rfl (by kernel_rfl) (by kernel_rfl) (by kernel_rfl) rfl rfl (ltb rfl) ((build_step hG rfl (by rfl) rfl (fun h => by cases h) (by rfl)).rd _) ?_
     refine AAny.take (i := 2) rfl (by kernel_rfl) (by kernel_rfl) (by kernel_rfl) rfl rfl (ltb rfl) ((fieldAddr_step hG rfl rfl rfl rfl rfl).rd _) ?_
     refine AAny.take (i := 3) rfl (by kernel_rfl) (by kernel_rfl) (by kernel_rfl) rfl rfl (ltb rfl) (aload_rd hG rfl rfl rfl (by first | (simp [ldok]; done) | exact List.not_mem_nil | trivial)) ?_
     refine AAny.take (i := 4) rfl (by kernel_rfl) (by kernel_rfl) (by kernel_rfl) rfl rfl (ltb rfl) ((lenImm_step hG rfl rfl rfl rfl (tlen _)).rd _) ?_
     refine AAny.take (i := 5) rfl (by kernel_rfl) (by kernel_rfl) (by kernel_rfl) rfl rfl (ltb rfl) ((abin_step rfl rfl rfl rfl (fun _ h => by cases h)).rd _) ?_
     refine AAny.one (i := 6) (by kernel_rfl) (AOp.step0 rfl rfl rfl (store_step hG rfl rfl rfl rfl rfl rfl rfl rfl) (by intro x hx; exact hx) ?_)
     refine AAny.take (i := 7) rfl (by kernel_rfl) (by kernel_rfl) (by kernel_rfl) rfl rfl (ltb rfl) ((move_step (.inr rfl) rfl).rd _) ?_
     refine AAny.done (by kernel_rfl) ?_
     refine run_ret_to ?_
     obtain rfl := some_t hM
     refine fin_x hG rfl rfl rfl (v' := .tup [.agg [.int .i64 1, .int .i64 i43, .imm 0 3 true (fcellss [])], .bool ((((ers ks1)).length : Int) == 0)]) (by rfl) ⟨rfl, (show tk ≤ tk47 by omega), _, rfl, ⟨_, _, _, _, rfl, rfl, ⟨1, i43, 0, true, [], rfl, rfl, fun _ => Fr.nil _ _⟩, rfl⟩⟩
    ·replace hM := ite_f hb53 hM
     refine run_skip ?_
     refine run_blk ?_
     refine run_region ?_
     refine mvL rfl rfl rfl rfl (ltb rfl) ?_
     refine run_bin rfl rfl rfl rfl rfl rfl rfl (ltb rfl) ?_
     refine mvR rfl rfl rfl rfl (ltb rfl) ?_
     refine run_ops_nil ?_
     exact run_loop_end ⟨m, _, Nat.lt_succ_self _, ⟨(IntKind.i64.wrap (i43 + 1)), tk47, (show tkj3 ≤ tk47 by omega), hM, rfl⟩, Sub.env [(1, .optr (.loc 1) 0 0), (2, .optr (.loc 2) 0 0), (3, .bool false), (8, .int .i64 (IntKind.i64.wrap (i43 + 1)))] ⟨rfl, rfl, rfl, rfl, trivial⟩⟩
   ·replace hM := ite_f hb44 hM
    refine run_exit_to rfl ?_
    refine run_sr ?_
    refine run_pu rfl (build_step hG rfl (by rfl) rfl (fun h => by cases h) (by rfl)) rfl (ltb rfl) ?_
    refine run_op0 rfl (store_step hG rfl rfl rfl rfl rfl rfl rfl rfl) rfl ?_
    refine mvR rfl rfl rfl rfl (ltb rfl) ?_
    refine run_ops_nil ?_
    refine run_ret_to ?_
    obtain rfl := some_t hM
    refine fin_x hG rfl rfl rfl (v' := .tup [.agg [.int .i64 0, .int .i64 0, .imm 0 3 true (fcellss [])], .bool false]) (by rfl) ⟨rfl, (show tk ≤ tks_l09TypeBack_L1 by omega), _, rfl, ⟨_, _, _, _, rfl, rfl, ⟨0, 0, 0, true, [], rfl, rfl, fun _ => Fr.nil _ _⟩, rfl⟩⟩

theorem s_l09TypeBack_all : ∀ (n : Nat), (∀ (k1 : Int) (n1 : Int) (s1 : ByteArray) (q1 : Nat) (f1 : Bool) (ks1 : List LT) {r : (F × Bool)}, s_l09TypeBack n (T.mk k1 n1 s1 (ers ks1)) = some r → ∀ (O : Heap) (tk : Nat), ACalls Go.Proofs.Tryd.prog 55 [.agg [.int .i64 k1, .int .i64 n1, .str s1, .imm q1 4 f1 (cellss ks1)]] O tk (RetX O tk (fun v tk' => ∃ r0' r1' v0' v1', r = (r0', r1') ∧ v = .tup [v0', v1'] ∧ VF true tk tk' r0' v0' ∧ v1' = .bool r1')))
 | 0 => by intro k1 n1 s1 q1 f1 ks1 r hM; rw [s_l09TypeBack] at hM; cases hM
 | n + 1 => have ih := s_l09TypeBack_all n; s_l09TypeBack_st n (ih)

theorem s_l09TypeBack_ok (n : Nat) : ∀ (k1 : Int) (n1 : Int) (s1 : ByteArray) (q1 : Nat) (f1 : Bool) (ks1 : List LT) {r : (F × Bool)}, s_l09TypeBack n (T.mk k1 n1 s1 (ers ks1)) = some r → ∀ (O : Heap) (tk : Nat), ACalls Go.Proofs.Tryd.prog 55 [.agg [.int .i64 k1, .int .i64 n1, .str s1, .imm q1 4 f1 (cellss ks1)]] O tk (RetX O tk (fun v tk' => ∃ r0' r1' v0' v1', r = (r0', r1') ∧ v = .tup [v0', v1'] ∧ VF true tk tk' r0' v0' ∧ v1' = .bool r1')) := s_l09TypeBack_all n

def s_DecodeType (n : Nat) (x1 : T) : Option (F × Int) :=
 (s_TermOK n x1).bind fun r2 =>
 if (!r2) = true then
  some ((F.mk 0 0 []), 1)
 else
  (s_l09TypeBack n x1).bind fun r10 =>
  if (!r10.2) = true then
   some ((F.mk 0 0 []), 3)
  else
   some (r10.1, 0)

set_option maxRecDepth 100000 in
theorem s_DecodeType_ok (n : Nat) : ∀ (k1 : Int) (n1 : Int) (s1 : ByteArray) (q1 : Nat) (f1 : Bool) (ks1 : List LT) {r : (F × Int)}, s_DecodeType n (T.mk k1 n1 s1 (ers ks1)) = some r → ∀ (O : Heap) (tk : Nat), ACalls Go.Proofs.Tryd.prog 18 [.agg [.int .i64 k1, .int .i64 n1, .str s1, .imm q1 4 f1 (cellss ks1)]] O tk (RetX O tk (fun v tk' => ∃ r0' r1' v0' v1', r = (r0', r1') ∧ v = .tup [v0', v1'] ∧ VF true tk tk' r0' v0' ∧ v1' = .int .i64 r1')) := by
 intro k1 n1 s1 q1 f1 ks1 r hM O tk
 unfold s_DecodeType at hM
 refine acalls_of_run Go.Proofs.Tryd.func18 rfl rfl [] [] (Bor.nil _) [(0, .agg [.int .i64 k1, .int .i64 n1, .str s1, .imm q1 4 f1 (cellss ks1)])] (.cons (.agg _) (.nil _)) (leb rfl) (fun _ h => by cases h) (fun S0 hO htk hfz => ?_)
 refine run_sr ?_
 refine run_op rfl (box_step (d := 1) rfl rfl rfl rfl rfl) rfl (ltb rfl) ?_
 refine run_op rfl (alloc_step (d := 2) hG rfl rfl rfl) rfl (ltb rfl) ?_
 refine mvR rfl rfl rfl rfl (ltb rfl) ?_
 refine run_ops_nil ?_
 refine run_seq ?_
 refine run_sr ?_
 refine run_ld hG rfl rfl rfl rfl rfl (ltb rfl) ?_
 obtain ⟨r2, hg3, hM⟩ := bind_t hM
 refine run_call rfl rfl rfl (ltb rfl) rfl rfl rfl (fun _ h => absurd h List.not_mem_nil) (s_TermOK_ok n k1 n1 s1 q1 f1 ks1 hg3 _ _) (callK_retX (fun v tk4 (hle5 : tk ≤ tk4) h6 => ?_))
 subst h6
 refine run_pu rfl (aun_step rfl rfl rfl) rfl (ltb rfl) ?_
 refine run_ops_nil ?_
 refine run_ifb rfl rfl (fun hb9 => ?_) (fun hb9 => ?_)
 ·replace hM := ite_t hb9 hM
  refine run_sr ?_
  refine run_pu rfl (build_step hG rfl (by rfl) rfl (fun h => by cases h) (by rfl)) rfl (ltb rfl) ?_
  refine run_op0 rfl (store_step hG rfl rfl rfl rfl rfl rfl rfl rfl) rfl ?_
  refine mvR rfl rfl rfl rfl (ltb rfl) ?_
  refine run_ops_nil ?_
  refine run_ret_to ?_
  obtain rfl := some_t hM
  refine fin_x hG rfl rfl rfl (v' := .tup [.agg [.int .i64 0, .int .i64 0, .imm 0 3 true (fcellss [])], .int .i64 1]) (by rfl) ⟨rfl, (show tk ≤ tk4 by omega), _, rfl, ⟨_, _, _, _, rfl, rfl, ⟨0, 0, 0, true, [], rfl, rfl, fun _ => Fr.nil _ _⟩, rfl⟩⟩
 ·replace hM := ite_f hb9 hM
  refine run_skip ?_
  refine run_sr ?_
  refine run_ld hG rfl rfl rfl rfl rfl (ltb rfl) ?_
  obtain ⟨r10, hg11, hM⟩ := bind_t hM
  refine run_call rfl rfl rfl (ltb rfl) rfl rfl rfl (fun _ h => absurd h List.not_mem_nil) (s_l09TypeBack_ok n k1 n1 s1 q1 f1 ks1 hg11 _ _) (callK_retX (fun v tk12 (hle13 : tk4 ≤ tk12) h14 => ?_))
  obtain ⟨ra19, ra20, va21, va22, rfl, rfl, ⟨k15, n15, q15, f15, ks15, rfl, rfl, hf16⟩, rfl⟩ := h14
  refine mvL rfl rfl rfl rfl (ltb rfl) ?_
  refine run_pu rfl (extract_step rfl rfl rfl) rfl (ltb rfl) ?_
  refine run_pu rfl (extract_step rfl rfl rfl) rfl (ltb rfl) ?_
  refine run_op rfl (alloc_step (d := 4) hG rfl rfl rfl) rfl (ltb rfl) ?_
  refine run_op0 rfl (store_step hG rfl rfl rfl rfl rfl rfl rfl rfl) rfl ?_
  refine mvR rfl rfl rfl rfl (ltb rfl) ?_
  refine run_ops_nil ?_
  refine run_sub_code (σ' := ⟨[(2, .optr (.loc 2) 0 0), (3, .int .i64 0), (4, .optr (.loc 4) 0 0), (5, .bool ra20)], [(4, ⟨43, 3, true, [[.int .i64 k15, .int .i64 n15, .imm q15 3 f15 (fcellss ks15)]]⟩), (2, ⟨43, 3, true, [[.int .i64 0, .int .i64 0, .imm 0 3 true []]]⟩)], [], O, tk12⟩) (Sub.trans (Sub.drop (k := 1) rfl) (Sub.env _ ⟨rfl, rfl, rfl, rfl, trivial⟩)) ?_
  refine run_seq ?_
  refine run_sr ?_
  refine mvL rfl rfl rfl rfl (ltb rfl) ?_
  refine run_pu rfl (aun_step rfl rfl rfl) rfl (ltb rfl) ?_
  refine run_ops_nil ?_
  refine run_ifb rfl rfl (fun hb23 => ?_) (fun hb23 => ?_)
  ·replace hM := ite_t hb23 hM
   refine run_sr ?_
   refine run_pu rfl (build_step hG rfl (by rfl) rfl (fun h => by cases h) (by rfl)) rfl (ltb rfl) ?_
   refine run_op0 rfl (store_step hG rfl rfl rfl rfl rfl rfl rfl rfl) rfl ?_
   refine mvR rfl rfl rfl rfl (ltb rfl) ?_
   refine run_ops_nil ?_
   refine run_ret_to ?_
   obtain rfl := some_t hM
   refine fin_x hG rfl rfl rfl (v' := .tup [.agg [.int .i64 0, .int .i64 0, .imm 0 3 true (fcellss [])], .int .i64 3]) (by rfl) ⟨rfl, (show tk ≤ tk12 by omega), _, rfl, ⟨_, _, _, _, rfl, rfl, ⟨0, 0, 0, true, [], rfl, rfl, fun _ => Fr.nil _ _⟩, rfl⟩⟩
  ·replace hM := ite_f hb23 hM
   refine run_skip ?_
   refine run_sr ?_
   refine run_ld hG rfl rfl rfl rfl rfl (ltb rfl) ?_
   refine run_op0 rfl (store_step hG rfl rfl rfl rfl rfl rfl rfl rfl) rfl ?_
   refine mvR rfl rfl rfl rfl (ltb rfl) ?_
   refine run_ops_nil ?_
   refine run_ret_to ?_
   obtain rfl := some_t hM
   refine fin_x hG rfl rfl rfl (v' := .tup [.agg [.int .i64 k15, .int .i64 n15, .imm q15 3 f15 (fcellss ks15)], .int .i64 0]) (by rfl) ⟨rfl, (show tk ≤ tk12 by omega), _, rfl, ⟨_, _, _, _, rfl, rfl, ⟨k15, n15, q15, f15, ks15, rfl, rfl, fun _ => (show Fr tk tk12 _ from ((show Fr tk4 tk12 _ from hf16 rfl)).mono (by omega) (by omega))⟩, rfl⟩⟩

end Go.Am.YtiobknkpdkkikaaDoor
