/- Printed by a program of ours: Lean functions that do what the Go functions do, and the contracts. -/
import Derived.Test.YtoajlhhalpldfaaGreatDoorMl0
import Derived.Test.YtoajlhhalpldfaaGreatDoorMl2
import Derived.Test.YtoajlhhalpldfaaGreatDoorMb1
import Derived.Test.YtoajlhhalpldfaaGreatDoorMb3
import Derived.Test.YtoajlhhalpldfaaGreatDoorTypes
import Derived.Test.YtoajlhhalpldfaaGreatDoorMi4
import Derived.Test.YtoajlhhalpldfaaGreatDoorMc1
import Derived.Test.YtoajlhhalpldfaaGreatDoorMz
import Derived.Test.YtoajlhhalpldfaaGreatDoorMt
import Derived.Test.YtoajlhhalpldfaaGreatDoorDkOccurs
-- packed
namespace Go.Am.YtoajlhhalpldfaaGreatDoor
open Go Go.Am

def s_l02Closed_L1 (rec_s_l02Closed : T → Int → Option Bool) (x1 : T) (i2 : Int) : Nat → Int → Option Bool
 | 0, _ => none
 | m + 1, i6 =>
  if i6 < ((x1.kids).length : Int) then
   (idx x1.kids i6).bind fun y8 =>
   (s_l01Under x1 i6).bind fun r13 =>
   (rec_s_l02Closed y8 (IntKind.i64.wrap (i2 + r13))).bind fun r20 =>
   if (!r20) = true then
    some false
   else
    s_l02Closed_L1 rec_s_l02Closed x1 i2 m (IntKind.i64.wrap (i6 + 1))
  else
   some true

def s_l02Closed : Nat → T → Int → Option Bool
 | 0, _, _ => none
 | n + 1, x1, i2 =>
  jn (
   s_l02Closed_L1 (s_l02Closed n) x1 i2 n 0) fun j3 =>
  if x1.kind = 5 then
   if x1.n ≥ i2 then
    some false
   else
    j3
  else
   j3

def s_l02Closed_P (n : Nat) : Prop := ∀ (k1 : Int) (n1 : Int) (s1 : ByteArray) (q1 : Nat) (f1 : Bool) (ks1 : List LT) (i2 : Int) {r : Bool}, s_l02Closed n (T.mk k1 n1 s1 (ers ks1)) i2 = some r → ∀ (O : Heap) (tk : Nat), ACalls Go.Proofs.Tryz.prog 41 [.agg [.int .i64 k1, .int .i64 n1, .str s1, .imm q1 4 f1 (cellss ks1)], .int .i64 i2] O tk (RetX O tk (fun v tk' => v = .bool r))

set_option maxRecDepth 100000 in
theorem s_l02Closed_st (n : Nat) (ih_s_l02Closed : s_l02Closed_P n) : s_l02Closed_P (n + 1) := by
 intro k1 n1 s1 q1 f1 ks1 i2 r hM O tk
 rw [s_l02Closed] at hM
 refine acalls_of_run Go.Proofs.Tryz.func41 rfl rfl [] [] (Bor.nil _) [(0, .agg [.int .i64 k1, .int .i64 n1, .str s1, .imm q1 4 f1 (cellss ks1)]), (1, .int .i64 i2)] (.cons (.agg _) (.cons (entS rfl) (.nil _))) (leb rfl) (fun _ h => by cases h) (fun S0 hO htk hfz => ?_)
 refine run_sr ?_
 refine run_op rfl (box_step (d := 2) rfl rfl rfl rfl rfl) rfl (ltb rfl) ?_
 refine yR rfl ?_
 refine yN ?_
 refine run_seq ?_
 refine run_seq ?_
 obtain ⟨j3, hj30, hM⟩ := jn_t hM
 refine run_cutL [.code _, .code _] (fun σ' => ∃ (tkj3 : Nat), tk ≤ tkj3 ∧ j3 = some r ∧ Sub ⟨Go.Proofs.Tryz.prog, S0, Go.Proofs.Tryz.f41.ntmps, [], fun _ => False, []⟩ σ' ⟨[(1, .int .i64 i2), (2, .optr (.loc 2) 0 0), (4, .bool false)], [(2, ⟨27, 4, true, [[.int .i64 k1, .int .i64 n1, .str s1, .imm q1 4 f1 (cellss ks1)]]⟩)], [], O, tkj3⟩) rfl ?_ ?_
 ·refine run_region ?_
  refine yF hG rfl ?_
  refine yD hG rfl ?_
  refine yB rfl ?_
  refine yL rfl ?_
  refine run_splitd (i := 9) rfl (fun hb4 => ?_) (fun hb4 => ?_)
  ·replace hM := ite_t hb4 hM
   refine run_puG (on_of rfl rfl rfl rfl) (fieldAddr_step hG rfl rfl rfl rfl rfl) rfl (ltb rfl) ?_
   refine run_rdG (on_of rfl rfl rfl rfl) (aload_rd hG rfl rfl rfl (by first | (simp [ldok]; done) | exact List.not_mem_nil | trivial)) rfl (ltb rfl) ?_
   refine run_puG (on_of rfl rfl rfl rfl) (move_step (.inl rfl) rfl) rfl (ltb rfl) ?_
   refine run_puG (on_of rfl rfl rfl rfl) (abin_step rfl rfl rfl rfl (fun _ h => by cases h)) rfl (ltb rfl) ?_
   refine yP rfl ?_
   refine yN ?_
   refine run_ifd rfl rfl (fun hb5 => ?_) (fun hb5 => ?_)
   ·replace hM := ite_t hb5 hM
    refine run_sr ?_
    refine yR rfl ?_
    refine yN ?_
    refine run_ret_to ?_
    refine cut_ret ?_
    replace hM := some_t hM
    subst hM
    refine fin_x hG rfl rfl rfl (v' := .bool false) (by rfl) ⟨rfl, (show tk ≤ tk by omega), _, rfl, rfl⟩
   replace hM := ite_f hb5 hM
   refine run_skip ?_
   exact ⟨tk, (show tk ≤ tk by omega), hM, Sub.pk [1, 2, 4] rfl⟩
  replace hM := ite_f hb4 hM
  refine yO rfl ?_
  refine yO rfl ?_
  refine yO rfl ?_
  refine yO rfl ?_
  refine yP rfl ?_
  refine yN ?_
  refine run_if rfl rfl (fun h => by cases h) (fun _ => ?_)
  refine run_skip ?_
  exact ⟨tk, (show tk ≤ tk by omega), hM, Sub.pk [1, 2, 4] rfl⟩
 clear hM
 rintro σ' ⟨tkj3, hle29, hM, hsub⟩
 rw [hj30] at hM
 clear hj30
 refine run_sub_code hsub ?_
 refine run_seq ?_
 refine run_sr ?_
 refine yR rfl ?_
 refine yN ?_
 refine run_block ?_
 refine run_rounds (fun m σ => ∃ (i6 : Int) (tks_l02Closed_L1 : Nat), tkj3 ≤ tks_l02Closed_L1 ∧ s_l02Closed_L1 (s_l02Closed n) (T.mk k1 n1 s1 (ers ks1)) i2 m i6 = some r ∧ σ = ⟨[(1, .int .i64 i2), (2, .optr (.loc 2) 0 0), (4, .bool false), (5, .int .i64 i6)], [(2, ⟨27, 4, true, [[.int .i64 k1, .int .i64 n1, .str s1, .imm q1 4 f1 (cellss ks1)]]⟩)], [], O, tks_l02Closed_L1⟩) n (Sub.pk [1, 2, 4, 5] rfl) ⟨0, tkj3, Nat.le_refl _, hM, rfl⟩ (fun m σ hI => ?_)
 clear hM
 obtain ⟨i6, tks_l02Closed_L1, hle28, hM, rfl⟩ := hI
 obtain _ | m := m
 ·exact absurd hM (by rw [s_l02Closed_L1]; exact fun h => by cases h)
 rw [s_l02Closed_L1] at hM
 refine run_seq ?_
 refine run_sr ?_
 refine yL rfl ?_
 refine yF hG rfl ?_
 refine yD hG rfl ?_
 refine run_pu rfl (lenImm_step hG rfl rfl rfl rfl (tlen _)) rfl (ltb rfl) ?_
 refine yB rfl ?_
 refine yN ?_
 refine run_ifd rfl rfl (fun hb7 => ?_) (fun hb7 => ?_)
 ·replace hM := ite_t hb7 hM
  refine run_skip ?_
  refine run_seq ?_
  refine run_block ?_
  refine run_seq ?_
  refine run_draw [] (n := 12) mixed rfl yE ?_
  refine yTF hG 0 (by kernel_rfl) rfl ?_
  refine yTL hG 1 (by kernel_rfl) rfl ?_
  refine yTV 2 (by kernel_rfl) rfl ?_
  obtain ⟨y8, hy9, hM⟩ := bind_t hM
  obtain ⟨k10, n10, s10, q10, f10, ks10, rfl, hc11, hi12⟩ := tidx (ks := ks1) hy9
  refine yT 3 (by kernel_rfl) rfl rfl rfl (ltb rfl) ((indexImm_step hG rfl rfl rfl hi12 rfl rfl rfl rfl hc11).rd _) ?_
  refine yTL hG 4 (by kernel_rfl) rfl ?_
  refine yTV 5 (by kernel_rfl) rfl ?_
  refine yTL hG 6 (by kernel_rfl) rfl ?_
  refine yTV 7 (by kernel_rfl) rfl ?_
  obtain ⟨r13, hg14, hM⟩ := bind_t hM
  refine yC 8 (by kernel_rfl) rfl rfl (s_l01Under_ok k1 n1 s1 q1 f1 ks1 i6 hg14 _ _) (callK_retX (fun v tk15 (hle16 : tks_l02Closed_L1 ≤ tk15) h17 => ?_))
  subst h17
  refine yT 9 (by kernel_rfl) rfl rfl rfl (ltb rfl) ((abin_step rfl rfl rfl rfl (fun _ h => by cases h)).rd _) ?_
  obtain ⟨r20, hg21, hM⟩ := bind_t hM
  refine yC 10 (by kernel_rfl) rfl rfl (ih_s_l02Closed k10 n10 s10 q10 f10 ks10 (IntKind.i64.wrap (i2 + r13)) hg21 _ _) (callK_retX (fun v tk22 (hle23 : tk15 ≤ tk22) h24 => ?_))
  subst h24
  refine yT 11 (by kernel_rfl) rfl rfl rfl (ltb rfl) ((aun_step rfl rfl rfl).rd _) ?_
  refine AAny.done (by kernel_rfl) ?_
  refine run_sub_code (σ' := ⟨[(1, .int .i64 i2), (2, .optr (.loc 2) 0 0), (4, .bool false), (5, .int .i64 i6), (33, .bool (!r20))], [(2, ⟨27, 4, true, [[.int .i64 k1, .int .i64 n1, .str s1, .imm q1 4 f1 (cellss ks1)]]⟩)], [], O, tk22⟩) (Sub.env _ ⟨rfl, rfl, rfl, rfl, rfl, trivial⟩) ?_
  refine run_ifb rfl rfl (fun hb27 => ?_) (fun hb27 => ?_)
  ·replace hM := ite_t hb27 hM
   refine run_sr ?_
   refine yR rfl ?_
   refine yN ?_
   refine run_ret_to ?_
   replace hM := some_t hM
   subst hM
   refine fin_x hG rfl rfl rfl (v' := .bool false) (by rfl) ⟨rfl, (show tk ≤ tk22 by omega), _, rfl, rfl⟩
  replace hM := ite_f hb27 hM
  refine run_skip ?_
  refine run_blk ?_
  refine run_region ?_
  refine yL rfl ?_
  refine yB rfl ?_
  refine yR rfl ?_
  refine yN ?_
  exact run_loop_end ⟨m, _, Nat.lt_succ_self _, ⟨(IntKind.i64.wrap (i6 + 1)), tk22, (show tkj3 ≤ tk22 by omega), hM, rfl⟩, Sub.pk [1, 2, 4, 5] rfl⟩
 replace hM := ite_f hb7 hM
 refine run_exit_to rfl ?_
 refine run_sr ?_
 refine yR rfl ?_
 refine yN ?_
 refine run_ret_to ?_
 replace hM := some_t hM
 subst hM
 refine fin_x hG rfl rfl rfl (v' := .bool true) (by rfl) ⟨rfl, (show tk ≤ tks_l02Closed_L1 by omega), _, rfl, rfl⟩

theorem s_l02Closed_all : ∀ (n : Nat), (s_l02Closed_P n)
 | 0 => by intro k1 n1 s1 q1 f1 ks1 i2 r hM; rw [s_l02Closed] at hM; cases hM
 | n + 1 => have ih := s_l02Closed_all n; s_l02Closed_st n (ih)

theorem s_l02Closed_ok (n : Nat) : s_l02Closed_P n := s_l02Closed_all n

end Go.Am.YtoajlhhalpldfaaGreatDoor
