/- Printed by a program of ours: Lean functions that do what the Go functions do, and the contracts. -/
import Derived.Test.YtoajlhhalpldfaaGreatDoorMl0
import Derived.Test.YtoajlhhalpldfaaGreatDoorTypes
import Derived.Test.YtoajlhhalpldfaaGreatDoorMkA
import Derived.Test.YtoajlhhalpldfaaGreatDoorDnName
import Derived.Test.YtoajlhhalpldfaaGreatDoorMz
-- packed
namespace Go.Am.YtoajlhhalpldfaaGreatDoor
open Go Go.Am

def s_l01Count_L1 (rec_s_l01Count : T → Int → Option Int) (x1 : T) : Nat → Int → Int → Option Int
 | 0, _, _ => none
 | m + 1, i3, i4 =>
  if i4 < ((x1.kids).length : Int) then
   if i3 ≥ 0 then
    (idx x1.kids i4).bind fun y7 =>
    (rec_s_l01Count y7 i3).bind fun r12 =>
    s_l01Count_L1 rec_s_l01Count x1 m r12 (IntKind.i64.wrap (i4 + 1))
   else
    some i3
  else
   some i3

def s_l01Count : Nat → T → Int → Option Int
 | 0, _, _ => none
 | n + 1, x1, i2 =>
  s_l01Count_L1 (s_l01Count n) x1 n (IntKind.i64.wrap (i2 - 1)) 0

def s_l01Count_P (n : Nat) : Prop := ∀ (k1 : Int) (n1 : Int) (s1 : ByteArray) (q1 : Nat) (f1 : Bool) (ks1 : List LT) (i2 : Int) {r : Int}, s_l01Count n (T.mk k1 n1 s1 (ers ks1)) i2 = some r → ∀ (O : Heap) (tk : Nat), ACalls Go.Proofs.Tryz.prog 53 [.agg [.int .i64 k1, .int .i64 n1, .str s1, .imm q1 4 f1 (cellss ks1)], .int .i64 i2] O tk (RetX O tk (fun v tk' => v = .int .i64 r))

set_option maxRecDepth 100000 in
theorem s_l01Count_st (n : Nat) (ih_s_l01Count : s_l01Count_P n) : s_l01Count_P (n + 1) := by
 intro k1 n1 s1 q1 f1 ks1 i2 r hM O tk
 rw [s_l01Count] at hM
 refine acalls_of_run Go.Proofs.Tryz.func53 rfl rfl [] [] (Bor.nil _) [(0, .agg [.int .i64 k1, .int .i64 n1, .str s1, .imm q1 4 f1 (cellss ks1)]), (1, .int .i64 i2)] (.cons (.agg _) (.cons (entS rfl) (.nil _))) (leb rfl) (fun _ h => by cases h) (fun S0 hO htk hfz => ?_)
 refine run_sr ?_
 refine run_op rfl (box_step (d := 2) rfl rfl rfl rfl rfl) rfl (ltb rfl) ?_
 refine yR rfl ?_
 refine yN ?_
 refine run_sr ?_
 refine yL rfl ?_
 refine yB rfl ?_
 refine yR rfl ?_
 refine yN ?_
 refine run_seq ?_
 refine run_sr ?_
 refine yR rfl ?_
 refine yN ?_
 refine run_block ?_
 refine run_rounds (fun m σ => ∃ (i3 : Int) (i4 : Int) (tks_l01Count_L1 : Nat), tk ≤ tks_l01Count_L1 ∧ s_l01Count_L1 (s_l01Count n) (T.mk k1 n1 s1 (ers ks1)) m i3 i4 = some r ∧ σ = ⟨[(1, .int .i64 i3), (2, .optr (.loc 2) 0 0), (4, .int .i64 0), (5, .int .i64 i4)], [(2, ⟨27, 4, true, [[.int .i64 k1, .int .i64 n1, .str s1, .imm q1 4 f1 (cellss ks1)]]⟩)], [], O, tks_l01Count_L1⟩) n (Sub.pk [1, 2, 4, 5] rfl) ⟨(IntKind.i64.wrap (i2 - 1)), 0, tk, Nat.le_refl _, hM, rfl⟩ (fun m σ hI => ?_)
 clear hM
 obtain ⟨i3, i4, tks_l01Count_L1, hle19, hM, rfl⟩ := hI
 obtain _ | m := m
 ·exact absurd hM (by rw [s_l01Count_L1]; exact fun h => by cases h)
 rw [s_l01Count_L1] at hM
 refine run_seq ?_
 refine run_sr ?_
 refine yL rfl ?_
 refine yF hG rfl ?_
 refine yD hG rfl ?_
 refine run_pu rfl (lenImm_step hG rfl rfl rfl rfl (tlen _)) rfl (ltb rfl) ?_
 refine yB rfl ?_
 refine yL rfl ?_
 refine run_splitd (i := 13) rfl (fun hb5 => ?_) (fun hb5 => ?_)
 ·replace hM := ite_t hb5 hM
  refine run_puG (on_of rfl rfl rfl rfl) (move_step (.inl rfl) rfl) rfl (ltb rfl) ?_
  refine run_puG (on_of rfl rfl rfl rfl) (abin_step rfl rfl rfl rfl (fun _ h => by cases h)) rfl (ltb rfl) ?_
  refine yP rfl ?_
  refine yN ?_
  refine run_ifd rfl rfl (fun hb6 => ?_) (fun hb6 => ?_)
  ·replace hM := ite_t hb6 hM
   refine run_skip ?_
   refine run_seq ?_
   refine run_block ?_
   refine run_region ?_
   refine yF hG rfl ?_
   refine yD hG rfl ?_
   refine yL rfl ?_
   obtain ⟨y7, hy8, hM⟩ := bind_t hM
   obtain ⟨k9, n9, s9, q9, f9, ks9, rfl, hc10, hi11⟩ := tidx (ks := ks1) hy8
   refine run_pu rfl (indexImm_step hG rfl rfl rfl hi11 rfl rfl rfl rfl hc10) rfl (ltb rfl) ?_
   refine yD hG rfl ?_
   refine yL rfl ?_
   obtain ⟨r12, hg13, hM⟩ := bind_t hM
   refine yK rfl (ih_s_l01Count k9 n9 s9 q9 f9 ks9 i3 hg13 _ _) (callK_retX (fun v tk14 (hle15 : tks_l01Count_L1 ≤ tk14) h16 => ?_))
   subst h16
   refine yR rfl ?_
   refine yN ?_
   refine run_blk ?_
   refine run_sub_code (σ' := ⟨[(1, .int .i64 r12), (2, .optr (.loc 2) 0 0), (4, .int .i64 0), (5, .int .i64 i4)], [(2, ⟨27, 4, true, [[.int .i64 k1, .int .i64 n1, .str s1, .imm q1 4 f1 (cellss ks1)]]⟩)], [], O, tk14⟩) (Sub.env _ ⟨rfl, rfl, rfl, rfl, trivial⟩) ?_
   refine run_region ?_
   refine yL rfl ?_
   refine yB rfl ?_
   refine yR rfl ?_
   refine yN ?_
   exact run_loop_end ⟨m, _, Nat.lt_succ_self _, ⟨r12, (IntKind.i64.wrap (i4 + 1)), tk14, (show tk ≤ tk14 by omega), hM, rfl⟩, Sub.pk [1, 2, 4, 5] rfl⟩
  replace hM := ite_f hb6 hM
  refine run_exit_to rfl ?_
  refine run_sr ?_
  refine yL rfl ?_
  refine yR rfl ?_
  refine yN ?_
  refine run_ret_to ?_
  replace hM := some_t hM
  subst hM
  refine fin_x hG rfl rfl rfl (v' := .int .i64 i3) (by rfl) ⟨rfl, (show tk ≤ tks_l01Count_L1 by omega), _, rfl, rfl⟩
 replace hM := ite_f hb5 hM
 refine yO rfl ?_
 refine yO rfl ?_
 refine yP rfl ?_
 refine yN ?_
 refine run_if rfl rfl (fun h => by cases h) (fun _ => ?_)
 refine run_exit_to rfl ?_
 refine run_sr ?_
 refine yL rfl ?_
 refine yR rfl ?_
 refine yN ?_
 refine run_ret_to ?_
 replace hM := some_t hM
 subst hM
 refine fin_x hG rfl rfl rfl (v' := .int .i64 i3) (by rfl) ⟨rfl, (show tk ≤ tks_l01Count_L1 by omega), _, rfl, rfl⟩

theorem s_l01Count_all : ∀ (n : Nat), (s_l01Count_P n)
 | 0 => by intro k1 n1 s1 q1 f1 ks1 i2 r hM; rw [s_l01Count] at hM; cases hM
 | n + 1 => have ih := s_l01Count_all n; s_l01Count_st n (ih)

theorem s_l01Count_ok (n : Nat) : s_l01Count_P n := s_l01Count_all n

def s_l01Small (n : Nat) (x1 : T) : Option Bool :=
 (s_l01Count n x1 150).bind fun r2 =>
 some (decide (r2 ≥ 0))

set_option maxRecDepth 100000 in
theorem s_l01Small_ok (n : Nat) : ∀ (k1 : Int) (n1 : Int) (s1 : ByteArray) (q1 : Nat) (f1 : Bool) (ks1 : List LT) {r : Bool}, s_l01Small n (T.mk k1 n1 s1 (ers ks1)) = some r → ∀ (O : Heap) (tk : Nat), ACalls Go.Proofs.Tryz.prog 36 [.agg [.int .i64 k1, .int .i64 n1, .str s1, .imm q1 4 f1 (cellss ks1)]] O tk (RetX O tk (fun v tk' => v = .bool r)) := by
 intro k1 n1 s1 q1 f1 ks1 r hM O tk
 unfold s_l01Small at hM
 refine acalls_of_run Go.Proofs.Tryz.func36 rfl rfl [] [] (Bor.nil _) [(0, .agg [.int .i64 k1, .int .i64 n1, .str s1, .imm q1 4 f1 (cellss ks1)])] (.cons (.agg _) (.nil _)) (leb rfl) (fun _ h => by cases h) (fun S0 hO htk hfz => ?_)
 refine run_sr ?_
 refine run_op rfl (box_step (d := 1) rfl rfl rfl rfl rfl) rfl (ltb rfl) ?_
 refine yR rfl ?_
 refine yN ?_
 refine run_sr ?_
 refine yD hG rfl ?_
 obtain ⟨r2, hg3, hM⟩ := bind_t hM
 refine yK rfl (s_l01Count_ok n k1 n1 s1 q1 f1 ks1 150 hg3 _ _) (callK_retX (fun v tk4 (hle5 : tk ≤ tk4) h6 => ?_))
 subst h6
 refine yB rfl ?_
 refine yR rfl ?_
 refine yN ?_
 refine run_ret_to ?_
 replace hM := some_t hM
 subst hM
 refine fin_x hG rfl rfl rfl (v' := .bool (decide (r2 ≥ 0))) (by rfl) ⟨rfl, (show tk ≤ tk4 by omega), _, rfl, rfl⟩

end Go.Am.YtoajlhhalpldfaaGreatDoor
