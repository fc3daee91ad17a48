/- Printed by a program of ours: Lean functions that do what the Go functions do, and the contracts. -/
import Derived.Test.YtoajlhhalpldfaaGreatDoorMl0
import Derived.Test.YtoajlhhalpldfaaGreatDoorMl2
import Derived.Test.YtoajlhhalpldfaaGreatDoorMb1
import Derived.Test.YtoajlhhalpldfaaGreatDoorMb3
import Derived.Test.YtoajlhhalpldfaaGreatDoorTypes
import Derived.Test.YtoajlhhalpldfaaGreatDoorMi4
import Derived.Test.YtoajlhhalpldfaaGreatDoorMc1
import Derived.Test.YtoajlhhalpldfaaGreatDoorMz
import Derived.Test.YtoajlhhalpldfaaGreatDoorMt
import Derived.Test.YtoajlhhalpldfaaGreatDoorDkB
-- packed
namespace Go.Am.YtoajlhhalpldfaaGreatDoor
open Go Go.Am

def s_l00Digits : Nat → Int → Option ByteArray
 | 0, _ => none
 | n + 1, i1 =>
  if i1 = (-9223372036854775808) then
   some (⟨#[45, 57, 50, 50, 51, 51, 55, 50, 48, 51, 54, 56, 53, 52, 55, 55, 53, 56, 48, 56]⟩)
  else
   if i1 < 0 then
    (s_l00Digits n (IntKind.i64.wrap (0 - i1))).bind fun r4 =>
    chk ((⟨#[45]⟩ : ByteArray).size + r4.size ≤ 9223372036854775807) <|
    some ((⟨#[45]⟩ : ByteArray) ++ r4)
   else
    if i1 < 10 then
     some (bytesOf [(IntKind.u8.wrap (IntKind.i64.wrap (48 + i1)))])
    else
     (s_l00Digits n (IntKind.i64.wrap (Int.tdiv i1 10))).bind fun r13 =>
     chk (r13.size + (bytesOf [(IntKind.u8.wrap (IntKind.i64.wrap (48 + (Int.tmod i1 10))))]).size ≤ 9223372036854775807) <|
     some (r13 ++ (bytesOf [(IntKind.u8.wrap (IntKind.i64.wrap (48 + (Int.tmod i1 10))))]))

def s_l00Digits_P (n : Nat) : Prop := ∀ (i1 : Int) {r : ByteArray}, s_l00Digits n i1 = some r → ∀ (O : Heap) (tk : Nat), ACalls Go.Proofs.Tryz.prog 104 [.int .i64 i1] O tk (RetX O tk (fun v tk' => v = .str r))

set_option maxRecDepth 100000 in
theorem s_l00Digits_st (n : Nat) (ih_s_l00Digits : s_l00Digits_P n) : s_l00Digits_P (n + 1) := by
 intro i1 r hM O tk
 rw [s_l00Digits] at hM
 refine acalls_of_run Go.Proofs.Tryz.func104 rfl rfl [] [] (Bor.nil _) [(0, .int .i64 i1)] (.cons (entS rfl) (.nil _)) (leb rfl) (fun _ h => by cases h) (fun S0 hO htk hfz => ?_)
 refine run_sr ?_
 refine yR rfl ?_
 refine yN ?_
 refine run_seq ?_
 refine run_sr ?_
 refine yL rfl ?_
 refine yB rfl ?_
 refine yN ?_
 refine run_ifd rfl rfl (fun hb2 => ?_) (fun hb2 => ?_)
 ·replace hM := ite_t hb2 hM
  refine run_sr ?_
  refine yR rfl ?_
  refine yN ?_
  refine run_ret_to ?_
  replace hM := some_t hM
  subst hM
  refine fin_x hG rfl rfl rfl (v' := .str ⟨#[45, 57, 50, 50, 51, 51, 55, 50, 48, 51, 54, 56, 53, 52, 55, 55, 53, 56, 48, 56]⟩) (by rfl) ⟨rfl, (show tk ≤ tk by omega), _, rfl, rfl⟩
 replace hM := ite_f hb2 hM
 refine run_skip ?_
 refine run_seq ?_
 refine run_sr ?_
 refine yL rfl ?_
 refine yB rfl ?_
 refine yN ?_
 refine run_ifd rfl rfl (fun hb3 => ?_) (fun hb3 => ?_)
 ·replace hM := ite_t hb3 hM
  refine run_sr ?_
  refine yL rfl ?_
  refine run_pu rfl (aun_step rfl rfl rfl) rfl (ltb rfl) ?_
  obtain ⟨r4, hg5, hM⟩ := bind_t hM
  refine yK rfl (ih_s_l00Digits (IntKind.i64.wrap (0 - i1)) hg5 _ _) (callK_retX (fun v tk6 (hle7 : tk ≤ tk6) h8 => ?_))
  subst h8
  obtain ⟨hc11, hM⟩ := chk_t hM
  refine run_pu rfl (strAdd_step rfl rfl rfl hc11) rfl (ltb rfl) ?_
  refine yR rfl ?_
  refine yN ?_
  refine run_ret_to ?_
  replace hM := some_t hM
  subst hM
  refine fin_x hG rfl rfl rfl (v' := .str ((⟨#[45]⟩ : ByteArray) ++ r4)) (by rfl) ⟨rfl, (show tk ≤ tk6 by omega), _, rfl, rfl⟩
 replace hM := ite_f hb3 hM
 refine run_skip ?_
 refine run_seq ?_
 refine run_sr ?_
 refine yL rfl ?_
 refine yB rfl ?_
 refine yN ?_
 refine run_ifd rfl rfl (fun hb12 => ?_) (fun hb12 => ?_)
 ·replace hM := ite_t hb12 hM
  refine run_sr ?_
  refine yL rfl ?_
  refine yB rfl ?_
  refine run_pu rfl (convInt_step hG rfl rfl rfl rfl rfl) rfl (ltb rfl) ?_
  refine run_op rfl (buildSlice_step (d := 16) hG rfl rfl rfl rfl rfl (by rfl) (by rfl) (by rfl) (by decide)) rfl (ltb rfl) ?_
  refine run_rd rfl (bytesStr_rd hG rfl rfl rfl (xs := [(IntKind.u8.wrap (IntKind.i64.wrap (48 + i1)))]) rfl (by simp) rfl rfl rfl rfl rfl rfl) rfl (ltb rfl) ?_
  refine yR rfl ?_
  refine yN ?_
  refine run_ret_to ?_
  replace hM := some_t hM
  subst hM
  refine fin_x hG rfl rfl rfl (v' := .str (bytesOf [(IntKind.u8.wrap (IntKind.i64.wrap (48 + i1)))])) (by rfl) ⟨rfl, (show tk ≤ tk by omega), _, rfl, rfl⟩
 replace hM := ite_f hb12 hM
 refine run_skip ?_
 refine run_seq ?_
 refine run_draw [] (n := 11) mixed rfl yE ?_
 refine yTV 0 (by kernel_rfl) rfl ?_
 refine yT 1 (by kernel_rfl) rfl rfl rfl (ltb rfl) ((abin_step rfl rfl rfl rfl (fun _ h => by cases h)).rd _) ?_
 refine yTV 3 (by kernel_rfl) rfl ?_
 refine yT 4 (by kernel_rfl) rfl rfl rfl (ltb rfl) ((abin_step rfl rfl rfl rfl (fun _ h => by cases h)).rd _) ?_
 refine yT 5 (by kernel_rfl) rfl rfl rfl (ltb rfl) ((abin_step rfl rfl rfl rfl (fun _ h => by cases h)).rd _) ?_
 refine yT 6 (by kernel_rfl) rfl rfl rfl (ltb rfl) ((convInt_step hG rfl rfl rfl rfl rfl).rd _) ?_
 refine AAny.each (rs := [2, 7]) (by kernel_rfl) (fun h => by cases h) (fun i hi => ?_)
 simp only [List.mem_cons, List.not_mem_nil, or_false] at hi
 rcases hi with rfl | rfl
 ·obtain ⟨r13, hg14, hM⟩ := bind_t hM
  refine yI rfl rfl (ih_s_l00Digits (IntKind.i64.wrap (Int.tdiv i1 10)) hg14 _ _) (callK_retX (fun v tk15 (hle16 : tk ≤ tk15) h17 => ?_))
  subst h17
  refine AAny.one (i := 7) (by kernel_rfl) (AOp.step rfl rfl rfl (ltb rfl) (buildSlice_step (d := 25) hG rfl rfl rfl rfl rfl (by rfl) (by rfl) (by rfl) (by decide)) yE ?_)
  refine yT 8 (by kernel_rfl) rfl rfl rfl (ltb rfl) (bytesStr_rd hG rfl rfl rfl (xs := [(IntKind.u8.wrap (IntKind.i64.wrap (48 + (Int.tmod i1 10))))]) rfl (by simp) rfl rfl rfl rfl rfl rfl) ?_
  obtain ⟨hc20, hM⟩ := chk_t hM
  refine yT 9 (by kernel_rfl) rfl rfl rfl (ltb rfl) ((strAdd_step rfl rfl rfl hc20).rd _) ?_
  refine yTW 10 (by kernel_rfl) rfl ?_
  refine AAny.done (by kernel_rfl) ?_
  refine run_ret_to ?_
  replace hM := some_t hM
  subst hM
  refine fin_x hG rfl rfl rfl (v' := .str (r13 ++ (bytesOf [(IntKind.u8.wrap (IntKind.i64.wrap (48 + (Int.tmod i1 10))))]))) (by rfl) ⟨rfl, (show tk ≤ tk15 by omega), _, rfl, rfl⟩
 refine AOp.step rfl rfl rfl (ltb rfl) (buildSlice_step (d := 25) hG rfl rfl rfl rfl rfl (by rfl) (by rfl) (by rfl) (by decide)) yE ?_
 refine yT 8 (by kernel_rfl) rfl rfl rfl (ltb rfl) (bytesStr_rd hG rfl rfl rfl (xs := [(IntKind.u8.wrap (IntKind.i64.wrap (48 + (Int.tmod i1 10))))]) rfl (by simp) rfl rfl rfl rfl rfl rfl) ?_
 obtain ⟨r21, hg22, hM⟩ := bind_t hM
 refine yC 2 (by kernel_rfl) rfl rfl (ih_s_l00Digits (IntKind.i64.wrap (Int.tdiv i1 10)) hg22 _ _) (callK_retX (fun v tk23 (hle24 : tk ≤ tk23) h25 => ?_))
 subst h25
 obtain ⟨hc28, hM⟩ := chk_t hM
 refine yT 9 (by kernel_rfl) rfl rfl rfl (ltb rfl) ((strAdd_step rfl rfl rfl hc28).rd _) ?_
 refine yTW 10 (by kernel_rfl) rfl ?_
 refine AAny.done (by kernel_rfl) ?_
 refine run_ret_to ?_
 replace hM := some_t hM
 subst hM
 refine fin_x hG rfl rfl rfl (v' := .str (r21 ++ (bytesOf [(IntKind.u8.wrap (IntKind.i64.wrap (48 + (Int.tmod i1 10))))]))) (by rfl) ⟨rfl, (show tk ≤ tk23 by omega), _, rfl, rfl⟩

theorem s_l00Digits_all : ∀ (n : Nat), (s_l00Digits_P n)
 | 0 => by intro i1 r hM; rw [s_l00Digits] at hM; cases hM
 | n + 1 => have ih := s_l00Digits_all n; s_l00Digits_st n (ih)

theorem s_l00Digits_ok (n : Nat) : s_l00Digits_P n := s_l00Digits_all n

def s_l02Level (n : Nat) (i1 : Int) : Option ByteArray :=
 (s_l00Digits n i1).bind fun r2 =>
 chk ((⟨#[120]⟩ : ByteArray).size + r2.size ≤ 9223372036854775807) <|
 some ((⟨#[120]⟩ : ByteArray) ++ r2)

set_option maxRecDepth 100000 in
theorem s_l02Level_ok (n : Nat) : ∀ (i1 : Int) {r : ByteArray}, s_l02Level n i1 = some r → ∀ (O : Heap) (tk : Nat), ACalls Go.Proofs.Tryz.prog 73 [.int .i64 i1] O tk (RetX O tk (fun v tk' => v = .str r)) := by
 intro i1 r hM O tk
 unfold s_l02Level at hM
 refine acalls_of_run Go.Proofs.Tryz.func73 rfl rfl [] [] (Bor.nil _) [(0, .int .i64 i1)] (.cons (entS rfl) (.nil _)) (leb rfl) (fun _ h => by cases h) (fun S0 hO htk hfz => ?_)
 refine run_sr ?_
 refine yR rfl ?_
 refine yN ?_
 refine run_sr ?_
 refine yL rfl ?_
 obtain ⟨r2, hg3, hM⟩ := bind_t hM
 refine yK rfl (s_l00Digits_ok n i1 hg3 _ _) (callK_retX (fun v tk4 (hle5 : tk ≤ tk4) h6 => ?_))
 subst h6
 obtain ⟨hc9, hM⟩ := chk_t hM
 refine run_pu rfl (strAdd_step rfl rfl rfl hc9) rfl (ltb rfl) ?_
 refine yR rfl ?_
 refine yN ?_
 refine run_ret_to ?_
 replace hM := some_t hM
 subst hM
 refine fin_x hG rfl rfl rfl (v' := .str ((⟨#[120]⟩ : ByteArray) ++ r2)) (by rfl) ⟨rfl, (show tk ≤ tk4 by omega), _, rfl, rfl⟩

def s_l02Bare (x1 : T) : Option Bool :=
 if (x1.kind != 4) = true then
  some (((x1.kids).length : Int) == 0)
 else
  some false

set_option maxRecDepth 100000 in
theorem s_l02Bare_ok : ∀ (k1 : Int) (n1 : Int) (s1 : ByteArray) (q1 : Nat) (f1 : Bool) (ks1 : List LT) {r : Bool}, s_l02Bare (T.mk k1 n1 s1 (ers ks1)) = some r → ∀ (O : Heap) (tk : Nat), ACalls Go.Proofs.Tryz.prog 102 [.agg [.int .i64 k1, .int .i64 n1, .str s1, .imm q1 4 f1 (cellss ks1)]] O tk (RetX O tk (fun v tk' => v = .bool r)) := by
 intro k1 n1 s1 q1 f1 ks1 r hM O tk
 unfold s_l02Bare at hM
 refine acalls_of_run Go.Proofs.Tryz.func102 rfl rfl [] [] (Bor.nil _) [(0, .agg [.int .i64 k1, .int .i64 n1, .str s1, .imm q1 4 f1 (cellss ks1)])] (.cons (.agg _) (.nil _)) (leb rfl) (fun _ h => by cases h) (fun S0 hO htk hfz => ?_)
 refine run_sr ?_
 refine run_op rfl (box_step (d := 1) rfl rfl rfl rfl rfl) rfl (ltb rfl) ?_
 refine yR rfl ?_
 refine yN ?_
 refine run_sr ?_
 refine yF hG rfl ?_
 refine yD hG rfl ?_
 refine yB rfl ?_
 refine yL rfl ?_
 refine run_splitb (i := 6) rfl (fun hb2 => ?_) (fun hb2 => ?_)
 ·replace hM := ite_t hb2 hM
  refine run_puG (on_of rfl rfl rfl rfl) (fieldAddr_step hG rfl rfl rfl rfl rfl) rfl (ltb rfl) ?_
  refine run_rdG (on_of rfl rfl rfl rfl) (aload_rd hG rfl rfl rfl (by first | (simp [ldok]; done) | exact List.not_mem_nil | trivial)) rfl (ltb rfl) ?_
  refine run_puG (on_of rfl rfl rfl rfl) (lenImm_step hG rfl rfl rfl rfl (tlen _)) rfl (ltb rfl) ?_
  refine run_puG (on_of rfl rfl rfl rfl) (abin_step rfl rfl rfl rfl (fun _ h => by cases h)) rfl (ltb rfl) ?_
  refine yP rfl ?_
  refine yR rfl ?_
  refine yN ?_
  refine run_ret_to ?_
  replace hM := some_t hM
  subst hM
  refine fin_x hG rfl rfl rfl (v' := .bool ((((ers ks1)).length : Int) == 0)) (by rfl) ⟨rfl, (show tk ≤ tk by omega), _, rfl, rfl⟩
 replace hM := ite_f hb2 hM
 refine yO rfl ?_
 refine yO rfl ?_
 refine yO rfl ?_
 refine yO rfl ?_
 refine yP rfl ?_
 refine yR rfl ?_
 refine yN ?_
 refine run_ret_to ?_
 replace hM := some_t hM
 subst hM
 refine fin_x hG rfl rfl rfl (v' := .bool false) (by rfl) ⟨rfl, (show tk ≤ tk by omega), _, rfl, rfl⟩

def s_l02Spine_L1 (rec_s_l02Term : T → Int → Option ByteArray) (l1 : List T) (i2 : Int) : Nat → ByteArray → Int → Option ByteArray
 | 0, _, _ => none
 | m + 1, t3, i4 =>
  if i4 < ((l1).length : Int) then
   (idx l1 i4).bind fun y6 =>
   (s_l02Bare y6).bind fun r11 =>
   if r11 = true then
    (idx l1 i4).bind fun y19 =>
    (rec_s_l02Term y19 i2).bind fun r24 =>
    chk ((⟨#[32]⟩ : ByteArray).size + r24.size ≤ 9223372036854775807) <|
    chk (t3.size + ((⟨#[32]⟩ : ByteArray) ++ r24).size ≤ 9223372036854775807) <|
    s_l02Spine_L1 rec_s_l02Term l1 i2 m (t3 ++ ((⟨#[32]⟩ : ByteArray) ++ r24)) (IntKind.i64.wrap (i4 + 1))
   else
    (idx l1 i4).bind fun y33 =>
    (rec_s_l02Term y33 i2).bind fun r38 =>
    chk ((⟨#[32, 40]⟩ : ByteArray).size + r38.size ≤ 9223372036854775807) <|
    chk (((⟨#[32, 40]⟩ : ByteArray) ++ r38).size + (⟨#[41]⟩ : ByteArray).size ≤ 9223372036854775807) <|
    chk (t3.size + (((⟨#[32, 40]⟩ : ByteArray) ++ r38) ++ (⟨#[41]⟩ : ByteArray)).size ≤ 9223372036854775807) <|
    s_l02Spine_L1 rec_s_l02Term l1 i2 m (t3 ++ (((⟨#[32, 40]⟩ : ByteArray) ++ r38) ++ (⟨#[41]⟩ : ByteArray))) (IntKind.i64.wrap (i4 + 1))
  else
   some t3

mutual

def s_l02Spine : Nat → List T → Int → Option ByteArray
 | 0, _, _ => none
 | n + 1, l1, i2 =>
  s_l02Spine_L1 (s_l02Term n) l1 i2 n (⟨#[]⟩) 0

def s_l02Term : Nat → T → Int → Option ByteArray
 | 0, _, _ => none
 | n + 1, x1, i2 =>
  if x1.kind = 4 then
   (idx x1.kids 0).bind fun y4 =>
   (s_l02Level n i2).bind fun r9 =>
   chk ((⟨#[91]⟩ : ByteArray).size + r9.size ≤ 9223372036854775807) <|
   chk (((⟨#[91]⟩ : ByteArray) ++ r9).size + (⟨#[93, 32]⟩ : ByteArray).size ≤ 9223372036854775807) <|
   (s_l02Term n y4 (IntKind.i64.wrap (i2 + 1))).bind fun r18 =>
   chk ((((⟨#[91]⟩ : ByteArray) ++ r9) ++ (⟨#[93, 32]⟩ : ByteArray)).size + r18.size ≤ 9223372036854775807) <|
   some ((((⟨#[91]⟩ : ByteArray) ++ r9) ++ (⟨#[93, 32]⟩ : ByteArray)) ++ r18)
  else
   if x1.kind = 5 then
    (s_l02Level n (IntKind.i64.wrap ((IntKind.i64.wrap (i2 - 1)) - x1.n))).bind fun r27 =>
    (s_l02Spine n x1.kids i2).bind fun r34 =>
    chk (r27.size + r34.size ≤ 9223372036854775807) <|
    some (r27 ++ r34)
   else
    if x1.kind = 7 then
     (s_l00Digits n x1.n).bind fun r43 =>
     chk ((⟨#[63]⟩ : ByteArray).size + r43.size ≤ 9223372036854775807) <|
     (s_l02Spine n x1.kids i2).bind fun r51 =>
     chk (((⟨#[63]⟩ : ByteArray) ++ r43).size + r51.size ≤ 9223372036854775807) <|
     some (((⟨#[63]⟩ : ByteArray) ++ r43) ++ r51)
    else
     if x1.kind = 8 then
      some (⟨#[95]⟩)
     else
      (s_l02Spine n x1.kids i2).bind fun r60 =>
      chk (x1.name.size + r60.size ≤ 9223372036854775807) <|
      some (x1.name ++ r60)

end

def s_l02Spine_P (n : Nat) : Prop := ∀ (q1 : Nat) (f1 : Bool) (ks1 : List LT) (i2 : Int) {r : ByteArray}, s_l02Spine n (ers ks1) i2 = some r → ∀ (O : Heap) (tk : Nat), ACalls Go.Proofs.Tryz.prog 71 [.imm q1 4 f1 (cellss ks1), .int .i64 i2] O tk (RetX O tk (fun v tk' => v = .str r))

set_option maxRecDepth 100000 in
theorem s_l02Spine_st (n : Nat) (ih_s_l02Term : ∀ (k1 : Int) (n1 : Int) (s1 : ByteArray) (q1 : Nat) (f1 : Bool) (ks1 : List LT) (i2 : Int) {r : ByteArray}, s_l02Term n (T.mk k1 n1 s1 (ers ks1)) i2 = some r → ∀ (O : Heap) (tk : Nat), ACalls Go.Proofs.Tryz.prog 103 [.agg [.int .i64 k1, .int .i64 n1, .str s1, .imm q1 4 f1 (cellss ks1)], .int .i64 i2] O tk (RetX O tk (fun v tk' => v = .str r))) : s_l02Spine_P (n + 1) := by
 intro q1 f1 ks1 i2 r hM O tk
 rw [s_l02Spine] at hM
 refine acalls_of_run Go.Proofs.Tryz.func71 rfl rfl [] [] (Bor.nil _) [(0, .imm q1 4 f1 (cellss ks1)), (1, .int .i64 i2)] (.cons (entS rfl) (.cons (entS rfl) (.nil _))) (leb rfl) (fun _ h => by cases h) (fun S0 hO htk hfz => ?_)
 refine run_sr ?_
 refine yR rfl ?_
 refine yN ?_
 refine run_sr ?_
 refine yR rfl ?_
 refine yN ?_
 refine run_seq ?_
 refine run_sr ?_
 refine yR rfl ?_
 refine yN ?_
 refine run_block ?_
 refine run_rounds (fun m σ => ∃ (t3 : ByteArray) (i4 : Int) (tks_l02Spine_L1 : Nat), tk ≤ tks_l02Spine_L1 ∧ s_l02Spine_L1 (s_l02Term n) (ers ks1) i2 m t3 i4 = some r ∧ σ = ⟨[(0, .imm q1 4 f1 (cellss ks1)), (1, .int .i64 i2), (4, .str ⟨#[]⟩), (5, .str t3), (6, .int .i64 i4)], [], [], O, tks_l02Spine_L1⟩) n (Sub.pk [0, 1, 4, 5, 6] rfl) ⟨⟨#[]⟩, 0, tk, Nat.le_refl _, hM, rfl⟩ (fun m σ hI => ?_)
 clear hM
 obtain ⟨t3, i4, tks_l02Spine_L1, hle48, hM, rfl⟩ := hI
 obtain _ | m := m
 ·exact absurd hM (by rw [s_l02Spine_L1]; exact fun h => by cases h)
 rw [s_l02Spine_L1] at hM
 refine run_seq ?_
 refine run_sr ?_
 refine yL rfl ?_
 refine yL rfl ?_
 refine run_pu rfl (lenImm_step hG rfl rfl rfl rfl (tlen _)) rfl (ltb rfl) ?_
 refine yB rfl ?_
 refine yN ?_
 refine run_ifd rfl rfl (fun hb5 => ?_) (fun hb5 => ?_)
 ·replace hM := ite_t hb5 hM
  refine run_skip ?_
  refine run_seq ?_
  refine run_block ?_
  refine run_sr ?_
  refine yL rfl ?_
  refine yL rfl ?_
  obtain ⟨y6, hy7, hM⟩ := bind_t hM
  obtain ⟨k8, n8, s8, q8, f8, ks8, rfl, hc9, hi10⟩ := tidx (ks := ks1) hy7
  refine run_pu rfl (indexImm_step hG rfl rfl rfl hi10 rfl rfl rfl rfl hc9) rfl (ltb rfl) ?_
  refine yD hG rfl ?_
  obtain ⟨r11, hg12, hM⟩ := bind_t hM
  refine yK rfl (s_l02Bare_ok k8 n8 s8 q8 f8 ks8 hg12 _ _) (callK_retX (fun v tk13 (hle14 : tks_l02Spine_L1 ≤ tk13) h15 => ?_))
  subst h15
  refine yN ?_
  refine run_ifb rfl rfl (fun hb18 => ?_) (fun hb18 => ?_)
  ·replace hM := ite_t hb18 hM
   refine run_region ?_
   refine yL rfl ?_
   refine yL rfl ?_
   refine yL rfl ?_
   obtain ⟨y19, hy20, hM⟩ := bind_t hM
   obtain ⟨k21, n21, s21, q21, f21, ks21, rfl, hc22, hi23⟩ := tidx (ks := ks1) hy20
   refine run_pu rfl (indexImm_step hG rfl rfl rfl hi23 rfl rfl rfl rfl hc22) rfl (ltb rfl) ?_
   refine yD hG rfl ?_
   refine yL rfl ?_
   obtain ⟨r24, hg25, hM⟩ := bind_t hM
   refine yK rfl (ih_s_l02Term k21 n21 s21 q21 f21 ks21 i2 hg25 _ _) (callK_retX (fun v tk26 (hle27 : tk13 ≤ tk26) h28 => ?_))
   subst h28
   obtain ⟨hc31, hM⟩ := chk_t hM
   refine run_pu rfl (strAdd_step rfl rfl rfl hc31) rfl (ltb rfl) ?_
   obtain ⟨hc32, hM⟩ := chk_t hM
   refine run_pu rfl (strAdd_step rfl rfl rfl hc32) rfl (ltb rfl) ?_
   refine yR rfl ?_
   refine yN ?_
   refine run_blk ?_
   refine run_sub_code (σ' := ⟨[(0, .imm q1 4 f1 (cellss ks1)), (1, .int .i64 i2), (4, .str ⟨#[]⟩), (5, .str (t3 ++ ((⟨#[32]⟩ : ByteArray) ++ r24))), (6, .int .i64 i4)], [], [], O, tk26⟩) (Sub.env _ ⟨rfl, rfl, rfl, rfl, rfl, trivial⟩) ?_
   refine run_region ?_
   refine yL rfl ?_
   refine yB rfl ?_
   refine yR rfl ?_
   refine yN ?_
   exact run_loop_end ⟨m, _, Nat.lt_succ_self _, ⟨(t3 ++ ((⟨#[32]⟩ : ByteArray) ++ r24)), (IntKind.i64.wrap (i4 + 1)), tk26, (show tk ≤ tk26 by omega), hM, rfl⟩, Sub.pk [0, 1, 4, 5, 6] rfl⟩
  replace hM := ite_f hb18 hM
  refine run_region ?_
  refine yL rfl ?_
  refine yL rfl ?_
  refine yL rfl ?_
  obtain ⟨y33, hy34, hM⟩ := bind_t hM
  obtain ⟨k35, n35, s35, q35, f35, ks35, rfl, hc36, hi37⟩ := tidx (ks := ks1) hy34
  refine run_pu rfl (indexImm_step hG rfl rfl rfl hi37 rfl rfl rfl rfl hc36) rfl (ltb rfl) ?_
  refine yD hG rfl ?_
  refine yL rfl ?_
  obtain ⟨r38, hg39, hM⟩ := bind_t hM
  refine yK rfl (ih_s_l02Term k35 n35 s35 q35 f35 ks35 i2 hg39 _ _) (callK_retX (fun v tk40 (hle41 : tk13 ≤ tk40) h42 => ?_))
  subst h42
  obtain ⟨hc45, hM⟩ := chk_t hM
  refine run_pu rfl (strAdd_step rfl rfl rfl hc45) rfl (ltb rfl) ?_
  obtain ⟨hc46, hM⟩ := chk_t hM
  refine run_pu rfl (strAdd_step rfl rfl rfl hc46) rfl (ltb rfl) ?_
  obtain ⟨hc47, hM⟩ := chk_t hM
  refine run_pu rfl (strAdd_step rfl rfl rfl hc47) rfl (ltb rfl) ?_
  refine yR rfl ?_
  refine yN ?_
  refine run_blk ?_
  refine run_sub_code (σ' := ⟨[(0, .imm q1 4 f1 (cellss ks1)), (1, .int .i64 i2), (4, .str ⟨#[]⟩), (5, .str (t3 ++ (((⟨#[32, 40]⟩ : ByteArray) ++ r38) ++ (⟨#[41]⟩ : ByteArray)))), (6, .int .i64 i4)], [], [], O, tk40⟩) (Sub.env _ ⟨rfl, rfl, rfl, rfl, rfl, trivial⟩) ?_
  refine run_region ?_
  refine yL rfl ?_
  refine yB rfl ?_
  refine yR rfl ?_
  refine yN ?_
  exact run_loop_end ⟨m, _, Nat.lt_succ_self _, ⟨(t3 ++ (((⟨#[32, 40]⟩ : ByteArray) ++ r38) ++ (⟨#[41]⟩ : ByteArray))), (IntKind.i64.wrap (i4 + 1)), tk40, (show tk ≤ tk40 by omega), hM, rfl⟩, Sub.pk [0, 1, 4, 5, 6] rfl⟩
 replace hM := ite_f hb5 hM
 refine run_exit_to rfl ?_
 refine run_sr ?_
 refine yL rfl ?_
 refine yR rfl ?_
 refine yN ?_
 refine run_ret_to ?_
 replace hM := some_t hM
 subst hM
 refine fin_x hG rfl rfl rfl (v' := .str t3) (by rfl) ⟨rfl, (show tk ≤ tks_l02Spine_L1 by omega), _, rfl, rfl⟩

set_option maxHeartbeats 20000000 in
set_option maxHeartbeats 20000000 in
set_option maxRecDepth 100000 in
theorem s_l02Term_st (n : Nat) (ih_s_l02Spine : s_l02Spine_P n) (ih_s_l02Term : ∀ (k1 : Int) (n1 : Int) (s1 : ByteArray) (q1 : Nat) (f1 : Bool) (ks1 : List LT) (i2 : Int) {r : ByteArray}, s_l02Term n (T.mk k1 n1 s1 (ers ks1)) i2 = some r → ∀ (O : Heap) (tk : Nat), ACalls Go.Proofs.Tryz.prog 103 [.agg [.int .i64 k1, .int .i64 n1, .str s1, .imm q1 4 f1 (cellss ks1)], .int .i64 i2] O tk (RetX O tk (fun v tk' => v = .str r))) : ∀ (k1 : Int) (n1 : Int) (s1 : ByteArray) (q1 : Nat) (f1 : Bool) (ks1 : List LT) (i2 : Int) {r : ByteArray}, s_l02Term (n + 1) (T.mk k1 n1 s1 (ers ks1)) i2 = some r → ∀ (O : Heap) (tk : Nat), ACalls Go.Proofs.Tryz.prog 103 [.agg [.int .i64 k1, .int .i64 n1, .str s1, .imm q1 4 f1 (cellss ks1)], .int .i64 i2] O tk (RetX O tk (fun v tk' => v = .str r)) := by
 intro k1 n1 s1 q1 f1 ks1 i2 r hM O tk
 rw [s_l02Term] at hM
 refine acalls_of_run Go.Proofs.Tryz.func103 rfl rfl [] [] (Bor.nil _) [(0, .agg [.int .i64 k1, .int .i64 n1, .str s1, .imm q1 4 f1 (cellss ks1)]), (1, .int .i64 i2)] (.cons (.agg _) (.cons (entS rfl) (.nil _))) (leb rfl) (fun _ h => by cases h) (fun S0 hO htk hfz => ?_)
 refine run_sr ?_
 refine run_op rfl (box_step (d := 2) rfl rfl rfl rfl rfl) rfl (ltb rfl) ?_
 refine yR rfl ?_
 refine yN ?_
 refine run_seq ?_
 refine run_sr ?_
 refine yF hG rfl ?_
 refine yD hG rfl ?_
 refine yN ?_
 refine run_block ?_
 refine run_sr ?_
 refine yB rfl ?_
 refine yR rfl ?_
 refine yN ?_
 refine run_ifd rfl rfl (fun hb3 => ?_) (fun hb3 => ?_)
 ·replace hM := ite_t hb3 hM
  refine run_seq ?_
  refine run_draw [] (n := 13) mixed rfl yE ?_
  refine yTV 0 (by kernel_rfl) rfl ?_
  refine yTF hG 4 (by kernel_rfl) rfl ?_
  refine yTL hG 5 (by kernel_rfl) rfl ?_
  obtain ⟨y4, hy5, hM⟩ := bind_t hM
  obtain ⟨k6, n6, s6, q6, f6, ks6, rfl, hc7, hi8⟩ := tidx (ks := ks1) hy5
  refine yT 6 (by kernel_rfl) rfl rfl rfl (ltb rfl) ((indexImm_step hG rfl rfl rfl hi8 rfl rfl rfl rfl hc7).rd _) ?_
  refine yTL hG 7 (by kernel_rfl) rfl ?_
  refine yTV 8 (by kernel_rfl) rfl ?_
  refine yT 9 (by kernel_rfl) rfl rfl rfl (ltb rfl) ((abin_step rfl rfl rfl rfl (fun _ h => by cases h)).rd _) ?_
  obtain ⟨r9, hg10, hM⟩ := bind_t hM
  refine yC 1 (by kernel_rfl) rfl rfl (s_l02Level_ok n i2 hg10 _ _) (callK_retX (fun v tk11 (hle12 : tk ≤ tk11) h13 => ?_))
  subst h13
  obtain ⟨hc16, hM⟩ := chk_t hM
  refine yT 2 (by kernel_rfl) rfl rfl rfl (ltb rfl) ((strAdd_step rfl rfl rfl hc16).rd _) ?_
  obtain ⟨hc17, hM⟩ := chk_t hM
  refine yT 3 (by kernel_rfl) rfl rfl rfl (ltb rfl) ((strAdd_step rfl rfl rfl hc17).rd _) ?_
  obtain ⟨r18, hg19, hM⟩ := bind_t hM
  refine yC 10 (by kernel_rfl) rfl rfl (ih_s_l02Term k6 n6 s6 q6 f6 ks6 (IntKind.i64.wrap (i2 + 1)) hg19 _ _) (callK_retX (fun v tk20 (hle21 : tk11 ≤ tk20) h22 => ?_))
  subst h22
  obtain ⟨hc25, hM⟩ := chk_t hM
  refine yT 11 (by kernel_rfl) rfl rfl rfl (ltb rfl) ((strAdd_step rfl rfl rfl hc25).rd _) ?_
  refine yTW 12 (by kernel_rfl) rfl ?_
  refine AAny.done (by kernel_rfl) ?_
  refine run_ret_to ?_
  replace hM := some_t hM
  subst hM
  refine fin_x hG rfl rfl rfl (v' := .str ((((⟨#[91]⟩ : ByteArray) ++ r9) ++ (⟨#[93, 32]⟩ : ByteArray)) ++ r18)) (by rfl) ⟨rfl, (show tk ≤ tk20 by omega), _, rfl, rfl⟩
 replace hM := ite_f hb3 hM
 refine run_sr ?_
 refine yB rfl ?_
 refine yR rfl ?_
 refine yN ?_
 refine run_ifd rfl rfl (fun hb26 => ?_) (fun hb26 => ?_)
 ·replace hM := ite_t hb26 hM
  refine run_seq ?_
  refine run_draw [] (n := 12) mixed rfl yE ?_
  refine yTV 0 (by kernel_rfl) rfl ?_
  refine yT 1 (by kernel_rfl) rfl rfl rfl (ltb rfl) ((abin_step rfl rfl rfl rfl (fun _ h => by cases h)).rd _) ?_
  refine yTF hG 2 (by kernel_rfl) rfl ?_
  refine yTL hG 3 (by kernel_rfl) rfl ?_
  refine yT 4 (by kernel_rfl) rfl rfl rfl (ltb rfl) ((abin_step rfl rfl rfl rfl (fun _ h => by cases h)).rd _) ?_
  refine yTF hG 6 (by kernel_rfl) rfl ?_
  refine yTL hG 7 (by kernel_rfl) rfl ?_
  refine yTV 8 (by kernel_rfl) rfl ?_
  obtain ⟨r27, hg28, hM⟩ := bind_t hM
  refine yC 5 (by kernel_rfl) rfl rfl (s_l02Level_ok n (IntKind.i64.wrap ((IntKind.i64.wrap (i2 - 1)) - n1)) hg28 _ _) (callK_retX (fun v tk29 (hle30 : tk ≤ tk29) h31 => ?_))
  subst h31
  obtain ⟨r34, hg35, hM⟩ := bind_t hM
  refine yC 9 (by kernel_rfl) rfl rfl (ih_s_l02Spine q1 f1 ks1 i2 hg35 _ _) (callK_retX (fun v tk36 (hle37 : tk29 ≤ tk36) h38 => ?_))
  subst h38
  obtain ⟨hc41, hM⟩ := chk_t hM
  refine yT 10 (by kernel_rfl) rfl rfl rfl (ltb rfl) ((strAdd_step rfl rfl rfl hc41).rd _) ?_
  refine yTW 11 (by kernel_rfl) rfl ?_
  refine AAny.done (by kernel_rfl) ?_
  refine run_ret_to ?_
  replace hM := some_t hM
  subst hM
  refine fin_x hG rfl rfl rfl (v' := .str (r27 ++ r34)) (by rfl) ⟨rfl, (show tk ≤ tk36 by omega), _, rfl, rfl⟩
 replace hM := ite_f hb26 hM
 refine run_sr ?_
 refine yB rfl ?_
 refine yR rfl ?_
 refine yN ?_
 refine run_ifd rfl rfl (fun hb42 => ?_) (fun hb42 => ?_)
 ·replace hM := ite_t hb42 hM
  refine run_seq ?_
  refine run_draw [] (n := 10) mixed rfl yE ?_
  refine yTF hG 0 (by kernel_rfl) rfl ?_
  refine yTL hG 1 (by kernel_rfl) rfl ?_
  refine yTF hG 4 (by kernel_rfl) rfl ?_
  refine yTL hG 5 (by kernel_rfl) rfl ?_
  refine yTV 6 (by kernel_rfl) rfl ?_
  obtain ⟨r43, hg44, hM⟩ := bind_t hM
  refine yC 2 (by kernel_rfl) rfl rfl (s_l00Digits_ok n n1 hg44 _ _) (callK_retX (fun v tk45 (hle46 : tk ≤ tk45) h47 => ?_))
  subst h47
  obtain ⟨hc50, hM⟩ := chk_t hM
  refine yT 3 (by kernel_rfl) rfl rfl rfl (ltb rfl) ((strAdd_step rfl rfl rfl hc50).rd _) ?_
  obtain ⟨r51, hg52, hM⟩ := bind_t hM
  refine yC 7 (by kernel_rfl) rfl rfl (ih_s_l02Spine q1 f1 ks1 i2 hg52 _ _) (callK_retX (fun v tk53 (hle54 : tk45 ≤ tk53) h55 => ?_))
  subst h55
  obtain ⟨hc58, hM⟩ := chk_t hM
  refine yT 8 (by kernel_rfl) rfl rfl rfl (ltb rfl) ((strAdd_step rfl rfl rfl hc58).rd _) ?_
  refine yTW 9 (by kernel_rfl) rfl ?_
  refine AAny.done (by kernel_rfl) ?_
  refine run_ret_to ?_
  replace hM := some_t hM
  subst hM
  refine fin_x hG rfl rfl rfl (v' := .str (((⟨#[63]⟩ : ByteArray) ++ r43) ++ r51)) (by rfl) ⟨rfl, (show tk ≤ tk53 by omega), _, rfl, rfl⟩
 replace hM := ite_f hb42 hM
 refine run_sr ?_
 refine yB rfl ?_
 refine yR rfl ?_
 refine yN ?_
 refine run_ifd rfl rfl (fun hb59 => ?_) (fun hb59 => ?_)
 ·replace hM := ite_t hb59 hM
  refine run_sr ?_
  refine yR rfl ?_
  refine yN ?_
  refine run_ret_to ?_
  replace hM := some_t hM
  subst hM
  refine fin_x hG rfl rfl rfl (v' := .str ⟨#[95]⟩) (by rfl) ⟨rfl, (show tk ≤ tk by omega), _, rfl, rfl⟩
 replace hM := ite_f hb59 hM
 refine run_skip ?_
 refine run_blk ?_
 refine run_seq ?_
 refine run_draw [] (n := 8) mixed rfl yE ?_
 refine yTF hG 0 (by kernel_rfl) rfl ?_
 refine yTL hG 1 (by kernel_rfl) rfl ?_
 refine yTF hG 2 (by kernel_rfl) rfl ?_
 refine yTL hG 3 (by kernel_rfl) rfl ?_
 refine yTV 4 (by kernel_rfl) rfl ?_
 obtain ⟨r60, hg61, hM⟩ := bind_t hM
 refine yC 5 (by kernel_rfl) rfl rfl (ih_s_l02Spine q1 f1 ks1 i2 hg61 _ _) (callK_retX (fun v tk62 (hle63 : tk ≤ tk62) h64 => ?_))
 subst h64
 obtain ⟨hc67, hM⟩ := chk_t hM
 refine yT 6 (by kernel_rfl) rfl rfl rfl (ltb rfl) ((strAdd_step rfl rfl rfl hc67).rd _) ?_
 refine yTW 7 (by kernel_rfl) rfl ?_
 refine AAny.done (by kernel_rfl) ?_
 refine run_ret_to ?_
 replace hM := some_t hM
 subst hM
 refine fin_x hG rfl rfl rfl (v' := .str (s1 ++ r60)) (by rfl) ⟨rfl, (show tk ≤ tk62 by omega), _, rfl, rfl⟩

theorem s_l02Spine_all : ∀ (n : Nat), (s_l02Spine_P n) ∧ (∀ (k1 : Int) (n1 : Int) (s1 : ByteArray) (q1 : Nat) (f1 : Bool) (ks1 : List LT) (i2 : Int) {r : ByteArray}, s_l02Term n (T.mk k1 n1 s1 (ers ks1)) i2 = some r → ∀ (O : Heap) (tk : Nat), ACalls Go.Proofs.Tryz.prog 103 [.agg [.int .i64 k1, .int .i64 n1, .str s1, .imm q1 4 f1 (cellss ks1)], .int .i64 i2] O tk (RetX O tk (fun v tk' => v = .str r)))
 | 0 => ⟨(by intro q1 f1 ks1 i2 r hM; rw [s_l02Spine] at hM; cases hM), (by intro k1 n1 s1 q1 f1 ks1 i2 r hM; rw [s_l02Term] at hM; cases hM)⟩
 | n + 1 => have ih := s_l02Spine_all n; ⟨s_l02Spine_st n (ih.2), s_l02Term_st n (ih.1) (ih.2)⟩

theorem s_l02Spine_ok (n : Nat) : s_l02Spine_P n := (s_l02Spine_all n).1

end Go.Am.YtoajlhhalpldfaaGreatDoor
