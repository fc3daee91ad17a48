/- Printed by a program of ours: Lean functions that do what the Go functions do, and the contracts. -/
import Derived.Test.YtoajlhhalpldfaaGreatDoorMl0
import Derived.Test.YtoajlhhalpldfaaGreatDoorMl2
import Derived.Test.YtoajlhhalpldfaaGreatDoorMb1
import Derived.Test.YtoajlhhalpldfaaGreatDoorMb3
import Derived.Test.YtoajlhhalpldfaaGreatDoorTypes
import Derived.Test.YtoajlhhalpldfaaGreatDoorMi4
import Derived.Test.YtoajlhhalpldfaaGreatDoorMc1
import Derived.Test.YtoajlhhalpldfaaGreatDoorMz
import Derived.Test.YtoajlhhalpldfaaGreatDoorMt
import Derived.Test.YtoajlhhalpldfaaGreatDoorTqS
import Derived.Test.YtoajlhhalpldfaaGreatDoorDkLift
-- packed
namespace Go.Am.YtoajlhhalpldfaaGreatDoor
open Go Go.Am

def s_l02Family : Nat → T → Int → Option ByteArray
 | 0, _, _ => none
 | n + 1, x1, i2 =>
  if x1.kind = 1 then
   some (⟨#[116, 121, 112, 101]⟩)
  else
   if x1.kind = 3 then
    (s_l02Spine n x1.kids i2).bind fun r5 =>
    chk (x1.name.size + r5.size ≤ 9223372036854775807) <|
    some (x1.name ++ r5)
   else
    (idx x1.kids 0).bind fun y13 =>
    (s_l02Family n y13 i2).bind fun r18 =>
    (idx x1.kids 1).bind fun y25 =>
    (s_l01Occurs n y25 0).bind fun r30 =>
    if r30 = true then
     (idx x1.kids 1).bind fun y38 =>
     (s_l02Level n i2).bind fun r43 =>
     chk ((⟨#[123]⟩ : ByteArray).size + r43.size ≤ 9223372036854775807) <|
     chk (((⟨#[123]⟩ : ByteArray) ++ r43).size + (⟨#[58]⟩ : ByteArray).size ≤ 9223372036854775807) <|
     chk ((((⟨#[123]⟩ : ByteArray) ++ r43) ++ (⟨#[58]⟩ : ByteArray)).size + r18.size ≤ 9223372036854775807) <|
     chk (((((⟨#[123]⟩ : ByteArray) ++ r43) ++ (⟨#[58]⟩ : ByteArray)) ++ r18).size + (⟨#[125, 32]⟩ : ByteArray).size ≤ 9223372036854775807) <|
     (s_l02Family n y38 (IntKind.i64.wrap (i2 + 1))).bind fun r54 =>
     chk ((((((⟨#[123]⟩ : ByteArray) ++ r43) ++ (⟨#[58]⟩ : ByteArray)) ++ r18) ++ (⟨#[125, 32]⟩ : ByteArray)).size + r54.size ≤ 9223372036854775807) <|
     some ((((((⟨#[123]⟩ : ByteArray) ++ r43) ++ (⟨#[58]⟩ : ByteArray)) ++ r18) ++ (⟨#[125, 32]⟩ : ByteArray)) ++ r54)
    else
     (idx x1.kids 0).bind fun y62 =>
     if y62.kind = 2 then
      chk ((⟨#[40]⟩ : ByteArray).size + r18.size ≤ 9223372036854775807) <|
      chk (((⟨#[40]⟩ : ByteArray) ++ r18).size + (⟨#[41]⟩ : ByteArray).size ≤ 9223372036854775807) <|
      chk ((((⟨#[40]⟩ : ByteArray) ++ r18) ++ (⟨#[41]⟩ : ByteArray)).size + (⟨#[32, 45, 62, 32]⟩ : ByteArray).size ≤ 9223372036854775807) <|
      (idx x1.kids 1).bind fun y71 =>
      (s_l01Lift n y71 1 (-1)).bind fun r76 =>
      (s_l02Family n r76 i2).bind fun r83 =>
      chk (((((⟨#[40]⟩ : ByteArray) ++ r18) ++ (⟨#[41]⟩ : ByteArray)) ++ (⟨#[32, 45, 62, 32]⟩ : ByteArray)).size + r83.size ≤ 9223372036854775807) <|
      some (((((⟨#[40]⟩ : ByteArray) ++ r18) ++ (⟨#[41]⟩ : ByteArray)) ++ (⟨#[32, 45, 62, 32]⟩ : ByteArray)) ++ r83)
     else
      chk (r18.size + (⟨#[32, 45, 62, 32]⟩ : ByteArray).size ≤ 9223372036854775807) <|
      (idx x1.kids 1).bind fun y92 =>
      (s_l01Lift n y92 1 (-1)).bind fun r97 =>
      (s_l02Family n r97 i2).bind fun r104 =>
      chk ((r18 ++ (⟨#[32, 45, 62, 32]⟩ : ByteArray)).size + r104.size ≤ 9223372036854775807) <|
      some ((r18 ++ (⟨#[32, 45, 62, 32]⟩ : ByteArray)) ++ r104)

def s_l02Family_P (n : Nat) : Prop := ∀ (k1 : Int) (n1 : Int) (s1 : ByteArray) (q1 : Nat) (f1 : Bool) (ks1 : List LT) (i2 : Int) {r : ByteArray}, s_l02Family n (T.mk k1 n1 s1 (ers ks1)) i2 = some r → ∀ (O : Heap) (tk : Nat), ACalls Go.Proofs.Tryz.prog 42 [.agg [.int .i64 k1, .int .i64 n1, .str s1, .imm q1 4 f1 (cellss ks1)], .int .i64 i2] O tk (RetX O tk (fun v tk' => v = .str r))

set_option maxHeartbeats 20000000 in
set_option maxHeartbeats 20000000 in
set_option maxRecDepth 100000 in
theorem s_l02Family_st (n : Nat) (ih_s_l02Family : s_l02Family_P n) : s_l02Family_P (n + 1) := by
 intro k1 n1 s1 q1 f1 ks1 i2 r hM O tk
 rw [s_l02Family] at hM
 refine acalls_of_run Go.Proofs.Tryz.func42 rfl rfl [] [] (Bor.nil _) [(0, .agg [.int .i64 k1, .int .i64 n1, .str s1, .imm q1 4 f1 (cellss ks1)]), (1, .int .i64 i2)] (.cons (.agg _) (.cons (entS rfl) (.nil _))) (leb rfl) (fun _ h => by cases h) (fun S0 hO htk hfz => ?_)
 refine run_sr ?_
 refine run_op rfl (box_step (d := 2) rfl rfl rfl rfl rfl) rfl (ltb rfl) ?_
 refine yR rfl ?_
 refine yN ?_
 refine run_seq ?_
 refine run_sr ?_
 refine yF hG rfl ?_
 refine yD hG rfl ?_
 refine yB rfl ?_
 refine yN ?_
 refine run_ifd rfl rfl (fun hb3 => ?_) (fun hb3 => ?_)
 ·replace hM := ite_t hb3 hM
  refine run_sr ?_
  refine yR rfl ?_
  refine yN ?_
  refine run_ret_to ?_
  replace hM := some_t hM
  subst hM
  refine fin_x hG rfl rfl rfl (v' := .str ⟨#[116, 121, 112, 101]⟩) (by rfl) ⟨rfl, (show tk ≤ tk by omega), _, rfl, rfl⟩
 replace hM := ite_f hb3 hM
 refine run_skip ?_
 refine run_seq ?_
 refine run_sr ?_
 refine yF hG rfl ?_
 refine yD hG rfl ?_
 refine yB rfl ?_
 refine yN ?_
 refine run_ifd rfl rfl (fun hb4 => ?_) (fun hb4 => ?_)
 ·replace hM := ite_t hb4 hM
  refine run_seq ?_
  refine run_draw [] (n := 8) mixed rfl yE ?_
  refine yTF hG 0 (by kernel_rfl) rfl ?_
  refine yTL hG 1 (by kernel_rfl) rfl ?_
  refine yTF hG 2 (by kernel_rfl) rfl ?_
  refine yTL hG 3 (by kernel_rfl) rfl ?_
  refine yTV 4 (by kernel_rfl) rfl ?_
  obtain ⟨r5, hg6, hM⟩ := bind_t hM
  refine yC 5 (by kernel_rfl) rfl rfl (s_l02Spine_ok n q1 f1 ks1 i2 hg6 _ _) (callK_retX (fun v tk7 (hle8 : tk ≤ tk7) h9 => ?_))
  subst h9
  obtain ⟨hc12, hM⟩ := chk_t hM
  refine yT 6 (by kernel_rfl) rfl rfl rfl (ltb rfl) ((strAdd_step rfl rfl rfl hc12).rd _) ?_
  refine yTW 7 (by kernel_rfl) rfl ?_
  refine AAny.done (by kernel_rfl) ?_
  refine run_ret_to ?_
  replace hM := some_t hM
  subst hM
  refine fin_x hG rfl rfl rfl (v' := .str (s1 ++ r5)) (by rfl) ⟨rfl, (show tk ≤ tk7 by omega), _, rfl, rfl⟩
 replace hM := ite_f hb4 hM
 refine run_skip ?_
 refine run_sr ?_
 refine yF hG rfl ?_
 refine yD hG rfl ?_
 obtain ⟨y13, hy14, hM⟩ := bind_t hM
 obtain ⟨k15, n15, s15, q15, f15, ks15, rfl, hc16, hi17⟩ := tidx (ks := ks1) hy14
 refine run_pu rfl (indexImm_step hG rfl rfl rfl hi17 rfl rfl rfl rfl hc16) rfl (ltb rfl) ?_
 refine yD hG rfl ?_
 refine yL rfl ?_
 obtain ⟨r18, hg19, hM⟩ := bind_t hM
 refine yK rfl (ih_s_l02Family k15 n15 s15 q15 f15 ks15 i2 hg19 _ _) (callK_retX (fun v tk20 (hle21 : tk ≤ tk20) h22 => ?_))
 subst h22
 refine yR rfl ?_
 refine yN ?_
 refine run_sub_code (σ' := ⟨[(1, .int .i64 i2), (2, .optr (.loc 2) 0 0), (4, .str ⟨#[]⟩), (5, .str r18)], [(2, ⟨27, 4, true, [[.int .i64 k1, .int .i64 n1, .str s1, .imm q1 4 f1 (cellss ks1)]]⟩)], [], O, tk20⟩) (Sub.env _ ⟨rfl, rfl, rfl, rfl, trivial⟩) ?_
 refine run_seq ?_
 refine run_sr ?_
 refine yF hG rfl ?_
 refine yD hG rfl ?_
 obtain ⟨y25, hy26, hM⟩ := bind_t hM
 obtain ⟨k27, n27, s27, q27, f27, ks27, rfl, hc28, hi29⟩ := tidx (ks := ks1) hy26
 refine run_pu rfl (indexImm_step hG rfl rfl rfl hi29 rfl rfl rfl rfl hc28) rfl (ltb rfl) ?_
 refine yD hG rfl ?_
 obtain ⟨r30, hg31, hM⟩ := bind_t hM
 refine yK rfl (s_l01Occurs_ok n k27 n27 s27 q27 f27 ks27 0 hg31 _ _) (callK_retX (fun v tk32 (hle33 : tk20 ≤ tk32) h34 => ?_))
 subst h34
 refine yN ?_
 refine run_ifb rfl rfl (fun hb37 => ?_) (fun hb37 => ?_)
 ·replace hM := ite_t hb37 hM
  refine run_seq ?_
  refine run_draw [] (n := 16) mixed rfl yE ?_
  refine yTV 0 (by kernel_rfl) rfl ?_
  refine yTV 4 (by kernel_rfl) rfl ?_
  refine yTF hG 7 (by kernel_rfl) rfl ?_
  refine yTL hG 8 (by kernel_rfl) rfl ?_
  obtain ⟨y38, hy39, hM⟩ := bind_t hM
  obtain ⟨k40, n40, s40, q40, f40, ks40, rfl, hc41, hi42⟩ := tidx (ks := ks1) hy39
  refine yT 9 (by kernel_rfl) rfl rfl rfl (ltb rfl) ((indexImm_step hG rfl rfl rfl hi42 rfl rfl rfl rfl hc41).rd _) ?_
  refine yTL hG 10 (by kernel_rfl) rfl ?_
  refine yTV 11 (by kernel_rfl) rfl ?_
  refine yT 12 (by kernel_rfl) rfl rfl rfl (ltb rfl) ((abin_step rfl rfl rfl rfl (fun _ h => by cases h)).rd _) ?_
  obtain ⟨r43, hg44, hM⟩ := bind_t hM
  refine yC 1 (by kernel_rfl) rfl rfl (s_l02Level_ok n i2 hg44 _ _) (callK_retX (fun v tk45 (hle46 : tk32 ≤ tk45) h47 => ?_))
  subst h47
  obtain ⟨hc50, hM⟩ := chk_t hM
  refine yT 2 (by kernel_rfl) rfl rfl rfl (ltb rfl) ((strAdd_step rfl rfl rfl hc50).rd _) ?_
  obtain ⟨hc51, hM⟩ := chk_t hM
  refine yT 3 (by kernel_rfl) rfl rfl rfl (ltb rfl) ((strAdd_step rfl rfl rfl hc51).rd _) ?_
  obtain ⟨hc52, hM⟩ := chk_t hM
  refine yT 5 (by kernel_rfl) rfl rfl rfl (ltb rfl) ((strAdd_step rfl rfl rfl hc52).rd _) ?_
  obtain ⟨hc53, hM⟩ := chk_t hM
  refine yT 6 (by kernel_rfl) rfl rfl rfl (ltb rfl) ((strAdd_step rfl rfl rfl hc53).rd _) ?_
  obtain ⟨r54, hg55, hM⟩ := bind_t hM
  refine yC 13 (by kernel_rfl) rfl rfl (ih_s_l02Family k40 n40 s40 q40 f40 ks40 (IntKind.i64.wrap (i2 + 1)) hg55 _ _) (callK_retX (fun v tk56 (hle57 : tk45 ≤ tk56) h58 => ?_))
  subst h58
  obtain ⟨hc61, hM⟩ := chk_t hM
  refine yT 14 (by kernel_rfl) rfl rfl rfl (ltb rfl) ((strAdd_step rfl rfl rfl hc61).rd _) ?_
  refine yTW 15 (by kernel_rfl) rfl ?_
  refine AAny.done (by kernel_rfl) ?_
  refine run_ret_to ?_
  replace hM := some_t hM
  subst hM
  refine fin_x hG rfl rfl rfl (v' := .str ((((((⟨#[123]⟩ : ByteArray) ++ r43) ++ (⟨#[58]⟩ : ByteArray)) ++ r18) ++ (⟨#[125, 32]⟩ : ByteArray)) ++ r54)) (by rfl) ⟨rfl, (show tk ≤ tk56 by omega), _, rfl, rfl⟩
 replace hM := ite_f hb37 hM
 refine run_skip ?_
 refine run_seq ?_
 refine run_sr ?_
 refine yF hG rfl ?_
 refine yD hG rfl ?_
 obtain ⟨y62, hy63, hM⟩ := bind_t hM
 obtain ⟨k64, n64, s64, q64, f64, ks64, rfl, hc65, hi66⟩ := tidx (ks := ks1) hy63
 refine run_pu rfl (indexImm_step hG rfl rfl rfl hi66 rfl rfl rfl rfl hc65) rfl (ltb rfl) ?_
 refine yF hG rfl ?_
 refine yD hG rfl ?_
 refine yB rfl ?_
 refine yN ?_
 refine run_ifd rfl rfl (fun hb67 => ?_) (fun hb67 => ?_)
 ·replace hM := ite_t hb67 hM
  refine run_region ?_
  refine yL rfl ?_
  obtain ⟨hc68, hM⟩ := chk_t hM
  refine run_pu rfl (strAdd_step rfl rfl rfl hc68) rfl (ltb rfl) ?_
  obtain ⟨hc69, hM⟩ := chk_t hM
  refine run_pu rfl (strAdd_step rfl rfl rfl hc69) rfl (ltb rfl) ?_
  refine yR rfl ?_
  refine yN ?_
  refine run_sub_code (σ' := ⟨[(1, .int .i64 i2), (2, .optr (.loc 2) 0 0), (4, .str ⟨#[]⟩), (5, .str (((⟨#[40]⟩ : ByteArray) ++ r18) ++ (⟨#[41]⟩ : ByteArray)))], [(2, ⟨27, 4, true, [[.int .i64 k1, .int .i64 n1, .str s1, .imm q1 4 f1 (cellss ks1)]]⟩)], [], O, tk32⟩) (Sub.env _ ⟨rfl, rfl, rfl, rfl, trivial⟩) ?_
  refine run_sr ?_
  refine yL rfl ?_
  obtain ⟨hc70, hM⟩ := chk_t hM
  refine run_pu rfl (strAdd_step rfl rfl rfl hc70) rfl (ltb rfl) ?_
  refine yF hG rfl ?_
  refine yD hG rfl ?_
  obtain ⟨y71, hy72, hM⟩ := bind_t hM
  obtain ⟨k73, n73, s73, q73, f73, ks73, rfl, hc74, hi75⟩ := tidx (ks := ks1) hy72
  refine run_pu rfl (indexImm_step hG rfl rfl rfl hi75 rfl rfl rfl rfl hc74) rfl (ltb rfl) ?_
  refine yD hG rfl ?_
  obtain ⟨r76, hg77, hM⟩ := bind_t hM
  refine yK rfl (s_l01Lift_ok n k73 n73 s73 q73 f73 ks73 1 (-1) hg77 _ _) (callK_retX (fun v tk78 (hle79 : tk32 ≤ tk78) h80 => ?_))
  obtain ⟨k81, n81, s81, q81, f81, ks81, rfl, rfl, hf82⟩ := h80
  refine yL rfl ?_
  obtain ⟨r83, hg84, hM⟩ := bind_t hM
  refine yK rfl (ih_s_l02Family k81 n81 s81 q81 f81 ks81 i2 hg84 _ _) (callK_retX (fun v tk85 (hle86 : tk78 ≤ tk85) h87 => ?_))
  subst h87
  obtain ⟨hc90, hM⟩ := chk_t hM
  refine run_pu rfl (strAdd_step rfl rfl rfl hc90) rfl (ltb rfl) ?_
  refine yR rfl ?_
  refine yN ?_
  refine run_ret_to ?_
  replace hM := some_t hM
  subst hM
  refine fin_x hG rfl rfl rfl (v' := .str (((((⟨#[40]⟩ : ByteArray) ++ r18) ++ (⟨#[41]⟩ : ByteArray)) ++ (⟨#[32, 45, 62, 32]⟩ : ByteArray)) ++ r83)) (by rfl) ⟨rfl, (show tk ≤ tk85 by omega), _, rfl, rfl⟩
 replace hM := ite_f hb67 hM
 refine run_skip ?_
 refine run_sr ?_
 refine yL rfl ?_
 obtain ⟨hc91, hM⟩ := chk_t hM
 refine run_pu rfl (strAdd_step rfl rfl rfl hc91) rfl (ltb rfl) ?_
 refine yF hG rfl ?_
 refine yD hG rfl ?_
 obtain ⟨y92, hy93, hM⟩ := bind_t hM
 obtain ⟨k94, n94, s94, q94, f94, ks94, rfl, hc95, hi96⟩ := tidx (ks := ks1) hy93
 refine run_pu rfl (indexImm_step hG rfl rfl rfl hi96 rfl rfl rfl rfl hc95) rfl (ltb rfl) ?_
 refine yD hG rfl ?_
 obtain ⟨r97, hg98, hM⟩ := bind_t hM
 refine yK rfl (s_l01Lift_ok n k94 n94 s94 q94 f94 ks94 1 (-1) hg98 _ _) (callK_retX (fun v tk99 (hle100 : tk32 ≤ tk99) h101 => ?_))
 obtain ⟨k102, n102, s102, q102, f102, ks102, rfl, rfl, hf103⟩ := h101
 refine yL rfl ?_
 obtain ⟨r104, hg105, hM⟩ := bind_t hM
 refine yK rfl (ih_s_l02Family k102 n102 s102 q102 f102 ks102 i2 hg105 _ _) (callK_retX (fun v tk106 (hle107 : tk99 ≤ tk106) h108 => ?_))
 subst h108
 obtain ⟨hc111, hM⟩ := chk_t hM
 refine run_pu rfl (strAdd_step rfl rfl rfl hc111) rfl (ltb rfl) ?_
 refine yR rfl ?_
 refine yN ?_
 refine run_ret_to ?_
 replace hM := some_t hM
 subst hM
 refine fin_x hG rfl rfl rfl (v' := .str ((r18 ++ (⟨#[32, 45, 62, 32]⟩ : ByteArray)) ++ r104)) (by rfl) ⟨rfl, (show tk ≤ tk106 by omega), _, rfl, rfl⟩

theorem s_l02Family_all : ∀ (n : Nat), (s_l02Family_P n)
 | 0 => by intro k1 n1 s1 q1 f1 ks1 i2 r hM; rw [s_l02Family] at hM; cases hM
 | n + 1 => have ih := s_l02Family_all n; s_l02Family_st n (ih)

theorem s_l02Family_ok (n : Nat) : s_l02Family_P n := s_l02Family_all n

end Go.Am.YtoajlhhalpldfaaGreatDoor
