/- Printed by a program of ours: Lean functions that do what the Go functions do, and the contracts. -/
import Derived.Test.YtoajlhhalpldfaaGreatDoorMl0
import Derived.Test.YtoajlhhalpldfaaGreatDoorMl2
import Derived.Test.YtoajlhhalpldfaaGreatDoorMb1
import Derived.Test.YtoajlhhalpldfaaGreatDoorMb3
import Derived.Test.YtoajlhhalpldfaaGreatDoorTypes
import Derived.Test.YtoajlhhalpldfaaGreatDoorMi4
import Derived.Test.YtoajlhhalpldfaaGreatDoorMc1
import Derived.Test.YtoajlhhalpldfaaGreatDoorMz
import Derived.Test.YtoajlhhalpldfaaGreatDoorMt
import Derived.Test.YtoajlhhalpldfaaGreatDoorTqA
import Derived.Test.YtoajlhhalpldfaaGreatDoorDkLift
-- packed
namespace Go.Am.YtoajlhhalpldfaaGreatDoor
open Go Go.Am

def i_familyText : Nat → T → Int → Option (Rz ByteArray)
 | 0, _, _ => none
 | n + 1, x1, i2 =>
  if x1.kind = 1 then
   some (.ok (⟨#[116, 121, 112, 101]⟩))
  else
   if x1.kind = 3 then
    zb (i_termText n x1 i2) fun r5 =>
    some (.ok r5)
   else
    (idx x1.kids 0).bind fun y14 =>
    zb (i_familyText n y14 i2) fun r19 =>
    (idx x1.kids 1).bind fun y28 =>
    (i_occurs n y28 0).bind fun r33 =>
    if r33 = true then
     (idx x1.kids 1).bind fun y41 =>
     (i_binderName i2).bind fun r46 =>
     chk ((⟨#[123]⟩ : ByteArray).size + r46.size ≤ 9223372036854775807) <|
     chk (((⟨#[123]⟩ : ByteArray) ++ r46).size + (⟨#[58]⟩ : ByteArray).size ≤ 9223372036854775807) <|
     chk ((((⟨#[123]⟩ : ByteArray) ++ r46) ++ (⟨#[58]⟩ : ByteArray)).size + r19.size ≤ 9223372036854775807) <|
     chk (((((⟨#[123]⟩ : ByteArray) ++ r46) ++ (⟨#[58]⟩ : ByteArray)) ++ r19).size + (⟨#[125, 32]⟩ : ByteArray).size ≤ 9223372036854775807) <|
     zb (i_familyText n y41 (IntKind.i64.wrap (i2 + 1))) fun r57 =>
     chk ((((((⟨#[123]⟩ : ByteArray) ++ r46) ++ (⟨#[58]⟩ : ByteArray)) ++ r19) ++ (⟨#[125, 32]⟩ : ByteArray)).size + r57.size ≤ 9223372036854775807) <|
     some (.ok ((((((⟨#[123]⟩ : ByteArray) ++ r46) ++ (⟨#[58]⟩ : ByteArray)) ++ r19) ++ (⟨#[125, 32]⟩ : ByteArray)) ++ r57))
    else
     (idx x1.kids 0).bind fun y67 =>
     if y67.kind = 2 then
      chk ((⟨#[40]⟩ : ByteArray).size + r19.size ≤ 9223372036854775807) <|
      chk (((⟨#[40]⟩ : ByteArray) ++ r19).size + (⟨#[41]⟩ : ByteArray).size ≤ 9223372036854775807) <|
      chk ((((⟨#[40]⟩ : ByteArray) ++ r19) ++ (⟨#[41]⟩ : ByteArray)).size + (⟨#[32]⟩ : ByteArray).size ≤ 9223372036854775807) <|
      chk (((((⟨#[40]⟩ : ByteArray) ++ r19) ++ (⟨#[41]⟩ : ByteArray)) ++ (⟨#[32]⟩ : ByteArray)).size + (⟨#[45, 62]⟩ : ByteArray).size ≤ 9223372036854775807) <|
      chk ((((((⟨#[40]⟩ : ByteArray) ++ r19) ++ (⟨#[41]⟩ : ByteArray)) ++ (⟨#[32]⟩ : ByteArray)) ++ (⟨#[45, 62]⟩ : ByteArray)).size + (⟨#[32]⟩ : ByteArray).size ≤ 9223372036854775807) <|
      (idx x1.kids 1).bind fun y78 =>
      (i_lower n y78 0).bind fun r83 =>
      zb (i_familyText n r83 i2) fun r90 =>
      chk (((((((⟨#[40]⟩ : ByteArray) ++ r19) ++ (⟨#[41]⟩ : ByteArray)) ++ (⟨#[32]⟩ : ByteArray)) ++ (⟨#[45, 62]⟩ : ByteArray)) ++ (⟨#[32]⟩ : ByteArray)).size + r90.size ≤ 9223372036854775807) <|
      some (.ok (((((((⟨#[40]⟩ : ByteArray) ++ r19) ++ (⟨#[41]⟩ : ByteArray)) ++ (⟨#[32]⟩ : ByteArray)) ++ (⟨#[45, 62]⟩ : ByteArray)) ++ (⟨#[32]⟩ : ByteArray)) ++ r90))
     else
      chk (r19.size + (⟨#[32]⟩ : ByteArray).size ≤ 9223372036854775807) <|
      chk ((r19 ++ (⟨#[32]⟩ : ByteArray)).size + (⟨#[45, 62]⟩ : ByteArray).size ≤ 9223372036854775807) <|
      chk (((r19 ++ (⟨#[32]⟩ : ByteArray)) ++ (⟨#[45, 62]⟩ : ByteArray)).size + (⟨#[32]⟩ : ByteArray).size ≤ 9223372036854775807) <|
      (idx x1.kids 1).bind fun y103 =>
      (i_lower n y103 0).bind fun r108 =>
      zb (i_familyText n r108 i2) fun r115 =>
      chk ((((r19 ++ (⟨#[32]⟩ : ByteArray)) ++ (⟨#[45, 62]⟩ : ByteArray)) ++ (⟨#[32]⟩ : ByteArray)).size + r115.size ≤ 9223372036854775807) <|
      some (.ok ((((r19 ++ (⟨#[32]⟩ : ByteArray)) ++ (⟨#[45, 62]⟩ : ByteArray)) ++ (⟨#[32]⟩ : ByteArray)) ++ r115))

def i_familyText_P (n : Nat) : Prop := ∀ (k1 : Int) (n1 : Int) (s1 : ByteArray) (q1 : Nat) (f1 : Bool) (ks1 : List LT) (i2 : Int) {r : (Rz ByteArray)}, i_familyText n (T.mk k1 n1 s1 (ers ks1)) i2 = some r → ∀ (O : Heap) (tk : Nat), ACalls Go.Proofs.Tryz.prog 48 [.agg [.int .i64 k1, .int .i64 n1, .str s1, .imm q1 4 f1 (cellss ks1)], .int .i64 i2] O tk (RetZ HT O tk r (fun r v tk' => v = .str r))

set_option maxHeartbeats 20000000 in
set_option maxHeartbeats 20000000 in
set_option maxRecDepth 100000 in
theorem i_familyText_st (n : Nat) (ih_i_familyText : i_familyText_P n) : i_familyText_P (n + 1) := by
 intro k1 n1 s1 q1 f1 ks1 i2 r hM O tk
 rw [i_familyText] at hM
 refine acalls_of_run Go.Proofs.Tryz.func48 rfl rfl [] [] (Bor.nil _) [(0, .agg [.int .i64 k1, .int .i64 n1, .str s1, .imm q1 4 f1 (cellss ks1)]), (1, .int .i64 i2)] (.cons (.agg _) (.cons (entS rfl) (.nil _))) (leb rfl) (fun _ h => by cases h) (fun S0 hO htk hfz => ?_)
 refine run_sr ?_
 refine run_op rfl (box_step (d := 2) rfl rfl rfl rfl rfl) rfl (ltb rfl) ?_
 refine yR rfl ?_
 refine yN ?_
 refine run_seq ?_
 refine run_sr ?_
 refine yF hG rfl ?_
 refine yD hG rfl ?_
 refine yN ?_
 refine run_block ?_
 refine run_sr ?_
 refine yB rfl ?_
 refine yR rfl ?_
 refine yN ?_
 refine run_ifd rfl rfl (fun hb3 => ?_) (fun hb3 => ?_)
 ·replace hM := ite_t hb3 hM
  refine run_sr ?_
  refine yR rfl ?_
  refine yN ?_
  refine run_ret_to ?_
  replace hM := some_t hM
  subst hM
  refine fin_x hG rfl rfl rfl (v' := .str ⟨#[116, 121, 112, 101]⟩) (by rfl) ⟨rfl, (show tk ≤ tk by omega), _, rfl, rfl⟩
 replace hM := ite_f hb3 hM
 refine run_sr ?_
 refine yB rfl ?_
 refine yR rfl ?_
 refine yN ?_
 refine run_ifd rfl rfl (fun hb4 => ?_) (fun hb4 => ?_)
 ·replace hM := ite_t hb4 hM
  refine run_sr ?_
  refine yD hG rfl ?_
  refine yL rfl ?_
  obtain ⟨z10, hg6, hM⟩ := zb_t hM
  refine yK rfl (i_termText_ok n k1 n1 s1 q1 f1 ks1 i2 hg6 _ _) (callK_retZ (fun r5 v tk7 hz13 (hle8 : tk ≤ tk7) h9 => ?_) (fun c p tk7 hz (_ : tk ≤ tk7) => by subst hz; obtain rfl := bd_stop hM; exact run_pan_at (⟨rfl, (show tk ≤ tk7 by omega), rfl⟩)))
  subst hz13
  replace hM := bd_ok hM
  subst h9
  refine yR rfl ?_
  refine yN ?_
  refine run_ret_to ?_
  replace hM := some_t hM
  subst hM
  refine fin_x hG rfl rfl rfl (v' := .str r5) (by rfl) ⟨rfl, (show tk ≤ tk7 by omega), _, rfl, rfl⟩
 replace hM := ite_f hb4 hM
 refine run_skip ?_
 refine run_blk ?_
 refine run_sr ?_
 refine yF hG rfl ?_
 refine yD hG rfl ?_
 obtain ⟨y14, hy15, hM⟩ := bind_t hM
 obtain ⟨k16, n16, s16, q16, f16, ks16, rfl, hc17, hi18⟩ := tidx (ks := ks1) hy15
 refine run_pu rfl (indexImm_step hG rfl rfl rfl hi18 rfl rfl rfl rfl hc17) rfl (ltb rfl) ?_
 refine yD hG rfl ?_
 refine yL rfl ?_
 obtain ⟨z24, hg20, hM⟩ := zb_t hM
 refine yK rfl (ih_i_familyText k16 n16 s16 q16 f16 ks16 i2 hg20 _ _) (callK_retZ (fun r19 v tk21 hz27 (hle22 : tk ≤ tk21) h23 => ?_) (fun c p tk21 hz (_ : tk ≤ tk21) => by subst hz; obtain rfl := bd_stop hM; exact run_pan_at (⟨rfl, (show tk ≤ tk21 by omega), rfl⟩)))
 subst hz27
 replace hM := bd_ok hM
 subst h23
 refine yR rfl ?_
 refine yN ?_
 refine run_sub_code (σ' := ⟨[(1, .int .i64 i2), (2, .optr (.loc 2) 0 0), (4, .str ⟨#[]⟩), (5, .str r19)], [(2, ⟨27, 4, true, [[.int .i64 k1, .int .i64 n1, .str s1, .imm q1 4 f1 (cellss ks1)]]⟩)], [], O, tk21⟩) (Sub.env _ ⟨rfl, rfl, rfl, rfl, trivial⟩) ?_
 refine run_seq ?_
 refine run_sr ?_
 refine yF hG rfl ?_
 refine yD hG rfl ?_
 obtain ⟨y28, hy29, hM⟩ := bind_t hM
 obtain ⟨k30, n30, s30, q30, f30, ks30, rfl, hc31, hi32⟩ := tidx (ks := ks1) hy29
 refine run_pu rfl (indexImm_step hG rfl rfl rfl hi32 rfl rfl rfl rfl hc31) rfl (ltb rfl) ?_
 refine yD hG rfl ?_
 obtain ⟨r33, hg34, hM⟩ := bind_t hM
 refine yK rfl (i_occurs_ok n k30 n30 s30 q30 f30 ks30 0 hg34 _ _) (callK_retX (fun v tk35 (hle36 : tk21 ≤ tk35) h37 => ?_))
 subst h37
 refine yN ?_
 refine run_ifb rfl rfl (fun hb40 => ?_) (fun hb40 => ?_)
 ·replace hM := ite_t hb40 hM
  refine run_seq ?_
  refine run_draw [] (n := 16) mixed rfl yE ?_
  refine yTV 0 (by kernel_rfl) rfl ?_
  refine yTV 4 (by kernel_rfl) rfl ?_
  refine yTF hG 7 (by kernel_rfl) rfl ?_
  refine yTL hG 8 (by kernel_rfl) rfl ?_
  obtain ⟨y41, hy42, hM⟩ := bind_t hM
  obtain ⟨k43, n43, s43, q43, f43, ks43, rfl, hc44, hi45⟩ := tidx (ks := ks1) hy42
  refine yT 9 (by kernel_rfl) rfl rfl rfl (ltb rfl) ((indexImm_step hG rfl rfl rfl hi45 rfl rfl rfl rfl hc44).rd _) ?_
  refine yTL hG 10 (by kernel_rfl) rfl ?_
  refine yTV 11 (by kernel_rfl) rfl ?_
  refine yT 12 (by kernel_rfl) rfl rfl rfl (ltb rfl) ((abin_step rfl rfl rfl rfl (fun _ h => by cases h)).rd _) ?_
  obtain ⟨r46, hg47, hM⟩ := bind_t hM
  refine yC 1 (by kernel_rfl) rfl rfl (i_binderName_ok i2 hg47 _ _) (callK_retX (fun v tk48 (hle49 : tk35 ≤ tk48) h50 => ?_))
  subst h50
  obtain ⟨hc53, hM⟩ := chk_t hM
  refine yT 2 (by kernel_rfl) rfl rfl rfl (ltb rfl) ((strAdd_step rfl rfl rfl hc53).rd _) ?_
  obtain ⟨hc54, hM⟩ := chk_t hM
  refine yT 3 (by kernel_rfl) rfl rfl rfl (ltb rfl) ((strAdd_step rfl rfl rfl hc54).rd _) ?_
  obtain ⟨hc55, hM⟩ := chk_t hM
  refine yT 5 (by kernel_rfl) rfl rfl rfl (ltb rfl) ((strAdd_step rfl rfl rfl hc55).rd _) ?_
  obtain ⟨hc56, hM⟩ := chk_t hM
  refine yT 6 (by kernel_rfl) rfl rfl rfl (ltb rfl) ((strAdd_step rfl rfl rfl hc56).rd _) ?_
  obtain ⟨z62, hg58, hM⟩ := zb_t hM
  refine yC 13 (by kernel_rfl) rfl rfl (ih_i_familyText k43 n43 s43 q43 f43 ks43 (IntKind.i64.wrap (i2 + 1)) hg58 _ _) (callK_retZ (fun r57 v tk59 hz65 (hle60 : tk48 ≤ tk59) h61 => ?_) (fun c p tk59 hz (_ : tk48 ≤ tk59) => by subst hz; obtain rfl := bd_stop hM; exact run_pan_at (⟨rfl, (show tk ≤ tk59 by omega), rfl⟩)))
  subst hz65
  replace hM := bd_ok hM
  subst h61
  obtain ⟨hc66, hM⟩ := chk_t hM
  refine yT 14 (by kernel_rfl) rfl rfl rfl (ltb rfl) ((strAdd_step rfl rfl rfl hc66).rd _) ?_
  refine yTW 15 (by kernel_rfl) rfl ?_
  refine AAny.done (by kernel_rfl) ?_
  refine run_ret_to ?_
  replace hM := some_t hM
  subst hM
  refine fin_x hG rfl rfl rfl (v' := .str ((((((⟨#[123]⟩ : ByteArray) ++ r46) ++ (⟨#[58]⟩ : ByteArray)) ++ r19) ++ (⟨#[125, 32]⟩ : ByteArray)) ++ r57)) (by rfl) ⟨rfl, (show tk ≤ tk59 by omega), _, rfl, rfl⟩
 replace hM := ite_f hb40 hM
 refine run_skip ?_
 refine run_seq ?_
 refine run_sr ?_
 refine yF hG rfl ?_
 refine yD hG rfl ?_
 obtain ⟨y67, hy68, hM⟩ := bind_t hM
 obtain ⟨k69, n69, s69, q69, f69, ks69, rfl, hc70, hi71⟩ := tidx (ks := ks1) hy68
 refine run_pu rfl (indexImm_step hG rfl rfl rfl hi71 rfl rfl rfl rfl hc70) rfl (ltb rfl) ?_
 refine yF hG rfl ?_
 refine yD hG rfl ?_
 refine yB rfl ?_
 refine yN ?_
 refine run_ifd rfl rfl (fun hb72 => ?_) (fun hb72 => ?_)
 ·replace hM := ite_t hb72 hM
  refine run_region ?_
  refine yL rfl ?_
  obtain ⟨hc73, hM⟩ := chk_t hM
  refine run_pu rfl (strAdd_step rfl rfl rfl hc73) rfl (ltb rfl) ?_
  obtain ⟨hc74, hM⟩ := chk_t hM
  refine run_pu rfl (strAdd_step rfl rfl rfl hc74) rfl (ltb rfl) ?_
  refine yR rfl ?_
  refine yN ?_
  refine run_sub_code (σ' := ⟨[(1, .int .i64 i2), (2, .optr (.loc 2) 0 0), (4, .str ⟨#[]⟩), (5, .str (((⟨#[40]⟩ : ByteArray) ++ r19) ++ (⟨#[41]⟩ : ByteArray)))], [(2, ⟨27, 4, true, [[.int .i64 k1, .int .i64 n1, .str s1, .imm q1 4 f1 (cellss ks1)]]⟩)], [], O, tk35⟩) (Sub.env _ ⟨rfl, rfl, rfl, rfl, trivial⟩) ?_
  refine run_sr ?_
  refine yL rfl ?_
  obtain ⟨hc75, hM⟩ := chk_t hM
  refine run_pu rfl (strAdd_step rfl rfl rfl hc75) rfl (ltb rfl) ?_
  obtain ⟨hc76, hM⟩ := chk_t hM
  refine run_pu rfl (strAdd_step rfl rfl rfl hc76) rfl (ltb rfl) ?_
  obtain ⟨hc77, hM⟩ := chk_t hM
  refine run_pu rfl (strAdd_step rfl rfl rfl hc77) rfl (ltb rfl) ?_
  refine yF hG rfl ?_
  refine yD hG rfl ?_
  obtain ⟨y78, hy79, hM⟩ := bind_t hM
  obtain ⟨k80, n80, s80, q80, f80, ks80, rfl, hc81, hi82⟩ := tidx (ks := ks1) hy79
  refine run_pu rfl (indexImm_step hG rfl rfl rfl hi82 rfl rfl rfl rfl hc81) rfl (ltb rfl) ?_
  refine yD hG rfl ?_
  obtain ⟨r83, hg84, hM⟩ := bind_t hM
  refine yK rfl (i_lower_ok n k80 n80 s80 q80 f80 ks80 0 hg84 _ _) (callK_retX (fun v tk85 (hle86 : tk35 ≤ tk85) h87 => ?_))
  obtain ⟨k88, n88, s88, q88, f88, ks88, rfl, rfl, hf89⟩ := h87
  refine yL rfl ?_
  obtain ⟨z95, hg91, hM⟩ := zb_t hM
  refine yK rfl (ih_i_familyText k88 n88 s88 q88 f88 ks88 i2 hg91 _ _) (callK_retZ (fun r90 v tk92 hz98 (hle93 : tk85 ≤ tk92) h94 => ?_) (fun c p tk92 hz (_ : tk85 ≤ tk92) => by subst hz; obtain rfl := bd_stop hM; exact run_pan_at (⟨rfl, (show tk ≤ tk92 by omega), rfl⟩)))
  subst hz98
  replace hM := bd_ok hM
  subst h94
  obtain ⟨hc99, hM⟩ := chk_t hM
  refine run_pu rfl (strAdd_step rfl rfl rfl hc99) rfl (ltb rfl) ?_
  refine yR rfl ?_
  refine yN ?_
  refine run_ret_to ?_
  replace hM := some_t hM
  subst hM
  refine fin_x hG rfl rfl rfl (v' := .str (((((((⟨#[40]⟩ : ByteArray) ++ r19) ++ (⟨#[41]⟩ : ByteArray)) ++ (⟨#[32]⟩ : ByteArray)) ++ (⟨#[45, 62]⟩ : ByteArray)) ++ (⟨#[32]⟩ : ByteArray)) ++ r90)) (by rfl) ⟨rfl, (show tk ≤ tk92 by omega), _, rfl, rfl⟩
 replace hM := ite_f hb72 hM
 refine run_skip ?_
 refine run_sr ?_
 refine yL rfl ?_
 obtain ⟨hc100, hM⟩ := chk_t hM
 refine run_pu rfl (strAdd_step rfl rfl rfl hc100) rfl (ltb rfl) ?_
 obtain ⟨hc101, hM⟩ := chk_t hM
 refine run_pu rfl (strAdd_step rfl rfl rfl hc101) rfl (ltb rfl) ?_
 obtain ⟨hc102, hM⟩ := chk_t hM
 refine run_pu rfl (strAdd_step rfl rfl rfl hc102) rfl (ltb rfl) ?_
 refine yF hG rfl ?_
 refine yD hG rfl ?_
 obtain ⟨y103, hy104, hM⟩ := bind_t hM
 obtain ⟨k105, n105, s105, q105, f105, ks105, rfl, hc106, hi107⟩ := tidx (ks := ks1) hy104
 refine run_pu rfl (indexImm_step hG rfl rfl rfl hi107 rfl rfl rfl rfl hc106) rfl (ltb rfl) ?_
 refine yD hG rfl ?_
 obtain ⟨r108, hg109, hM⟩ := bind_t hM
 refine yK rfl (i_lower_ok n k105 n105 s105 q105 f105 ks105 0 hg109 _ _) (callK_retX (fun v tk110 (hle111 : tk35 ≤ tk110) h112 => ?_))
 obtain ⟨k113, n113, s113, q113, f113, ks113, rfl, rfl, hf114⟩ := h112
 refine yL rfl ?_
 obtain ⟨z120, hg116, hM⟩ := zb_t hM
 refine yK rfl (ih_i_familyText k113 n113 s113 q113 f113 ks113 i2 hg116 _ _) (callK_retZ (fun r115 v tk117 hz123 (hle118 : tk110 ≤ tk117) h119 => ?_) (fun c p tk117 hz (_ : tk110 ≤ tk117) => by subst hz; obtain rfl := bd_stop hM; exact run_pan_at (⟨rfl, (show tk ≤ tk117 by omega), rfl⟩)))
 subst hz123
 replace hM := bd_ok hM
 subst h119
 obtain ⟨hc124, hM⟩ := chk_t hM
 refine run_pu rfl (strAdd_step rfl rfl rfl hc124) rfl (ltb rfl) ?_
 refine yR rfl ?_
 refine yN ?_
 refine run_ret_to ?_
 replace hM := some_t hM
 subst hM
 refine fin_x hG rfl rfl rfl (v' := .str ((((r19 ++ (⟨#[32]⟩ : ByteArray)) ++ (⟨#[45, 62]⟩ : ByteArray)) ++ (⟨#[32]⟩ : ByteArray)) ++ r115)) (by rfl) ⟨rfl, (show tk ≤ tk117 by omega), _, rfl, rfl⟩

theorem i_familyText_all : ∀ (n : Nat), (i_familyText_P n)
 | 0 => by intro k1 n1 s1 q1 f1 ks1 i2 r hM; rw [i_familyText] at hM; cases hM
 | n + 1 => have ih := i_familyText_all n; i_familyText_st n (ih)

theorem i_familyText_ok (n : Nat) : i_familyText_P n := i_familyText_all n

end Go.Am.YtoajlhhalpldfaaGreatDoor
