/- Printed by a program of ours: Lean functions that do what the Go functions do, and the contracts. -/
import Derived.Test.YtoajlhhalpldfaaGreatDoorMl0
import Derived.Test.YtoajlhhalpldfaaGreatDoorMl2
import Derived.Test.YtoajlhhalpldfaaGreatDoorMb1
import Derived.Test.YtoajlhhalpldfaaGreatDoorMb3
import Derived.Test.YtoajlhhalpldfaaGreatDoorTypes
import Derived.Test.YtoajlhhalpldfaaGreatDoorMi4
import Derived.Test.YtoajlhhalpldfaaGreatDoorMc1
import Derived.Test.YtoajlhhalpldfaaGreatDoorMz
import Derived.Test.YtoajlhhalpldfaaGreatDoorMt
import Derived.Test.YtoajlhhalpldfaaGreatDoorDkB
-- packed
namespace Go.Am.YtoajlhhalpldfaaGreatDoor
open Go Go.Am

def i_binderName (i1 : Int) : Option ByteArray :=
 (g_Itoa i1).bind fun r2 =>
 chk ((⟨#[120]⟩ : ByteArray).size + r2.size ≤ 9223372036854775807) <|
 some ((⟨#[120]⟩ : ByteArray) ++ r2)

set_option maxRecDepth 100000 in
theorem i_binderName_ok : ∀ (i1 : Int) {r : ByteArray}, i_binderName i1 = some r → ∀ (O : Heap) (tk : Nat), ACalls Go.Proofs.Tryz.prog 80 [.int .i64 i1] O tk (RetX O tk (fun v tk' => v = .str r)) := by
 intro i1 r hM O tk
 unfold i_binderName at hM
 refine acalls_of_run Go.Proofs.Tryz.func80 rfl rfl [] [] (Bor.nil _) [(0, .int .i64 i1)] (.cons (entS rfl) (.nil _)) (leb rfl) (fun _ h => by cases h) (fun S0 hO htk hfz => ?_)
 refine run_sr ?_
 refine yR rfl ?_
 refine yN ?_
 refine run_sr ?_
 refine yL rfl ?_
 obtain ⟨r2, hg3, hM⟩ := bind_t hM
 refine yK rfl (g_Itoa_ok i1 hg3 _ _) (callK_retX (fun v tk4 (hle5 : tk ≤ tk4) h6 => ?_))
 subst h6
 obtain ⟨hc9, hM⟩ := chk_t hM
 refine run_pu rfl (strAdd_step rfl rfl rfl hc9) rfl (ltb rfl) ?_
 refine yR rfl ?_
 refine yN ?_
 refine run_ret_to ?_
 replace hM := some_t hM
 subst hM
 refine fin_x hG rfl rfl rfl (v' := .str ((⟨#[120]⟩ : ByteArray) ++ r2)) (by rfl) ⟨rfl, (show tk ≤ tk4 by omega), _, rfl, rfl⟩

def i_headText__c (x1 : T) (i2 : Int) : Option (Rz ByteArray) :=
 if x1.kind = 5 then
  if x1.n ≥ i2 then
   some (.stop 7 0)
  else
   (i_binderName (IntKind.i64.wrap ((IntKind.i64.wrap (i2 - 1)) - x1.n))).bind fun r5 =>
   some (.ok r5)
 else
  if x1.kind = 7 then
   (g_Itoa x1.n).bind fun r13 =>
   chk ((⟨#[63]⟩ : ByteArray).size + r13.size ≤ 9223372036854775807) <|
   some (.ok ((⟨#[63]⟩ : ByteArray) ++ r13))
  else
   if x1.kind = 8 then
    some (.ok (⟨#[95]⟩))
   else
    some (.ok x1.name)

set_option maxRecDepth 100000 in
theorem i_headText__c_ok : ∀ (k1 : Int) (n1 : Int) (s1 : ByteArray) (q1 : Nat) (f1 : Bool) (ks1 : List LT) (i2 : Int) {r : (Rz ByteArray)}, i_headText__c (T.mk k1 n1 s1 (ers ks1)) i2 = some r → ∀ (O : Heap) (tk : Nat), ACalls Go.Proofs.Tryz.prog 106 [.cptr [.int .i64 k1, .int .i64 n1, .str s1, .imm q1 4 f1 (cellss ks1)], .int .i64 i2] O tk (RetZ HT O tk r (fun r v tk' => v = .str r)) := by
 intro k1 n1 s1 q1 f1 ks1 i2 r hM O tk
 unfold i_headText__c at hM
 refine acalls_of_run Go.Proofs.Tryz.func106 rfl rfl [] [] (Bor.nil _) [(0, .cptr [.int .i64 k1, .int .i64 n1, .str s1, .imm q1 4 f1 (cellss ks1)]), (1, .int .i64 i2)] (.cons (.cptr _) (.cons (entS rfl) (.nil _))) (leb rfl) (fun _ h => by cases h) (fun S0 hO htk hfz => ?_)
 refine run_sr ?_
 refine yR rfl ?_
 refine yN ?_
 refine run_seq ?_
 refine run_sr ?_
 refine yL rfl ?_
 refine run_pu rfl (nilCheck_step rfl rfl ⟨_, rfl⟩) rfl (ltb rfl) ?_
 refine yF hG rfl ?_
 refine yD hG rfl ?_
 refine yN ?_
 refine run_block ?_
 refine run_sr ?_
 refine yB rfl ?_
 refine yR rfl ?_
 refine yN ?_
 refine run_ifd rfl rfl (fun hb3 => ?_) (fun hb3 => ?_)
 ·replace hM := ite_t hb3 hM
  refine run_seq ?_
  refine run_sr ?_
  refine yL rfl ?_
  refine run_pu rfl (nilCheck_step rfl rfl ⟨_, rfl⟩) rfl (ltb rfl) ?_
  refine yF hG rfl ?_
  refine yD hG rfl ?_
  refine yL rfl ?_
  refine yB rfl ?_
  refine yN ?_
  refine run_ifd rfl rfl (fun hb4 => ?_) (fun hb4 => ?_)
  ·replace hM := ite_t hb4 hM
   refine run_region ?_
   replace hM := some_t hM
   subst hM
   exact run_call rfl rfl rfl (ltb rfl) rfl rfl rfl yE (i_stop_ok 7 0 _ _) (callK_retS (run_pan_at (⟨rfl, (show tk ≤ tk by omega), rfl⟩)))
  replace hM := ite_f hb4 hM
  refine run_skip ?_
  refine run_sr ?_
  refine yL rfl ?_
  refine yB rfl ?_
  refine yL rfl ?_
  refine run_pu rfl (nilCheck_step rfl rfl ⟨_, rfl⟩) rfl (ltb rfl) ?_
  refine yF hG rfl ?_
  refine yD hG rfl ?_
  refine yB rfl ?_
  obtain ⟨r5, hg6, hM⟩ := bind_t hM
  refine yK rfl (i_binderName_ok (IntKind.i64.wrap ((IntKind.i64.wrap (i2 - 1)) - n1)) hg6 _ _) (callK_retX (fun v tk7 (hle8 : tk ≤ tk7) h9 => ?_))
  subst h9
  refine yR rfl ?_
  refine yN ?_
  refine run_ret_to ?_
  replace hM := some_t hM
  subst hM
  refine fin_x hG rfl rfl rfl (v' := .str r5) (by rfl) ⟨rfl, (show tk ≤ tk7 by omega), _, rfl, rfl⟩
 replace hM := ite_f hb3 hM
 refine run_sr ?_
 refine yB rfl ?_
 refine yR rfl ?_
 refine yN ?_
 refine run_ifd rfl rfl (fun hb12 => ?_) (fun hb12 => ?_)
 ·replace hM := ite_t hb12 hM
  refine run_sr ?_
  refine yL rfl ?_
  refine run_pu rfl (nilCheck_step rfl rfl ⟨_, rfl⟩) rfl (ltb rfl) ?_
  refine yF hG rfl ?_
  refine yD hG rfl ?_
  obtain ⟨r13, hg14, hM⟩ := bind_t hM
  refine yK rfl (g_Itoa_ok n1 hg14 _ _) (callK_retX (fun v tk15 (hle16 : tk ≤ tk15) h17 => ?_))
  subst h17
  obtain ⟨hc20, hM⟩ := chk_t hM
  refine run_pu rfl (strAdd_step rfl rfl rfl hc20) rfl (ltb rfl) ?_
  refine yR rfl ?_
  refine yN ?_
  refine run_ret_to ?_
  replace hM := some_t hM
  subst hM
  refine fin_x hG rfl rfl rfl (v' := .str ((⟨#[63]⟩ : ByteArray) ++ r13)) (by rfl) ⟨rfl, (show tk ≤ tk15 by omega), _, rfl, rfl⟩
 replace hM := ite_f hb12 hM
 refine run_sr ?_
 refine yB rfl ?_
 refine yR rfl ?_
 refine yN ?_
 refine run_ifd rfl rfl (fun hb21 => ?_) (fun hb21 => ?_)
 ·replace hM := ite_t hb21 hM
  refine run_sr ?_
  refine yR rfl ?_
  refine yN ?_
  refine run_ret_to ?_
  replace hM := some_t hM
  subst hM
  refine fin_x hG rfl rfl rfl (v' := .str ⟨#[95]⟩) (by rfl) ⟨rfl, (show tk ≤ tk by omega), _, rfl, rfl⟩
 replace hM := ite_f hb21 hM
 refine run_skip ?_
 refine run_blk ?_
 refine run_sr ?_
 refine yL rfl ?_
 refine run_pu rfl (nilCheck_step rfl rfl ⟨_, rfl⟩) rfl (ltb rfl) ?_
 refine yF hG rfl ?_
 refine yD hG rfl ?_
 refine yR rfl ?_
 refine yN ?_
 refine run_ret_to ?_
 replace hM := some_t hM
 subst hM
 refine fin_x hG rfl rfl rfl (v' := .str s1) (by rfl) ⟨rfl, (show tk ≤ tk by omega), _, rfl, rfl⟩

def i_termText_L1 (rec_i_termText : T → Int → Option (Rz ByteArray)) (x1 : T) (i2 : Int) : Nat → ByteArray → Int → Option (Rz ByteArray)
 | 0, _, _ => none
 | m + 1, t37, i38 =>
  if i38 < ((x1.kids).length : Int) then
   (idx x1.kids i38).bind fun y40 =>
   zb (rec_i_termText y40 i2) fun r45 =>
   if y40.kind = 4 then
    chk ((⟨#[40]⟩ : ByteArray).size + r45.size ≤ 9223372036854775807) <|
    chk (((⟨#[40]⟩ : ByteArray) ++ r45).size + (⟨#[41]⟩ : ByteArray).size ≤ 9223372036854775807) <|
    chk ((⟨#[32]⟩ : ByteArray).size + (((⟨#[40]⟩ : ByteArray) ++ r45) ++ (⟨#[41]⟩ : ByteArray)).size ≤ 9223372036854775807) <|
    chk (t37.size + ((⟨#[32]⟩ : ByteArray) ++ (((⟨#[40]⟩ : ByteArray) ++ r45) ++ (⟨#[41]⟩ : ByteArray))).size ≤ 9223372036854775807) <|
    i_termText_L1 rec_i_termText x1 i2 m (t37 ++ ((⟨#[32]⟩ : ByteArray) ++ (((⟨#[40]⟩ : ByteArray) ++ r45) ++ (⟨#[41]⟩ : ByteArray)))) (IntKind.i64.wrap (i38 + 1))
   else
    if ((y40.kids).length : Int) > 0 then
     chk ((⟨#[40]⟩ : ByteArray).size + r45.size ≤ 9223372036854775807) <|
     chk (((⟨#[40]⟩ : ByteArray) ++ r45).size + (⟨#[41]⟩ : ByteArray).size ≤ 9223372036854775807) <|
     chk ((⟨#[32]⟩ : ByteArray).size + (((⟨#[40]⟩ : ByteArray) ++ r45) ++ (⟨#[41]⟩ : ByteArray)).size ≤ 9223372036854775807) <|
     chk (t37.size + ((⟨#[32]⟩ : ByteArray) ++ (((⟨#[40]⟩ : ByteArray) ++ r45) ++ (⟨#[41]⟩ : ByteArray))).size ≤ 9223372036854775807) <|
     i_termText_L1 rec_i_termText x1 i2 m (t37 ++ ((⟨#[32]⟩ : ByteArray) ++ (((⟨#[40]⟩ : ByteArray) ++ r45) ++ (⟨#[41]⟩ : ByteArray)))) (IntKind.i64.wrap (i38 + 1))
    else
     chk ((⟨#[32]⟩ : ByteArray).size + r45.size ≤ 9223372036854775807) <|
     chk (t37.size + ((⟨#[32]⟩ : ByteArray) ++ r45).size ≤ 9223372036854775807) <|
     i_termText_L1 rec_i_termText x1 i2 m (t37 ++ ((⟨#[32]⟩ : ByteArray) ++ r45)) (IntKind.i64.wrap (i38 + 1))
  else
   some (.ok t37)

def i_termText : Nat → T → Int → Option (Rz ByteArray)
 | 0, _, _ => none
 | n + 1, x1, i2 =>
  if x1.kind = 4 then
   (idx x1.kids 0).bind fun y4 =>
   (i_binderName i2).bind fun r9 =>
   chk ((⟨#[91]⟩ : ByteArray).size + r9.size ≤ 9223372036854775807) <|
   chk (((⟨#[91]⟩ : ByteArray) ++ r9).size + (⟨#[93, 32]⟩ : ByteArray).size ≤ 9223372036854775807) <|
   zb (i_termText n y4 (IntKind.i64.wrap (i2 + 1))) fun r18 =>
   chk ((((⟨#[91]⟩ : ByteArray) ++ r9) ++ (⟨#[93, 32]⟩ : ByteArray)).size + r18.size ≤ 9223372036854775807) <|
   some (.ok ((((⟨#[91]⟩ : ByteArray) ++ r9) ++ (⟨#[93, 32]⟩ : ByteArray)) ++ r18))
  else
   zb (i_headText__c x1 i2) fun r28 =>
   i_termText_L1 (i_termText n) x1 i2 n r28 0

def i_termText_P (n : Nat) : Prop := ∀ (k1 : Int) (n1 : Int) (s1 : ByteArray) (q1 : Nat) (f1 : Bool) (ks1 : List LT) (i2 : Int) {r : (Rz ByteArray)}, i_termText n (T.mk k1 n1 s1 (ers ks1)) i2 = some r → ∀ (O : Heap) (tk : Nat), ACalls Go.Proofs.Tryz.prog 78 [.agg [.int .i64 k1, .int .i64 n1, .str s1, .imm q1 4 f1 (cellss ks1)], .int .i64 i2] O tk (RetZ HT O tk r (fun r v tk' => v = .str r))

set_option maxHeartbeats 20000000 in
set_option maxHeartbeats 20000000 in
set_option maxRecDepth 100000 in
theorem i_termText_st (n : Nat) (ih_i_termText : i_termText_P n) : i_termText_P (n + 1) := by
 intro k1 n1 s1 q1 f1 ks1 i2 r hM O tk
 rw [i_termText] at hM
 refine acalls_of_run Go.Proofs.Tryz.func78 rfl rfl [] [] (Bor.nil _) [(0, .agg [.int .i64 k1, .int .i64 n1, .str s1, .imm q1 4 f1 (cellss ks1)]), (1, .int .i64 i2)] (.cons (.agg _) (.cons (entS rfl) (.nil _))) (leb rfl) (fun _ h => by cases h) (fun S0 hO htk hfz => ?_)
 refine run_sr ?_
 refine run_op rfl (box_step (d := 2) rfl rfl rfl rfl rfl) rfl (ltb rfl) ?_
 refine yR rfl ?_
 refine yN ?_
 refine run_seq ?_
 refine run_sr ?_
 refine yF hG rfl ?_
 refine yD hG rfl ?_
 refine yB rfl ?_
 refine yN ?_
 refine run_ifd rfl rfl (fun hb3 => ?_) (fun hb3 => ?_)
 ·replace hM := ite_t hb3 hM
  refine run_seq ?_
  refine run_draw [] (n := 13) mixed rfl yE ?_
  refine yTV 0 (by kernel_rfl) rfl ?_
  refine yTF hG 4 (by kernel_rfl) rfl ?_
  refine yTL hG 5 (by kernel_rfl) rfl ?_
  obtain ⟨y4, hy5, hM⟩ := bind_t hM
  obtain ⟨k6, n6, s6, q6, f6, ks6, rfl, hc7, hi8⟩ := tidx (ks := ks1) hy5
  refine yT 6 (by kernel_rfl) rfl rfl rfl (ltb rfl) ((indexImm_step hG rfl rfl rfl hi8 rfl rfl rfl rfl hc7).rd _) ?_
  refine yTL hG 7 (by kernel_rfl) rfl ?_
  refine yTV 8 (by kernel_rfl) rfl ?_
  refine yT 9 (by kernel_rfl) rfl rfl rfl (ltb rfl) ((abin_step rfl rfl rfl rfl (fun _ h => by cases h)).rd _) ?_
  obtain ⟨r9, hg10, hM⟩ := bind_t hM
  refine yC 1 (by kernel_rfl) rfl rfl (i_binderName_ok i2 hg10 _ _) (callK_retX (fun v tk11 (hle12 : tk ≤ tk11) h13 => ?_))
  subst h13
  obtain ⟨hc16, hM⟩ := chk_t hM
  refine yT 2 (by kernel_rfl) rfl rfl rfl (ltb rfl) ((strAdd_step rfl rfl rfl hc16).rd _) ?_
  obtain ⟨hc17, hM⟩ := chk_t hM
  refine yT 3 (by kernel_rfl) rfl rfl rfl (ltb rfl) ((strAdd_step rfl rfl rfl hc17).rd _) ?_
  obtain ⟨z23, hg19, hM⟩ := zb_t hM
  refine yC 10 (by kernel_rfl) rfl rfl (ih_i_termText k6 n6 s6 q6 f6 ks6 (IntKind.i64.wrap (i2 + 1)) hg19 _ _) (callK_retZ (fun r18 v tk20 hz26 (hle21 : tk11 ≤ tk20) h22 => ?_) (fun c p tk20 hz (_ : tk11 ≤ tk20) => by subst hz; obtain rfl := bd_stop hM; exact run_pan_at (⟨rfl, (show tk ≤ tk20 by omega), rfl⟩)))
  subst hz26
  replace hM := bd_ok hM
  subst h22
  obtain ⟨hc27, hM⟩ := chk_t hM
  refine yT 11 (by kernel_rfl) rfl rfl rfl (ltb rfl) ((strAdd_step rfl rfl rfl hc27).rd _) ?_
  refine yTW 12 (by kernel_rfl) rfl ?_
  refine AAny.done (by kernel_rfl) ?_
  refine run_ret_to ?_
  replace hM := some_t hM
  subst hM
  refine fin_x hG rfl rfl rfl (v' := .str ((((⟨#[91]⟩ : ByteArray) ++ r9) ++ (⟨#[93, 32]⟩ : ByteArray)) ++ r18)) (by rfl) ⟨rfl, (show tk ≤ tk20 by omega), _, rfl, rfl⟩
 replace hM := ite_f hb3 hM
 refine run_skip ?_
 refine run_sr ?_
 refine yL rfl ?_
 refine run_sub_ops (Sub.frbox (k := 2) (env' := [(0, .agg [.int .i64 k1, .int .i64 n1, .str s1, .imm q1 4 f1 (cellss ks1)]), (1, .int .i64 i2), (2, .cptr [.int .i64 k1, .int .i64 n1, .str s1, .imm q1 4 f1 (cellss ks1)]), (4, .str ⟨#[]⟩), (9, .cptr [.int .i64 k1, .int .i64 n1, .str s1, .imm q1 4 f1 (cellss ks1)]), (10, .int .i64 k1), (11, .bool (k1 == 4)), (24, .int .i64 i2)]) rfl rfl (.keep 0 _ _ rfl (.keep 1 _ _ rfl (.ptr 2 0 _ rfl (.keep 4 _ _ rfl (.ptr 9 0 _ rfl (.keep 10 _ _ rfl (.keep 11 _ _ rfl (.keep 24 _ _ rfl .nil))))))))) ?_
 obtain ⟨z33, hg29, hM⟩ := zb_t hM
 refine yK rfl (i_headText__c_ok k1 n1 s1 q1 f1 ks1 i2 hg29 _ _) (callK_retZ (fun r28 v tk30 hz36 (hle31 : tk ≤ tk30) h32 => ?_) (fun c p tk30 hz (_ : tk ≤ tk30) => by subst hz; obtain rfl := bd_stop hM; exact run_pan_at (⟨rfl, (show tk ≤ tk30 by omega), rfl⟩)))
 subst hz36
 replace hM := bd_ok hM
 subst h32
 refine yR rfl ?_
 refine yN ?_
 refine run_seq ?_
 refine run_sr ?_
 refine yF hG rfl ?_
 refine yD hG rfl ?_
 refine run_pu rfl (lenImm_step hG rfl rfl rfl rfl (tlen _)) rfl (ltb rfl) ?_
 refine yL rfl ?_
 refine yN ?_
 refine run_block ?_
 refine run_rounds (fun m σ => ∃ (t37 : ByteArray) (i38 : Int) (tki_termText_L1 : Nat), tk30 ≤ tki_termText_L1 ∧ i_termText_L1 (i_termText n) (T.mk k1 n1 s1 (ers ks1)) i2 m t37 i38 = some r ∧ σ = ⟨[(1, .int .i64 i2), (4, .str ⟨#[]⟩), (5, .str t37), (27, .imm q1 4 f1 (cellss ks1)), (28, .int .i64 (((ers ks1)).length : Int)), (29, .int .i64 i38)], [], [], O, tki_termText_L1⟩) n (Sub.pk [1, 4, 5, 27, 28, 29] rfl) ⟨r28, 0, tk30, Nat.le_refl _, hM, rfl⟩ (fun m σ hI => ?_)
 clear hM
 obtain ⟨t37, i38, tki_termText_L1, hle66, hM, rfl⟩ := hI
 obtain _ | m := m
 ·exact absurd hM (by rw [i_termText_L1]; exact fun h => by cases h)
 rw [i_termText_L1] at hM
 refine run_sr ?_
 refine yB rfl ?_
 refine yN ?_
 refine run_seq ?_
 refine run_ifd rfl rfl (fun hb39 => ?_) (fun hb39 => ?_)
 ·replace hM := ite_t hb39 hM
  refine run_skip ?_
  refine run_seq ?_
  refine run_block ?_
  refine run_sr ?_
  obtain ⟨y40, hy41, hM⟩ := bind_t hM
  obtain ⟨k42, n42, s42, q42, f42, ks42, rfl, hc43, hi44⟩ := tidx (ks := ks1) hy41
  refine run_pu rfl (indexImm_step hG rfl rfl rfl hi44 rfl rfl rfl rfl hc43) rfl (ltb rfl) ?_
  refine yD hG rfl ?_
  refine run_op rfl (alloc_step (d := 7) hG rfl rfl rfl) rfl (ltb rfl) ?_
  refine yS hG rfl ?_
  refine yN ?_
  refine run_sr ?_
  refine yD hG rfl ?_
  refine yL rfl ?_
  obtain ⟨z50, hg46, hM⟩ := zb_t hM
  refine yK rfl (ih_i_termText k42 n42 s42 q42 f42 ks42 i2 hg46 _ _) (callK_retZ (fun r45 v tk47 hz53 (hle48 : tki_termText_L1 ≤ tk47) h49 => ?_) (fun c p tk47 hz (_ : tki_termText_L1 ≤ tk47) => by subst hz; obtain rfl := bd_stop hM; exact run_pan_at (⟨rfl, (show tk ≤ tk47 by omega), rfl⟩)))
  subst hz53
  replace hM := bd_ok hM
  subst h49
  refine yR rfl ?_
  refine yN ?_
  refine run_seq ?_
  refine run_sr ?_
  refine yF hG rfl ?_
  refine yD hG rfl ?_
  refine yB rfl ?_
  refine yL rfl ?_
  refine run_splitd (i := 39) rfl (fun hb54 => ?_) (fun hb54 => ?_)
  ·replace hM := ite_t hb54 hM
   refine yO rfl ?_
   refine yO rfl ?_
   refine yO rfl ?_
   refine yO rfl ?_
   refine yP rfl ?_
   refine yN ?_
   refine run_sub_code (σ' := ⟨[(1, .int .i64 i2), (4, .str ⟨#[]⟩), (5, .str t37), (27, .imm q1 4 f1 (cellss ks1)), (28, .int .i64 (((ers ks1)).length : Int)), (29, .int .i64 i38), (8, .str r45), (44, .bool true)], [], [], O, tk47⟩) (Sub.trans (Sub.drop (k := 7) rfl) (Sub.env _ ⟨rfl, rfl, rfl, rfl, rfl, rfl, rfl, rfl, trivial⟩)) ?_
   refine run_if rfl rfl (fun _ => ?_) (fun h => by cases h)
   refine run_region ?_
   refine yL rfl ?_
   obtain ⟨hc55, hM⟩ := chk_t hM
   refine run_pu rfl (strAdd_step rfl rfl rfl hc55) rfl (ltb rfl) ?_
   obtain ⟨hc56, hM⟩ := chk_t hM
   refine run_pu rfl (strAdd_step rfl rfl rfl hc56) rfl (ltb rfl) ?_
   refine yR rfl ?_
   refine yN ?_
   refine run_region ?_
   refine yL rfl ?_
   refine yL rfl ?_
   obtain ⟨hc57, hM⟩ := chk_t hM
   refine run_pu rfl (strAdd_step rfl rfl rfl hc57) rfl (ltb rfl) ?_
   obtain ⟨hc58, hM⟩ := chk_t hM
   refine run_pu rfl (strAdd_step rfl rfl rfl hc58) rfl (ltb rfl) ?_
   refine yR rfl ?_
   refine yN ?_
   refine run_blk ?_
   refine run_region ?_
   refine yB rfl ?_
   refine yL rfl ?_
   refine yN ?_
   exact run_loop_end ⟨m, _, Nat.lt_succ_self _, ⟨(t37 ++ ((⟨#[32]⟩ : ByteArray) ++ (((⟨#[40]⟩ : ByteArray) ++ r45) ++ (⟨#[41]⟩ : ByteArray)))), (IntKind.i64.wrap (i38 + 1)), tk47, (show tk30 ≤ tk47 by omega), hM, rfl⟩, Sub.pk [1, 4, 5, 27, 28, 29] rfl⟩
  replace hM := ite_f hb54 hM
  refine run_puG (on_of rfl rfl rfl rfl) (fieldAddr_step hG rfl rfl rfl rfl rfl) rfl (ltb rfl) ?_
  refine run_rdG (on_of rfl rfl rfl rfl) (aload_rd hG rfl rfl rfl (by first | (simp [ldok]; done) | exact List.not_mem_nil | trivial)) rfl (ltb rfl) ?_
  refine run_puG (on_of rfl rfl rfl rfl) (lenImm_step hG rfl rfl rfl rfl (tlen _)) rfl (ltb rfl) ?_
  refine run_puG (on_of rfl rfl rfl rfl) (abin_step rfl rfl rfl rfl (fun _ h => by cases h)) rfl (ltb rfl) ?_
  refine yP rfl ?_
  refine yN ?_
  refine run_sub_code (σ' := ⟨[(1, .int .i64 i2), (4, .str ⟨#[]⟩), (5, .str t37), (27, .imm q1 4 f1 (cellss ks1)), (28, .int .i64 (((ers ks1)).length : Int)), (29, .int .i64 i38), (8, .str r45), (44, .bool (decide ((((ers ks42)).length : Int) > 0)))], [], [], O, tk47⟩) (Sub.trans (Sub.drop (k := 7) rfl) (Sub.env _ ⟨rfl, rfl, rfl, rfl, rfl, rfl, rfl, rfl, trivial⟩)) ?_
  refine run_ifd rfl rfl (fun hb59 => ?_) (fun hb59 => ?_)
  ·replace hM := ite_t hb59 hM
   refine run_region ?_
   refine yL rfl ?_
   obtain ⟨hc60, hM⟩ := chk_t hM
   refine run_pu rfl (strAdd_step rfl rfl rfl hc60) rfl (ltb rfl) ?_
   obtain ⟨hc61, hM⟩ := chk_t hM
   refine run_pu rfl (strAdd_step rfl rfl rfl hc61) rfl (ltb rfl) ?_
   refine yR rfl ?_
   refine yN ?_
   refine run_region ?_
   refine yL rfl ?_
   refine yL rfl ?_
   obtain ⟨hc62, hM⟩ := chk_t hM
   refine run_pu rfl (strAdd_step rfl rfl rfl hc62) rfl (ltb rfl) ?_
   obtain ⟨hc63, hM⟩ := chk_t hM
   refine run_pu rfl (strAdd_step rfl rfl rfl hc63) rfl (ltb rfl) ?_
   refine yR rfl ?_
   refine yN ?_
   refine run_blk ?_
   refine run_region ?_
   refine yB rfl ?_
   refine yL rfl ?_
   refine yN ?_
   exact run_loop_end ⟨m, _, Nat.lt_succ_self _, ⟨(t37 ++ ((⟨#[32]⟩ : ByteArray) ++ (((⟨#[40]⟩ : ByteArray) ++ r45) ++ (⟨#[41]⟩ : ByteArray)))), (IntKind.i64.wrap (i38 + 1)), tk47, (show tk30 ≤ tk47 by omega), hM, rfl⟩, Sub.pk [1, 4, 5, 27, 28, 29] rfl⟩
  replace hM := ite_f hb59 hM
  refine run_skip ?_
  refine run_region ?_
  refine yL rfl ?_
  refine yL rfl ?_
  obtain ⟨hc64, hM⟩ := chk_t hM
  refine run_pu rfl (strAdd_step rfl rfl rfl hc64) rfl (ltb rfl) ?_
  obtain ⟨hc65, hM⟩ := chk_t hM
  refine run_pu rfl (strAdd_step rfl rfl rfl hc65) rfl (ltb rfl) ?_
  refine yR rfl ?_
  refine yN ?_
  refine run_blk ?_
  refine run_region ?_
  refine yB rfl ?_
  refine yL rfl ?_
  refine yN ?_
  exact run_loop_end ⟨m, _, Nat.lt_succ_self _, ⟨(t37 ++ ((⟨#[32]⟩ : ByteArray) ++ r45)), (IntKind.i64.wrap (i38 + 1)), tk47, (show tk30 ≤ tk47 by omega), hM, rfl⟩, Sub.pk [1, 4, 5, 27, 28, 29] rfl⟩
 replace hM := ite_f hb39 hM
 refine run_exit_to rfl ?_
 refine run_sr ?_
 refine yL rfl ?_
 refine yR rfl ?_
 refine yN ?_
 refine run_ret_to ?_
 replace hM := some_t hM
 subst hM
 refine fin_x hG rfl rfl rfl (v' := .str t37) (by rfl) ⟨rfl, (show tk ≤ tki_termText_L1 by omega), _, rfl, rfl⟩

theorem i_termText_all : ∀ (n : Nat), (i_termText_P n)
 | 0 => by intro k1 n1 s1 q1 f1 ks1 i2 r hM; rw [i_termText] at hM; cases hM
 | n + 1 => have ih := i_termText_all n; i_termText_st n (ih)

theorem i_termText_ok (n : Nat) : i_termText_P n := i_termText_all n

end Go.Am.YtoajlhhalpldfaaGreatDoor
