/- Printed by a program of ours: Lean functions that do what the Go functions do, and the contracts. -/
import Derived.Test.YtoajlhhalpldfaaGreatDoorMl0
import Derived.Test.YtoajlhhalpldfaaGreatDoorMl2
import Derived.Test.YtoajlhhalpldfaaGreatDoorMb1
import Derived.Test.YtoajlhhalpldfaaGreatDoorMb3
import Derived.Test.YtoajlhhalpldfaaGreatDoorTypes
import Derived.Test.YtoajlhhalpldfaaGreatDoorMi4
import Derived.Test.YtoajlhhalpldfaaGreatDoorMc1
import Derived.Test.YtoajlhhalpldfaaGreatDoorMz
import Derived.Test.YtoajlhhalpldfaaGreatDoorMt
import Derived.Test.YtoajlhhalpldfaaGreatDoorTzF
import Derived.Test.YtoajlhhalpldfaaGreatDoorTzS
import Derived.Test.YtoajlhhalpldfaaGreatDoorTqC
import Derived.Test.YtoajlhhalpldfaaGreatDoorDkFam
-- packed
namespace Go.Am.YtoajlhhalpldfaaGreatDoor
open Go Go.Am

def i_FamilyText_c1__kk (n : Nat) (x1 : T) (i2 : Int) : Option (Rz ByteArray) :=
 zb (i_familyText n x1 i2) fun r3 =>
 some (.ok r3)

set_option maxRecDepth 100000 in
theorem i_FamilyText_c1__kk_ok (n : Nat) : ∀ (k1 : Int) (n1 : Int) (s1 : ByteArray) (q1 : Nat) (f1 : Bool) (ks1 : List LT) (i2 : Int) {r : (Rz ByteArray)}, i_FamilyText_c1__kk n (T.mk k1 n1 s1 (ers ks1)) i2 = some r → ∀ (O : Heap) (tk : Nat), ACalls Go.Proofs.Tryz.prog 47 [.cptr [.int .i64 k1, .int .i64 n1, .str s1, .imm q1 4 f1 (cellss ks1)], .cptr [.int .i64 i2]] O tk (RetZ HT O tk r (fun r v tk' => v = .str r)) := by
 intro k1 n1 s1 q1 f1 ks1 i2 r hM O tk
 unfold i_FamilyText_c1__kk at hM
 refine acalls_of_run Go.Proofs.Tryz.func47 rfl rfl [] [] (Bor.nil _) [(0, .cptr [.int .i64 k1, .int .i64 n1, .str s1, .imm q1 4 f1 (cellss ks1)]), (1, .cptr [.int .i64 i2])] (.cons (.cptr _) (.cons (.cptr _) (.nil _))) (leb rfl) (fun _ h => by cases h) (fun S0 hO htk hfz => ?_)
 refine run_sr ?_
 refine yR rfl ?_
 refine yN ?_
 refine run_sr ?_
 refine yD hG rfl ?_
 refine yD hG rfl ?_
 obtain ⟨z8, hg4, hM⟩ := zb_t hM
 refine yK rfl (i_familyText_ok n k1 n1 s1 q1 f1 ks1 i2 hg4 _ _) (callK_retZ (fun r3 v tk5 hz11 (hle6 : tk ≤ tk5) h7 => ?_) (fun c p tk5 hz (_ : tk ≤ tk5) => by subst hz; obtain rfl := bd_stop hM; exact run_pan_at (⟨rfl, (show tk ≤ tk5 by omega), rfl⟩)))
 subst hz11
 replace hM := bd_ok hM
 subst h7
 refine yR rfl ?_
 refine yN ?_
 refine run_ret_to ?_
 replace hM := some_t hM
 subst hM
 refine fin_x hG rfl rfl rfl (v' := .str r3) (by rfl) ⟨rfl, (show tk ≤ tk5 by omega), _, rfl, rfl⟩

def i_told_c1__of_i_FamilyText_c1_kv (n : Nat) (x1 : T) (i2 : Int) (t3 : ByteArray) : Option (Rz ByteArray) :=
 zb (i_FamilyText_c1__kk n x1 i2) fun r4 =>
 some (.ok r4)

set_option maxRecDepth 100000 in
theorem i_told_c1__of_i_FamilyText_c1_kv_ok (n : Nat) : ∀ (k1 : Int) (n1 : Int) (s1 : ByteArray) (q1 : Nat) (f1 : Bool) (ks1 : List LT) (i2 : Int) (X0 : ID) (t3 : ByteArray) {r : (Rz ByteArray)}, i_told_c1__of_i_FamilyText_c1_kv n (T.mk k1 n1 s1 (ers ks1)) i2 t3 = some r → ∀ (O : Heap) (tk : Nat), O X0 = some ⟨9, 1, true, [[.str t3]]⟩ → ACalls Go.Proofs.Tryz.prog 76 [.cptr [.fn (.func 47) [] [.cptr [.int .i64 k1, .int .i64 n1, .str s1, .imm q1 4 f1 (cellss ks1)], .cptr [.int .i64 i2]]], .optr X0 0 0] O tk (RetVZ HT O X0 tk r (fun r v o' tk' => ∃ (c0 : ByteArray) , r = c0 ∧ o' = ⟨9, 1, true, [[.str c0]]⟩ ∧ v = .tup []) (fun o' => o'.up = o')) := by
 intro k1 n1 s1 q1 f1 ks1 i2 X0 t3 r hM O tk hX0
 unfold i_told_c1__of_i_FamilyText_c1_kv at hM
 refine acalls_of_run Go.Proofs.Tryz.func76 rfl rfl [X0] [⟨9, 1, true, [[.str t3]]⟩] (Bor.one hX0 rfl) [(0, .cptr [.fn (.func 47) [] [.cptr [.int .i64 k1, .int .i64 n1, .str s1, .imm q1 4 f1 (cellss ks1)], .cptr [.int .i64 i2]]]), (1, .optr (.bor 0) 0 0)] (.cons (.cptr _) (.cons (.bor 0 _ _ _ rfl) (.nil _))) (leb rfl) (by intro y h; simp only [List.mem_cons, List.not_mem_nil, or_false] at h; rcases h with rfl <;> simp [tch, tch0]) (fun S0 hO htk hfz => ?_)
 refine run_region ?_
 refine yD hG rfl ?_
 obtain ⟨z9, hg5, hM⟩ := zb_t hM
 refine yK rfl (i_FamilyText_c1__kk_ok n k1 n1 s1 q1 f1 ks1 i2 hg5 _ _) (callK_retZ (fun r4 v tk6 hz12 (hle7 : tk ≤ tk6) h8 => ?_) (fun c p tk6 hz (_ : tk ≤ tk6) => by subst hz; obtain rfl := bd_stop hM; exact run_pan_at (⟨⟨9, 1, true, [[.str t3]]⟩, rfl, (show tk ≤ tk6 by omega), rfl, rfl⟩)))
 subst hz12
 replace hM := bd_ok hM
 subst h8
 refine yS hG rfl ?_
 refine yN ?_
 show Results _ _ _ _
 replace hM := some_t hM
 subst hM
 refine fin_x hG rfl rfl rfl (v' := .tup []) (by rfl) ⟨⟨9, 1, true, [[.str r4]]⟩, rfl, (show tk ≤ tk6 by omega), _, rfl, ⟨r4, rfl, rfl, rfl⟩⟩

def i_told__fn_i_FamilyText_c1kk (n : Nat) (b1 : Bool) (i2 : Int) (x3 : T) (i4 : Int) : Option (ByteArray × Int) :=
 if (!b1) = true then
  some (⟨#[]⟩, 1)
 else
  (i_in i2 0 100).bind fun r6 =>
  if (!r6) = true then
   some (⟨#[]⟩, 16)
  else
   (i_told_c1__of_i_FamilyText_c1_kv n x3 i4 (⟨#[]⟩)).bind fun z14 =>
   z14.cs (fun r17 =>
    if (0 != 0) = true then
     some (⟨#[]⟩, 0)
    else
     some (r17, 0)) (fun c22 p23 =>
    if (c22 != 0) = true then
     some (⟨#[]⟩, c22)
    else
     none)

set_option maxRecDepth 100000 in
theorem i_told__fn_i_FamilyText_c1kk_ok (n : Nat) : ∀ (b1 : Bool) (i2 : Int) (k3 : Int) (n3 : Int) (s3 : ByteArray) (q3 : Nat) (f3 : Bool) (ks3 : List LT) (i4 : Int) {r : (ByteArray × Int)}, i_told__fn_i_FamilyText_c1kk n b1 i2 (T.mk k3 n3 s3 (ers ks3)) i4 = some r → ∀ (O : Heap) (tk : Nat), ACalls Go.Proofs.Tryz.prog 44 [.bool b1, .int .i64 i2, .fn (.func 47) [] [.cptr [.int .i64 k3, .int .i64 n3, .str s3, .imm q3 4 f3 (cellss ks3)], .cptr [.int .i64 i4]]] O tk (RetX O tk (fun v tk' => ∃ r0' r1' v0' v1', r = (r0', r1') ∧ v = .tup [v0', v1'] ∧ v0' = .str r0' ∧ v1' = .int .i64 r1')) := by
 intro b1 i2 k3 n3 s3 q3 f3 ks3 i4 r hM O tk
 unfold i_told__fn_i_FamilyText_c1kk at hM
 refine acalls_of_run Go.Proofs.Tryz.func44 rfl rfl [] [] (Bor.nil _) [(0, .bool b1), (1, .int .i64 i2), (2, .fn (.func 47) [] [.cptr [.int .i64 k3, .int .i64 n3, .str s3, .imm q3 4 f3 (cellss ks3)], .cptr [.int .i64 i4]])] (.cons (entS rfl) (.cons (entS rfl) (.cons (ent_fn2 (.cptr _) (.cptr _)) (.nil _)))) (leb rfl) (fun _ h => by cases h) (fun S0 hO htk hfz => ?_)
 refine run_sr ?_
 refine run_op rfl (box_step (d := 5) rfl rfl rfl rfl rfl) rfl (ltb rfl) ?_
 refine yR rfl ?_
 refine yR rfl ?_
 refine yN ?_
 refine run_seq ?_
 refine run_block ?_
 refine run_sr ?_
 refine yL rfl ?_
 refine run_pu rfl (aun_step rfl rfl rfl) rfl (ltb rfl) ?_
 refine yR rfl ?_
 refine yN ?_
 refine run_ifb rfl rfl (fun hb5 => ?_) (fun hb5 => ?_)
 ·replace hM := ite_t hb5 hM
  refine run_sr ?_
  refine yR rfl ?_
  refine yR rfl ?_
  refine yN ?_
  refine run_ret_to ?_
  replace hM := some_t hM
  subst hM
  refine fin_x hG rfl rfl rfl (v' := .tup [.str ⟨#[]⟩, .int .i64 1]) (by rfl) ⟨rfl, (show tk ≤ tk by omega), _, rfl, ⟨_, _, _, _, rfl, rfl, rfl, rfl⟩⟩
 replace hM := ite_f hb5 hM
 refine run_sr ?_
 refine yL rfl ?_
 obtain ⟨r6, hg7, hM⟩ := bind_t hM
 refine yK rfl (i_in_ok i2 0 100 hg7 _ _) (callK_retX (fun v tk8 (hle9 : tk ≤ tk8) h10 => ?_))
 subst h10
 refine run_pu rfl (aun_step rfl rfl rfl) rfl (ltb rfl) ?_
 refine yR rfl ?_
 refine yN ?_
 refine run_ifb rfl rfl (fun hb13 => ?_) (fun hb13 => ?_)
 ·replace hM := ite_t hb13 hM
  refine run_sr ?_
  refine yR rfl ?_
  refine yR rfl ?_
  refine yN ?_
  refine run_ret_to ?_
  replace hM := some_t hM
  subst hM
  refine fin_x hG rfl rfl rfl (v' := .tup [.str ⟨#[]⟩, .int .i64 16]) (by rfl) ⟨rfl, (show tk ≤ tk8 by omega), _, rfl, ⟨_, _, _, _, rfl, rfl, rfl, rfl⟩⟩
 replace hM := ite_f hb13 hM
 refine run_skip ?_
 refine run_blk ?_
 refine run_sr ?_
 refine run_op rfl (alloc_step (d := 8) hG rfl rfl rfl) rfl (ltb rfl) ?_
 refine yS hG rfl ?_
 refine yN ?_
 refine run_seq ?_
 refine run_sr ?_
 refine run_sub_ops (Sub.frbox (k := 5) (env' := [(0, .bool b1), (1, .int .i64 i2), (2, .fn (.func 47) [] [.cptr [.int .i64 k3, .int .i64 n3, .str s3, .imm q3 4 f3 (cellss ks3)], .cptr [.int .i64 i4]]), (5, .cptr [.fn (.func 47) [] [.cptr [.int .i64 k3, .int .i64 n3, .str s3, .imm q3 4 f3 (cellss ks3)], .cptr [.int .i64 i4]]]), (6, .str ⟨#[]⟩), (7, .int .i64 0), (11, .bool b1), (12, .bool (!b1)), (10, .bool (!b1)), (14, .int .i64 i2), (15, .bool r6), (16, .bool (!r6)), (13, .bool (!r6)), (8, .optr (.loc 8) 0 0)]) rfl rfl (.keep 0 _ _ rfl (.keep 1 _ _ rfl (.keep 2 _ _ rfl (.ptr 5 0 _ rfl (.keep 6 _ _ rfl (.keep 7 _ _ rfl (.keep 11 _ _ rfl (.keep 12 _ _ rfl (.keep 10 _ _ rfl (.keep 14 _ _ rfl (.keep 15 _ _ rfl (.keep 16 _ _ rfl (.keep 13 _ _ rfl (.keep 8 _ _ rfl .nil))))))))))))))) ?_
 refine run_pu rfl (makeFunc_step (first := []) (cap := [.tmp 5, .tmp 8]) rfl rfl rfl) rfl (ltb rfl) ?_
 obtain ⟨z14, hg15, hM⟩ := bind_t hM
 refine yK rfl (caught_vz (j := 0) rfl (K := 76) (bor := [.loc 8]) (b := [⟨9, 1, true, [[.str ⟨#[]⟩]]⟩]) (caps := [.cptr [.fn (.func 47) [] [.cptr [.int .i64 k3, .int .i64 n3, .str s3, .imm q3 4 f3 (cellss ks3)], .cptr [.int .i64 i4]]], .optr (.loc 8) 0 0]) (caps' := [.cptr [.fn (.func 47) [] [.cptr [.int .i64 k3, .int .i64 n3, .str s3, .imm q3 4 f3 (cellss ks3)], .cptr [.int .i64 i4]]], .optr (.bor 0) 0 0]) (Bor.cons rfl rfl (by decide) (Bor.nil _)) (.cons (.cptr _) (.cons (.bor 0 _ _ _ rfl) .nil)) rfl (by intro y h; simp only [List.mem_cons, List.not_mem_nil, or_false] at h; rcases h with rfl <;> simp [tch, tch0]) rfl (i_told_c1__of_i_FamilyText_c1_kv_ok n k3 n3 s3 q3 f3 ks3 i4 (.bor 0) ⟨#[]⟩ hg15 _ _ rfl) (fun a v o' tk' h => by obtain ⟨_, rfl, rfl, _⟩ := h; rfl)) (callK_retV_loc (k := 8) rfl (fun v o'20 tk18 (hle19 : tk8 ≤ tk18) h16 => ?_))
 rcases z14 with r17 | ⟨c22, p23⟩
 ·replace hM := cs_ok hM
  obtain ⟨rfl, _, ⟨_, rfl, rfl, rfl⟩⟩ := h16
  refine run_op rfl (alloc_step (d := 9) hG rfl rfl rfl) rfl (ltb rfl) ?_
  refine yS hG rfl ?_
  refine yN ?_
  refine run_sub_code (σ' := ⟨[(6, .str ⟨#[]⟩), (7, .int .i64 0), (8, .optr (.loc 8) 0 0), (9, .optr (.loc 9) 0 0)], [(9, ⟨77, 2, true, [[.int .i64 0, .int .i64 0]]⟩), (8, ⟨9, 1, true, [[.str r17]]⟩)], [], O, tk18⟩) (Sub.env _ ⟨rfl, rfl, rfl, rfl, trivial⟩) ?_
  refine run_sr ?_
  refine yF hG rfl ?_
  refine yD hG rfl ?_
  refine yB rfl ?_
  refine yN ?_
  refine run_ifb rfl rfl (fun hb24 => ?_) (fun hb24 => ?_)
  ·replace hM := ite_t hb24 hM
   refine run_seq ?_
   refine run_draw [] (n := 4) mixed rfl yE ?_
   refine yTF hG 0 (by kernel_rfl) rfl ?_
   refine yTL hG 1 (by kernel_rfl) rfl ?_
   refine yTW 2 (by kernel_rfl) rfl ?_
   refine yTW 3 (by kernel_rfl) rfl ?_
   refine AAny.done (by kernel_rfl) ?_
   refine run_ret_to ?_
   replace hM := some_t hM
   subst hM
   refine fin_x hG rfl rfl rfl (v' := .tup [.str ⟨#[]⟩, .int .i64 0]) (by rfl) ⟨rfl, (show tk ≤ tk18 by omega), _, rfl, ⟨_, _, _, _, rfl, rfl, rfl, rfl⟩⟩
  replace hM := ite_f hb24 hM
  refine run_skip ?_
  refine run_sr ?_
  refine yD hG rfl ?_
  refine yR rfl ?_
  refine yR rfl ?_
  refine yN ?_
  refine run_ret_to ?_
  replace hM := some_t hM
  subst hM
  refine fin_x hG rfl rfl rfl (v' := .tup [.str r17, .int .i64 0]) (by rfl) ⟨rfl, (show tk ≤ tk18 by omega), _, rfl, ⟨_, _, _, _, rfl, rfl, rfl, rfl⟩⟩
 replace hM := cs_stop hM
 obtain ⟨rfl, _⟩ := h16
 refine run_op rfl (alloc_step (d := 9) hG rfl rfl rfl) rfl (ltb rfl) ?_
 refine yS hG rfl ?_
 refine yN ?_
 refine run_sub_code (σ' := ⟨[(6, .str ⟨#[]⟩), (7, .int .i64 0), (8, .optr (.loc 8) 0 0), (9, .optr (.loc 9) 0 0)], [(9, ⟨77, 2, true, [[.int .i64 c22, .int .i64 p23]]⟩), (8, o'20)], [], O, tk18⟩) (Sub.env _ ⟨rfl, rfl, rfl, rfl, trivial⟩) ?_
 refine run_sr ?_
 refine yF hG rfl ?_
 refine yD hG rfl ?_
 refine yB rfl ?_
 refine yN ?_
 refine run_ifb rfl rfl (fun hb25 => ?_) (fun hb25 => ?_)
 ·replace hM := ite_t hb25 hM
  refine run_seq ?_
  refine run_draw [] (n := 4) mixed rfl yE ?_
  refine yTF hG 0 (by kernel_rfl) rfl ?_
  refine yTL hG 1 (by kernel_rfl) rfl ?_
  refine yTW 2 (by kernel_rfl) rfl ?_
  refine yTW 3 (by kernel_rfl) rfl ?_
  refine AAny.done (by kernel_rfl) ?_
  refine run_ret_to ?_
  replace hM := some_t hM
  subst hM
  refine fin_x hG rfl rfl rfl (v' := .tup [.str ⟨#[]⟩, .int .i64 c22]) (by rfl) ⟨rfl, (show tk ≤ tk18 by omega), _, rfl, ⟨_, _, _, _, rfl, rfl, rfl, rfl⟩⟩
 replace hM := ite_f hb25 hM
 refine run_skip ?_
 refine run_sr ?_
 cases hM

def i_FamilyText (n : Nat) (x1 : T) (i2 : Int) : Option (ByteArray × Int) :=
 (i_FamilyOK n x1).bind fun r3 =>
 if r3 = true then
  (i_told__fn_i_FamilyText_c1kk n true i2 x1 i2).bind fun r11 =>
  some (r11.1, r11.2)
 else
  (i_KindOK n x1).bind fun r24 =>
  (i_told__fn_i_FamilyText_c1kk n r24 i2 x1 i2).bind fun r31 =>
  some (r31.1, r31.2)

set_option maxRecDepth 100000 in
theorem i_FamilyText_ok (n : Nat) : ∀ (k1 : Int) (n1 : Int) (s1 : ByteArray) (q1 : Nat) (f1 : Bool) (ks1 : List LT) (i2 : Int) {r : (ByteArray × Int)}, i_FamilyText n (T.mk k1 n1 s1 (ers ks1)) i2 = some r → ∀ (O : Heap) (tk : Nat), ACalls Go.Proofs.Tryz.prog 15 [.agg [.int .i64 k1, .int .i64 n1, .str s1, .imm q1 4 f1 (cellss ks1)], .int .i64 i2] O tk (RetX O tk (fun v tk' => ∃ r0' r1' v0' v1', r = (r0', r1') ∧ v = .tup [v0', v1'] ∧ v0' = .str r0' ∧ v1' = .int .i64 r1')) := by
 intro k1 n1 s1 q1 f1 ks1 i2 r hM O tk
 unfold i_FamilyText at hM
 refine acalls_of_run Go.Proofs.Tryz.func15 rfl rfl [] [] (Bor.nil _) [(0, .agg [.int .i64 k1, .int .i64 n1, .str s1, .imm q1 4 f1 (cellss ks1)]), (1, .int .i64 i2)] (.cons (.agg _) (.cons (entS rfl) (.nil _))) (leb rfl) (fun _ h => by cases h) (fun S0 hO htk hfz => ?_)
 refine run_sr ?_
 refine run_op rfl (box_step (d := 2) rfl rfl rfl rfl rfl) rfl (ltb rfl) ?_
 refine run_op rfl (box_step (d := 3) rfl rfl rfl rfl rfl) rfl (ltb rfl) ?_
 refine yR rfl ?_
 refine yR rfl ?_
 refine yN ?_
 refine run_seq ?_
 refine run_draw [] (n := 13) mixed rfl yE ?_
 refine yTL hG 0 (by kernel_rfl) rfl ?_
 refine yTL hG 6 (by kernel_rfl) rfl ?_
 refine AAny.sub (Sub.frbox (k := 2) (env' := [(0, .agg [.int .i64 k1, .int .i64 n1, .str s1, .imm q1 4 f1 (cellss ks1)]), (1, .int .i64 i2), (2, .cptr [.int .i64 k1, .int .i64 n1, .str s1, .imm q1 4 f1 (cellss ks1)]), (3, .optr (.loc 3) 0 0), (4, .str ⟨#[]⟩), (5, .int .i64 0), (6, .agg [.int .i64 k1, .int .i64 n1, .str s1, .imm q1 4 f1 (cellss ks1)]), (12, .int .i64 i2)]) rfl rfl (.keep 0 _ _ rfl (.keep 1 _ _ rfl (.ptr 2 0 _ rfl (.keep 3 _ _ rfl (.keep 4 _ _ rfl (.keep 5 _ _ rfl (.keep 6 _ _ rfl (.keep 12 _ _ rfl .nil))))))))) yE ?_
 refine AAny.sub (Sub.frbox (k := 3) (env' := [(0, .agg [.int .i64 k1, .int .i64 n1, .str s1, .imm q1 4 f1 (cellss ks1)]), (1, .int .i64 i2), (2, .cptr [.int .i64 k1, .int .i64 n1, .str s1, .imm q1 4 f1 (cellss ks1)]), (3, .cptr [.int .i64 i2]), (4, .str ⟨#[]⟩), (5, .int .i64 0), (6, .agg [.int .i64 k1, .int .i64 n1, .str s1, .imm q1 4 f1 (cellss ks1)]), (12, .int .i64 i2)]) rfl rfl (.keep 0 _ _ rfl (.keep 1 _ _ rfl (.keep 2 _ _ rfl (.ptr 3 0 _ rfl (.keep 4 _ _ rfl (.keep 5 _ _ rfl (.keep 6 _ _ rfl (.keep 12 _ _ rfl .nil))))))))) yE ?_
 refine yT 7 (by kernel_rfl) rfl rfl rfl (ltb rfl) ((makeFunc_step (first := []) (cap := [.tmp 2, .tmp 3]) rfl rfl rfl).rd _) ?_
 obtain ⟨r3, hg4, hM⟩ := bind_t hM
 refine yC 1 (by kernel_rfl) rfl rfl (i_FamilyOK_ok n k1 n1 s1 q1 f1 ks1 hg4 _ _) (callK_retX (fun v tk5 (hle6 : tk ≤ tk5) h7 => ?_))
 subst h7
 refine yTV 2 (by kernel_rfl) rfl ?_
 refine AAny.split (i := 8) rfl yE (fun hb10 => ?_) (fun hb10 => ?_)
 ·replace hM := ite_t hb10 hM
  refine AAny.off (i := 3) rfl (by kernel_rfl) (by kernel_rfl) (by kernel_rfl) (on_of rfl rfl rfl rfl) rfl (ltb rfl) ?_
  refine AAny.off (i := 4) rfl (by kernel_rfl) (by kernel_rfl) (by kernel_rfl) (on_of rfl rfl rfl rfl) rfl (ltb rfl) ?_
  refine yT 5 (by kernel_rfl) rfl rfl rfl (ltb rfl) ((pick_step rfl rfl rfl).rd _) ?_
  obtain ⟨r11, hg12, hM⟩ := bind_t hM
  refine AAny.one (i := 8) (by kernel_rfl) (AOp.call rfl rfl rfl rfl (ltb rfl) rfl rfl rfl yE (by first | (exact fun _ h => absurd h List.not_mem_nil) | intro x hx; simp only [tch, tch0, List.nil_append, List.append_nil, List.cons_append, List.mem_cons, List.not_mem_nil, or_false] at hx; first | (subst hx; simp; done) | (rcases hx with rfl | rfl <;> simp; done) | (rcases hx with rfl | rfl | rfl <;> simp; done) | (rcases hx with rfl | rfl | rfl | rfl <;> simp; done)) (i_told__fn_i_FamilyText_c1kk_ok n true i2 k1 n1 s1 q1 f1 ks1 i2 hg12 _ _) (callK_retX (fun v tk13 (hle14 : tk5 ≤ tk13) h15 => ?_)))
  obtain ⟨ra20, ra21, va22, va23, rfl, rfl, rfl, rfl⟩ := h15
  refine yT 9 (by kernel_rfl) rfl rfl rfl (ltb rfl) ((extract_step rfl rfl rfl).rd _) ?_
  refine yT 10 (by kernel_rfl) rfl rfl rfl (ltb rfl) ((extract_step rfl rfl rfl).rd _) ?_
  refine yTW 11 (by kernel_rfl) rfl ?_
  refine yTW 12 (by kernel_rfl) rfl ?_
  refine AAny.done (by kernel_rfl) ?_
  refine run_ret_to ?_
  replace hM := some_t hM
  subst hM
  refine fin_x hG rfl rfl rfl (v' := .tup [.str ra20, .int .i64 ra21]) (by rfl) ⟨rfl, (show tk ≤ tk13 by omega), _, rfl, ⟨_, _, _, _, rfl, rfl, rfl, rfl⟩⟩
 replace hM := ite_f (Bool.eq_false_iff.1 hb10) hM
 refine AAny.takeG (i := 3) rfl (by kernel_rfl) (by kernel_rfl) (by kernel_rfl) (on_of rfl rfl rfl rfl) rfl (ltb rfl) (aload_rd hG rfl rfl rfl (by first | (simp [ldok]; done) | exact List.not_mem_nil | trivial)) ?_
 obtain ⟨r24, hg25, hM⟩ := bind_t hM
 refine AAny.one (i := 4) (by kernel_rfl) (AOp.callG rfl (on_of rfl rfl rfl rfl) rfl rfl (ltb rfl) rfl rfl rfl yE yE (i_KindOK_ok n k1 n1 s1 q1 f1 ks1 hg25 _ _) (callK_retX (fun v tk26 (hle27 : tk5 ≤ tk26) h28 => ?_)))
 subst h28
 refine yT 5 (by kernel_rfl) rfl rfl rfl (ltb rfl) ((pick_step rfl rfl rfl).rd _) ?_
 obtain ⟨r31, hg32, hM⟩ := bind_t hM
 refine AAny.one (i := 8) (by kernel_rfl) (AOp.call rfl rfl rfl rfl (ltb rfl) rfl rfl rfl yE (by first | (exact fun _ h => absurd h List.not_mem_nil) | intro x hx; simp only [tch, tch0, List.nil_append, List.append_nil, List.cons_append, List.mem_cons, List.not_mem_nil, or_false] at hx; first | (subst hx; simp; done) | (rcases hx with rfl | rfl <;> simp; done) | (rcases hx with rfl | rfl | rfl <;> simp; done) | (rcases hx with rfl | rfl | rfl | rfl <;> simp; done)) (i_told__fn_i_FamilyText_c1kk_ok n r24 i2 k1 n1 s1 q1 f1 ks1 i2 hg32 _ _) (callK_retX (fun v tk33 (hle34 : tk26 ≤ tk33) h35 => ?_)))
 obtain ⟨ra40, ra41, va42, va43, rfl, rfl, rfl, rfl⟩ := h35
 refine yT 9 (by kernel_rfl) rfl rfl rfl (ltb rfl) ((extract_step rfl rfl rfl).rd _) ?_
 refine yT 10 (by kernel_rfl) rfl rfl rfl (ltb rfl) ((extract_step rfl rfl rfl).rd _) ?_
 refine yTW 11 (by kernel_rfl) rfl ?_
 refine yTW 12 (by kernel_rfl) rfl ?_
 refine AAny.done (by kernel_rfl) ?_
 refine run_ret_to ?_
 replace hM := some_t hM
 subst hM
 refine fin_x hG rfl rfl rfl (v' := .tup [.str ra40, .int .i64 ra41]) (by rfl) ⟨rfl, (show tk ≤ tk33 by omega), _, rfl, ⟨_, _, _, _, rfl, rfl, rfl, rfl⟩⟩

def s_FamilyText (n : Nat) (x1 : T) (i2 : Int) : Option (ByteArray × Int) :=
 jn (
  if i2 < 0 then
   some (⟨#[]⟩, 16)
  else
   if i2 > 100 then
    some (⟨#[]⟩, 16)
   else
    (s_l02Closed n x1 i2).bind fun r22 =>
    if (!r22) = true then
     some (⟨#[]⟩, 7)
    else
     (s_l02Family n x1 i2).bind fun r30 =>
     some (r30, 0)) fun j3 =>
 (s_FamilyOK n x1).bind fun r4 =>
 if (!r4) = true then
  (s_KindOK n x1).bind fun r12 =>
  if (!r12) = true then
   some (⟨#[]⟩, 1)
  else
   j3
 else
  j3

set_option maxRecDepth 100000 in
theorem s_FamilyText_ok (n : Nat) : ∀ (k1 : Int) (n1 : Int) (s1 : ByteArray) (q1 : Nat) (f1 : Bool) (ks1 : List LT) (i2 : Int) {r : (ByteArray × Int)}, s_FamilyText n (T.mk k1 n1 s1 (ers ks1)) i2 = some r → ∀ (O : Heap) (tk : Nat), ACalls Go.Proofs.Tryz.prog 13 [.agg [.int .i64 k1, .int .i64 n1, .str s1, .imm q1 4 f1 (cellss ks1)], .int .i64 i2] O tk (RetX O tk (fun v tk' => ∃ r0' r1' v0' v1', r = (r0', r1') ∧ v = .tup [v0', v1'] ∧ v0' = .str r0' ∧ v1' = .int .i64 r1')) := by
 intro k1 n1 s1 q1 f1 ks1 i2 r hM O tk
 unfold s_FamilyText at hM
 refine acalls_of_run Go.Proofs.Tryz.func13 rfl rfl [] [] (Bor.nil _) [(0, .agg [.int .i64 k1, .int .i64 n1, .str s1, .imm q1 4 f1 (cellss ks1)]), (1, .int .i64 i2)] (.cons (.agg _) (.cons (entS rfl) (.nil _))) (leb rfl) (fun _ h => by cases h) (fun S0 hO htk hfz => ?_)
 refine run_sr ?_
 refine run_op rfl (box_step (d := 2) rfl rfl rfl rfl rfl) rfl (ltb rfl) ?_
 refine yR rfl ?_
 refine yR rfl ?_
 refine yN ?_
 refine run_seq ?_
 refine run_seq ?_
 obtain ⟨j3, hj38, hM⟩ := jn_t hM
 refine run_cutL [.code _, .code _] (fun σ' => ∃ (tkj3 : Nat), tk ≤ tkj3 ∧ j3 = some r ∧ Sub ⟨Go.Proofs.Tryz.prog, S0, Go.Proofs.Tryz.f13.ntmps, [], fun _ => False, []⟩ σ' ⟨[(1, .int .i64 i2), (2, .optr (.loc 2) 0 0), (4, .str ⟨#[]⟩), (5, .int .i64 0)], [(2, ⟨27, 4, true, [[.int .i64 k1, .int .i64 n1, .str s1, .imm q1 4 f1 (cellss ks1)]]⟩)], [], O, tkj3⟩) rfl ?_ ?_
 ·refine run_region ?_
  refine yD hG rfl ?_
  obtain ⟨r4, hg5, hM⟩ := bind_t hM
  refine yK rfl (s_FamilyOK_ok n k1 n1 s1 q1 f1 ks1 hg5 _ _) (callK_retX (fun v tk6 (hle7 : tk ≤ tk6) h8 => ?_))
  subst h8
  refine run_pu rfl (aun_step rfl rfl rfl) rfl (ltb rfl) ?_
  refine yL rfl ?_
  refine run_splitb (i := 9) rfl (fun hb11 => ?_) (fun hb11 => ?_)
  ·replace hM := ite_t hb11 hM
   refine run_rdG (on_of rfl rfl rfl rfl) (aload_rd hG rfl rfl rfl (by first | (simp [ldok]; done) | exact List.not_mem_nil | trivial)) rfl (ltb rfl) ?_
   obtain ⟨r12, hg13, hM⟩ := bind_t hM
   refine yG (on_of rfl rfl rfl rfl) rfl (s_KindOK_ok n k1 n1 s1 q1 f1 ks1 hg13 _ _) (callK_retX (fun v tk14 (hle15 : tk6 ≤ tk14) h16 => ?_))
   subst h16
   refine run_puG (on_of rfl rfl rfl rfl) (aun_step rfl rfl rfl) rfl (ltb rfl) ?_
   refine yP rfl ?_
   refine yN ?_
   refine run_ifb rfl rfl (fun hb19 => ?_) (fun hb19 => ?_)
   ·replace hM := ite_t hb19 hM
    refine run_sr ?_
    refine yR rfl ?_
    refine yR rfl ?_
    refine yN ?_
    refine run_ret_to ?_
    refine cut_ret ?_
    replace hM := some_t hM
    subst hM
    refine fin_x hG rfl rfl rfl (v' := .tup [.str ⟨#[]⟩, .int .i64 1]) (by rfl) ⟨rfl, (show tk ≤ tk14 by omega), _, rfl, ⟨_, _, _, _, rfl, rfl, rfl, rfl⟩⟩
   replace hM := ite_f hb19 hM
   refine run_skip ?_
   exact ⟨tk14, (show tk ≤ tk14 by omega), hM, Sub.pk [1, 2, 4, 5] rfl⟩
  replace hM := ite_f hb11 hM
  refine yO rfl ?_
  refine yO rfl ?_
  refine yO rfl ?_
  refine yP rfl ?_
  refine yN ?_
  refine run_if rfl rfl (fun h => by cases h) (fun _ => ?_)
  refine run_skip ?_
  exact ⟨tk6, (show tk ≤ tk6 by omega), hM, Sub.pk [1, 2, 4, 5] rfl⟩
 clear hM
 rintro σ' ⟨tkj3, hle37, hM, hsub⟩
 rw [hj38] at hM
 clear hj38
 refine run_sub_code hsub ?_
 refine run_seq ?_
 refine run_sr ?_
 refine yL rfl ?_
 refine yB rfl ?_
 refine yL rfl ?_
 refine run_splitd (i := 16) rfl (fun hb20 => ?_) (fun hb20 => ?_)
 ·replace hM := ite_t hb20 hM
  refine yO rfl ?_
  refine yO rfl ?_
  refine yP rfl ?_
  refine yN ?_
  refine run_if rfl rfl (fun _ => ?_) (fun h => by cases h)
  refine run_sr ?_
  refine yR rfl ?_
  refine yR rfl ?_
  refine yN ?_
  refine run_ret_to ?_
  replace hM := some_t hM
  subst hM
  refine fin_x hG rfl rfl rfl (v' := .tup [.str ⟨#[]⟩, .int .i64 16]) (by rfl) ⟨rfl, (show tk ≤ tkj3 by omega), _, rfl, ⟨_, _, _, _, rfl, rfl, rfl, rfl⟩⟩
 replace hM := ite_f hb20 hM
 refine run_puG (on_of rfl rfl rfl rfl) (move_step (.inl rfl) rfl) rfl (ltb rfl) ?_
 refine run_puG (on_of rfl rfl rfl rfl) (abin_step rfl rfl rfl rfl (fun _ h => by cases h)) rfl (ltb rfl) ?_
 refine yP rfl ?_
 refine yN ?_
 refine run_ifd rfl rfl (fun hb21 => ?_) (fun hb21 => ?_)
 ·replace hM := ite_t hb21 hM
  refine run_sr ?_
  refine yR rfl ?_
  refine yR rfl ?_
  refine yN ?_
  refine run_ret_to ?_
  replace hM := some_t hM
  subst hM
  refine fin_x hG rfl rfl rfl (v' := .tup [.str ⟨#[]⟩, .int .i64 16]) (by rfl) ⟨rfl, (show tk ≤ tkj3 by omega), _, rfl, ⟨_, _, _, _, rfl, rfl, rfl, rfl⟩⟩
 replace hM := ite_f hb21 hM
 refine run_skip ?_
 refine run_seq ?_
 refine run_sr ?_
 refine yD hG rfl ?_
 refine yL rfl ?_
 obtain ⟨r22, hg23, hM⟩ := bind_t hM
 refine yK rfl (s_l02Closed_ok n k1 n1 s1 q1 f1 ks1 i2 hg23 _ _) (callK_retX (fun v tk24 (hle25 : tkj3 ≤ tk24) h26 => ?_))
 subst h26
 refine run_pu rfl (aun_step rfl rfl rfl) rfl (ltb rfl) ?_
 refine yN ?_
 refine run_ifb rfl rfl (fun hb29 => ?_) (fun hb29 => ?_)
 ·replace hM := ite_t hb29 hM
  refine run_sr ?_
  refine yR rfl ?_
  refine yR rfl ?_
  refine yN ?_
  refine run_ret_to ?_
  replace hM := some_t hM
  subst hM
  refine fin_x hG rfl rfl rfl (v' := .tup [.str ⟨#[]⟩, .int .i64 7]) (by rfl) ⟨rfl, (show tk ≤ tk24 by omega), _, rfl, ⟨_, _, _, _, rfl, rfl, rfl, rfl⟩⟩
 replace hM := ite_f hb29 hM
 refine run_skip ?_
 refine run_sr ?_
 refine yD hG rfl ?_
 refine yL rfl ?_
 obtain ⟨r30, hg31, hM⟩ := bind_t hM
 refine yK rfl (s_l02Family_ok n k1 n1 s1 q1 f1 ks1 i2 hg31 _ _) (callK_retX (fun v tk32 (hle33 : tk24 ≤ tk32) h34 => ?_))
 subst h34
 refine yR rfl ?_
 refine yR rfl ?_
 refine yN ?_
 refine run_ret_to ?_
 replace hM := some_t hM
 subst hM
 refine fin_x hG rfl rfl rfl (v' := .tup [.str r30, .int .i64 0]) (by rfl) ⟨rfl, (show tk ≤ tk32 by omega), _, rfl, ⟨_, _, _, _, rfl, rfl, rfl, rfl⟩⟩

end Go.Am.YtoajlhhalpldfaaGreatDoor
