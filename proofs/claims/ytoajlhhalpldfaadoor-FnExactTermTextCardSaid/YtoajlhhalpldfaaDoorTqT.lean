/- Printed by a program of ours: Lean functions that do what the Go functions do, and the contracts. -/
import Derived.Test.YtoajlhhalpldfaaDoorMl0
import Derived.Test.YtoajlhhalpldfaaDoorMl2
import Derived.Test.YtoajlhhalpldfaaDoorMb1
import Derived.Test.YtoajlhhalpldfaaDoorMb3
import Derived.Test.YtoajlhhalpldfaaDoorTypes
import Derived.Test.YtoajlhhalpldfaaDoorMi4
import Derived.Test.YtoajlhhalpldfaaDoorMc1
import Derived.Test.YtoajlhhalpldfaaDoorMz
import Derived.Test.YtoajlhhalpldfaaDoorTqA
import Derived.Test.YtoajlhhalpldfaaDoorTqS
import Derived.Test.YtoajlhhalpldfaaDoorTqC
import Derived.Test.YtoajlhhalpldfaaDoorDkSource
-- packed
namespace Go.Am.YtoajlhhalpldfaaDoor
open Go Go.Am

def i_TermText_c1__kk (n : Nat) (x1 : T) (i2 : Int) : Option (Rz ByteArray) :=
 zb (i_termText n x1 i2) fun r3 =>
 some (.ok r3)

set_option maxRecDepth 100000 in
theorem i_TermText_c1__kk_ok (n : Nat) : ∀ (k1 : Int) (n1 : Int) (s1 : ByteArray) (q1 : Nat) (f1 : Bool) (ks1 : List LT) (i2 : Int) {r : (Rz ByteArray)}, i_TermText_c1__kk n (T.mk k1 n1 s1 (ers ks1)) i2 = some r → ∀ (O : Heap) (tk : Nat), ACalls Go.Proofs.Tryd.prog 17 [.cptr [.int .i64 k1, .int .i64 n1, .str s1, .imm q1 4 f1 (cellss ks1)], .cptr [.int .i64 i2]] O tk (RetZ HT O tk r (fun r v tk' => v = .str r)) := by
 intro k1 n1 s1 q1 f1 ks1 i2 r hM O tk
 unfold i_TermText_c1__kk at hM
 refine acalls_of_run Go.Proofs.Tryd.func17 rfl rfl [] [] (Bor.nil _) [(0, .cptr [.int .i64 k1, .int .i64 n1, .str s1, .imm q1 4 f1 (cellss ks1)]), (1, .cptr [.int .i64 i2])] (.cons (.cptr _) (.cons (.cptr _) (.nil _))) (leb rfl) (fun _ h => by cases h) (fun S0 hO htk hfz => ?_)
 refine run_sr ?_
 refine yR rfl ?_
 refine yN ?_
 refine run_sr ?_
 refine yD hG rfl ?_
 refine yD hG rfl ?_
 obtain ⟨z8, hg4, hM⟩ := zb_t hM
 refine yK rfl (i_termText_ok n k1 n1 s1 q1 f1 ks1 i2 hg4 _ _) (callK_retZ (fun r3 v tk5 hz11 (hle6 : tk ≤ tk5) h7 => ?_) (fun c p tk5 hz (_ : tk ≤ tk5) => by subst hz; obtain rfl := bd_stop hM; exact run_pan_at (⟨rfl, (show tk ≤ tk5 by omega), rfl⟩)))
 subst hz11
 replace hM := bd_ok hM
 subst h7
 refine yR rfl ?_
 refine yN ?_
 refine run_ret_to ?_
 replace hM := some_t hM
 subst hM
 refine fin_x hG rfl rfl rfl (v' := .str r3) (by rfl) ⟨rfl, (show tk ≤ tk5 by omega), _, rfl, rfl⟩

def i_told_c1__of_i_TermText_c1_kv (n : Nat) (x1 : T) (i2 : Int) (t3 : ByteArray) : Option (Rz ByteArray) :=
 zb (i_TermText_c1__kk n x1 i2) fun r4 =>
 some (.ok r4)

set_option maxRecDepth 100000 in
theorem i_told_c1__of_i_TermText_c1_kv_ok (n : Nat) : ∀ (k1 : Int) (n1 : Int) (s1 : ByteArray) (q1 : Nat) (f1 : Bool) (ks1 : List LT) (i2 : Int) (X0 : ID) (t3 : ByteArray) {r : (Rz ByteArray)}, i_told_c1__of_i_TermText_c1_kv n (T.mk k1 n1 s1 (ers ks1)) i2 t3 = some r → ∀ (O : Heap) (tk : Nat), O X0 = some ⟨9, 1, true, [[.str t3]]⟩ → ACalls Go.Proofs.Tryd.prog 29 [.cptr [.fn (.func 17) [] [.cptr [.int .i64 k1, .int .i64 n1, .str s1, .imm q1 4 f1 (cellss ks1)], .cptr [.int .i64 i2]]], .optr X0 0 0] O tk (RetVZ HT O X0 tk r (fun r v o' tk' => ∃ (c0 : ByteArray) , r = c0 ∧ o' = ⟨9, 1, true, [[.str c0]]⟩ ∧ v = .tup []) (fun o' => o'.up = o')) := by
 intro k1 n1 s1 q1 f1 ks1 i2 X0 t3 r hM O tk hX0
 unfold i_told_c1__of_i_TermText_c1_kv at hM
 refine acalls_of_run Go.Proofs.Tryd.func29 rfl rfl [X0] [⟨9, 1, true, [[.str t3]]⟩] (Bor.one hX0 rfl) [(0, .cptr [.fn (.func 17) [] [.cptr [.int .i64 k1, .int .i64 n1, .str s1, .imm q1 4 f1 (cellss ks1)], .cptr [.int .i64 i2]]]), (1, .optr (.bor 0) 0 0)] (.cons (.cptr _) (.cons (.bor 0 _ _ _ rfl) (.nil _))) (leb rfl) (by intro y h; simp only [List.mem_cons, List.not_mem_nil, or_false] at h; rcases h with rfl <;> simp [tch, tch0]) (fun S0 hO htk hfz => ?_)
 refine run_region ?_
 refine yD hG rfl ?_
 obtain ⟨z9, hg5, hM⟩ := zb_t hM
 refine yK rfl (i_TermText_c1__kk_ok n k1 n1 s1 q1 f1 ks1 i2 hg5 _ _) (callK_retZ (fun r4 v tk6 hz12 (hle7 : tk ≤ tk6) h8 => ?_) (fun c p tk6 hz (_ : tk ≤ tk6) => by subst hz; obtain rfl := bd_stop hM; exact run_pan_at (⟨⟨9, 1, true, [[.str t3]]⟩, rfl, (show tk ≤ tk6 by omega), rfl, rfl⟩)))
 subst hz12
 replace hM := bd_ok hM
 subst h8
 refine yS hG rfl ?_
 refine yN ?_
 show Results _ _ _ _
 replace hM := some_t hM
 subst hM
 refine fin_x hG rfl rfl rfl (v' := .tup []) (by rfl) ⟨⟨9, 1, true, [[.str r4]]⟩, rfl, (show tk ≤ tk6 by omega), _, rfl, ⟨r4, rfl, rfl, rfl⟩⟩

def i_told__fn_i_TermText_c1kk (n : Nat) (b1 : Bool) (i2 : Int) (x3 : T) (i4 : Int) : Option (ByteArray × Int) :=
 if (!b1) = true then
  some (⟨#[]⟩, 1)
 else
  (i_in i2 0 100).bind fun r6 =>
  if (!r6) = true then
   some (⟨#[]⟩, 16)
  else
   (i_told_c1__of_i_TermText_c1_kv n x3 i4 (⟨#[]⟩)).bind fun z14 =>
   z14.cs (fun r17 =>
    if (0 != 0) = true then
     some (⟨#[]⟩, 0)
    else
     some (r17, 0)) (fun c22 p23 =>
    if (c22 != 0) = true then
     some (⟨#[]⟩, c22)
    else
     none)

set_option maxRecDepth 100000 in
theorem i_told__fn_i_TermText_c1kk_ok (n : Nat) : ∀ (b1 : Bool) (i2 : Int) (k3 : Int) (n3 : Int) (s3 : ByteArray) (q3 : Nat) (f3 : Bool) (ks3 : List LT) (i4 : Int) {r : (ByteArray × Int)}, i_told__fn_i_TermText_c1kk n b1 i2 (T.mk k3 n3 s3 (ers ks3)) i4 = some r → ∀ (O : Heap) (tk : Nat), ACalls Go.Proofs.Tryd.prog 15 [.bool b1, .int .i64 i2, .fn (.func 17) [] [.cptr [.int .i64 k3, .int .i64 n3, .str s3, .imm q3 4 f3 (cellss ks3)], .cptr [.int .i64 i4]]] O tk (RetX O tk (fun v tk' => ∃ r0' r1' v0' v1', r = (r0', r1') ∧ v = .tup [v0', v1'] ∧ v0' = .str r0' ∧ v1' = .int .i64 r1')) := by
 intro b1 i2 k3 n3 s3 q3 f3 ks3 i4 r hM O tk
 unfold i_told__fn_i_TermText_c1kk at hM
 refine acalls_of_run Go.Proofs.Tryd.func15 rfl rfl [] [] (Bor.nil _) [(0, .bool b1), (1, .int .i64 i2), (2, .fn (.func 17) [] [.cptr [.int .i64 k3, .int .i64 n3, .str s3, .imm q3 4 f3 (cellss ks3)], .cptr [.int .i64 i4]])] (.cons (entS rfl) (.cons (entS rfl) (.cons (ent_fn2 (.cptr _) (.cptr _)) (.nil _)))) (leb rfl) (fun _ h => by cases h) (fun S0 hO htk hfz => ?_)
 refine run_sr ?_
 refine run_op rfl (box_step (d := 5) rfl rfl rfl rfl rfl) rfl (ltb rfl) ?_
 refine yR rfl ?_
 refine yR rfl ?_
 refine yN ?_
 refine run_seq ?_
 refine run_block ?_
 refine run_sr ?_
 refine yL rfl ?_
 refine run_pu rfl (aun_step rfl rfl rfl) rfl (ltb rfl) ?_
 refine yR rfl ?_
 refine yN ?_
 refine run_ifb rfl rfl (fun hb5 => ?_) (fun hb5 => ?_)
 ·replace hM := ite_t hb5 hM
  refine run_sr ?_
  refine yR rfl ?_
  refine yR rfl ?_
  refine yN ?_
  refine run_ret_to ?_
  replace hM := some_t hM
  subst hM
  refine fin_x hG rfl rfl rfl (v' := .tup [.str ⟨#[]⟩, .int .i64 1]) (by rfl) ⟨rfl, (show tk ≤ tk by omega), _, rfl, ⟨_, _, _, _, rfl, rfl, rfl, rfl⟩⟩
 replace hM := ite_f hb5 hM
 refine run_sr ?_
 refine yL rfl ?_
 obtain ⟨r6, hg7, hM⟩ := bind_t hM
 refine yK rfl (i_in_ok i2 0 100 hg7 _ _) (callK_retX (fun v tk8 (hle9 : tk ≤ tk8) h10 => ?_))
 subst h10
 refine run_pu rfl (aun_step rfl rfl rfl) rfl (ltb rfl) ?_
 refine yR rfl ?_
 refine yN ?_
 refine run_ifb rfl rfl (fun hb13 => ?_) (fun hb13 => ?_)
 ·replace hM := ite_t hb13 hM
  refine run_sr ?_
  refine yR rfl ?_
  refine yR rfl ?_
  refine yN ?_
  refine run_ret_to ?_
  replace hM := some_t hM
  subst hM
  refine fin_x hG rfl rfl rfl (v' := .tup [.str ⟨#[]⟩, .int .i64 16]) (by rfl) ⟨rfl, (show tk ≤ tk8 by omega), _, rfl, ⟨_, _, _, _, rfl, rfl, rfl, rfl⟩⟩
 replace hM := ite_f hb13 hM
 refine run_skip ?_
 refine run_blk ?_
 refine run_sr ?_
 refine run_op rfl (alloc_step (d := 8) hG rfl rfl rfl) rfl (ltb rfl) ?_
 refine yS hG rfl ?_
 refine yN ?_
 refine run_seq ?_
 refine run_sr ?_
 refine run_sub_ops (Sub.frbox (k := 5) (env' := [(0, .bool b1), (1, .int .i64 i2), (2, .fn (.func 17) [] [.cptr [.int .i64 k3, .int .i64 n3, .str s3, .imm q3 4 f3 (cellss ks3)], .cptr [.int .i64 i4]]), (5, .cptr [.fn (.func 17) [] [.cptr [.int .i64 k3, .int .i64 n3, .str s3, .imm q3 4 f3 (cellss ks3)], .cptr [.int .i64 i4]]]), (6, .str ⟨#[]⟩), (7, .int .i64 0), (11, .bool b1), (12, .bool (!b1)), (10, .bool (!b1)), (14, .int .i64 i2), (15, .bool r6), (16, .bool (!r6)), (13, .bool (!r6)), (8, .optr (.loc 8) 0 0)]) rfl rfl (.keep 0 _ _ rfl (.keep 1 _ _ rfl (.keep 2 _ _ rfl (.ptr 5 0 _ rfl (.keep 6 _ _ rfl (.keep 7 _ _ rfl (.keep 11 _ _ rfl (.keep 12 _ _ rfl (.keep 10 _ _ rfl (.keep 14 _ _ rfl (.keep 15 _ _ rfl (.keep 16 _ _ rfl (.keep 13 _ _ rfl (.keep 8 _ _ rfl .nil))))))))))))))) ?_
 refine run_pu rfl (makeFunc_step (first := []) (cap := [.tmp 5, .tmp 8]) rfl rfl rfl) rfl (ltb rfl) ?_
 obtain ⟨z14, hg15, hM⟩ := bind_t hM
 refine yK rfl (caught_vz (j := 0) rfl (K := 29) (bor := [.loc 8]) (b := [⟨9, 1, true, [[.str ⟨#[]⟩]]⟩]) (caps := [.cptr [.fn (.func 17) [] [.cptr [.int .i64 k3, .int .i64 n3, .str s3, .imm q3 4 f3 (cellss ks3)], .cptr [.int .i64 i4]]], .optr (.loc 8) 0 0]) (caps' := [.cptr [.fn (.func 17) [] [.cptr [.int .i64 k3, .int .i64 n3, .str s3, .imm q3 4 f3 (cellss ks3)], .cptr [.int .i64 i4]]], .optr (.bor 0) 0 0]) (Bor.cons rfl rfl (by decide) (Bor.nil _)) (.cons (.cptr _) (.cons (.bor 0 _ _ _ rfl) .nil)) rfl (by intro y h; simp only [List.mem_cons, List.not_mem_nil, or_false] at h; rcases h with rfl <;> simp [tch, tch0]) rfl (i_told_c1__of_i_TermText_c1_kv_ok n k3 n3 s3 q3 f3 ks3 i4 (.bor 0) ⟨#[]⟩ hg15 _ _ rfl) (fun a v o' tk' h => by obtain ⟨_, rfl, rfl, _⟩ := h; rfl)) (callK_retV_loc (k := 8) rfl (fun v o'20 tk18 (hle19 : tk8 ≤ tk18) h16 => ?_))
 rcases z14 with r17 | ⟨c22, p23⟩
 ·replace hM := cs_ok hM
  obtain ⟨rfl, _, ⟨_, rfl, rfl, rfl⟩⟩ := h16
  refine run_op rfl (alloc_step (d := 9) hG rfl rfl rfl) rfl (ltb rfl) ?_
  refine yS hG rfl ?_
  refine yN ?_
  refine run_sub_code (σ' := ⟨[(6, .str ⟨#[]⟩), (7, .int .i64 0), (8, .optr (.loc 8) 0 0), (9, .optr (.loc 9) 0 0)], [(9, ⟨50, 2, true, [[.int .i64 0, .int .i64 0]]⟩), (8, ⟨9, 1, true, [[.str r17]]⟩)], [], O, tk18⟩) (Sub.env _ ⟨rfl, rfl, rfl, rfl, trivial⟩) ?_
  refine run_sr ?_
  refine yF hG rfl ?_
  refine yD hG rfl ?_
  refine yB rfl ?_
  refine yN ?_
  refine run_ifb rfl rfl (fun hb24 => ?_) (fun hb24 => ?_)
  ·replace hM := ite_t hb24 hM
   refine run_seq ?_
   refine run_draw [] (n := 4) mixed rfl yE ?_
   refine yTF hG 0 (by kernel_rfl) rfl ?_
   refine yTL hG 1 (by kernel_rfl) rfl ?_
   refine yTW 2 (by kernel_rfl) rfl ?_
   refine yTW 3 (by kernel_rfl) rfl ?_
   refine AAny.done (by kernel_rfl) ?_
   refine run_ret_to ?_
   replace hM := some_t hM
   subst hM
   refine fin_x hG rfl rfl rfl (v' := .tup [.str ⟨#[]⟩, .int .i64 0]) (by rfl) ⟨rfl, (show tk ≤ tk18 by omega), _, rfl, ⟨_, _, _, _, rfl, rfl, rfl, rfl⟩⟩
  replace hM := ite_f hb24 hM
  refine run_skip ?_
  refine run_sr ?_
  refine yD hG rfl ?_
  refine yR rfl ?_
  refine yR rfl ?_
  refine yN ?_
  refine run_ret_to ?_
  replace hM := some_t hM
  subst hM
  refine fin_x hG rfl rfl rfl (v' := .tup [.str r17, .int .i64 0]) (by rfl) ⟨rfl, (show tk ≤ tk18 by omega), _, rfl, ⟨_, _, _, _, rfl, rfl, rfl, rfl⟩⟩
 replace hM := cs_stop hM
 obtain ⟨rfl, _⟩ := h16
 refine run_op rfl (alloc_step (d := 9) hG rfl rfl rfl) rfl (ltb rfl) ?_
 refine yS hG rfl ?_
 refine yN ?_
 refine run_sub_code (σ' := ⟨[(6, .str ⟨#[]⟩), (7, .int .i64 0), (8, .optr (.loc 8) 0 0), (9, .optr (.loc 9) 0 0)], [(9, ⟨50, 2, true, [[.int .i64 c22, .int .i64 p23]]⟩), (8, o'20)], [], O, tk18⟩) (Sub.env _ ⟨rfl, rfl, rfl, rfl, trivial⟩) ?_
 refine run_sr ?_
 refine yF hG rfl ?_
 refine yD hG rfl ?_
 refine yB rfl ?_
 refine yN ?_
 refine run_ifb rfl rfl (fun hb25 => ?_) (fun hb25 => ?_)
 ·replace hM := ite_t hb25 hM
  refine run_seq ?_
  refine run_draw [] (n := 4) mixed rfl yE ?_
  refine yTF hG 0 (by kernel_rfl) rfl ?_
  refine yTL hG 1 (by kernel_rfl) rfl ?_
  refine yTW 2 (by kernel_rfl) rfl ?_
  refine yTW 3 (by kernel_rfl) rfl ?_
  refine AAny.done (by kernel_rfl) ?_
  refine run_ret_to ?_
  replace hM := some_t hM
  subst hM
  refine fin_x hG rfl rfl rfl (v' := .tup [.str ⟨#[]⟩, .int .i64 c22]) (by rfl) ⟨rfl, (show tk ≤ tk18 by omega), _, rfl, ⟨_, _, _, _, rfl, rfl, rfl, rfl⟩⟩
 replace hM := ite_f hb25 hM
 refine run_skip ?_
 refine run_sr ?_
 cases hM

def i_TermText (n : Nat) (x1 : T) (i2 : Int) : Option (ByteArray × Int) :=
 (i_sourceTerm n x1).bind fun r3 =>
 (i_told__fn_i_TermText_c1kk n r3 i2 x1 i2).bind fun r10 =>
 some (r10.1, r10.2)

set_option maxRecDepth 100000 in
theorem i_TermText_ok (n : Nat) : ∀ (k1 : Int) (n1 : Int) (s1 : ByteArray) (q1 : Nat) (f1 : Bool) (ks1 : List LT) (i2 : Int) {r : (ByteArray × Int)}, i_TermText n (T.mk k1 n1 s1 (ers ks1)) i2 = some r → ∀ (O : Heap) (tk : Nat), ACalls Go.Proofs.Tryd.prog 7 [.agg [.int .i64 k1, .int .i64 n1, .str s1, .imm q1 4 f1 (cellss ks1)], .int .i64 i2] O tk (RetX O tk (fun v tk' => ∃ r0' r1' v0' v1', r = (r0', r1') ∧ v = .tup [v0', v1'] ∧ v0' = .str r0' ∧ v1' = .int .i64 r1')) := by
 intro k1 n1 s1 q1 f1 ks1 i2 r hM O tk
 unfold i_TermText at hM
 refine acalls_of_run Go.Proofs.Tryd.func7 rfl rfl [] [] (Bor.nil _) [(0, .agg [.int .i64 k1, .int .i64 n1, .str s1, .imm q1 4 f1 (cellss ks1)]), (1, .int .i64 i2)] (.cons (.agg _) (.cons (entS rfl) (.nil _))) (leb rfl) (fun _ h => by cases h) (fun S0 hO htk hfz => ?_)
 refine run_sr ?_
 refine run_op rfl (box_step (d := 2) rfl rfl rfl rfl rfl) rfl (ltb rfl) ?_
 refine run_op rfl (box_step (d := 3) rfl rfl rfl rfl rfl) rfl (ltb rfl) ?_
 refine yR rfl ?_
 refine yR rfl ?_
 refine yN ?_
 refine run_seq ?_
 refine run_draw [] (n := 9) mixed rfl yE ?_
 refine yTL hG 0 (by kernel_rfl) rfl ?_
 refine yTL hG 2 (by kernel_rfl) rfl ?_
 refine AAny.sub (Sub.frbox (k := 2) (env' := [(0, .agg [.int .i64 k1, .int .i64 n1, .str s1, .imm q1 4 f1 (cellss ks1)]), (1, .int .i64 i2), (2, .cptr [.int .i64 k1, .int .i64 n1, .str s1, .imm q1 4 f1 (cellss ks1)]), (3, .optr (.loc 3) 0 0), (4, .str ⟨#[]⟩), (5, .int .i64 0), (6, .agg [.int .i64 k1, .int .i64 n1, .str s1, .imm q1 4 f1 (cellss ks1)]), (8, .int .i64 i2)]) rfl rfl (.keep 0 _ _ rfl (.keep 1 _ _ rfl (.ptr 2 0 _ rfl (.keep 3 _ _ rfl (.keep 4 _ _ rfl (.keep 5 _ _ rfl (.keep 6 _ _ rfl (.keep 8 _ _ rfl .nil))))))))) yE ?_
 refine AAny.sub (Sub.frbox (k := 3) (env' := [(0, .agg [.int .i64 k1, .int .i64 n1, .str s1, .imm q1 4 f1 (cellss ks1)]), (1, .int .i64 i2), (2, .cptr [.int .i64 k1, .int .i64 n1, .str s1, .imm q1 4 f1 (cellss ks1)]), (3, .cptr [.int .i64 i2]), (4, .str ⟨#[]⟩), (5, .int .i64 0), (6, .agg [.int .i64 k1, .int .i64 n1, .str s1, .imm q1 4 f1 (cellss ks1)]), (8, .int .i64 i2)]) rfl rfl (.keep 0 _ _ rfl (.keep 1 _ _ rfl (.keep 2 _ _ rfl (.ptr 3 0 _ rfl (.keep 4 _ _ rfl (.keep 5 _ _ rfl (.keep 6 _ _ rfl (.keep 8 _ _ rfl .nil))))))))) yE ?_
 refine yT 3 (by kernel_rfl) rfl rfl rfl (ltb rfl) ((makeFunc_step (first := []) (cap := [.tmp 2, .tmp 3]) rfl rfl rfl).rd _) ?_
 obtain ⟨r3, hg4, hM⟩ := bind_t hM
 refine yC 1 (by kernel_rfl) rfl rfl (i_sourceTerm_ok n k1 n1 s1 q1 f1 ks1 hg4 _ _) (callK_retX (fun v tk5 (hle6 : tk ≤ tk5) h7 => ?_))
 subst h7
 obtain ⟨r10, hg11, hM⟩ := bind_t hM
 refine AAny.one (i := 4) (by kernel_rfl) (AOp.call rfl rfl rfl rfl (ltb rfl) rfl rfl rfl yE (by first | (exact fun _ h => absurd h List.not_mem_nil) | intro x hx; simp only [tch, tch0, List.nil_append, List.append_nil, List.cons_append, List.mem_cons, List.not_mem_nil, or_false] at hx; first | (subst hx; simp; done) | (rcases hx with rfl | rfl <;> simp; done) | (rcases hx with rfl | rfl | rfl <;> simp; done) | (rcases hx with rfl | rfl | rfl | rfl <;> simp; done)) (i_told__fn_i_TermText_c1kk_ok n r3 i2 k1 n1 s1 q1 f1 ks1 i2 hg11 _ _) (callK_retX (fun v tk12 (hle13 : tk5 ≤ tk12) h14 => ?_)))
 obtain ⟨ra19, ra20, va21, va22, rfl, rfl, rfl, rfl⟩ := h14
 refine yT 5 (by kernel_rfl) rfl rfl rfl (ltb rfl) ((extract_step rfl rfl rfl).rd _) ?_
 refine yT 6 (by kernel_rfl) rfl rfl rfl (ltb rfl) ((extract_step rfl rfl rfl).rd _) ?_
 refine yTW 7 (by kernel_rfl) rfl ?_
 refine yTW 8 (by kernel_rfl) rfl ?_
 refine AAny.done (by kernel_rfl) ?_
 refine run_ret_to ?_
 replace hM := some_t hM
 subst hM
 refine fin_x hG rfl rfl rfl (v' := .tup [.str ra19, .int .i64 ra20]) (by rfl) ⟨rfl, (show tk ≤ tk12 by omega), _, rfl, ⟨_, _, _, _, rfl, rfl, rfl, rfl⟩⟩

def s_TermText (n : Nat) (x1 : T) (i2 : Int) : Option (ByteArray × Int) :=
 (s_l01Small n x1).bind fun r3 =>
 if (!r3) = true then
  some (⟨#[]⟩, 1)
 else
  (s_l01Term n x1 true).bind fun r11 =>
  if (!r11) = true then
   some (⟨#[]⟩, 1)
  else
   if i2 < 0 then
    some (⟨#[]⟩, 16)
   else
    if i2 > 100 then
     some (⟨#[]⟩, 16)
    else
     (s_l02Closed n x1 i2).bind fun r21 =>
     if (!r21) = true then
      some (⟨#[]⟩, 7)
     else
      (s_l02Term n x1 i2).bind fun r29 =>
      some (r29, 0)

set_option maxRecDepth 100000 in
theorem s_TermText_ok (n : Nat) : ∀ (k1 : Int) (n1 : Int) (s1 : ByteArray) (q1 : Nat) (f1 : Bool) (ks1 : List LT) (i2 : Int) {r : (ByteArray × Int)}, s_TermText n (T.mk k1 n1 s1 (ers ks1)) i2 = some r → ∀ (O : Heap) (tk : Nat), ACalls Go.Proofs.Tryd.prog 5 [.agg [.int .i64 k1, .int .i64 n1, .str s1, .imm q1 4 f1 (cellss ks1)], .int .i64 i2] O tk (RetX O tk (fun v tk' => ∃ r0' r1' v0' v1', r = (r0', r1') ∧ v = .tup [v0', v1'] ∧ v0' = .str r0' ∧ v1' = .int .i64 r1')) := by
 intro k1 n1 s1 q1 f1 ks1 i2 r hM O tk
 unfold s_TermText at hM
 refine acalls_of_run Go.Proofs.Tryd.func5 rfl rfl [] [] (Bor.nil _) [(0, .agg [.int .i64 k1, .int .i64 n1, .str s1, .imm q1 4 f1 (cellss ks1)]), (1, .int .i64 i2)] (.cons (.agg _) (.cons (entS rfl) (.nil _))) (leb rfl) (fun _ h => by cases h) (fun S0 hO htk hfz => ?_)
 refine run_sr ?_
 refine run_op rfl (box_step (d := 2) rfl rfl rfl rfl rfl) rfl (ltb rfl) ?_
 refine yR rfl ?_
 refine yR rfl ?_
 refine yN ?_
 refine run_seq ?_
 refine run_sr ?_
 refine yD hG rfl ?_
 obtain ⟨r3, hg4, hM⟩ := bind_t hM
 refine yK rfl (s_l01Small_ok n k1 n1 s1 q1 f1 ks1 hg4 _ _) (callK_retX (fun v tk5 (hle6 : tk ≤ tk5) h7 => ?_))
 subst h7
 refine run_pu rfl (aun_step rfl rfl rfl) rfl (ltb rfl) ?_
 refine yL rfl ?_
 refine run_splitb (i := 9) rfl (fun hb10 => ?_) (fun hb10 => ?_)
 ·replace hM := ite_t hb10 hM
  refine yO rfl ?_
  refine yO rfl ?_
  refine yO rfl ?_
  refine yP rfl ?_
  refine yN ?_
  refine run_if rfl rfl (fun _ => ?_) (fun h => by cases h)
  refine run_sr ?_
  refine yR rfl ?_
  refine yR rfl ?_
  refine yN ?_
  refine run_ret_to ?_
  replace hM := some_t hM
  subst hM
  refine fin_x hG rfl rfl rfl (v' := .tup [.str ⟨#[]⟩, .int .i64 1]) (by rfl) ⟨rfl, (show tk ≤ tk5 by omega), _, rfl, ⟨_, _, _, _, rfl, rfl, rfl, rfl⟩⟩
 replace hM := ite_f hb10 hM
 refine run_rdG (on_of rfl rfl rfl rfl) (aload_rd hG rfl rfl rfl (by first | (simp [ldok]; done) | exact List.not_mem_nil | trivial)) rfl (ltb rfl) ?_
 obtain ⟨r11, hg12, hM⟩ := bind_t hM
 refine yG (on_of rfl rfl rfl rfl) rfl (s_l01Term_ok n k1 n1 s1 q1 f1 ks1 true hg12 _ _) (callK_retX (fun v tk13 (hle14 : tk5 ≤ tk13) h15 => ?_))
 subst h15
 refine run_puG (on_of rfl rfl rfl rfl) (aun_step rfl rfl rfl) rfl (ltb rfl) ?_
 refine yP rfl ?_
 refine yN ?_
 refine run_ifb rfl rfl (fun hb18 => ?_) (fun hb18 => ?_)
 ·replace hM := ite_t hb18 hM
  refine run_sr ?_
  refine yR rfl ?_
  refine yR rfl ?_
  refine yN ?_
  refine run_ret_to ?_
  replace hM := some_t hM
  subst hM
  refine fin_x hG rfl rfl rfl (v' := .tup [.str ⟨#[]⟩, .int .i64 1]) (by rfl) ⟨rfl, (show tk ≤ tk13 by omega), _, rfl, ⟨_, _, _, _, rfl, rfl, rfl, rfl⟩⟩
 replace hM := ite_f hb18 hM
 refine run_skip ?_
 refine run_seq ?_
 refine run_sr ?_
 refine yL rfl ?_
 refine yB rfl ?_
 refine yL rfl ?_
 refine run_splitd (i := 16) rfl (fun hb19 => ?_) (fun hb19 => ?_)
 ·replace hM := ite_t hb19 hM
  refine yO rfl ?_
  refine yO rfl ?_
  refine yP rfl ?_
  refine yN ?_
  refine run_sub_code (σ' := ⟨[(1, .int .i64 i2), (2, .optr (.loc 2) 0 0), (4, .str ⟨#[]⟩), (5, .int .i64 0), (19, .bool true)], [(2, ⟨30, 4, true, [[.int .i64 k1, .int .i64 n1, .str s1, .imm q1 4 f1 (cellss ks1)]]⟩)], [], O, tk13⟩) (Sub.env _ ⟨rfl, rfl, rfl, rfl, rfl, trivial⟩) ?_
  refine run_if rfl rfl (fun _ => ?_) (fun h => by cases h)
  refine run_sr ?_
  refine yR rfl ?_
  refine yR rfl ?_
  refine yN ?_
  refine run_ret_to ?_
  replace hM := some_t hM
  subst hM
  refine fin_x hG rfl rfl rfl (v' := .tup [.str ⟨#[]⟩, .int .i64 16]) (by rfl) ⟨rfl, (show tk ≤ tk13 by omega), _, rfl, ⟨_, _, _, _, rfl, rfl, rfl, rfl⟩⟩
 replace hM := ite_f hb19 hM
 refine run_puG (on_of rfl rfl rfl rfl) (move_step (.inl rfl) rfl) rfl (ltb rfl) ?_
 refine run_puG (on_of rfl rfl rfl rfl) (abin_step rfl rfl rfl rfl (fun _ h => by cases h)) rfl (ltb rfl) ?_
 refine yP rfl ?_
 refine yN ?_
 refine run_sub_code (σ' := ⟨[(1, .int .i64 i2), (2, .optr (.loc 2) 0 0), (4, .str ⟨#[]⟩), (5, .int .i64 0), (19, .bool (decide (i2 > 100)))], [(2, ⟨30, 4, true, [[.int .i64 k1, .int .i64 n1, .str s1, .imm q1 4 f1 (cellss ks1)]]⟩)], [], O, tk13⟩) (Sub.env _ ⟨rfl, rfl, rfl, rfl, rfl, trivial⟩) ?_
 refine run_ifd rfl rfl (fun hb20 => ?_) (fun hb20 => ?_)
 ·replace hM := ite_t hb20 hM
  refine run_sr ?_
  refine yR rfl ?_
  refine yR rfl ?_
  refine yN ?_
  refine run_ret_to ?_
  replace hM := some_t hM
  subst hM
  refine fin_x hG rfl rfl rfl (v' := .tup [.str ⟨#[]⟩, .int .i64 16]) (by rfl) ⟨rfl, (show tk ≤ tk13 by omega), _, rfl, ⟨_, _, _, _, rfl, rfl, rfl, rfl⟩⟩
 replace hM := ite_f hb20 hM
 refine run_skip ?_
 refine run_seq ?_
 refine run_sr ?_
 refine yD hG rfl ?_
 refine yL rfl ?_
 obtain ⟨r21, hg22, hM⟩ := bind_t hM
 refine yK rfl (s_l02Closed_ok n k1 n1 s1 q1 f1 ks1 i2 hg22 _ _) (callK_retX (fun v tk23 (hle24 : tk13 ≤ tk23) h25 => ?_))
 subst h25
 refine run_pu rfl (aun_step rfl rfl rfl) rfl (ltb rfl) ?_
 refine yN ?_
 refine run_ifb rfl rfl (fun hb28 => ?_) (fun hb28 => ?_)
 ·replace hM := ite_t hb28 hM
  refine run_sr ?_
  refine yR rfl ?_
  refine yR rfl ?_
  refine yN ?_
  refine run_ret_to ?_
  replace hM := some_t hM
  subst hM
  refine fin_x hG rfl rfl rfl (v' := .tup [.str ⟨#[]⟩, .int .i64 7]) (by rfl) ⟨rfl, (show tk ≤ tk23 by omega), _, rfl, ⟨_, _, _, _, rfl, rfl, rfl, rfl⟩⟩
 replace hM := ite_f hb28 hM
 refine run_skip ?_
 refine run_sr ?_
 refine yD hG rfl ?_
 refine yL rfl ?_
 obtain ⟨r29, hg30, hM⟩ := bind_t hM
 refine yK rfl (s_l02Term_ok n k1 n1 s1 q1 f1 ks1 i2 hg30 _ _) (callK_retX (fun v tk31 (hle32 : tk23 ≤ tk31) h33 => ?_))
 subst h33
 refine yR rfl ?_
 refine yR rfl ?_
 refine yN ?_
 refine run_ret_to ?_
 replace hM := some_t hM
 subst hM
 refine fin_x hG rfl rfl rfl (v' := .tup [.str r29, .int .i64 0]) (by rfl) ⟨rfl, (show tk ≤ tk31 by omega), _, rfl, ⟨_, _, _, _, rfl, rfl, rfl, rfl⟩⟩

end Go.Am.YtoajlhhalpldfaaDoor
