/- Printed by a program of ours: Lean functions that do what the Go functions do, and the contracts. -/
import Derived.Test.YtiobknkpdkkikabDoorMl0
import Derived.Test.YtiobknkpdkkikabDoorMb1
import Derived.Test.YtiobknkpdkkikabDoorMb3
import Derived.Test.YtiobknkpdkkikabDoorTypes
import Derived.Test.YtiobknkpdkkikabDoorMi4
import Derived.Test.YtiobknkpdkkikabDoorMc1
import Derived.Test.YtiobknkpdkkikabDoorEkPut
import Derived.Test.YtiobknkpdkkikabDoorEkTree
-- packed
namespace Go.Am.YtiobknkpdkkikabDoor
open Go Go.Am

def i_Subst_c1__kkk (n : Nat) (x1 : T) (x2 : T) (x3 : T) : Option (Rz T) :=
 zb (i_work_put n (0) x1 x2 0 x3) fun r4 =>
 some (.ok r4.1)

set_option maxRecDepth 100000 in
theorem i_Subst_c1__kkk_ok (n : Nat) : ∀ (k1 : Int) (n1 : Int) (s1 : ByteArray) (q1 : Nat) (f1 : Bool) (ks1 : List LT) (k2 : Int) (n2 : Int) (s2 : ByteArray) (q2 : Nat) (f2 : Bool) (ks2 : List LT) (k3 : Int) (n3 : Int) (s3 : ByteArray) (q3 : Nat) (f3 : Bool) (ks3 : List LT) {r : (Rz T)}, i_Subst_c1__kkk n (T.mk k1 n1 s1 (ers ks1)) (T.mk k2 n2 s2 (ers ks2)) (T.mk k3 n3 s3 (ers ks3)) = some r → ∀ (O : Heap) (tk : Nat), ACalls Go.Proofs.Tryd.prog 36 [.cptr [.int .i64 k1, .int .i64 n1, .str s1, .imm q1 4 f1 (cellss ks1)], .cptr [.int .i64 k2, .int .i64 n2, .str s2, .imm q2 4 f2 (cellss ks2)], .cptr [.int .i64 k3, .int .i64 n3, .str s3, .imm q3 4 f3 (cellss ks3)]] O tk (RetZ HT O tk r (fun r v tk' => VT false tk tk' r v)) := by
 intro k1 n1 s1 q1 f1 ks1 k2 n2 s2 q2 f2 ks2 k3 n3 s3 q3 f3 ks3 r hM O tk
 unfold i_Subst_c1__kkk at hM
 refine acalls_of_run Go.Proofs.Tryd.func36 rfl rfl [] [] (Bor.nil _) [(0, .cptr [.int .i64 k1, .int .i64 n1, .str s1, .imm q1 4 f1 (cellss ks1)]), (1, .cptr [.int .i64 k2, .int .i64 n2, .str s2, .imm q2 4 f2 (cellss ks2)]), (2, .cptr [.int .i64 k3, .int .i64 n3, .str s3, .imm q3 4 f3 (cellss ks3)])] (.cons (.cptr _) (.cons (.cptr _) (.cons (.cptr _) (.nil _)))) (leb rfl) (fun _ h => by cases h) (fun S0 hO htk hfz => ?_)
 refine run_sr ?_
 refine run_op rfl (alloc_step (d := 3) hG rfl rfl rfl) rfl (ltb rfl) ?_
 refine run_ops_nil ?_
 refine run_sr ?_
 refine run_pu rfl (build_step hG rfl (by rfl) rfl (fun h => by cases h) (by rfl)) rfl (ltb rfl) ?_
 refine run_op rfl (box_step (d := 5) rfl rfl rfl rfl rfl) rfl (ltb rfl) ?_
 refine run_ld hG rfl rfl rfl rfl rfl (ltb rfl) ?_
 refine run_ld hG rfl rfl rfl rfl rfl (ltb rfl) ?_
 refine run_ld hG rfl rfl rfl rfl rfl (ltb rfl) ?_
 obtain ⟨z9, hg5, hM⟩ := zb_t hM
 refine run_call rfl rfl rfl (ltb rfl) rfl rfl rfl (fun _ h => absurd h List.not_mem_nil) (i_work_put_ok n (.loc 5) 0 k1 n1 s1 q1 f1 ks1 k2 n2 s2 q2 f2 ks2 0 k3 n3 s3 q3 f3 ks3 hg5 _ _ rfl) (callK_retVZ_loc (k := 5) rfl (fun r4 v o'15 tk6 hz12 (hle7 : tk ≤ tk6) h8 => ?_) (fun c p o' tk6 hz (_ : tk ≤ tk6) _ => by subst hz; obtain rfl := bd_stop hM; exact run_pan_at (⟨rfl, (show tk ≤ tk6 by omega), rfl⟩)))
 subst hz12
 replace hM := bd_ok hM
 obtain ⟨ra14, c13, rfl, rfl, ⟨k10, n10, s10, q10, f10, ks10, rfl, rfl, hf11⟩⟩ := h8
 refine run_op0 rfl (store_step hG rfl rfl rfl rfl rfl rfl rfl rfl) rfl ?_
 refine run_ops_nil ?_
 refine run_ret_to ?_
 obtain rfl := some_t hM
 refine fin_x hG rfl rfl rfl (v' := .agg [.int .i64 k10, .int .i64 n10, .str s10, .imm q10 4 f10 (cellss ks10)]) (by rfl) ⟨rfl, (show tk ≤ tk6 by omega), _, rfl, ⟨k10, n10, s10, q10, f10, ks10, rfl, rfl, fun h => by cases h⟩⟩

def i_result_c1__of_i_Subst_c1_kv (n : Nat) (x1 : T) (x2 : T) (x3 : T) (x4 : T) : Option (Rz T) :=
 zb (i_Subst_c1__kkk n x1 x2 x3) fun r5 =>
 some (.ok r5)

set_option maxRecDepth 100000 in
theorem i_result_c1__of_i_Subst_c1_kv_ok (n : Nat) : ∀ (k1 : Int) (n1 : Int) (s1 : ByteArray) (q1 : Nat) (f1 : Bool) (ks1 : List LT) (k2 : Int) (n2 : Int) (s2 : ByteArray) (q2 : Nat) (f2 : Bool) (ks2 : List LT) (k3 : Int) (n3 : Int) (s3 : ByteArray) (q3 : Nat) (f3 : Bool) (ks3 : List LT) (X0 : ID) (k4 : Int) (n4 : Int) (s4 : ByteArray) (q4 : Nat) (f4 : Bool) (ks4 : List LT) {r : (Rz T)}, i_result_c1__of_i_Subst_c1_kv n (T.mk k1 n1 s1 (ers ks1)) (T.mk k2 n2 s2 (ers ks2)) (T.mk k3 n3 s3 (ers ks3)) (T.mk k4 n4 s4 (ers ks4)) = some r → ∀ (O : Heap) (tk : Nat), O X0 = some ⟨29, 4, true, [[.int .i64 k4, .int .i64 n4, .str s4, .imm q4 4 f4 (cellss ks4)]]⟩ → ACalls Go.Proofs.Tryd.prog 45 [.cptr [.fn (.func 36) [] [.cptr [.int .i64 k1, .int .i64 n1, .str s1, .imm q1 4 f1 (cellss ks1)], .cptr [.int .i64 k2, .int .i64 n2, .str s2, .imm q2 4 f2 (cellss ks2)], .cptr [.int .i64 k3, .int .i64 n3, .str s3, .imm q3 4 f3 (cellss ks3)]]], .optr X0 0 0] O tk (RetVZ HT O X0 tk r (fun r v o' tk' => ∃ cs, o' = ⟨29, 4, true, [cs]⟩ ∧ VT false tk tk' r (.agg cs) ∧ v = .tup []) (fun o' => o'.up = o')) := by
 intro k1 n1 s1 q1 f1 ks1 k2 n2 s2 q2 f2 ks2 k3 n3 s3 q3 f3 ks3 X0 k4 n4 s4 q4 f4 ks4 r hM O tk hX0
 unfold i_result_c1__of_i_Subst_c1_kv at hM
 refine acalls_of_run Go.Proofs.Tryd.func45 rfl rfl [X0] [⟨29, 4, true, [[.int .i64 k4, .int .i64 n4, .str s4, .imm q4 4 f4 (cellss ks4)]]⟩] (Bor.one hX0 rfl) [(0, .cptr [.fn (.func 36) [] [.cptr [.int .i64 k1, .int .i64 n1, .str s1, .imm q1 4 f1 (cellss ks1)], .cptr [.int .i64 k2, .int .i64 n2, .str s2, .imm q2 4 f2 (cellss ks2)], .cptr [.int .i64 k3, .int .i64 n3, .str s3, .imm q3 4 f3 (cellss ks3)]]]), (1, .optr (.bor 0) 0 0)] (.cons (.cptr _) (.cons (.bor 0 _ _ _ rfl) (.nil _))) (leb rfl) (by intro y h; simp only [List.mem_cons, List.not_mem_nil, or_false] at h; rcases h with rfl <;> simp [tch, tch0]) (fun S0 hO htk hfz => ?_)
 refine run_region ?_
 refine run_ld hG rfl rfl rfl rfl rfl (ltb rfl) ?_
 obtain ⟨z10, hg6, hM⟩ := zb_t hM
 refine run_call rfl rfl rfl (ltb rfl) rfl rfl rfl (fun _ h => absurd h List.not_mem_nil) (i_Subst_c1__kkk_ok n k1 n1 s1 q1 f1 ks1 k2 n2 s2 q2 f2 ks2 k3 n3 s3 q3 f3 ks3 hg6 _ _) (callK_retZ (fun r5 v tk7 hz13 (hle8 : tk ≤ tk7) h9 => ?_) (fun c p tk7 hz (_ : tk ≤ tk7) => by subst hz; obtain rfl := bd_stop hM; exact run_pan_at (⟨⟨29, 4, true, [[.int .i64 k4, .int .i64 n4, .str s4, .imm q4 4 f4 (cellss ks4)]]⟩, rfl, (show tk ≤ tk7 by omega), rfl, rfl⟩)))
 subst hz13
 replace hM := bd_ok hM
 obtain ⟨k11, n11, s11, q11, f11, ks11, rfl, rfl, hf12⟩ := h9
 refine run_op0 rfl (store_step hG rfl rfl rfl rfl rfl rfl rfl rfl) rfl ?_
 refine run_ops_nil ?_
 show Results _ _ _ _
 obtain rfl := some_t hM
 refine fin_x hG rfl rfl rfl (v' := .tup []) (by rfl) ⟨⟨29, 4, true, [[.int .i64 k11, .int .i64 n11, .str s11, .imm q11 4 f11 (cellss ks11)]]⟩, rfl, (show tk ≤ tk7 by omega), _, rfl, ⟨_, rfl, ⟨k11, n11, s11, q11, f11, ks11, rfl, rfl, fun h => by cases h⟩, rfl⟩⟩

def i_result__fn_i_Subst_c1kkk (n : Nat) (x1 : T) (x2 : T) (x3 : T) : Option (T × Int) :=
 (i_result_c1__of_i_Subst_c1_kv n x1 x2 x3 (T.mk 0 0 ⟨#[]⟩ [])).bind fun z4 =>
 z4.cs (fun r7 =>
  if (0 != 0) = true then
   some ((T.mk 0 0 ⟨#[]⟩ []), 0)
  else
   (i_clone n r7).bind fun r16 =>
   some (r16, 0)) (fun c13 p14 =>
  if (c13 != 0) = true then
   some ((T.mk 0 0 ⟨#[]⟩ []), c13)
  else
   none)

set_option maxRecDepth 100000 in
theorem i_result__fn_i_Subst_c1kkk_ok (n : Nat) : ∀ (k1 : Int) (n1 : Int) (s1 : ByteArray) (q1 : Nat) (f1 : Bool) (ks1 : List LT) (k2 : Int) (n2 : Int) (s2 : ByteArray) (q2 : Nat) (f2 : Bool) (ks2 : List LT) (k3 : Int) (n3 : Int) (s3 : ByteArray) (q3 : Nat) (f3 : Bool) (ks3 : List LT) {r : (T × Int)}, i_result__fn_i_Subst_c1kkk n (T.mk k1 n1 s1 (ers ks1)) (T.mk k2 n2 s2 (ers ks2)) (T.mk k3 n3 s3 (ers ks3)) = some r → ∀ (O : Heap) (tk : Nat), ACalls Go.Proofs.Tryd.prog 26 [.fn (.func 36) [] [.cptr [.int .i64 k1, .int .i64 n1, .str s1, .imm q1 4 f1 (cellss ks1)], .cptr [.int .i64 k2, .int .i64 n2, .str s2, .imm q2 4 f2 (cellss ks2)], .cptr [.int .i64 k3, .int .i64 n3, .str s3, .imm q3 4 f3 (cellss ks3)]]] O tk (RetX O tk (fun v tk' => ∃ r0' r1' v0' v1', r = (r0', r1') ∧ v = .tup [v0', v1'] ∧ VT true tk tk' r0' v0' ∧ v1' = .int .i64 r1')) := by
 intro k1 n1 s1 q1 f1 ks1 k2 n2 s2 q2 f2 ks2 k3 n3 s3 q3 f3 ks3 r hM O tk
 unfold i_result__fn_i_Subst_c1kkk at hM
 refine acalls_of_run Go.Proofs.Tryd.func26 rfl rfl [] [] (Bor.nil _) [(0, .fn (.func 36) [] [.cptr [.int .i64 k1, .int .i64 n1, .str s1, .imm q1 4 f1 (cellss ks1)], .cptr [.int .i64 k2, .int .i64 n2, .str s2, .imm q2 4 f2 (cellss ks2)], .cptr [.int .i64 k3, .int .i64 n3, .str s3, .imm q3 4 f3 (cellss ks3)]])] (.cons (ent_fnL ((.cons (.cptr _) (.cons (.cptr _) (.cons (.cptr _) .nil))))) (.nil _)) (leb rfl) (fun _ h => by cases h) (fun S0 hO htk hfz => ?_)
 refine run_sr ?_
 refine run_op rfl (box_step (d := 1) rfl rfl rfl rfl rfl) rfl (ltb rfl) ?_
 refine run_op rfl (alloc_step (d := 2) hG rfl rfl rfl) rfl (ltb rfl) ?_
 refine mvR rfl rfl rfl rfl (ltb rfl) ?_
 refine run_ops_nil ?_
 refine run_sr ?_
 refine run_pu rfl (build_step hG rfl (by rfl) rfl (fun h => by cases h) (by rfl)) rfl (ltb rfl) ?_
 refine run_op rfl (alloc_step (d := 4) hG rfl rfl rfl) rfl (ltb rfl) ?_
 refine run_op0 rfl (store_step hG rfl rfl rfl rfl rfl rfl rfl rfl) rfl ?_
 refine run_ops_nil ?_
 refine run_seq ?_
 refine run_sr ?_
 refine run_sub_ops (Sub.frbox (k := 1) (env' := [(0, .fn (.func 36) [] [.cptr [.int .i64 k1, .int .i64 n1, .str s1, .imm q1 4 f1 (cellss ks1)], .cptr [.int .i64 k2, .int .i64 n2, .str s2, .imm q2 4 f2 (cellss ks2)], .cptr [.int .i64 k3, .int .i64 n3, .str s3, .imm q3 4 f3 (cellss ks3)]]), (1, .cptr [.fn (.func 36) [] [.cptr [.int .i64 k1, .int .i64 n1, .str s1, .imm q1 4 f1 (cellss ks1)], .cptr [.int .i64 k2, .int .i64 n2, .str s2, .imm q2 4 f2 (cellss ks2)], .cptr [.int .i64 k3, .int .i64 n3, .str s3, .imm q3 4 f3 (cellss ks3)]]]), (2, .optr (.loc 2) 0 0), (3, .int .i64 0), (6, .agg [.int .i64 0, .int .i64 0, .str ⟨#[]⟩, .imm 0 4 true []]), (4, .optr (.loc 4) 0 0)]) rfl rfl (.keep 0 _ _ rfl (.ptr 1 0 _ rfl (.keep 2 _ _ rfl (.keep 3 _ _ rfl (.keep 6 _ _ rfl (.keep 4 _ _ rfl .nil))))))) ?_
 refine run_pu rfl (makeFunc_step (first := []) (cap := [.tmp 1, .tmp 4]) rfl rfl rfl) rfl (ltb rfl) ?_
 obtain ⟨z4, hg5, hM⟩ := bind_t hM
 refine run_call rfl rfl rfl (ltb rfl) rfl rfl rfl (fun _ h => absurd h List.not_mem_nil) (caught_vz (j := 0) rfl (K := 45) (bor := [.loc 4]) (b := [⟨29, 4, true, [[.int .i64 0, .int .i64 0, .str ⟨#[]⟩, .imm 0 4 true []]]⟩]) (caps := [.cptr [.fn (.func 36) [] [.cptr [.int .i64 k1, .int .i64 n1, .str s1, .imm q1 4 f1 (cellss ks1)], .cptr [.int .i64 k2, .int .i64 n2, .str s2, .imm q2 4 f2 (cellss ks2)], .cptr [.int .i64 k3, .int .i64 n3, .str s3, .imm q3 4 f3 (cellss ks3)]]], .optr (.loc 4) 0 0]) (caps' := [.cptr [.fn (.func 36) [] [.cptr [.int .i64 k1, .int .i64 n1, .str s1, .imm q1 4 f1 (cellss ks1)], .cptr [.int .i64 k2, .int .i64 n2, .str s2, .imm q2 4 f2 (cellss ks2)], .cptr [.int .i64 k3, .int .i64 n3, .str s3, .imm q3 4 f3 (cellss ks3)]]], .optr (.bor 0) 0 0]) (Bor.cons rfl rfl (by decide) (Bor.nil _)) (.cons (.cptr _) (.cons (.bor 0 _ _ _ rfl) .nil)) rfl (by intro y h; simp only [List.mem_cons, List.not_mem_nil, or_false] at h; rcases h with rfl <;> simp [tch, tch0]) rfl (i_result_c1__of_i_Subst_c1_kv_ok n k1 n1 s1 q1 f1 ks1 k2 n2 s2 q2 f2 ks2 k3 n3 s3 q3 f3 ks3 (.bor 0) 0 0 ⟨#[]⟩ 0 true [] hg5 _ _ rfl) (fun a v o' tk' h => by obtain ⟨_, rfl, ⟨_, _, _, _, _, _, ⟨⟩, rfl, _⟩, _⟩ := h; rfl)) (callK_retV_loc (k := 4) rfl (fun v o'10 tk8 (hle9 : tk ≤ tk8) h6 => ?_))
 rcases z4 with r7 | ⟨c13, p14⟩
 ·replace hM := cs_ok hM
  obtain ⟨rfl, _, ⟨_, rfl, ⟨k11, n11, s11, q11, f11, ks11, ⟨⟩, rfl, hf12⟩, rfl⟩⟩ := h6
  refine run_op rfl (alloc_step (d := 5) hG rfl rfl rfl) rfl (ltb rfl) ?_
  refine run_op0 rfl (store_step hG rfl rfl rfl rfl rfl rfl rfl rfl) rfl ?_
  refine run_ops_nil ?_
  refine run_sr ?_
  refine run_pu rfl (fieldAddr_step hG rfl rfl rfl rfl rfl) rfl (ltb rfl) ?_
  refine run_ld hG rfl rfl rfl rfl rfl (ltb rfl) ?_
  refine run_bin rfl rfl rfl rfl rfl rfl rfl (ltb rfl) ?_
  refine run_ops_nil ?_
  refine run_ifb rfl rfl (fun hb15 => ?_) (fun hb15 => ?_)
  ·replace hM := ite_t hb15 hM
   refine run_seq ?_
   refine run_draw [.loc 2] (n := 5) mixed rfl (by intro x hx; simp only [List.mem_cons, List.not_mem_nil, or_false] at hx; rcases hx with rfl <;> rfl) ?_
   refine AAny.take (i := 0) rfl (by kernel_rfl) (by kernel_rfl) (by kernel_rfl) rfl rfl (ltb rfl) ((build_step hG rfl (by rfl) rfl (fun h => by cases h) (by rfl)).rd _) ?_
   refine AAny.take (i := 1) rfl (by kernel_rfl) (by kernel_rfl) (by kernel_rfl) rfl rfl (ltb rfl) ((fieldAddr_step hG rfl rfl rfl rfl rfl).rd _) ?_
   refine AAny.take (i := 2) rfl (by kernel_rfl) (by kernel_rfl) (by kernel_rfl) rfl rfl (ltb rfl) (aload_rd hG rfl rfl rfl (by first | (simp [ldok]; done) | exact List.not_mem_nil | trivial)) ?_
   refine AAny.one (i := 3) (by kernel_rfl) (AOp.step0 rfl rfl rfl (store_step hG rfl rfl rfl rfl rfl rfl rfl rfl) (by intro x hx; exact hx) ?_)
   refine AAny.take (i := 4) rfl (by kernel_rfl) (by kernel_rfl) (by kernel_rfl) rfl rfl (ltb rfl) ((move_step (.inr rfl) rfl).rd _) ?_
   refine AAny.done (by kernel_rfl) ?_
   refine run_ret_to ?_
   obtain rfl := some_t hM
   refine fin_x hG rfl rfl rfl (v' := .tup [.agg [.int .i64 0, .int .i64 0, .str ⟨#[]⟩, .imm 0 4 true (cellss [])], .int .i64 0]) (by rfl) ⟨rfl, (show tk ≤ tk8 by omega), _, rfl, ⟨_, _, _, _, rfl, rfl, ⟨0, 0, ⟨#[]⟩, 0, true, [], rfl, rfl, fun _ => Fr.nil _ _⟩, rfl⟩⟩
  ·replace hM := ite_f hb15 hM
   refine run_skip ?_
   refine run_sr ?_
   refine run_ld hG rfl rfl rfl rfl rfl (ltb rfl) ?_
   obtain ⟨r16, hg17, hM⟩ := bind_t hM
   refine run_call rfl rfl rfl (ltb rfl) rfl rfl rfl (fun _ h => absurd h List.not_mem_nil) (i_clone_ok n k11 n11 s11 q11 f11 ks11 hg17 _ _) (callK_retX (fun v tk18 (hle19 : tk8 ≤ tk18) h20 => ?_))
   obtain ⟨k21, n21, s21, q21, f21, ks21, rfl, rfl, hf22⟩ := h20
   refine run_op0 rfl (store_step hG rfl rfl rfl rfl rfl rfl rfl rfl) rfl ?_
   refine mvR rfl rfl rfl rfl (ltb rfl) ?_
   refine run_ops_nil ?_
   refine run_ret_to ?_
   obtain rfl := some_t hM
   refine fin_x hG rfl rfl rfl (v' := .tup [.agg [.int .i64 k21, .int .i64 n21, .str s21, .imm q21 4 f21 (cellss ks21)], .int .i64 0]) (by rfl) ⟨rfl, (show tk ≤ tk18 by omega), _, rfl, ⟨_, _, _, _, rfl, rfl, ⟨k21, n21, s21, q21, f21, ks21, rfl, rfl, fun _ => (show Fr tk tk18 _ from ((show Fr tk8 tk18 _ from hf22 rfl)).mono (by omega) (by omega))⟩, rfl⟩⟩
 ·replace hM := cs_stop hM
  obtain ⟨rfl, _⟩ := h6
  refine run_op rfl (alloc_step (d := 5) hG rfl rfl rfl) rfl (ltb rfl) ?_
  refine run_op0 rfl (store_step hG rfl rfl rfl rfl rfl rfl rfl rfl) rfl ?_
  refine run_ops_nil ?_
  refine run_sr ?_
  refine run_pu rfl (fieldAddr_step hG rfl rfl rfl rfl rfl) rfl (ltb rfl) ?_
  refine run_ld hG rfl rfl rfl rfl rfl (ltb rfl) ?_
  refine run_bin rfl rfl rfl rfl rfl rfl rfl (ltb rfl) ?_
  refine run_ops_nil ?_
  refine run_ifb rfl rfl (fun hb23 => ?_) (fun hb23 => ?_)
  ·replace hM := ite_t hb23 hM
   refine run_seq ?_
   refine run_draw [.loc 2] (n := 5) mixed rfl (by intro x hx; simp only [List.mem_cons, List.not_mem_nil, or_false] at hx; rcases hx with rfl <;> rfl) ?_
   refine AAny.take (i := 0) rfl (by kernel_rfl) (by kernel_rfl) (by kernel_rfl) rfl rfl (ltb rfl) ((build_step hG rfl (by rfl) rfl (fun h => by cases h) (by rfl)).rd _) ?_
   refine AAny.take (i := 1) rfl (by kernel_rfl) (by kernel_rfl) (by kernel_rfl) rfl rfl (ltb rfl) ((fieldAddr_step hG rfl rfl rfl rfl rfl).rd _) ?_
   refine AAny.take (i := 2) rfl (by kernel_rfl) (by kernel_rfl) (by kernel_rfl) rfl rfl (ltb rfl) (aload_rd hG rfl rfl rfl (by first | (simp [ldok]; done) | exact List.not_mem_nil | trivial)) ?_
   refine AAny.one (i := 3) (by kernel_rfl) (AOp.step0 rfl rfl rfl (store_step hG rfl rfl rfl rfl rfl rfl rfl rfl) (by intro x hx; exact hx) ?_)
   refine AAny.take (i := 4) rfl (by kernel_rfl) (by kernel_rfl) (by kernel_rfl) rfl rfl (ltb rfl) ((move_step (.inr rfl) rfl).rd _) ?_
   refine AAny.done (by kernel_rfl) ?_
   refine run_ret_to ?_
   obtain rfl := some_t hM
   refine fin_x hG rfl rfl rfl (v' := .tup [.agg [.int .i64 0, .int .i64 0, .str ⟨#[]⟩, .imm 0 4 true (cellss [])], .int .i64 c13]) (by rfl) ⟨rfl, (show tk ≤ tk8 by omega), _, rfl, ⟨_, _, _, _, rfl, rfl, ⟨0, 0, ⟨#[]⟩, 0, true, [], rfl, rfl, fun _ => Fr.nil _ _⟩, rfl⟩⟩
  ·replace hM := ite_f hb23 hM
   refine run_skip ?_
   refine run_sr ?_
   cases hM

def i_Subst (n : Nat) (x1 : T) (x2 : T) (x3 : T) : Option (T × Int) :=
 (i_TermOK n x1).bind fun r4 =>
 if (!r4) = true then
  some ((T.mk 0 0 ⟨#[]⟩ []), 1)
 else
  (i_SimpleOK n x2).bind fun r12 =>
  if (!r12) = true then
   some ((T.mk 0 0 ⟨#[]⟩ []), 1)
  else
   (i_treeOK n x3).bind fun r20 =>
   if (!r20) = true then
    some ((T.mk 0 0 ⟨#[]⟩ []), 1)
   else
    (i_result__fn_i_Subst_c1kkk n x1 x2 x3).bind fun r28 =>
    some (r28.1, r28.2)

set_option maxRecDepth 100000 in
theorem i_Subst_ok (n : Nat) : ∀ (k1 : Int) (n1 : Int) (s1 : ByteArray) (q1 : Nat) (f1 : Bool) (ks1 : List LT) (k2 : Int) (n2 : Int) (s2 : ByteArray) (q2 : Nat) (f2 : Bool) (ks2 : List LT) (k3 : Int) (n3 : Int) (s3 : ByteArray) (q3 : Nat) (f3 : Bool) (ks3 : List LT) {r : (T × Int)}, i_Subst n (T.mk k1 n1 s1 (ers ks1)) (T.mk k2 n2 s2 (ers ks2)) (T.mk k3 n3 s3 (ers ks3)) = some r → ∀ (O : Heap) (tk : Nat), ACalls Go.Proofs.Tryd.prog 17 [.agg [.int .i64 k1, .int .i64 n1, .str s1, .imm q1 4 f1 (cellss ks1)], .agg [.int .i64 k2, .int .i64 n2, .str s2, .imm q2 4 f2 (cellss ks2)], .agg [.int .i64 k3, .int .i64 n3, .str s3, .imm q3 4 f3 (cellss ks3)]] O tk (RetX O tk (fun v tk' => ∃ r0' r1' v0' v1', r = (r0', r1') ∧ v = .tup [v0', v1'] ∧ VT true tk tk' r0' v0' ∧ v1' = .int .i64 r1')) := by
 intro k1 n1 s1 q1 f1 ks1 k2 n2 s2 q2 f2 ks2 k3 n3 s3 q3 f3 ks3 r hM O tk
 unfold i_Subst at hM
 refine acalls_of_run Go.Proofs.Tryd.func17 rfl rfl [] [] (Bor.nil _) [(0, .agg [.int .i64 k1, .int .i64 n1, .str s1, .imm q1 4 f1 (cellss ks1)]), (1, .agg [.int .i64 k2, .int .i64 n2, .str s2, .imm q2 4 f2 (cellss ks2)]), (2, .agg [.int .i64 k3, .int .i64 n3, .str s3, .imm q3 4 f3 (cellss ks3)])] (.cons (.agg _) (.cons (.agg _) (.cons (.agg _) (.nil _)))) (leb rfl) (fun _ h => by cases h) (fun S0 hO htk hfz => ?_)
 refine run_sr ?_
 refine run_op rfl (box_step (d := 3) rfl rfl rfl rfl rfl) rfl (ltb rfl) ?_
 refine run_op rfl (box_step (d := 4) rfl rfl rfl rfl rfl) rfl (ltb rfl) ?_
 refine run_op rfl (box_step (d := 5) rfl rfl rfl rfl rfl) rfl (ltb rfl) ?_
 refine run_op rfl (alloc_step (d := 6) hG rfl rfl rfl) rfl (ltb rfl) ?_
 refine mvR rfl rfl rfl rfl (ltb rfl) ?_
 refine run_ops_nil ?_
 refine run_seq ?_
 refine run_sr ?_
 refine run_ld hG rfl rfl rfl rfl rfl (ltb rfl) ?_
 obtain ⟨r4, hg5, hM⟩ := bind_t hM
 refine run_call rfl rfl rfl (ltb rfl) rfl rfl rfl (fun _ h => absurd h List.not_mem_nil) (i_TermOK_ok n k1 n1 s1 q1 f1 ks1 hg5 _ _) (callK_retX (fun v tk6 (hle7 : tk ≤ tk6) h8 => ?_))
 subst h8
 refine run_pu rfl (aun_step rfl rfl rfl) rfl (ltb rfl) ?_
 refine mvL rfl rfl rfl rfl (ltb rfl) ?_
 refine run_splitb (i := 11) rfl (fun hb11 => ?_) (fun hb11 => ?_)
 ·replace hM := ite_t hb11 hM
  refine run_off (on_of rfl rfl rfl rfl) rfl (ltb rfl) ?_
  refine run_off (on_of rfl rfl rfl rfl) rfl (ltb rfl) ?_
  refine run_off (on_of rfl rfl rfl rfl) rfl (ltb rfl) ?_
  refine run_pu rfl (pick_step rfl rfl rfl) rfl (ltb rfl) ?_
  refine mvL rfl rfl rfl rfl (ltb rfl) ?_
  refine run_off (on_of rfl rfl rfl rfl) rfl (ltb rfl) ?_
  refine run_off (on_of rfl rfl rfl rfl) rfl (ltb rfl) ?_
  refine run_off (on_of rfl rfl rfl rfl) rfl (ltb rfl) ?_
  refine run_pu rfl (pick_step rfl rfl rfl) rfl (ltb rfl) ?_
  refine run_ops_nil ?_
  refine run_if rfl rfl (fun _ => ?_) (fun h => by cases h)
  refine run_sr ?_
  refine run_pu rfl (build_step hG rfl (by rfl) rfl (fun h => by cases h) (by rfl)) rfl (ltb rfl) ?_
  refine run_op0 rfl (store_step hG rfl rfl rfl rfl rfl rfl rfl rfl) rfl ?_
  refine mvR rfl rfl rfl rfl (ltb rfl) ?_
  refine run_ops_nil ?_
  refine run_ret_to ?_
  obtain rfl := some_t hM
  refine fin_x hG rfl rfl rfl (v' := .tup [.agg [.int .i64 0, .int .i64 0, .str ⟨#[]⟩, .imm 0 4 true (cellss [])], .int .i64 1]) (by rfl) ⟨rfl, (show tk ≤ tk6 by omega), _, rfl, ⟨_, _, _, _, rfl, rfl, ⟨0, 0, ⟨#[]⟩, 0, true, [], rfl, rfl, fun _ => Fr.nil _ _⟩, rfl⟩⟩
 ·replace hM := ite_f hb11 hM
  refine run_rdG (on_of rfl rfl rfl rfl) (aload_rd hG rfl rfl rfl (by first | (simp [ldok]; done) | exact List.not_mem_nil | trivial)) rfl (ltb rfl) ?_
  obtain ⟨r12, hg13, hM⟩ := bind_t hM
  refine run_callG (on_of rfl rfl rfl rfl) rfl rfl (ltb rfl) rfl rfl rfl (fun _ h => absurd h List.not_mem_nil) (i_SimpleOK_ok n k2 n2 s2 q2 f2 ks2 hg13 _ _) (callK_retX (fun v tk14 (hle15 : tk6 ≤ tk14) h16 => ?_))
  subst h16
  refine run_puG (on_of rfl rfl rfl rfl) (aun_step rfl rfl rfl) rfl (ltb rfl) ?_
  refine run_pu rfl (pick_step rfl rfl rfl) rfl (ltb rfl) ?_
  refine mvL rfl rfl rfl rfl (ltb rfl) ?_
  refine run_splitb (i := 16) rfl (fun hb19 => ?_) (fun hb19 => ?_)
  ·replace hM := ite_t hb19 hM
   refine run_off (on_of rfl rfl rfl rfl) rfl (ltb rfl) ?_
   refine run_off (on_of rfl rfl rfl rfl) rfl (ltb rfl) ?_
   refine run_off (on_of rfl rfl rfl rfl) rfl (ltb rfl) ?_
   refine run_pu rfl (pick_step rfl rfl rfl) rfl (ltb rfl) ?_
   refine run_ops_nil ?_
   refine run_sub_code (σ' := ⟨[(3, .optr (.loc 3) 0 0), (4, .optr (.loc 4) 0 0), (5, .optr (.loc 5) 0 0), (6, .optr (.loc 6) 0 0), (7, .int .i64 0), (20, .bool true)], [(6, ⟨29, 4, true, [[.int .i64 0, .int .i64 0, .str ⟨#[]⟩, .imm 0 4 true []]]⟩), (5, ⟨29, 4, true, [[.int .i64 k3, .int .i64 n3, .str s3, .imm q3 4 f3 (cellss ks3)]]⟩), (4, ⟨29, 4, true, [[.int .i64 k2, .int .i64 n2, .str s2, .imm q2 4 f2 (cellss ks2)]]⟩), (3, ⟨29, 4, true, [[.int .i64 k1, .int .i64 n1, .str s1, .imm q1 4 f1 (cellss ks1)]]⟩)], [], O, tk14⟩) (Sub.env _ ⟨rfl, rfl, rfl, rfl, rfl, rfl, trivial⟩) ?_
   refine run_if rfl rfl (fun _ => ?_) (fun h => by cases h)
   refine run_sr ?_
   refine run_pu rfl (build_step hG rfl (by rfl) rfl (fun h => by cases h) (by rfl)) rfl (ltb rfl) ?_
   refine run_op0 rfl (store_step hG rfl rfl rfl rfl rfl rfl rfl rfl) rfl ?_
   refine mvR rfl rfl rfl rfl (ltb rfl) ?_
   refine run_ops_nil ?_
   refine run_ret_to ?_
   obtain rfl := some_t hM
   refine fin_x hG rfl rfl rfl (v' := .tup [.agg [.int .i64 0, .int .i64 0, .str ⟨#[]⟩, .imm 0 4 true (cellss [])], .int .i64 1]) (by rfl) ⟨rfl, (show tk ≤ tk14 by omega), _, rfl, ⟨_, _, _, _, rfl, rfl, ⟨0, 0, ⟨#[]⟩, 0, true, [], rfl, rfl, fun _ => Fr.nil _ _⟩, rfl⟩⟩
  ·replace hM := ite_f hb19 hM
   refine run_rdG (on_of rfl rfl rfl rfl) (aload_rd hG rfl rfl rfl (by first | (simp [ldok]; done) | exact List.not_mem_nil | trivial)) rfl (ltb rfl) ?_
   obtain ⟨r20, hg21, hM⟩ := bind_t hM
   refine run_callG (on_of rfl rfl rfl rfl) rfl rfl (ltb rfl) rfl rfl rfl (fun _ h => absurd h List.not_mem_nil) (i_treeOK_ok n k3 n3 s3 q3 f3 ks3 hg21 _ _) (callK_retX (fun v tk22 (hle23 : tk14 ≤ tk22) h24 => ?_))
   subst h24
   refine run_puG (on_of rfl rfl rfl rfl) (aun_step rfl rfl rfl) rfl (ltb rfl) ?_
   refine run_pu rfl (pick_step rfl rfl rfl) rfl (ltb rfl) ?_
   refine run_ops_nil ?_
   refine run_sub_code (σ' := ⟨[(3, .optr (.loc 3) 0 0), (4, .optr (.loc 4) 0 0), (5, .optr (.loc 5) 0 0), (6, .optr (.loc 6) 0 0), (7, .int .i64 0), (20, .bool (!r20))], [(6, ⟨29, 4, true, [[.int .i64 0, .int .i64 0, .str ⟨#[]⟩, .imm 0 4 true []]]⟩), (5, ⟨29, 4, true, [[.int .i64 k3, .int .i64 n3, .str s3, .imm q3 4 f3 (cellss ks3)]]⟩), (4, ⟨29, 4, true, [[.int .i64 k2, .int .i64 n2, .str s2, .imm q2 4 f2 (cellss ks2)]]⟩), (3, ⟨29, 4, true, [[.int .i64 k1, .int .i64 n1, .str s1, .imm q1 4 f1 (cellss ks1)]]⟩)], [], O, tk22⟩) (Sub.env _ ⟨rfl, rfl, rfl, rfl, rfl, rfl, trivial⟩) ?_
   refine run_ifb rfl rfl (fun hb27 => ?_) (fun hb27 => ?_)
   ·replace hM := ite_t hb27 hM
    refine run_sr ?_
    refine run_pu rfl (build_step hG rfl (by rfl) rfl (fun h => by cases h) (by rfl)) rfl (ltb rfl) ?_
    refine run_op0 rfl (store_step hG rfl rfl rfl rfl rfl rfl rfl rfl) rfl ?_
    refine mvR rfl rfl rfl rfl (ltb rfl) ?_
    refine run_ops_nil ?_
    refine run_ret_to ?_
    obtain rfl := some_t hM
    refine fin_x hG rfl rfl rfl (v' := .tup [.agg [.int .i64 0, .int .i64 0, .str ⟨#[]⟩, .imm 0 4 true (cellss [])], .int .i64 1]) (by rfl) ⟨rfl, (show tk ≤ tk22 by omega), _, rfl, ⟨_, _, _, _, rfl, rfl, ⟨0, 0, ⟨#[]⟩, 0, true, [], rfl, rfl, fun _ => Fr.nil _ _⟩, rfl⟩⟩
   ·replace hM := ite_f hb27 hM
    refine run_skip ?_
    refine run_sr ?_
    refine run_sub_ops (Sub.frbox (k := 3) (env' := [(3, .cptr [.int .i64 k1, .int .i64 n1, .str s1, .imm q1 4 f1 (cellss ks1)]), (4, .optr (.loc 4) 0 0), (5, .optr (.loc 5) 0 0), (6, .optr (.loc 6) 0 0), (7, .int .i64 0), (20, .bool (!r20))]) rfl rfl (.ptr 3 0 _ rfl (.keep 4 _ _ rfl (.keep 5 _ _ rfl (.keep 6 _ _ rfl (.keep 7 _ _ rfl (.keep 20 _ _ rfl .nil))))))) ?_
    refine run_sub_ops (Sub.frbox (k := 4) (env' := [(3, .cptr [.int .i64 k1, .int .i64 n1, .str s1, .imm q1 4 f1 (cellss ks1)]), (4, .cptr [.int .i64 k2, .int .i64 n2, .str s2, .imm q2 4 f2 (cellss ks2)]), (5, .optr (.loc 5) 0 0), (6, .optr (.loc 6) 0 0), (7, .int .i64 0), (20, .bool (!r20))]) rfl rfl (.keep 3 _ _ rfl (.ptr 4 0 _ rfl (.keep 5 _ _ rfl (.keep 6 _ _ rfl (.keep 7 _ _ rfl (.keep 20 _ _ rfl .nil))))))) ?_
    refine run_sub_ops (Sub.frbox (k := 5) (env' := [(3, .cptr [.int .i64 k1, .int .i64 n1, .str s1, .imm q1 4 f1 (cellss ks1)]), (4, .cptr [.int .i64 k2, .int .i64 n2, .str s2, .imm q2 4 f2 (cellss ks2)]), (5, .cptr [.int .i64 k3, .int .i64 n3, .str s3, .imm q3 4 f3 (cellss ks3)]), (6, .optr (.loc 6) 0 0), (7, .int .i64 0), (20, .bool (!r20))]) rfl rfl (.keep 3 _ _ rfl (.keep 4 _ _ rfl (.ptr 5 0 _ rfl (.keep 6 _ _ rfl (.keep 7 _ _ rfl (.keep 20 _ _ rfl .nil))))))) ?_
    refine run_pu rfl (makeFunc_step (first := []) (cap := [.tmp 3, .tmp 4, .tmp 5]) rfl rfl rfl) rfl (ltb rfl) ?_
    obtain ⟨r28, hg29, hM⟩ := bind_t hM
    refine run_call rfl rfl rfl (ltb rfl) rfl rfl rfl (fun _ h => absurd h List.not_mem_nil) (i_result__fn_i_Subst_c1kkk_ok n k1 n1 s1 q1 f1 ks1 k2 n2 s2 q2 f2 ks2 k3 n3 s3 q3 f3 ks3 hg29 _ _) (callK_retX (fun v tk30 (hle31 : tk22 ≤ tk30) h32 => ?_))
    obtain ⟨ra37, ra38, va39, va40, rfl, rfl, ⟨k33, n33, s33, q33, f33, ks33, rfl, rfl, hf34⟩, rfl⟩ := h32
    refine run_pu rfl (extract_step rfl rfl rfl) rfl (ltb rfl) ?_
    refine run_pu rfl (extract_step rfl rfl rfl) rfl (ltb rfl) ?_
    refine run_op0 rfl (store_step hG rfl rfl rfl rfl rfl rfl rfl rfl) rfl ?_
    refine mvR rfl rfl rfl rfl (ltb rfl) ?_
    refine run_ops_nil ?_
    refine run_ret_to ?_
    obtain rfl := some_t hM
    refine fin_x hG rfl rfl rfl (v' := .tup [.agg [.int .i64 k33, .int .i64 n33, .str s33, .imm q33 4 f33 (cellss ks33)], .int .i64 ra38]) (by rfl) ⟨rfl, (show tk ≤ tk30 by omega), _, rfl, ⟨_, _, _, _, rfl, rfl, ⟨k33, n33, s33, q33, f33, ks33, rfl, rfl, fun _ => (show Fr tk tk30 _ from ((show Fr tk22 tk30 _ from hf34 rfl)).mono (by omega) (by omega))⟩, rfl⟩⟩

def s_Subst (n : Nat) (x1 : T) (x2 : T) (x3 : T) : Option (T × Int) :=
 (s_TermOK n x1).bind fun r4 =>
 if (!r4) = true then
  some ((T.mk 0 0 ⟨#[]⟩ []), 1)
 else
  (s_SimpleOK n x2).bind fun r12 =>
  if (!r12) = true then
   some ((T.mk 0 0 ⟨#[]⟩ []), 1)
  else
   (s_l01Right n x3).bind fun r20 =>
   if (!r20) = true then
    some ((T.mk 0 0 ⟨#[]⟩ []), 1)
   else
    (s_l03Run_sub n (0) x1 x2 x3 0).bind fun r28 =>
    some (r28.1, r28.2.1)

set_option maxRecDepth 100000 in
theorem s_Subst_ok (n : Nat) : ∀ (k1 : Int) (n1 : Int) (s1 : ByteArray) (q1 : Nat) (f1 : Bool) (ks1 : List LT) (k2 : Int) (n2 : Int) (s2 : ByteArray) (q2 : Nat) (f2 : Bool) (ks2 : List LT) (k3 : Int) (n3 : Int) (s3 : ByteArray) (q3 : Nat) (f3 : Bool) (ks3 : List LT) {r : (T × Int)}, s_Subst n (T.mk k1 n1 s1 (ers ks1)) (T.mk k2 n2 s2 (ers ks2)) (T.mk k3 n3 s3 (ers ks3)) = some r → ∀ (O : Heap) (tk : Nat), ACalls Go.Proofs.Tryd.prog 16 [.agg [.int .i64 k1, .int .i64 n1, .str s1, .imm q1 4 f1 (cellss ks1)], .agg [.int .i64 k2, .int .i64 n2, .str s2, .imm q2 4 f2 (cellss ks2)], .agg [.int .i64 k3, .int .i64 n3, .str s3, .imm q3 4 f3 (cellss ks3)]] O tk (RetX O tk (fun v tk' => ∃ r0' r1' v0' v1', r = (r0', r1') ∧ v = .tup [v0', v1'] ∧ VT true tk tk' r0' v0' ∧ v1' = .int .i64 r1')) := by
 intro k1 n1 s1 q1 f1 ks1 k2 n2 s2 q2 f2 ks2 k3 n3 s3 q3 f3 ks3 r hM O tk
 unfold s_Subst at hM
 refine acalls_of_run Go.Proofs.Tryd.func16 rfl rfl [] [] (Bor.nil _) [(0, .agg [.int .i64 k1, .int .i64 n1, .str s1, .imm q1 4 f1 (cellss ks1)]), (1, .agg [.int .i64 k2, .int .i64 n2, .str s2, .imm q2 4 f2 (cellss ks2)]), (2, .agg [.int .i64 k3, .int .i64 n3, .str s3, .imm q3 4 f3 (cellss ks3)])] (.cons (.agg _) (.cons (.agg _) (.cons (.agg _) (.nil _)))) (leb rfl) (fun _ h => by cases h) (fun S0 hO htk hfz => ?_)
 refine run_sr ?_
 refine run_op rfl (box_step (d := 3) rfl rfl rfl rfl rfl) rfl (ltb rfl) ?_
 refine run_op rfl (box_step (d := 4) rfl rfl rfl rfl rfl) rfl (ltb rfl) ?_
 refine run_op rfl (box_step (d := 5) rfl rfl rfl rfl rfl) rfl (ltb rfl) ?_
 refine run_op rfl (alloc_step (d := 6) hG rfl rfl rfl) rfl (ltb rfl) ?_
 refine mvR rfl rfl rfl rfl (ltb rfl) ?_
 refine run_ops_nil ?_
 refine run_seq ?_
 refine run_sr ?_
 refine run_ld hG rfl rfl rfl rfl rfl (ltb rfl) ?_
 obtain ⟨r4, hg5, hM⟩ := bind_t hM
 refine run_call rfl rfl rfl (ltb rfl) rfl rfl rfl (fun _ h => absurd h List.not_mem_nil) (s_TermOK_ok n k1 n1 s1 q1 f1 ks1 hg5 _ _) (callK_retX (fun v tk6 (hle7 : tk ≤ tk6) h8 => ?_))
 subst h8
 refine run_pu rfl (aun_step rfl rfl rfl) rfl (ltb rfl) ?_
 refine mvL rfl rfl rfl rfl (ltb rfl) ?_
 refine run_splitb (i := 12) rfl (fun hb11 => ?_) (fun hb11 => ?_)
 ·replace hM := ite_t hb11 hM
  refine run_off (on_of rfl rfl rfl rfl) rfl (ltb rfl) ?_
  refine run_off (on_of rfl rfl rfl rfl) rfl (ltb rfl) ?_
  refine run_off (on_of rfl rfl rfl rfl) rfl (ltb rfl) ?_
  refine run_pu rfl (pick_step rfl rfl rfl) rfl (ltb rfl) ?_
  refine mvL rfl rfl rfl rfl (ltb rfl) ?_
  refine run_off (on_of rfl rfl rfl rfl) rfl (ltb rfl) ?_
  refine run_off (on_of rfl rfl rfl rfl) rfl (ltb rfl) ?_
  refine run_off (on_of rfl rfl rfl rfl) rfl (ltb rfl) ?_
  refine run_pu rfl (pick_step rfl rfl rfl) rfl (ltb rfl) ?_
  refine run_ops_nil ?_
  refine run_if rfl rfl (fun _ => ?_) (fun h => by cases h)
  refine run_sr ?_
  refine run_pu rfl (build_step hG rfl (by rfl) rfl (fun h => by cases h) (by rfl)) rfl (ltb rfl) ?_
  refine run_op0 rfl (store_step hG rfl rfl rfl rfl rfl rfl rfl rfl) rfl ?_
  refine mvR rfl rfl rfl rfl (ltb rfl) ?_
  refine run_ops_nil ?_
  refine run_ret_to ?_
  obtain rfl := some_t hM
  refine fin_x hG rfl rfl rfl (v' := .tup [.agg [.int .i64 0, .int .i64 0, .str ⟨#[]⟩, .imm 0 4 true (cellss [])], .int .i64 1]) (by rfl) ⟨rfl, (show tk ≤ tk6 by omega), _, rfl, ⟨_, _, _, _, rfl, rfl, ⟨0, 0, ⟨#[]⟩, 0, true, [], rfl, rfl, fun _ => Fr.nil _ _⟩, rfl⟩⟩
 ·replace hM := ite_f hb11 hM
  refine run_rdG (on_of rfl rfl rfl rfl) (aload_rd hG rfl rfl rfl (by first | (simp [ldok]; done) | exact List.not_mem_nil | trivial)) rfl (ltb rfl) ?_
  obtain ⟨r12, hg13, hM⟩ := bind_t hM
  refine run_callG (on_of rfl rfl rfl rfl) rfl rfl (ltb rfl) rfl rfl rfl (fun _ h => absurd h List.not_mem_nil) (s_SimpleOK_ok n k2 n2 s2 q2 f2 ks2 hg13 _ _) (callK_retX (fun v tk14 (hle15 : tk6 ≤ tk14) h16 => ?_))
  subst h16
  refine run_puG (on_of rfl rfl rfl rfl) (aun_step rfl rfl rfl) rfl (ltb rfl) ?_
  refine run_pu rfl (pick_step rfl rfl rfl) rfl (ltb rfl) ?_
  refine mvL rfl rfl rfl rfl (ltb rfl) ?_
  refine run_splitb (i := 17) rfl (fun hb19 => ?_) (fun hb19 => ?_)
  ·replace hM := ite_t hb19 hM
   refine run_off (on_of rfl rfl rfl rfl) rfl (ltb rfl) ?_
   refine run_off (on_of rfl rfl rfl rfl) rfl (ltb rfl) ?_
   refine run_off (on_of rfl rfl rfl rfl) rfl (ltb rfl) ?_
   refine run_pu rfl (pick_step rfl rfl rfl) rfl (ltb rfl) ?_
   refine run_ops_nil ?_
   refine run_sub_code (σ' := ⟨[(3, .optr (.loc 3) 0 0), (4, .optr (.loc 4) 0 0), (5, .optr (.loc 5) 0 0), (6, .optr (.loc 6) 0 0), (7, .int .i64 0), (21, .bool true)], [(6, ⟨29, 4, true, [[.int .i64 0, .int .i64 0, .str ⟨#[]⟩, .imm 0 4 true []]]⟩), (5, ⟨29, 4, true, [[.int .i64 k3, .int .i64 n3, .str s3, .imm q3 4 f3 (cellss ks3)]]⟩), (4, ⟨29, 4, true, [[.int .i64 k2, .int .i64 n2, .str s2, .imm q2 4 f2 (cellss ks2)]]⟩), (3, ⟨29, 4, true, [[.int .i64 k1, .int .i64 n1, .str s1, .imm q1 4 f1 (cellss ks1)]]⟩)], [], O, tk14⟩) (Sub.env _ ⟨rfl, rfl, rfl, rfl, rfl, rfl, trivial⟩) ?_
   refine run_if rfl rfl (fun _ => ?_) (fun h => by cases h)
   refine run_sr ?_
   refine run_pu rfl (build_step hG rfl (by rfl) rfl (fun h => by cases h) (by rfl)) rfl (ltb rfl) ?_
   refine run_op0 rfl (store_step hG rfl rfl rfl rfl rfl rfl rfl rfl) rfl ?_
   refine mvR rfl rfl rfl rfl (ltb rfl) ?_
   refine run_ops_nil ?_
   refine run_ret_to ?_
   obtain rfl := some_t hM
   refine fin_x hG rfl rfl rfl (v' := .tup [.agg [.int .i64 0, .int .i64 0, .str ⟨#[]⟩, .imm 0 4 true (cellss [])], .int .i64 1]) (by rfl) ⟨rfl, (show tk ≤ tk14 by omega), _, rfl, ⟨_, _, _, _, rfl, rfl, ⟨0, 0, ⟨#[]⟩, 0, true, [], rfl, rfl, fun _ => Fr.nil _ _⟩, rfl⟩⟩
  ·replace hM := ite_f hb19 hM
   refine run_rdG (on_of rfl rfl rfl rfl) (aload_rd hG rfl rfl rfl (by first | (simp [ldok]; done) | exact List.not_mem_nil | trivial)) rfl (ltb rfl) ?_
   obtain ⟨r20, hg21, hM⟩ := bind_t hM
   refine run_callG (on_of rfl rfl rfl rfl) rfl rfl (ltb rfl) rfl rfl rfl (fun _ h => absurd h List.not_mem_nil) (s_l01Right_ok n k3 n3 s3 q3 f3 ks3 hg21 _ _) (callK_retX (fun v tk22 (hle23 : tk14 ≤ tk22) h24 => ?_))
   subst h24
   refine run_puG (on_of rfl rfl rfl rfl) (aun_step rfl rfl rfl) rfl (ltb rfl) ?_
   refine run_pu rfl (pick_step rfl rfl rfl) rfl (ltb rfl) ?_
   refine run_ops_nil ?_
   refine run_sub_code (σ' := ⟨[(3, .optr (.loc 3) 0 0), (4, .optr (.loc 4) 0 0), (5, .optr (.loc 5) 0 0), (6, .optr (.loc 6) 0 0), (7, .int .i64 0), (21, .bool (!r20))], [(6, ⟨29, 4, true, [[.int .i64 0, .int .i64 0, .str ⟨#[]⟩, .imm 0 4 true []]]⟩), (5, ⟨29, 4, true, [[.int .i64 k3, .int .i64 n3, .str s3, .imm q3 4 f3 (cellss ks3)]]⟩), (4, ⟨29, 4, true, [[.int .i64 k2, .int .i64 n2, .str s2, .imm q2 4 f2 (cellss ks2)]]⟩), (3, ⟨29, 4, true, [[.int .i64 k1, .int .i64 n1, .str s1, .imm q1 4 f1 (cellss ks1)]]⟩)], [], O, tk22⟩) (Sub.env _ ⟨rfl, rfl, rfl, rfl, rfl, rfl, trivial⟩) ?_
   refine run_ifb rfl rfl (fun hb27 => ?_) (fun hb27 => ?_)
   ·replace hM := ite_t hb27 hM
    refine run_sr ?_
    refine run_pu rfl (build_step hG rfl (by rfl) rfl (fun h => by cases h) (by rfl)) rfl (ltb rfl) ?_
    refine run_op0 rfl (store_step hG rfl rfl rfl rfl rfl rfl rfl rfl) rfl ?_
    refine mvR rfl rfl rfl rfl (ltb rfl) ?_
    refine run_ops_nil ?_
    refine run_ret_to ?_
    obtain rfl := some_t hM
    refine fin_x hG rfl rfl rfl (v' := .tup [.agg [.int .i64 0, .int .i64 0, .str ⟨#[]⟩, .imm 0 4 true (cellss [])], .int .i64 1]) (by rfl) ⟨rfl, (show tk ≤ tk22 by omega), _, rfl, ⟨_, _, _, _, rfl, rfl, ⟨0, 0, ⟨#[]⟩, 0, true, [], rfl, rfl, fun _ => Fr.nil _ _⟩, rfl⟩⟩
   ·replace hM := ite_f hb27 hM
    refine run_skip ?_
    refine run_sr ?_
    refine run_pu rfl (build_step hG rfl (by rfl) rfl (fun h => by cases h) (by rfl)) rfl (ltb rfl) ?_
    refine run_op rfl (box_step (d := 24) rfl rfl rfl rfl rfl) rfl (ltb rfl) ?_
    refine mvR rfl rfl rfl rfl (ltb rfl) ?_
    refine run_ops_nil ?_
    refine run_sr ?_
    refine mvL rfl rfl rfl rfl (ltb rfl) ?_
    refine run_ld hG rfl rfl rfl rfl rfl (ltb rfl) ?_
    refine run_ld hG rfl rfl rfl rfl rfl (ltb rfl) ?_
    refine run_ld hG rfl rfl rfl rfl rfl (ltb rfl) ?_
    obtain ⟨r28, hg29, hM⟩ := bind_t hM
    refine run_call rfl rfl rfl (ltb rfl) rfl rfl rfl (fun _ h => absurd h List.not_mem_nil) (s_l03Run_sub_ok n (.loc 24) 0 k1 n1 s1 q1 f1 ks1 k2 n2 s2 q2 f2 ks2 k3 n3 s3 q3 f3 ks3 0 hg29 _ _ rfl) (callK_retV_loc (k := 24) rfl (fun v o'43 tk30 (hle31 : tk22 ≤ tk30) h32 => ?_))
    obtain ⟨ra39, ra40, va41, va42, c37, rfl, rfl, rfl, ⟨k33, n33, s33, q33, f33, ks33, rfl, rfl, hf34⟩, rfl⟩ := h32
    refine run_pu rfl (extract_step rfl rfl rfl) rfl (ltb rfl) ?_
    refine run_pu rfl (extract_step rfl rfl rfl) rfl (ltb rfl) ?_
    refine run_op0 rfl (store_step hG rfl rfl rfl rfl rfl rfl rfl rfl) rfl ?_
    refine mvR rfl rfl rfl rfl (ltb rfl) ?_
    refine run_ops_nil ?_
    refine run_ret_to ?_
    obtain rfl := some_t hM
    refine fin_x hG rfl rfl rfl (v' := .tup [.agg [.int .i64 k33, .int .i64 n33, .str s33, .imm q33 4 f33 (cellss ks33)], .int .i64 ra40]) (by rfl) ⟨rfl, (show tk ≤ tk30 by omega), _, rfl, ⟨_, _, _, _, rfl, rfl, ⟨k33, n33, s33, q33, f33, ks33, rfl, rfl, fun _ => (show Fr tk tk30 _ from ((show Fr tk22 tk30 _ from hf34 rfl)).mono (by omega) (by omega))⟩, rfl⟩⟩

end Go.Am.YtiobknkpdkkikabDoor
