/- Printed by a program of ours: Lean functions that do what the Go functions do, and the contracts. -/
import Derived.Test.YtaedacibojpfkaaDoorMl0
import Derived.Test.YtaedacibojpfkaaDoorMb1
import Derived.Test.YtaedacibojpfkaaDoorTypes
import Derived.Test.YtaedacibojpfkaaDoorDkOccurs
-- packed
namespace Go.Am.YtaedacibojpfkaaDoor
open Go Go.Am

def i_tooBig_c1__c (x1 : T) (i2 : Int) (i3 : Int) : Option (Bool × Int) :=
 if (IntKind.i64.wrap (i3 + 1)) > 150 then
  some (true, (IntKind.i64.wrap (i3 + 1)))
 else
  if x1.kind = 5 then
   some ((decide (x1.n > 100)), (IntKind.i64.wrap (i3 + 1)))
  else
   some (false, (IntKind.i64.wrap (i3 + 1)))

set_option maxRecDepth 100000 in
theorem i_tooBig_c1__c_ok : ∀ (k1 : Int) (n1 : Int) (s1 : ByteArray) (q1 : Nat) (f1 : Bool) (ks1 : List LT) (i2 : Int) (X0 : ID) (i3 : Int) {r : (Bool × Int)}, i_tooBig_c1__c (T.mk k1 n1 s1 (ers ks1)) i2 i3 = some r → ∀ (O : Heap) (tk : Nat), O X0 = some ⟨3, 1, true, [[.int .i64 i3]]⟩ → ACalls Go.Proofs.Tryd.prog 93 [.cptr [.int .i64 k1, .int .i64 n1, .str s1, .imm q1 4 f1 (cellss ks1)], .int .i64 i2, .optr X0 0 0] O tk (RetV O X0 tk (fun v o' tk' => ∃ r0', ∃ (c0 : Int) , r = (r0', c0) ∧ o' = ⟨3, 1, true, [[.int .i64 c0]]⟩ ∧ v = .bool r0')) := by
 intro k1 n1 s1 q1 f1 ks1 i2 X0 i3 r hM O tk hX0
 unfold i_tooBig_c1__c at hM
 refine acalls_of_run Go.Proofs.Tryd.func93 rfl rfl [X0] [⟨3, 1, true, [[.int .i64 i3]]⟩] (Bor.one hX0 rfl) [(0, .cptr [.int .i64 k1, .int .i64 n1, .str s1, .imm q1 4 f1 (cellss ks1)]), (1, .int .i64 i2), (2, .optr (.bor 0) 0 0)] (.cons (.cptr _) (.cons (entS rfl) (.cons (.bor 0 _ _ _ rfl) (.nil _)))) (leb rfl) (by intro y h; simp only [List.mem_cons, List.not_mem_nil, or_false] at h; rcases h with rfl <;> simp [tch, tch0]) (fun S0 hO htk hfz => ?_)
 refine run_sr ?_
 refine mvR rfl rfl rfl rfl (ltb rfl) ?_
 refine run_ops_nil ?_
 refine run_sr ?_
 refine run_ld hG rfl rfl rfl rfl rfl (ltb rfl) ?_
 refine run_bin rfl rfl rfl rfl rfl rfl rfl (ltb rfl) ?_
 refine run_op0 rfl (store_step hG rfl rfl rfl rfl rfl rfl rfl rfl) rfl ?_
 refine run_ops_nil ?_
 refine run_sr ?_
 refine run_ld hG rfl rfl rfl rfl rfl (ltb rfl) ?_
 refine run_bin rfl rfl rfl rfl rfl rfl rfl (ltb rfl) ?_
 refine mvL rfl rfl rfl rfl (ltb rfl) ?_
 refine run_splitd (i := 10) rfl (fun hb4 => ?_) (fun hb4 => ?_)
 ·replace hM := ite_t hb4 hM
  refine run_off (on_of rfl rfl rfl rfl) rfl (ltb rfl) ?_
  refine run_off (on_of rfl rfl rfl rfl) rfl (ltb rfl) ?_
  refine run_off (on_of rfl rfl rfl rfl) rfl (ltb rfl) ?_
  refine run_off (on_of rfl rfl rfl rfl) rfl (ltb rfl) ?_
  refine run_off (on_of rfl rfl rfl rfl) rfl (ltb rfl) ?_
  refine run_off (on_of rfl rfl rfl rfl) rfl (ltb rfl) ?_
  refine run_off (off_un rfl rfl rfl) rfl (ltb rfl) ?_
  refine run_off (off_un rfl rfl rfl) rfl (ltb rfl) ?_
  refine run_off (off_un rfl rfl rfl) rfl (ltb rfl) ?_
  refine run_off (off_un rfl rfl rfl) rfl (ltb rfl) ?_
  refine run_off (off_un rfl rfl rfl) rfl (ltb rfl) ?_
  refine run_off (on_of rfl rfl rfl rfl) rfl (ltb rfl) ?_
  refine run_pu rfl (pick_step rfl rfl rfl) rfl (ltb rfl) ?_
  refine mvR rfl rfl rfl rfl (ltb rfl) ?_
  refine run_ops_nil ?_
  refine run_ret_to ?_
  obtain rfl := some_t hM
  refine fin_x hG rfl rfl rfl (v' := .bool true) (by rfl) ⟨_, ⟨3, 1, true, [[.int .i64 (IntKind.i64.wrap (i3 + 1))]]⟩, rfl, rfl, (show tk ≤ tk by omega), ⟨_, (IntKind.i64.wrap (i3 + 1)), rfl, rfl, rfl⟩⟩
 ·replace hM := ite_f hb4 hM
  refine run_puG (on_of rfl rfl rfl rfl) (move_step (.inl rfl) rfl) rfl (ltb rfl) ?_
  refine run_puG (on_of rfl rfl rfl rfl) (nilCheck_step rfl rfl ⟨_, rfl⟩) rfl (ltb rfl) ?_
  refine run_puG (on_of rfl rfl rfl rfl) (fieldAddr_step hG rfl rfl rfl rfl rfl) rfl (ltb rfl) ?_
  refine run_rdG (on_of rfl rfl rfl rfl) (aload_rd hG rfl rfl rfl (by first | (simp [ldok]; done) | exact List.not_mem_nil | trivial)) rfl (ltb rfl) ?_
  refine run_puG (on_of rfl rfl rfl rfl) (abin_step rfl rfl rfl rfl (fun _ h => by cases h)) rfl (ltb rfl) ?_
  refine run_puG (on_of rfl rfl rfl rfl) (move_step (.inl rfl) rfl) rfl (ltb rfl) ?_
  refine run_splitd (i := 16) rfl (fun hb5 => ?_) (fun hb5 => ?_)
  ·replace hM := ite_t hb5 hM
   refine run_puG (on_of rfl rfl rfl rfl) (move_step (.inl rfl) rfl) rfl (ltb rfl) ?_
   refine run_puG (on_of rfl rfl rfl rfl) (nilCheck_step rfl rfl ⟨_, rfl⟩) rfl (ltb rfl) ?_
   refine run_puG (on_of rfl rfl rfl rfl) (fieldAddr_step hG rfl rfl rfl rfl rfl) rfl (ltb rfl) ?_
   refine run_rdG (on_of rfl rfl rfl rfl) (aload_rd hG rfl rfl rfl (by first | (simp [ldok]; done) | exact List.not_mem_nil | trivial)) rfl (ltb rfl) ?_
   refine run_puG (on_of rfl rfl rfl rfl) (abin_step rfl rfl rfl rfl (fun _ h => by cases h)) rfl (ltb rfl) ?_
   refine run_puG (on_of rfl rfl rfl rfl) (pick_step rfl rfl rfl) rfl (ltb rfl) ?_
   refine run_pu rfl (pick_step rfl rfl rfl) rfl (ltb rfl) ?_
   refine mvR rfl rfl rfl rfl (ltb rfl) ?_
   refine run_ops_nil ?_
   refine run_ret_to ?_
   obtain rfl := some_t hM
   refine fin_x hG rfl rfl rfl (v' := .bool (decide (n1 > 100))) (by rfl) ⟨_, ⟨3, 1, true, [[.int .i64 (IntKind.i64.wrap (i3 + 1))]]⟩, rfl, rfl, (show tk ≤ tk by omega), ⟨_, (IntKind.i64.wrap (i3 + 1)), rfl, rfl, rfl⟩⟩
  ·replace hM := ite_f hb5 hM
   refine run_off (on_of rfl rfl rfl rfl) rfl (ltb rfl) ?_
   refine run_off (on_of rfl rfl rfl rfl) rfl (ltb rfl) ?_
   refine run_off (on_of rfl rfl rfl rfl) rfl (ltb rfl) ?_
   refine run_off (on_of rfl rfl rfl rfl) rfl (ltb rfl) ?_
   refine run_off (on_of rfl rfl rfl rfl) rfl (ltb rfl) ?_
   refine run_puG (on_of rfl rfl rfl rfl) (pick_step rfl rfl rfl) rfl (ltb rfl) ?_
   refine run_pu rfl (pick_step rfl rfl rfl) rfl (ltb rfl) ?_
   refine mvR rfl rfl rfl rfl (ltb rfl) ?_
   refine run_ops_nil ?_
   refine run_ret_to ?_
   obtain rfl := some_t hM
   refine fin_x hG rfl rfl rfl (v' := .bool false) (by rfl) ⟨_, ⟨3, 1, true, [[.int .i64 (IntKind.i64.wrap (i3 + 1))]]⟩, rfl, rfl, (show tk ≤ tk by omega), ⟨_, (IntKind.i64.wrap (i3 + 1)), rfl, rfl, rfl⟩⟩

def i_Tree_each__c_fn_i_tooBig_c1v_L1 (rec_i_Tree_each__c_fn_i_tooBig_c1v : T → Int → Int → Option (Bool × Int)) (x1 : T) (i2 : Int) : Nat → Int → Int → Option (Bool × Int)
 | 0, _, _ => none
 | m + 1, i15, i16 =>
  if i15 < ((x1.kids).length : Int) then
   (idx x1.kids i15).bind fun y18 =>
   (i_Tree_under__c x1 i15).bind fun r23 =>
   (rec_i_Tree_each__c_fn_i_tooBig_c1v y18 (IntKind.i64.wrap (i2 + r23)) i16).bind fun r30 =>
   if r30.1 = true then
    some (true, r30.2)
   else
    i_Tree_each__c_fn_i_tooBig_c1v_L1 rec_i_Tree_each__c_fn_i_tooBig_c1v x1 i2 m (IntKind.i64.wrap (i15 + 1)) r30.2
  else
   some (false, i16)

def i_Tree_each__c_fn_i_tooBig_c1v : Nat → T → Int → Int → Option (Bool × Int)
 | 0, _, _, _ => none
 | n + 1, x1, i2, i3 =>
  (i_tooBig_c1__c x1 i2 i3).bind fun r4 =>
  if r4.1 = true then
   some (true, r4.2)
  else
   i_Tree_each__c_fn_i_tooBig_c1v_L1 (i_Tree_each__c_fn_i_tooBig_c1v n) x1 i2 n 0 r4.2

set_option maxRecDepth 100000 in
theorem i_Tree_each__c_fn_i_tooBig_c1v_st (n : Nat) (ih_i_Tree_each__c_fn_i_tooBig_c1v : ∀ (k1 : Int) (n1 : Int) (s1 : ByteArray) (q1 : Nat) (f1 : Bool) (ks1 : List LT) (i2 : Int) (X0 : ID) (i3 : Int) {r : (Bool × Int)}, i_Tree_each__c_fn_i_tooBig_c1v n (T.mk k1 n1 s1 (ers ks1)) i2 i3 = some r → ∀ (O : Heap) (tk : Nat), O X0 = some ⟨3, 1, true, [[.int .i64 i3]]⟩ → ACalls Go.Proofs.Tryd.prog 92 [.cptr [.int .i64 k1, .int .i64 n1, .str s1, .imm q1 4 f1 (cellss ks1)], .int .i64 i2, .fn (.func 93) [] [.optr X0 0 0]] O tk (RetV O X0 tk (fun v o' tk' => ∃ r0', ∃ (c0 : Int) , r = (r0', c0) ∧ o' = ⟨3, 1, true, [[.int .i64 c0]]⟩ ∧ v = .bool r0'))) : ∀ (k1 : Int) (n1 : Int) (s1 : ByteArray) (q1 : Nat) (f1 : Bool) (ks1 : List LT) (i2 : Int) (X0 : ID) (i3 : Int) {r : (Bool × Int)}, i_Tree_each__c_fn_i_tooBig_c1v (n + 1) (T.mk k1 n1 s1 (ers ks1)) i2 i3 = some r → ∀ (O : Heap) (tk : Nat), O X0 = some ⟨3, 1, true, [[.int .i64 i3]]⟩ → ACalls Go.Proofs.Tryd.prog 92 [.cptr [.int .i64 k1, .int .i64 n1, .str s1, .imm q1 4 f1 (cellss ks1)], .int .i64 i2, .fn (.func 93) [] [.optr X0 0 0]] O tk (RetV O X0 tk (fun v o' tk' => ∃ r0', ∃ (c0 : Int) , r = (r0', c0) ∧ o' = ⟨3, 1, true, [[.int .i64 c0]]⟩ ∧ v = .bool r0')) := by
 intro k1 n1 s1 q1 f1 ks1 i2 X0 i3 r hM O tk hX0
 rw [i_Tree_each__c_fn_i_tooBig_c1v] at hM
 refine acalls_of_run Go.Proofs.Tryd.func92 rfl rfl [X0] [⟨3, 1, true, [[.int .i64 i3]]⟩] (Bor.one hX0 rfl) [(0, .cptr [.int .i64 k1, .int .i64 n1, .str s1, .imm q1 4 f1 (cellss ks1)]), (1, .int .i64 i2), (2, .fn (.func 93) [] [.optr (.bor 0) 0 0])] (.cons (.cptr _) (.cons (entS rfl) (.cons (ent_fn (.bor 0 _ _ _ rfl)) (.nil _)))) (leb rfl) (by intro y h; simp only [List.mem_cons, List.not_mem_nil, or_false] at h; rcases h with rfl <;> simp [tch, tch0]) (fun S0 hO htk hfz => ?_)
 refine run_sr ?_
 refine mvR rfl rfl rfl rfl (ltb rfl) ?_
 refine run_ops_nil ?_
 refine run_seq ?_
 refine run_sr ?_
 refine mvL rfl rfl rfl rfl (ltb rfl) ?_
 refine mvL rfl rfl rfl rfl (ltb rfl) ?_
 refine mvL rfl rfl rfl rfl (ltb rfl) ?_
 obtain ⟨r4, hg5, hM⟩ := bind_t hM
 refine run_call rfl rfl rfl (ltb rfl) rfl rfl rfl (fun _ h => absurd h List.not_mem_nil) (i_tooBig_c1__c_ok k1 n1 s1 q1 f1 ks1 i2 (.bor 0) i3 hg5 _ _ rfl) (callK_retV_bor (k := 0) rfl (fun v o' tk' h => by obtain ⟨_, _, rfl, rfl, _⟩ := h; rfl) (fun v o'13 tk6 (hle7 : tk ≤ tk6) h8 => ?_))
 obtain ⟨ra12, c11, rfl, rfl, rfl⟩ := h8
 refine run_ops_nil ?_
 refine run_ifb rfl rfl (fun hb14 => ?_) (fun hb14 => ?_)
 ·replace hM := ite_t hb14 hM
  refine run_sr ?_
  refine mvR rfl rfl rfl rfl (ltb rfl) ?_
  refine run_ops_nil ?_
  refine run_ret_to ?_
  obtain rfl := some_t hM
  refine fin_x hG rfl rfl rfl (v' := .bool true) (by rfl) ⟨_, ⟨3, 1, true, [[.int .i64 c11]]⟩, rfl, rfl, (show tk ≤ tk6 by omega), ⟨_, c11, rfl, rfl, rfl⟩⟩
 ·replace hM := ite_f hb14 hM
  refine run_skip ?_
  refine run_seq ?_
  refine run_sr ?_
  refine mvL rfl rfl rfl rfl (ltb rfl) ?_
  refine run_pu rfl (nilCheck_step rfl rfl ⟨_, rfl⟩) rfl (ltb rfl) ?_
  refine run_pu rfl (fieldAddr_step hG rfl rfl rfl rfl rfl) rfl (ltb rfl) ?_
  refine run_ld hG rfl rfl rfl rfl rfl (ltb rfl) ?_
  refine run_pu rfl (lenImm_step hG rfl rfl rfl rfl (tlen _)) rfl (ltb rfl) ?_
  refine mvL rfl rfl rfl rfl (ltb rfl) ?_
  refine run_ops_nil ?_
  refine run_block ?_
  refine run_rounds (fun m σ => ∃ (i15 : Int) (i16 : Int) (tki_Tree_each__c_fn_i_tooBig_c1v_L1 : Nat), tk6 ≤ tki_Tree_each__c_fn_i_tooBig_c1v_L1 ∧ i_Tree_each__c_fn_i_tooBig_c1v_L1 (i_Tree_each__c_fn_i_tooBig_c1v n) (T.mk k1 n1 s1 (ers ks1)) i2 m i15 i16 = some r ∧ σ = ⟨[(0, .cptr [.int .i64 k1, .int .i64 n1, .str s1, .imm q1 4 f1 (cellss ks1)]), (1, .int .i64 i2), (2, .fn (.func 93) [] [.optr (.bor 0) 0 0]), (6, .bool false), (16, .int .i64 (((ers ks1)).length : Int)), (17, .int .i64 i15)], [], [⟨3, 1, true, [[.int .i64 i16]]⟩], O, tki_Tree_each__c_fn_i_tooBig_c1v_L1⟩) n (Sub.env [(0, .cptr [.int .i64 k1, .int .i64 n1, .str s1, .imm q1 4 f1 (cellss ks1)]), (1, .int .i64 i2), (2, .fn (.func 93) [] [.optr (.bor 0) 0 0]), (6, .bool false), (16, .int .i64 (((ers ks1)).length : Int)), (17, .int .i64 0)] ⟨rfl, rfl, rfl, rfl, rfl, rfl, trivial⟩) ⟨0, c11, tk6, Nat.le_refl _, hM, rfl⟩ (fun m σ hI => ?_)
  clear hM
  obtain ⟨i15, i16, tki_Tree_each__c_fn_i_tooBig_c1v_L1, hle41, hM, rfl⟩ := hI
  obtain _ | m := m
  ·exact absurd hM (by rw [i_Tree_each__c_fn_i_tooBig_c1v_L1]; exact fun h => by cases h)
  rw [i_Tree_each__c_fn_i_tooBig_c1v_L1] at hM
  refine run_sr ?_
  refine run_bin rfl rfl rfl rfl rfl rfl rfl (ltb rfl) ?_
  refine run_ops_nil ?_
  refine run_seq ?_
  refine run_ifd rfl rfl (fun hb17 => ?_) (fun hb17 => ?_)
  ·replace hM := ite_t hb17 hM
   refine run_skip ?_
   refine run_seq ?_
   refine run_block ?_
   refine run_sr ?_
   refine mvL rfl rfl rfl rfl (ltb rfl) ?_
   refine mvR rfl rfl rfl rfl (ltb rfl) ?_
   refine run_ops_nil ?_
   refine run_seq ?_
   refine run_draw [.bor 0] (n := 13) mixed rfl (by intro x hx; simp only [List.mem_cons, List.not_mem_nil, or_false] at hx; rcases hx with rfl <;> rfl) ?_
   refine AAny.take (i := 0) rfl (by kernel_rfl) (by kernel_rfl) (by kernel_rfl) rfl rfl (ltb rfl) ((move_step (.inl rfl) rfl).rd _) ?_
   refine AAny.take (i := 1) rfl (by kernel_rfl) (by kernel_rfl) (by kernel_rfl) rfl rfl (ltb rfl) ((nilCheck_step rfl rfl ⟨_, rfl⟩).rd _) ?_
   refine AAny.take (i := 2) rfl (by kernel_rfl) (by kernel_rfl) (by kernel_rfl) rfl rfl (ltb rfl) ((fieldAddr_step hG rfl rfl rfl rfl rfl).rd _) ?_
   refine AAny.take (i := 3) rfl (by kernel_rfl) (by kernel_rfl) (by kernel_rfl) rfl rfl (ltb rfl) (aload_rd hG rfl rfl rfl (by first | (simp [ldok]; done) | exact List.not_mem_nil | trivial)) ?_
   refine AAny.take (i := 4) rfl (by kernel_rfl) (by kernel_rfl) (by kernel_rfl) rfl rfl (ltb rfl) ((move_step (.inl rfl) rfl).rd _) ?_
   obtain ⟨y18, hy19, hM⟩ := bind_t hM
   obtain ⟨k20, n20, s20, q20, f20, ks20, rfl, hc21, hi22⟩ := tidx (ks := ks1) hy19
   refine AAny.take (i := 5) rfl (by kernel_rfl) (by kernel_rfl) (by kernel_rfl) rfl rfl (ltb rfl) ((indexImm_step hG rfl rfl rfl hi22 rfl rfl rfl rfl hc21).rd _) ?_
   refine AAny.take (i := 6) rfl (by kernel_rfl) (by kernel_rfl) (by kernel_rfl) rfl rfl (ltb rfl) ((move_step (.inl rfl) rfl).rd _) ?_
   refine AAny.take (i := 7) rfl (by kernel_rfl) (by kernel_rfl) (by kernel_rfl) rfl rfl (ltb rfl) ((move_step (.inl rfl) rfl).rd _) ?_
   refine AAny.take (i := 8) rfl (by kernel_rfl) (by kernel_rfl) (by kernel_rfl) rfl rfl (ltb rfl) ((move_step (.inl rfl) rfl).rd _) ?_
   refine AAny.take (i := 11) rfl (by kernel_rfl) (by kernel_rfl) (by kernel_rfl) rfl rfl (ltb rfl) ((move_step (.inl rfl) rfl).rd _) ?_
   obtain ⟨r23, hg24, hM⟩ := bind_t hM
   refine AAny.one (i := 9) (by kernel_rfl) (AOp.call rfl rfl rfl rfl (ltb rfl) rfl rfl rfl (fun _ h => absurd h List.not_mem_nil) (fun _ h => absurd h List.not_mem_nil) (i_Tree_under__c_ok k1 n1 s1 q1 f1 ks1 i15 hg24 _ _) (callK_retX (fun v tk25 (hle26 : tki_Tree_each__c_fn_i_tooBig_c1v_L1 ≤ tk25) h27 => ?_)))
   subst h27
   refine AAny.take (i := 10) rfl (by kernel_rfl) (by kernel_rfl) (by kernel_rfl) rfl rfl (ltb rfl) ((abin_step rfl rfl rfl rfl (fun _ h => by cases h)).rd _) ?_
   obtain ⟨r30, hg31, hM⟩ := bind_t hM
   refine AAny.one (i := 12) (by kernel_rfl) (AOp.call rfl rfl rfl rfl (ltb rfl) rfl rfl rfl (fun _ h => absurd h List.not_mem_nil) (by intro x hx; simp only [tch, tch0, List.nil_append, List.append_nil, List.mem_cons, List.not_mem_nil, or_false] at hx; subst hx; simp) (ih_i_Tree_each__c_fn_i_tooBig_c1v k20 n20 s20 q20 f20 ks20 (IntKind.i64.wrap (i2 + r23)) (.bor 0) i16 hg31 _ _ rfl) (callK_retV_bor (k := 0) rfl (fun v o' tk' h => by obtain ⟨_, _, rfl, rfl, _⟩ := h; rfl) (fun v o'39 tk32 (hle33 : tk25 ≤ tk32) h34 => ?_)))
   obtain ⟨ra38, c37, rfl, rfl, rfl⟩ := h34
   refine AAny.done (by kernel_rfl) ?_
   refine run_sub_code (σ' := ⟨[(0, .cptr [.int .i64 k1, .int .i64 n1, .str s1, .imm q1 4 f1 (cellss ks1)]), (1, .int .i64 i2), (2, .fn (.func 93) [] [.optr (.bor 0) 0 0]), (6, .bool false), (16, .int .i64 (((ers ks1)).length : Int)), (17, .int .i64 i15), (32, .bool ra38)], [], [⟨3, 1, true, [[.int .i64 c37]]⟩], O, tk32⟩) (Sub.env _ ⟨rfl, rfl, rfl, rfl, rfl, rfl, rfl, trivial⟩) ?_
   refine run_ifb rfl rfl (fun hb40 => ?_) (fun hb40 => ?_)
   ·replace hM := ite_t hb40 hM
    refine run_sr ?_
    refine mvR rfl rfl rfl rfl (ltb rfl) ?_
    refine run_ops_nil ?_
    refine run_ret_to ?_
    obtain rfl := some_t hM
    refine fin_x hG rfl rfl rfl (v' := .bool true) (by rfl) ⟨_, ⟨3, 1, true, [[.int .i64 c37]]⟩, rfl, rfl, (show tk ≤ tk32 by omega), ⟨_, c37, rfl, rfl, rfl⟩⟩
   ·replace hM := ite_f hb40 hM
    refine run_skip ?_
    refine run_blk ?_
    refine run_region ?_
    refine run_bin rfl rfl rfl rfl rfl rfl rfl (ltb rfl) ?_
    refine mvL rfl rfl rfl rfl (ltb rfl) ?_
    refine run_ops_nil ?_
    exact run_loop_end ⟨m, _, Nat.lt_succ_self _, ⟨(IntKind.i64.wrap (i15 + 1)), c37, tk32, (show tk6 ≤ tk32 by omega), hM, rfl⟩, Sub.env [(0, .cptr [.int .i64 k1, .int .i64 n1, .str s1, .imm q1 4 f1 (cellss ks1)]), (1, .int .i64 i2), (2, .fn (.func 93) [] [.optr (.bor 0) 0 0]), (6, .bool false), (16, .int .i64 (((ers ks1)).length : Int)), (17, .int .i64 (IntKind.i64.wrap (i15 + 1)))] ⟨rfl, rfl, rfl, rfl, rfl, rfl, trivial⟩⟩
  ·replace hM := ite_f hb17 hM
   refine run_exit_to rfl ?_
   refine run_sr ?_
   refine mvR rfl rfl rfl rfl (ltb rfl) ?_
   refine run_ops_nil ?_
   refine run_ret_to ?_
   obtain rfl := some_t hM
   refine fin_x hG rfl rfl rfl (v' := .bool false) (by rfl) ⟨_, ⟨3, 1, true, [[.int .i64 i16]]⟩, rfl, rfl, (show tk ≤ tki_Tree_each__c_fn_i_tooBig_c1v_L1 by omega), ⟨_, i16, rfl, rfl, rfl⟩⟩

theorem i_Tree_each__c_fn_i_tooBig_c1v_all : ∀ (n : Nat), (∀ (k1 : Int) (n1 : Int) (s1 : ByteArray) (q1 : Nat) (f1 : Bool) (ks1 : List LT) (i2 : Int) (X0 : ID) (i3 : Int) {r : (Bool × Int)}, i_Tree_each__c_fn_i_tooBig_c1v n (T.mk k1 n1 s1 (ers ks1)) i2 i3 = some r → ∀ (O : Heap) (tk : Nat), O X0 = some ⟨3, 1, true, [[.int .i64 i3]]⟩ → ACalls Go.Proofs.Tryd.prog 92 [.cptr [.int .i64 k1, .int .i64 n1, .str s1, .imm q1 4 f1 (cellss ks1)], .int .i64 i2, .fn (.func 93) [] [.optr X0 0 0]] O tk (RetV O X0 tk (fun v o' tk' => ∃ r0', ∃ (c0 : Int) , r = (r0', c0) ∧ o' = ⟨3, 1, true, [[.int .i64 c0]]⟩ ∧ v = .bool r0')))
 | 0 => by intro k1 n1 s1 q1 f1 ks1 i2 X0 i3 r hM; rw [i_Tree_each__c_fn_i_tooBig_c1v] at hM; cases hM
 | n + 1 => have ih := i_Tree_each__c_fn_i_tooBig_c1v_all n; i_Tree_each__c_fn_i_tooBig_c1v_st n (ih)

theorem i_Tree_each__c_fn_i_tooBig_c1v_ok (n : Nat) : ∀ (k1 : Int) (n1 : Int) (s1 : ByteArray) (q1 : Nat) (f1 : Bool) (ks1 : List LT) (i2 : Int) (X0 : ID) (i3 : Int) {r : (Bool × Int)}, i_Tree_each__c_fn_i_tooBig_c1v n (T.mk k1 n1 s1 (ers ks1)) i2 i3 = some r → ∀ (O : Heap) (tk : Nat), O X0 = some ⟨3, 1, true, [[.int .i64 i3]]⟩ → ACalls Go.Proofs.Tryd.prog 92 [.cptr [.int .i64 k1, .int .i64 n1, .str s1, .imm q1 4 f1 (cellss ks1)], .int .i64 i2, .fn (.func 93) [] [.optr X0 0 0]] O tk (RetV O X0 tk (fun v o' tk' => ∃ r0', ∃ (c0 : Int) , r = (r0', c0) ∧ o' = ⟨3, 1, true, [[.int .i64 c0]]⟩ ∧ v = .bool r0')) := i_Tree_each__c_fn_i_tooBig_c1v_all n

def i_tooBig (n : Nat) (x1 : T) : Option Bool :=
 (i_Tree_each__c_fn_i_tooBig_c1v n x1 0 0).bind fun r2 =>
 some r2.1

set_option maxRecDepth 100000 in
theorem i_tooBig_ok (n : Nat) : ∀ (k1 : Int) (n1 : Int) (s1 : ByteArray) (q1 : Nat) (f1 : Bool) (ks1 : List LT) {r : Bool}, i_tooBig n (T.mk k1 n1 s1 (ers ks1)) = some r → ∀ (O : Heap) (tk : Nat), ACalls Go.Proofs.Tryd.prog 37 [.agg [.int .i64 k1, .int .i64 n1, .str s1, .imm q1 4 f1 (cellss ks1)]] O tk (RetX O tk (fun v tk' => v = .bool r)) := by
 intro k1 n1 s1 q1 f1 ks1 r hM O tk
 unfold i_tooBig at hM
 refine acalls_of_run Go.Proofs.Tryd.func37 rfl rfl [] [] (Bor.nil _) [(0, .agg [.int .i64 k1, .int .i64 n1, .str s1, .imm q1 4 f1 (cellss ks1)])] (.cons (.agg _) (.nil _)) (leb rfl) (fun _ h => by cases h) (fun S0 hO htk hfz => ?_)
 refine run_sr ?_
 refine run_op rfl (box_step (d := 1) rfl rfl rfl rfl rfl) rfl (ltb rfl) ?_
 refine mvR rfl rfl rfl rfl (ltb rfl) ?_
 refine run_ops_nil ?_
 refine run_sr ?_
 refine run_op rfl (alloc_step (d := 3) hG rfl rfl rfl) rfl (ltb rfl) ?_
 refine run_op0 rfl (store_step hG rfl rfl rfl rfl rfl rfl rfl rfl) rfl ?_
 refine run_ops_nil ?_
 refine run_sr ?_
 refine run_pu rfl (makeFunc_step (first := []) (cap := [.tmp 3]) rfl rfl rfl) rfl (ltb rfl) ?_
 refine run_sub_ops (Sub.frbox (k := 1) (env' := [(0, .agg [.int .i64 k1, .int .i64 n1, .str s1, .imm q1 4 f1 (cellss ks1)]), (1, .cptr [.int .i64 k1, .int .i64 n1, .str s1, .imm q1 4 f1 (cellss ks1)]), (2, .bool false), (3, .optr (.loc 3) 0 0), (4, .fn (.func 93) [] [.optr (.loc 3) 0 0])]) rfl rfl (.keep 0 _ _ rfl (.ptr 1 0 _ rfl (.keep 2 _ _ rfl (.keep 3 _ _ rfl (.keep 4 _ _ rfl .nil)))))) ?_
 obtain ⟨r2, hg3, hM⟩ := bind_t hM
 refine run_call rfl rfl rfl (ltb rfl) rfl rfl rfl (fun _ h => absurd h List.not_mem_nil) (i_Tree_each__c_fn_i_tooBig_c1v_ok n k1 n1 s1 q1 f1 ks1 0 (.loc 3) 0 hg3 _ _ rfl) (callK_retV_loc (k := 3) rfl (fun v o'11 tk4 (hle5 : tk ≤ tk4) h6 => ?_))
 obtain ⟨ra10, c9, rfl, rfl, rfl⟩ := h6
 refine mvR rfl rfl rfl rfl (ltb rfl) ?_
 refine run_ops_nil ?_
 refine run_ret_to ?_
 obtain rfl := some_t hM
 refine fin_x hG rfl rfl rfl (v' := .bool ra10) (by rfl) ⟨rfl, (show tk ≤ tk4 by omega), _, rfl, rfl⟩

end Go.Am.YtaedacibojpfkaaDoor
