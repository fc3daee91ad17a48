/- Printed by a program of ours: Lean functions that do what the Go functions do, and the contracts. -/
import Derived.Test.YtoajlhhalpldfaaGreatDoorMl0
import Derived.Test.YtoajlhhalpldfaaGreatDoorMb1
import Derived.Test.YtoajlhhalpldfaaGreatDoorTypes
import Derived.Test.YtoajlhhalpldfaaGreatDoorDkFam
import Derived.Test.YtoajlhhalpldfaaGreatDoorMz
-- packed
namespace Go.Am.YtoajlhhalpldfaaGreatDoor
open Go Go.Am

def i_Tree_binds (x1 : T) (i2 : Int) : Option Bool :=
 if x1.kind = 4 then
  some true
 else
  if x1.kind = 2 then
   some (i2 == 1)
  else
   some false

set_option maxRecDepth 100000 in
theorem i_Tree_binds_ok : ∀ (X0 : ID) (k1 : Int) (n1 : Int) (s1 : ByteArray) (q1 : Nat) (f1 : Bool) (ks1 : List LT) (i2 : Int) {r : Bool}, i_Tree_binds (T.mk k1 n1 s1 (ers ks1)) i2 = some r → ∀ (O : Heap) (tk : Nat), O X0 = some ⟨27, 4, true, [[.int .i64 k1, .int .i64 n1, .str s1, .imm q1 4 f1 (cellss ks1)]]⟩ → ACalls Go.Proofs.Tryz.prog 95 [.optr X0 0 0, .int .i64 i2] O tk (RetX O tk (fun v tk' => v = .bool r)) := by
 intro X0 k1 n1 s1 q1 f1 ks1 i2 r hM O tk hX0
 unfold i_Tree_binds at hM
 refine acalls_of_run Go.Proofs.Tryz.func95 rfl rfl [X0] [⟨27, 4, true, [[.int .i64 k1, .int .i64 n1, .str s1, .imm q1 4 f1 (cellss ks1)]]⟩] (Bor.one hX0 rfl) [(0, .optr (.bor 0) 0 0), (1, .int .i64 i2)] (.cons (.bor 0 _ _ _ rfl) (.cons (entS rfl) (.nil _))) (leb rfl) (by intro y h; simp only [List.mem_cons, List.not_mem_nil, or_false] at h; rcases h with rfl <;> simp [tch, tch0]) (fun S0 hO htk hfz => ?_)
 refine run_sr ?_
 refine yR rfl ?_
 refine yN ?_
 refine run_sr ?_
 refine yL rfl ?_
 refine run_pu rfl (nilCheck_step rfl rfl ⟨_, rfl⟩) rfl (ltb rfl) ?_
 refine yF hG rfl ?_
 refine yD hG rfl ?_
 refine yB rfl ?_
 refine yL rfl ?_
 refine run_splitd (i := 10) rfl (fun hb3 => ?_) (fun hb3 => ?_)
 ·replace hM := ite_t hb3 hM
  refine yO rfl ?_
  refine yO rfl ?_
  refine yO rfl ?_
  refine yO rfl ?_
  refine yO rfl ?_
  refine yO rfl ?_
  refine run_off (off_un rfl rfl rfl) rfl (ltb rfl) ?_
  refine run_off (off_un rfl rfl rfl) rfl (ltb rfl) ?_
  refine yO rfl ?_
  refine yP rfl ?_
  refine yR rfl ?_
  refine yN ?_
  refine run_ret_to ?_
  replace hM := some_t hM
  subst hM
  refine fin_x hG rfl rfl rfl (v' := .bool true) (by rfl) ⟨out_same (Bor.one hX0 rfl), (show tk ≤ tk by omega), _, rfl, rfl⟩
 replace hM := ite_f hb3 hM
 refine run_puG (on_of rfl rfl rfl rfl) (move_step (.inl rfl) rfl) rfl (ltb rfl) ?_
 refine run_puG (on_of rfl rfl rfl rfl) (nilCheck_step rfl rfl ⟨_, rfl⟩) rfl (ltb rfl) ?_
 refine run_puG (on_of rfl rfl rfl rfl) (fieldAddr_step hG rfl rfl rfl rfl rfl) rfl (ltb rfl) ?_
 refine run_rdG (on_of rfl rfl rfl rfl) (aload_rd hG rfl rfl rfl (by first | (simp [ldok]; done) | exact List.not_mem_nil | trivial)) rfl (ltb rfl) ?_
 refine run_puG (on_of rfl rfl rfl rfl) (abin_step rfl rfl rfl rfl (fun _ h => by cases h)) rfl (ltb rfl) ?_
 refine run_puG (on_of rfl rfl rfl rfl) (move_step (.inl rfl) rfl) rfl (ltb rfl) ?_
 refine run_splitd (i := 16) rfl (fun hb4 => ?_) (fun hb4 => ?_)
 ·replace hM := ite_t hb4 hM
  refine run_puG (on_of rfl rfl rfl rfl) (move_step (.inl rfl) rfl) rfl (ltb rfl) ?_
  refine run_puG (on_of rfl rfl rfl rfl) (abin_step rfl rfl rfl rfl (fun _ h => by cases h)) rfl (ltb rfl) ?_
  refine run_puG (on_of rfl rfl rfl rfl) (pick_step rfl rfl rfl) rfl (ltb rfl) ?_
  refine yP rfl ?_
  refine yR rfl ?_
  refine yN ?_
  refine run_ret_to ?_
  replace hM := some_t hM
  subst hM
  refine fin_x hG rfl rfl rfl (v' := .bool (i2 == 1)) (by rfl) ⟨out_same (Bor.one hX0 rfl), (show tk ≤ tk by omega), _, rfl, rfl⟩
 replace hM := ite_f hb4 hM
 refine yO rfl ?_
 refine yO rfl ?_
 refine run_puG (on_of rfl rfl rfl rfl) (pick_step rfl rfl rfl) rfl (ltb rfl) ?_
 refine yP rfl ?_
 refine yR rfl ?_
 refine yN ?_
 refine run_ret_to ?_
 replace hM := some_t hM
 subst hM
 refine fin_x hG rfl rfl rfl (v' := .bool false) (by rfl) ⟨out_same (Bor.one hX0 rfl), (show tk ≤ tk by omega), _, rfl, rfl⟩

def i_Tree_under (x1 : T) (i2 : Int) : Option Int :=
 (i_Tree_binds x1 i2).bind fun r3 =>
 if r3 = true then
  some 1
 else
  some 0

set_option maxRecDepth 100000 in
theorem i_Tree_under_ok : ∀ (X0 : ID) (k1 : Int) (n1 : Int) (s1 : ByteArray) (q1 : Nat) (f1 : Bool) (ks1 : List LT) (i2 : Int) {r : Int}, i_Tree_under (T.mk k1 n1 s1 (ers ks1)) i2 = some r → ∀ (O : Heap) (tk : Nat), O X0 = some ⟨27, 4, true, [[.int .i64 k1, .int .i64 n1, .str s1, .imm q1 4 f1 (cellss ks1)]]⟩ → ACalls Go.Proofs.Tryz.prog 63 [.optr X0 0 0, .int .i64 i2] O tk (RetX O tk (fun v tk' => v = .int .i64 r)) := by
 intro X0 k1 n1 s1 q1 f1 ks1 i2 r hM O tk hX0
 unfold i_Tree_under at hM
 refine acalls_of_run Go.Proofs.Tryz.func63 rfl rfl [X0] [⟨27, 4, true, [[.int .i64 k1, .int .i64 n1, .str s1, .imm q1 4 f1 (cellss ks1)]]⟩] (Bor.one hX0 rfl) [(0, .optr (.bor 0) 0 0), (1, .int .i64 i2)] (.cons (.bor 0 _ _ _ rfl) (.cons (entS rfl) (.nil _))) (leb rfl) (by intro y h; simp only [List.mem_cons, List.not_mem_nil, or_false] at h; rcases h with rfl <;> simp [tch, tch0]) (fun S0 hO htk hfz => ?_)
 refine run_sr ?_
 refine yR rfl ?_
 refine yN ?_
 refine run_seq ?_
 refine run_sr ?_
 refine yL rfl ?_
 refine yL rfl ?_
 obtain ⟨r3, hg4, hM⟩ := bind_t hM
 refine yK rfl (i_Tree_binds_ok (.bor 0) k1 n1 s1 q1 f1 ks1 i2 hg4 _ _ rfl) (callK_retX (fun v tk5 (hle6 : tk ≤ tk5) h7 => ?_))
 subst h7
 refine yN ?_
 refine run_ifb rfl rfl (fun hb10 => ?_) (fun hb10 => ?_)
 ·replace hM := ite_t hb10 hM
  refine run_sr ?_
  refine yR rfl ?_
  refine yN ?_
  refine run_ret_to ?_
  replace hM := some_t hM
  subst hM
  refine fin_x hG rfl rfl rfl (v' := .int .i64 1) (by rfl) ⟨out_same (Bor.one hX0 rfl), (show tk ≤ tk5 by omega), _, rfl, rfl⟩
 replace hM := ite_f hb10 hM
 refine run_skip ?_
 refine run_sr ?_
 refine yR rfl ?_
 refine yN ?_
 refine run_ret_to ?_
 replace hM := some_t hM
 subst hM
 refine fin_x hG rfl rfl rfl (v' := .int .i64 0) (by rfl) ⟨out_same (Bor.one hX0 rfl), (show tk ≤ tk5 by omega), _, rfl, rfl⟩

def i_occurs_c1__c (x1 : T) (i2 : Int) (i3 : Int) : Option Bool :=
 if x1.kind = 5 then
  some (x1.n == (IntKind.i64.wrap (i3 + i2)))
 else
  some false

set_option maxRecDepth 100000 in
theorem i_occurs_c1__c_ok : ∀ (k1 : Int) (n1 : Int) (s1 : ByteArray) (q1 : Nat) (f1 : Bool) (ks1 : List LT) (i2 : Int) (X0 : ID) (i3 : Int) {r : Bool}, i_occurs_c1__c (T.mk k1 n1 s1 (ers ks1)) i2 i3 = some r → ∀ (O : Heap) (tk : Nat), O X0 = some ⟨3, 1, true, [[.int .i64 i3]]⟩ → ACalls Go.Proofs.Tryz.prog 108 [.cptr [.int .i64 k1, .int .i64 n1, .str s1, .imm q1 4 f1 (cellss ks1)], .int .i64 i2, .optr X0 0 0] O tk (RetX O tk (fun v tk' => v = .bool r)) := by
 intro k1 n1 s1 q1 f1 ks1 i2 X0 i3 r hM O tk hX0
 unfold i_occurs_c1__c at hM
 refine acalls_of_run Go.Proofs.Tryz.func108 rfl rfl [X0] [⟨3, 1, true, [[.int .i64 i3]]⟩] (Bor.one hX0 rfl) [(0, .cptr [.int .i64 k1, .int .i64 n1, .str s1, .imm q1 4 f1 (cellss ks1)]), (1, .int .i64 i2), (2, .optr (.bor 0) 0 0)] (.cons (.cptr _) (.cons (entS rfl) (.cons (.bor 0 _ _ _ rfl) (.nil _)))) (leb rfl) (by intro y h; simp only [List.mem_cons, List.not_mem_nil, or_false] at h; rcases h with rfl <;> simp [tch, tch0]) (fun S0 hO htk hfz => ?_)
 refine run_sr ?_
 refine yR rfl ?_
 refine yN ?_
 refine run_seq ?_
 refine run_draw [] (n := 16) mixed rfl yE ?_
 refine yTV 0 (by kernel_rfl) rfl ?_
 refine yT 1 (by kernel_rfl) rfl rfl rfl (ltb rfl) ((nilCheck_step rfl rfl ⟨_, rfl⟩).rd _) ?_
 refine yTF hG 2 (by kernel_rfl) rfl ?_
 refine yTL hG 3 (by kernel_rfl) rfl ?_
 refine yT 4 (by kernel_rfl) rfl rfl rfl (ltb rfl) ((abin_step rfl rfl rfl rfl (fun _ h => by cases h)).rd _) ?_
 refine yTV 5 (by kernel_rfl) rfl ?_
 refine AAny.splitd (i := 11) rfl yE (fun hb4 => ?_) (fun hb4 => ?_)
 ·replace hM := ite_t hb4 hM
  refine AAny.takeG (i := 6) rfl (by kernel_rfl) (by kernel_rfl) (by kernel_rfl) (on_of rfl rfl rfl rfl) rfl (ltb rfl) ((move_step (.inl rfl) rfl).rd _) ?_
  refine AAny.takeG (i := 7) rfl (by kernel_rfl) (by kernel_rfl) (by kernel_rfl) (on_of rfl rfl rfl rfl) rfl (ltb rfl) ((nilCheck_step rfl rfl ⟨_, rfl⟩).rd _) ?_
  refine AAny.takeG (i := 8) rfl (by kernel_rfl) (by kernel_rfl) (by kernel_rfl) (on_of rfl rfl rfl rfl) rfl (ltb rfl) ((fieldAddr_step hG rfl rfl rfl rfl rfl).rd _) ?_
  refine AAny.takeG (i := 9) rfl (by kernel_rfl) (by kernel_rfl) (by kernel_rfl) (on_of rfl rfl rfl rfl) rfl (ltb rfl) (aload_rd hG rfl rfl rfl (by first | (simp [ldok]; done) | exact List.not_mem_nil | trivial)) ?_
  refine AAny.takeG (i := 10) rfl (by kernel_rfl) (by kernel_rfl) (by kernel_rfl) (on_of rfl rfl rfl rfl) rfl (ltb rfl) (aload_rd hG rfl rfl rfl (by first | (simp [ldok]; done) | exact List.not_mem_nil | trivial)) ?_
  refine AAny.takeG (i := 11) rfl (by kernel_rfl) (by kernel_rfl) (by kernel_rfl) (on_of rfl rfl rfl rfl) rfl (ltb rfl) ((move_step (.inl rfl) rfl).rd _) ?_
  refine AAny.takeG (i := 12) rfl (by kernel_rfl) (by kernel_rfl) (by kernel_rfl) (on_of rfl rfl rfl rfl) rfl (ltb rfl) ((abin_step rfl rfl rfl rfl (fun _ h => by cases h)).rd _) ?_
  refine AAny.takeG (i := 13) rfl (by kernel_rfl) (by kernel_rfl) (by kernel_rfl) (on_of rfl rfl rfl rfl) rfl (ltb rfl) ((abin_step rfl rfl rfl rfl (fun _ h => by cases h)).rd _) ?_
  refine yT 14 (by kernel_rfl) rfl rfl rfl (ltb rfl) ((pick_step rfl rfl rfl).rd _) ?_
  refine yTW 15 (by kernel_rfl) rfl ?_
  refine AAny.done (by kernel_rfl) ?_
  refine run_ret_to ?_
  replace hM := some_t hM
  subst hM
  refine fin_x hG rfl rfl rfl (v' := .bool (n1 == (IntKind.i64.wrap (i3 + i2)))) (by rfl) ⟨out_same (Bor.one hX0 rfl), (show tk ≤ tk by omega), _, rfl, rfl⟩
 replace hM := ite_f hb4 hM
 refine AAny.off (i := 6) rfl (by kernel_rfl) (by kernel_rfl) (by kernel_rfl) (on_of rfl rfl rfl rfl) rfl (ltb rfl) ?_
 refine AAny.off (i := 7) rfl (by kernel_rfl) (by kernel_rfl) (by kernel_rfl) (on_of rfl rfl rfl rfl) rfl (ltb rfl) ?_
 refine AAny.off (i := 8) rfl (by kernel_rfl) (by kernel_rfl) (by kernel_rfl) (on_of rfl rfl rfl rfl) rfl (ltb rfl) ?_
 refine AAny.off (i := 9) rfl (by kernel_rfl) (by kernel_rfl) (by kernel_rfl) (on_of rfl rfl rfl rfl) rfl (ltb rfl) ?_
 refine AAny.off (i := 10) rfl (by kernel_rfl) (by kernel_rfl) (by kernel_rfl) (on_of rfl rfl rfl rfl) rfl (ltb rfl) ?_
 refine AAny.off (i := 11) rfl (by kernel_rfl) (by kernel_rfl) (by kernel_rfl) (on_of rfl rfl rfl rfl) rfl (ltb rfl) ?_
 refine AAny.off (i := 12) rfl (by kernel_rfl) (by kernel_rfl) (by kernel_rfl) (on_of rfl rfl rfl rfl) rfl (ltb rfl) ?_
 refine AAny.off (i := 13) rfl (by kernel_rfl) (by kernel_rfl) (by kernel_rfl) (on_of rfl rfl rfl rfl) rfl (ltb rfl) ?_
 refine yT 14 (by kernel_rfl) rfl rfl rfl (ltb rfl) ((pick_step rfl rfl rfl).rd _) ?_
 refine yTW 15 (by kernel_rfl) rfl ?_
 refine AAny.done (by kernel_rfl) ?_
 refine run_ret_to ?_
 replace hM := some_t hM
 subst hM
 refine fin_x hG rfl rfl rfl (v' := .bool false) (by rfl) ⟨out_same (Bor.one hX0 rfl), (show tk ≤ tk by omega), _, rfl, rfl⟩

def i_Tree_binds__c (x1 : T) (i2 : Int) : Option Bool :=
 if x1.kind = 4 then
  some true
 else
  if x1.kind = 2 then
   some (i2 == 1)
  else
   some false

set_option maxRecDepth 100000 in
theorem i_Tree_binds__c_ok : ∀ (k1 : Int) (n1 : Int) (s1 : ByteArray) (q1 : Nat) (f1 : Bool) (ks1 : List LT) (i2 : Int) {r : Bool}, i_Tree_binds__c (T.mk k1 n1 s1 (ers ks1)) i2 = some r → ∀ (O : Heap) (tk : Nat), ACalls Go.Proofs.Tryz.prog 95 [.cptr [.int .i64 k1, .int .i64 n1, .str s1, .imm q1 4 f1 (cellss ks1)], .int .i64 i2] O tk (RetX O tk (fun v tk' => v = .bool r)) := by
 intro k1 n1 s1 q1 f1 ks1 i2 r hM O tk
 unfold i_Tree_binds__c at hM
 refine acalls_of_run Go.Proofs.Tryz.func95 rfl rfl [] [] (Bor.nil _) [(0, .cptr [.int .i64 k1, .int .i64 n1, .str s1, .imm q1 4 f1 (cellss ks1)]), (1, .int .i64 i2)] (.cons (.cptr _) (.cons (entS rfl) (.nil _))) (leb rfl) (fun _ h => by cases h) (fun S0 hO htk hfz => ?_)
 refine run_sr ?_
 refine yR rfl ?_
 refine yN ?_
 refine run_sr ?_
 refine yL rfl ?_
 refine run_pu rfl (nilCheck_step rfl rfl ⟨_, rfl⟩) rfl (ltb rfl) ?_
 refine yF hG rfl ?_
 refine yD hG rfl ?_
 refine yB rfl ?_
 refine yL rfl ?_
 refine run_splitd (i := 10) rfl (fun hb3 => ?_) (fun hb3 => ?_)
 ·replace hM := ite_t hb3 hM
  refine yO rfl ?_
  refine yO rfl ?_
  refine yO rfl ?_
  refine yO rfl ?_
  refine yO rfl ?_
  refine yO rfl ?_
  refine run_off (off_un rfl rfl rfl) rfl (ltb rfl) ?_
  refine run_off (off_un rfl rfl rfl) rfl (ltb rfl) ?_
  refine yO rfl ?_
  refine yP rfl ?_
  refine yR rfl ?_
  refine yN ?_
  refine run_ret_to ?_
  replace hM := some_t hM
  subst hM
  refine fin_x hG rfl rfl rfl (v' := .bool true) (by rfl) ⟨rfl, (show tk ≤ tk by omega), _, rfl, rfl⟩
 replace hM := ite_f hb3 hM
 refine run_puG (on_of rfl rfl rfl rfl) (move_step (.inl rfl) rfl) rfl (ltb rfl) ?_
 refine run_puG (on_of rfl rfl rfl rfl) (nilCheck_step rfl rfl ⟨_, rfl⟩) rfl (ltb rfl) ?_
 refine run_puG (on_of rfl rfl rfl rfl) (fieldAddr_step hG rfl rfl rfl rfl rfl) rfl (ltb rfl) ?_
 refine run_rdG (on_of rfl rfl rfl rfl) (aload_rd hG rfl rfl rfl (by first | (simp [ldok]; done) | exact List.not_mem_nil | trivial)) rfl (ltb rfl) ?_
 refine run_puG (on_of rfl rfl rfl rfl) (abin_step rfl rfl rfl rfl (fun _ h => by cases h)) rfl (ltb rfl) ?_
 refine run_puG (on_of rfl rfl rfl rfl) (move_step (.inl rfl) rfl) rfl (ltb rfl) ?_
 refine run_splitd (i := 16) rfl (fun hb4 => ?_) (fun hb4 => ?_)
 ·replace hM := ite_t hb4 hM
  refine run_puG (on_of rfl rfl rfl rfl) (move_step (.inl rfl) rfl) rfl (ltb rfl) ?_
  refine run_puG (on_of rfl rfl rfl rfl) (abin_step rfl rfl rfl rfl (fun _ h => by cases h)) rfl (ltb rfl) ?_
  refine run_puG (on_of rfl rfl rfl rfl) (pick_step rfl rfl rfl) rfl (ltb rfl) ?_
  refine yP rfl ?_
  refine yR rfl ?_
  refine yN ?_
  refine run_ret_to ?_
  replace hM := some_t hM
  subst hM
  refine fin_x hG rfl rfl rfl (v' := .bool (i2 == 1)) (by rfl) ⟨rfl, (show tk ≤ tk by omega), _, rfl, rfl⟩
 replace hM := ite_f hb4 hM
 refine yO rfl ?_
 refine yO rfl ?_
 refine run_puG (on_of rfl rfl rfl rfl) (pick_step rfl rfl rfl) rfl (ltb rfl) ?_
 refine yP rfl ?_
 refine yR rfl ?_
 refine yN ?_
 refine run_ret_to ?_
 replace hM := some_t hM
 subst hM
 refine fin_x hG rfl rfl rfl (v' := .bool false) (by rfl) ⟨rfl, (show tk ≤ tk by omega), _, rfl, rfl⟩

def i_Tree_under__c (x1 : T) (i2 : Int) : Option Int :=
 (i_Tree_binds__c x1 i2).bind fun r3 =>
 if r3 = true then
  some 1
 else
  some 0

set_option maxRecDepth 100000 in
theorem i_Tree_under__c_ok : ∀ (k1 : Int) (n1 : Int) (s1 : ByteArray) (q1 : Nat) (f1 : Bool) (ks1 : List LT) (i2 : Int) {r : Int}, i_Tree_under__c (T.mk k1 n1 s1 (ers ks1)) i2 = some r → ∀ (O : Heap) (tk : Nat), ACalls Go.Proofs.Tryz.prog 63 [.cptr [.int .i64 k1, .int .i64 n1, .str s1, .imm q1 4 f1 (cellss ks1)], .int .i64 i2] O tk (RetX O tk (fun v tk' => v = .int .i64 r)) := by
 intro k1 n1 s1 q1 f1 ks1 i2 r hM O tk
 unfold i_Tree_under__c at hM
 refine acalls_of_run Go.Proofs.Tryz.func63 rfl rfl [] [] (Bor.nil _) [(0, .cptr [.int .i64 k1, .int .i64 n1, .str s1, .imm q1 4 f1 (cellss ks1)]), (1, .int .i64 i2)] (.cons (.cptr _) (.cons (entS rfl) (.nil _))) (leb rfl) (fun _ h => by cases h) (fun S0 hO htk hfz => ?_)
 refine run_sr ?_
 refine yR rfl ?_
 refine yN ?_
 refine run_seq ?_
 refine run_sr ?_
 refine yL rfl ?_
 refine yL rfl ?_
 obtain ⟨r3, hg4, hM⟩ := bind_t hM
 refine yK rfl (i_Tree_binds__c_ok k1 n1 s1 q1 f1 ks1 i2 hg4 _ _) (callK_retX (fun v tk5 (hle6 : tk ≤ tk5) h7 => ?_))
 subst h7
 refine yN ?_
 refine run_ifb rfl rfl (fun hb10 => ?_) (fun hb10 => ?_)
 ·replace hM := ite_t hb10 hM
  refine run_sr ?_
  refine yR rfl ?_
  refine yN ?_
  refine run_ret_to ?_
  replace hM := some_t hM
  subst hM
  refine fin_x hG rfl rfl rfl (v' := .int .i64 1) (by rfl) ⟨rfl, (show tk ≤ tk5 by omega), _, rfl, rfl⟩
 replace hM := ite_f hb10 hM
 refine run_skip ?_
 refine run_sr ?_
 refine yR rfl ?_
 refine yN ?_
 refine run_ret_to ?_
 replace hM := some_t hM
 subst hM
 refine fin_x hG rfl rfl rfl (v' := .int .i64 0) (by rfl) ⟨rfl, (show tk ≤ tk5 by omega), _, rfl, rfl⟩

def i_Tree_each__c_fn_i_occurs_c1v_L1 (rec_i_Tree_each__c_fn_i_occurs_c1v : T → Int → Int → Option Bool) (x1 : T) (i2 : Int) (i3 : Int) : Nat → Int → Option Bool
 | 0, _ => none
 | m + 1, i12 =>
  if i12 < ((x1.kids).length : Int) then
   (idx x1.kids i12).bind fun y14 =>
   (i_Tree_under__c x1 i12).bind fun r19 =>
   (rec_i_Tree_each__c_fn_i_occurs_c1v y14 (IntKind.i64.wrap (i2 + r19)) i3).bind fun r26 =>
   if r26 = true then
    some true
   else
    i_Tree_each__c_fn_i_occurs_c1v_L1 rec_i_Tree_each__c_fn_i_occurs_c1v x1 i2 i3 m (IntKind.i64.wrap (i12 + 1))
  else
   some false

def i_Tree_each__c_fn_i_occurs_c1v : Nat → T → Int → Int → Option Bool
 | 0, _, _, _ => none
 | n + 1, x1, i2, i3 =>
  (i_occurs_c1__c x1 i2 i3).bind fun r4 =>
  if r4 = true then
   some true
  else
   i_Tree_each__c_fn_i_occurs_c1v_L1 (i_Tree_each__c_fn_i_occurs_c1v n) x1 i2 i3 n 0

def i_Tree_each__c_fn_i_occurs_c1v_P (n : Nat) : Prop := ∀ (k1 : Int) (n1 : Int) (s1 : ByteArray) (q1 : Nat) (f1 : Bool) (ks1 : List LT) (i2 : Int) (X0 : ID) (i3 : Int) {r : Bool}, i_Tree_each__c_fn_i_occurs_c1v n (T.mk k1 n1 s1 (ers ks1)) i2 i3 = some r → ∀ (O : Heap) (tk : Nat), O X0 = some ⟨3, 1, true, [[.int .i64 i3]]⟩ → ACalls Go.Proofs.Tryz.prog 107 [.cptr [.int .i64 k1, .int .i64 n1, .str s1, .imm q1 4 f1 (cellss ks1)], .int .i64 i2, .fn (.func 108) [] [.optr X0 0 0]] O tk (RetX O tk (fun v tk' => v = .bool r))

set_option maxHeartbeats 20000000 in
set_option maxRecDepth 100000 in
theorem i_Tree_each__c_fn_i_occurs_c1v_st (n : Nat) (ih_i_Tree_each__c_fn_i_occurs_c1v : i_Tree_each__c_fn_i_occurs_c1v_P n) : i_Tree_each__c_fn_i_occurs_c1v_P (n + 1) := by
 intro k1 n1 s1 q1 f1 ks1 i2 X0 i3 r hM O tk hX0
 rw [i_Tree_each__c_fn_i_occurs_c1v] at hM
 refine acalls_of_run Go.Proofs.Tryz.func107 rfl rfl [X0] [⟨3, 1, true, [[.int .i64 i3]]⟩] (Bor.one hX0 rfl) [(0, .cptr [.int .i64 k1, .int .i64 n1, .str s1, .imm q1 4 f1 (cellss ks1)]), (1, .int .i64 i2), (2, .fn (.func 108) [] [.optr (.bor 0) 0 0])] (.cons (.cptr _) (.cons (entS rfl) (.cons (ent_fn (.bor 0 _ _ _ rfl)) (.nil _)))) (leb rfl) (by intro y h; simp only [List.mem_cons, List.not_mem_nil, or_false] at h; rcases h with rfl <;> simp [tch, tch0]) (fun S0 hO htk hfz => ?_)
 refine run_sr ?_
 refine yR rfl ?_
 refine yN ?_
 refine run_seq ?_
 refine run_sr ?_
 refine yL rfl ?_
 refine yL rfl ?_
 refine yL rfl ?_
 obtain ⟨r4, hg5, hM⟩ := bind_t hM
 refine yK rfl (i_occurs_c1__c_ok k1 n1 s1 q1 f1 ks1 i2 (.bor 0) i3 hg5 _ _ rfl) (callK_retX (fun v tk6 (hle7 : tk ≤ tk6) h8 => ?_))
 subst h8
 refine yN ?_
 refine run_ifb rfl rfl (fun hb11 => ?_) (fun hb11 => ?_)
 ·replace hM := ite_t hb11 hM
  refine run_sr ?_
  refine yR rfl ?_
  refine yN ?_
  refine run_ret_to ?_
  replace hM := some_t hM
  subst hM
  refine fin_x hG rfl rfl rfl (v' := .bool true) (by rfl) ⟨out_same (Bor.one hX0 rfl), (show tk ≤ tk6 by omega), _, rfl, rfl⟩
 replace hM := ite_f hb11 hM
 refine run_skip ?_
 refine run_seq ?_
 refine run_sr ?_
 refine yL rfl ?_
 refine run_pu rfl (nilCheck_step rfl rfl ⟨_, rfl⟩) rfl (ltb rfl) ?_
 refine yF hG rfl ?_
 refine yD hG rfl ?_
 refine run_pu rfl (lenImm_step hG rfl rfl rfl rfl (tlen _)) rfl (ltb rfl) ?_
 refine yL rfl ?_
 refine yN ?_
 refine run_block ?_
 refine run_rounds (fun m σ => ∃ (i12 : Int) (tki_Tree_each__c_fn_i_occurs_c1v_L1 : Nat), tk6 ≤ tki_Tree_each__c_fn_i_occurs_c1v_L1 ∧ i_Tree_each__c_fn_i_occurs_c1v_L1 (i_Tree_each__c_fn_i_occurs_c1v n) (T.mk k1 n1 s1 (ers ks1)) i2 i3 m i12 = some r ∧ σ = ⟨[(0, .cptr [.int .i64 k1, .int .i64 n1, .str s1, .imm q1 4 f1 (cellss ks1)]), (1, .int .i64 i2), (2, .fn (.func 108) [] [.optr (.bor 0) 0 0]), (6, .bool false), (16, .int .i64 (((ers ks1)).length : Int)), (17, .int .i64 i12)], [], [⟨3, 1, true, [[.int .i64 i3]]⟩], O, tki_Tree_each__c_fn_i_occurs_c1v_L1⟩) n (Sub.pk [0, 1, 2, 6, 16, 17] rfl) ⟨0, tk6, Nat.le_refl _, hM, rfl⟩ (fun m σ hI => ?_)
 clear hM
 obtain ⟨i12, tki_Tree_each__c_fn_i_occurs_c1v_L1, hle34, hM, rfl⟩ := hI
 obtain _ | m := m
 ·exact absurd hM (by rw [i_Tree_each__c_fn_i_occurs_c1v_L1]; exact fun h => by cases h)
 rw [i_Tree_each__c_fn_i_occurs_c1v_L1] at hM
 refine run_sr ?_
 refine yB rfl ?_
 refine yN ?_
 refine run_seq ?_
 refine run_ifd rfl rfl (fun hb13 => ?_) (fun hb13 => ?_)
 ·replace hM := ite_t hb13 hM
  refine run_skip ?_
  refine run_seq ?_
  refine run_block ?_
  refine run_sr ?_
  refine yL rfl ?_
  refine yR rfl ?_
  refine yN ?_
  refine run_seq ?_
  refine run_draw [.bor 0] (n := 13) mixed rfl (by intro x hx; simp only [List.mem_cons, List.not_mem_nil, or_false] at hx; rcases hx with rfl <;> rfl) ?_
  refine yTV 0 (by kernel_rfl) rfl ?_
  refine yT 1 (by kernel_rfl) rfl rfl rfl (ltb rfl) ((nilCheck_step rfl rfl ⟨_, rfl⟩).rd _) ?_
  refine yTF hG 2 (by kernel_rfl) rfl ?_
  refine yTL hG 3 (by kernel_rfl) rfl ?_
  refine yTV 4 (by kernel_rfl) rfl ?_
  obtain ⟨y14, hy15, hM⟩ := bind_t hM
  obtain ⟨k16, n16, s16, q16, f16, ks16, rfl, hc17, hi18⟩ := tidx (ks := ks1) hy15
  refine yT 5 (by kernel_rfl) rfl rfl rfl (ltb rfl) ((indexImm_step hG rfl rfl rfl hi18 rfl rfl rfl rfl hc17).rd _) ?_
  refine yTV 6 (by kernel_rfl) rfl ?_
  refine yTV 7 (by kernel_rfl) rfl ?_
  refine yTV 8 (by kernel_rfl) rfl ?_
  refine yTV 11 (by kernel_rfl) rfl ?_
  obtain ⟨r19, hg20, hM⟩ := bind_t hM
  refine yC 9 (by kernel_rfl) rfl rfl (i_Tree_under__c_ok k1 n1 s1 q1 f1 ks1 i12 hg20 _ _) (callK_retX (fun v tk21 (hle22 : tki_Tree_each__c_fn_i_occurs_c1v_L1 ≤ tk21) h23 => ?_))
  subst h23
  refine yT 10 (by kernel_rfl) rfl rfl rfl (ltb rfl) ((abin_step rfl rfl rfl rfl (fun _ h => by cases h)).rd _) ?_
  obtain ⟨r26, hg27, hM⟩ := bind_t hM
  refine AAny.one (i := 12) (by kernel_rfl) (AOp.call rfl rfl rfl rfl (ltb rfl) rfl rfl rfl yE (by intro x hx; have hx : x ∈ [ID.bor 0] := hx; simp only [List.mem_cons, List.not_mem_nil, or_false] at hx; subst hx; simp) (ih_i_Tree_each__c_fn_i_occurs_c1v k16 n16 s16 q16 f16 ks16 (IntKind.i64.wrap (i2 + r19)) (.bor 0) i3 hg27 _ _ rfl) (callK_retX (fun v tk28 (hle29 : tk21 ≤ tk28) h30 => ?_)))
  subst h30
  refine AAny.done (by kernel_rfl) ?_
  refine run_sub_code (σ' := ⟨[(0, .cptr [.int .i64 k1, .int .i64 n1, .str s1, .imm q1 4 f1 (cellss ks1)]), (1, .int .i64 i2), (2, .fn (.func 108) [] [.optr (.bor 0) 0 0]), (6, .bool false), (16, .int .i64 (((ers ks1)).length : Int)), (17, .int .i64 i12), (32, .bool r26)], [], [⟨3, 1, true, [[.int .i64 i3]]⟩], O, tk28⟩) (Sub.env _ ⟨rfl, rfl, rfl, rfl, rfl, rfl, rfl, trivial⟩) ?_
  refine run_ifb rfl rfl (fun hb33 => ?_) (fun hb33 => ?_)
  ·replace hM := ite_t hb33 hM
   refine run_sr ?_
   refine yR rfl ?_
   refine yN ?_
   refine run_ret_to ?_
   replace hM := some_t hM
   subst hM
   refine fin_x hG rfl rfl rfl (v' := .bool true) (by rfl) ⟨out_same (Bor.one hX0 rfl), (show tk ≤ tk28 by omega), _, rfl, rfl⟩
  replace hM := ite_f hb33 hM
  refine run_skip ?_
  refine run_blk ?_
  refine run_region ?_
  refine yB rfl ?_
  refine yL rfl ?_
  refine yN ?_
  exact run_loop_end ⟨m, _, Nat.lt_succ_self _, ⟨(IntKind.i64.wrap (i12 + 1)), tk28, (show tk6 ≤ tk28 by omega), hM, rfl⟩, Sub.pk [0, 1, 2, 6, 16, 17] rfl⟩
 replace hM := ite_f hb13 hM
 refine run_exit_to rfl ?_
 refine run_sr ?_
 refine yR rfl ?_
 refine yN ?_
 refine run_ret_to ?_
 replace hM := some_t hM
 subst hM
 refine fin_x hG rfl rfl rfl (v' := .bool false) (by rfl) ⟨out_same (Bor.one hX0 rfl), (show tk ≤ tki_Tree_each__c_fn_i_occurs_c1v_L1 by omega), _, rfl, rfl⟩

theorem i_Tree_each__c_fn_i_occurs_c1v_all : ∀ (n : Nat), (i_Tree_each__c_fn_i_occurs_c1v_P n)
 | 0 => by intro k1 n1 s1 q1 f1 ks1 i2 X0 i3 r hM; rw [i_Tree_each__c_fn_i_occurs_c1v] at hM; cases hM
 | n + 1 => have ih := i_Tree_each__c_fn_i_occurs_c1v_all n; i_Tree_each__c_fn_i_occurs_c1v_st n (ih)

theorem i_Tree_each__c_fn_i_occurs_c1v_ok (n : Nat) : i_Tree_each__c_fn_i_occurs_c1v_P n := i_Tree_each__c_fn_i_occurs_c1v_all n

def i_occurs (n : Nat) (x1 : T) (i2 : Int) : Option Bool :=
 (i_Tree_each__c_fn_i_occurs_c1v n x1 0 i2).bind fun r3 =>
 some r3

set_option maxRecDepth 100000 in
theorem i_occurs_ok (n : Nat) : ∀ (k1 : Int) (n1 : Int) (s1 : ByteArray) (q1 : Nat) (f1 : Bool) (ks1 : List LT) (i2 : Int) {r : Bool}, i_occurs n (T.mk k1 n1 s1 (ers ks1)) i2 = some r → ∀ (O : Heap) (tk : Nat), ACalls Go.Proofs.Tryz.prog 79 [.agg [.int .i64 k1, .int .i64 n1, .str s1, .imm q1 4 f1 (cellss ks1)], .int .i64 i2] O tk (RetX O tk (fun v tk' => v = .bool r)) := by
 intro k1 n1 s1 q1 f1 ks1 i2 r hM O tk
 unfold i_occurs at hM
 refine acalls_of_run Go.Proofs.Tryz.func79 rfl rfl [] [] (Bor.nil _) [(0, .agg [.int .i64 k1, .int .i64 n1, .str s1, .imm q1 4 f1 (cellss ks1)]), (1, .int .i64 i2)] (.cons (.agg _) (.cons (entS rfl) (.nil _))) (leb rfl) (fun _ h => by cases h) (fun S0 hO htk hfz => ?_)
 refine run_sr ?_
 refine run_op rfl (box_step (d := 2) rfl rfl rfl rfl rfl) rfl (ltb rfl) ?_
 refine run_op rfl (box_step (d := 3) rfl rfl rfl rfl rfl) rfl (ltb rfl) ?_
 refine yR rfl ?_
 refine yN ?_
 refine run_sr ?_
 refine run_pu rfl (makeFunc_step (first := []) (cap := [.tmp 3]) rfl rfl rfl) rfl (ltb rfl) ?_
 refine run_sub_ops (Sub.frbox (k := 2) (env' := [(0, .agg [.int .i64 k1, .int .i64 n1, .str s1, .imm q1 4 f1 (cellss ks1)]), (1, .int .i64 i2), (2, .cptr [.int .i64 k1, .int .i64 n1, .str s1, .imm q1 4 f1 (cellss ks1)]), (3, .optr (.loc 3) 0 0), (4, .bool false), (5, .fn (.func 108) [] [.optr (.loc 3) 0 0])]) rfl rfl (.keep 0 _ _ rfl (.keep 1 _ _ rfl (.ptr 2 0 _ rfl (.keep 3 _ _ rfl (.keep 4 _ _ rfl (.keep 5 _ _ rfl .nil))))))) ?_
 obtain ⟨r3, hg4, hM⟩ := bind_t hM
 refine yK rfl (i_Tree_each__c_fn_i_occurs_c1v_ok n k1 n1 s1 q1 f1 ks1 0 (.loc 3) i2 hg4 _ _ rfl) (callK_retX (fun v tk5 (hle6 : tk ≤ tk5) h7 => ?_))
 subst h7
 refine yR rfl ?_
 refine yN ?_
 refine run_ret_to ?_
 replace hM := some_t hM
 subst hM
 refine fin_x hG rfl rfl rfl (v' := .bool r3) (by rfl) ⟨rfl, (show tk ≤ tk5 by omega), _, rfl, rfl⟩

def s_l01Binds (x1 : T) (i2 : Int) : Option Bool :=
 if x1.kind = 4 then
  some true
 else
  if x1.kind = 2 then
   some (i2 == 1)
  else
   some false

set_option maxRecDepth 100000 in
theorem s_l01Binds_ok : ∀ (k1 : Int) (n1 : Int) (s1 : ByteArray) (q1 : Nat) (f1 : Bool) (ks1 : List LT) (i2 : Int) {r : Bool}, s_l01Binds (T.mk k1 n1 s1 (ers ks1)) i2 = some r → ∀ (O : Heap) (tk : Nat), ACalls Go.Proofs.Tryz.prog 101 [.agg [.int .i64 k1, .int .i64 n1, .str s1, .imm q1 4 f1 (cellss ks1)], .int .i64 i2] O tk (RetX O tk (fun v tk' => v = .bool r)) := by
 intro k1 n1 s1 q1 f1 ks1 i2 r hM O tk
 unfold s_l01Binds at hM
 refine acalls_of_run Go.Proofs.Tryz.func101 rfl rfl [] [] (Bor.nil _) [(0, .agg [.int .i64 k1, .int .i64 n1, .str s1, .imm q1 4 f1 (cellss ks1)]), (1, .int .i64 i2)] (.cons (.agg _) (.cons (entS rfl) (.nil _))) (leb rfl) (fun _ h => by cases h) (fun S0 hO htk hfz => ?_)
 refine run_sr ?_
 refine run_op rfl (box_step (d := 2) rfl rfl rfl rfl rfl) rfl (ltb rfl) ?_
 refine yR rfl ?_
 refine yN ?_
 refine run_sr ?_
 refine yF hG rfl ?_
 refine yD hG rfl ?_
 refine yB rfl ?_
 refine yL rfl ?_
 refine run_splitd (i := 8) rfl (fun hb3 => ?_) (fun hb3 => ?_)
 ·replace hM := ite_t hb3 hM
  refine yO rfl ?_
  refine yO rfl ?_
  refine yO rfl ?_
  refine yO rfl ?_
  refine run_off (off_un rfl rfl rfl) rfl (ltb rfl) ?_
  refine run_off (off_un rfl rfl rfl) rfl (ltb rfl) ?_
  refine yO rfl ?_
  refine yP rfl ?_
  refine yR rfl ?_
  refine yN ?_
  refine run_ret_to ?_
  replace hM := some_t hM
  subst hM
  refine fin_x hG rfl rfl rfl (v' := .bool true) (by rfl) ⟨rfl, (show tk ≤ tk by omega), _, rfl, rfl⟩
 replace hM := ite_f hb3 hM
 refine run_puG (on_of rfl rfl rfl rfl) (fieldAddr_step hG rfl rfl rfl rfl rfl) rfl (ltb rfl) ?_
 refine run_rdG (on_of rfl rfl rfl rfl) (aload_rd hG rfl rfl rfl (by first | (simp [ldok]; done) | exact List.not_mem_nil | trivial)) rfl (ltb rfl) ?_
 refine run_puG (on_of rfl rfl rfl rfl) (abin_step rfl rfl rfl rfl (fun _ h => by cases h)) rfl (ltb rfl) ?_
 refine run_puG (on_of rfl rfl rfl rfl) (move_step (.inl rfl) rfl) rfl (ltb rfl) ?_
 refine run_splitd (i := 12) rfl (fun hb4 => ?_) (fun hb4 => ?_)
 ·replace hM := ite_t hb4 hM
  refine run_puG (on_of rfl rfl rfl rfl) (move_step (.inl rfl) rfl) rfl (ltb rfl) ?_
  refine run_puG (on_of rfl rfl rfl rfl) (abin_step rfl rfl rfl rfl (fun _ h => by cases h)) rfl (ltb rfl) ?_
  refine run_puG (on_of rfl rfl rfl rfl) (pick_step rfl rfl rfl) rfl (ltb rfl) ?_
  refine yP rfl ?_
  refine yR rfl ?_
  refine yN ?_
  refine run_ret_to ?_
  replace hM := some_t hM
  subst hM
  refine fin_x hG rfl rfl rfl (v' := .bool (i2 == 1)) (by rfl) ⟨rfl, (show tk ≤ tk by omega), _, rfl, rfl⟩
 replace hM := ite_f hb4 hM
 refine yO rfl ?_
 refine yO rfl ?_
 refine run_puG (on_of rfl rfl rfl rfl) (pick_step rfl rfl rfl) rfl (ltb rfl) ?_
 refine yP rfl ?_
 refine yR rfl ?_
 refine yN ?_
 refine run_ret_to ?_
 replace hM := some_t hM
 subst hM
 refine fin_x hG rfl rfl rfl (v' := .bool false) (by rfl) ⟨rfl, (show tk ≤ tk by omega), _, rfl, rfl⟩

def s_l01Under (x1 : T) (i2 : Int) : Option Int :=
 (s_l01Binds x1 i2).bind fun r3 =>
 if r3 = true then
  some 1
 else
  some 0

set_option maxRecDepth 100000 in
theorem s_l01Under_ok : ∀ (k1 : Int) (n1 : Int) (s1 : ByteArray) (q1 : Nat) (f1 : Bool) (ks1 : List LT) (i2 : Int) {r : Int}, s_l01Under (T.mk k1 n1 s1 (ers ks1)) i2 = some r → ∀ (O : Heap) (tk : Nat), ACalls Go.Proofs.Tryz.prog 70 [.agg [.int .i64 k1, .int .i64 n1, .str s1, .imm q1 4 f1 (cellss ks1)], .int .i64 i2] O tk (RetX O tk (fun v tk' => v = .int .i64 r)) := by
 intro k1 n1 s1 q1 f1 ks1 i2 r hM O tk
 unfold s_l01Under at hM
 refine acalls_of_run Go.Proofs.Tryz.func70 rfl rfl [] [] (Bor.nil _) [(0, .agg [.int .i64 k1, .int .i64 n1, .str s1, .imm q1 4 f1 (cellss ks1)]), (1, .int .i64 i2)] (.cons (.agg _) (.cons (entS rfl) (.nil _))) (leb rfl) (fun _ h => by cases h) (fun S0 hO htk hfz => ?_)
 refine run_sr ?_
 refine run_op rfl (box_step (d := 2) rfl rfl rfl rfl rfl) rfl (ltb rfl) ?_
 refine yR rfl ?_
 refine yN ?_
 refine run_seq ?_
 refine run_sr ?_
 refine yD hG rfl ?_
 refine yL rfl ?_
 obtain ⟨r3, hg4, hM⟩ := bind_t hM
 refine yK rfl (s_l01Binds_ok k1 n1 s1 q1 f1 ks1 i2 hg4 _ _) (callK_retX (fun v tk5 (hle6 : tk ≤ tk5) h7 => ?_))
 subst h7
 refine yN ?_
 refine run_ifb rfl rfl (fun hb10 => ?_) (fun hb10 => ?_)
 ·replace hM := ite_t hb10 hM
  refine run_sr ?_
  refine yR rfl ?_
  refine yN ?_
  refine run_ret_to ?_
  replace hM := some_t hM
  subst hM
  refine fin_x hG rfl rfl rfl (v' := .int .i64 1) (by rfl) ⟨rfl, (show tk ≤ tk5 by omega), _, rfl, rfl⟩
 replace hM := ite_f hb10 hM
 refine run_skip ?_
 refine run_sr ?_
 refine yR rfl ?_
 refine yN ?_
 refine run_ret_to ?_
 replace hM := some_t hM
 subst hM
 refine fin_x hG rfl rfl rfl (v' := .int .i64 0) (by rfl) ⟨rfl, (show tk ≤ tk5 by omega), _, rfl, rfl⟩

def s_l01Occurs_L1 (rec_s_l01Occurs : T → Int → Option Bool) (x1 : T) (i2 : Int) : Nat → Int → Option Bool
 | 0, _ => none
 | m + 1, i6 =>
  if i6 < ((x1.kids).length : Int) then
   (idx x1.kids i6).bind fun y8 =>
   (s_l01Under x1 i6).bind fun r13 =>
   (rec_s_l01Occurs y8 (IntKind.i64.wrap (i2 + r13))).bind fun r20 =>
   if r20 = true then
    some true
   else
    s_l01Occurs_L1 rec_s_l01Occurs x1 i2 m (IntKind.i64.wrap (i6 + 1))
  else
   some false

def s_l01Occurs : Nat → T → Int → Option Bool
 | 0, _, _ => none
 | n + 1, x1, i2 =>
  jn (
   s_l01Occurs_L1 (s_l01Occurs n) x1 i2 n 0) fun j3 =>
  if x1.kind = 5 then
   if x1.n = i2 then
    some true
   else
    j3
  else
   j3

def s_l01Occurs_P (n : Nat) : Prop := ∀ (k1 : Int) (n1 : Int) (s1 : ByteArray) (q1 : Nat) (f1 : Bool) (ks1 : List LT) (i2 : Int) {r : Bool}, s_l01Occurs n (T.mk k1 n1 s1 (ers ks1)) i2 = some r → ∀ (O : Heap) (tk : Nat), ACalls Go.Proofs.Tryz.prog 72 [.agg [.int .i64 k1, .int .i64 n1, .str s1, .imm q1 4 f1 (cellss ks1)], .int .i64 i2] O tk (RetX O tk (fun v tk' => v = .bool r))

set_option maxRecDepth 100000 in
theorem s_l01Occurs_st (n : Nat) (ih_s_l01Occurs : s_l01Occurs_P n) : s_l01Occurs_P (n + 1) := by
 intro k1 n1 s1 q1 f1 ks1 i2 r hM O tk
 rw [s_l01Occurs] at hM
 refine acalls_of_run Go.Proofs.Tryz.func72 rfl rfl [] [] (Bor.nil _) [(0, .agg [.int .i64 k1, .int .i64 n1, .str s1, .imm q1 4 f1 (cellss ks1)]), (1, .int .i64 i2)] (.cons (.agg _) (.cons (entS rfl) (.nil _))) (leb rfl) (fun _ h => by cases h) (fun S0 hO htk hfz => ?_)
 refine run_sr ?_
 refine run_op rfl (box_step (d := 2) rfl rfl rfl rfl rfl) rfl (ltb rfl) ?_
 refine yR rfl ?_
 refine yN ?_
 refine run_seq ?_
 refine run_seq ?_
 obtain ⟨j3, hj30, hM⟩ := jn_t hM
 refine run_cutL [.code _, .code _] (fun σ' => ∃ (tkj3 : Nat), tk ≤ tkj3 ∧ j3 = some r ∧ Sub ⟨Go.Proofs.Tryz.prog, S0, Go.Proofs.Tryz.f72.ntmps, [], fun _ => False, []⟩ σ' ⟨[(1, .int .i64 i2), (2, .optr (.loc 2) 0 0), (4, .bool false)], [(2, ⟨27, 4, true, [[.int .i64 k1, .int .i64 n1, .str s1, .imm q1 4 f1 (cellss ks1)]]⟩)], [], O, tkj3⟩) rfl ?_ ?_
 ·refine run_region ?_
  refine yF hG rfl ?_
  refine yD hG rfl ?_
  refine yB rfl ?_
  refine yL rfl ?_
  refine run_splitd (i := 9) rfl (fun hb4 => ?_) (fun hb4 => ?_)
  ·replace hM := ite_t hb4 hM
   refine run_puG (on_of rfl rfl rfl rfl) (fieldAddr_step hG rfl rfl rfl rfl rfl) rfl (ltb rfl) ?_
   refine run_rdG (on_of rfl rfl rfl rfl) (aload_rd hG rfl rfl rfl (by first | (simp [ldok]; done) | exact List.not_mem_nil | trivial)) rfl (ltb rfl) ?_
   refine run_puG (on_of rfl rfl rfl rfl) (move_step (.inl rfl) rfl) rfl (ltb rfl) ?_
   refine run_puG (on_of rfl rfl rfl rfl) (abin_step rfl rfl rfl rfl (fun _ h => by cases h)) rfl (ltb rfl) ?_
   refine yP rfl ?_
   refine yN ?_
   refine run_ifd rfl rfl (fun hb5 => ?_) (fun hb5 => ?_)
   ·replace hM := ite_t hb5 hM
    refine run_sr ?_
    refine yR rfl ?_
    refine yN ?_
    refine run_ret_to ?_
    refine cut_ret ?_
    replace hM := some_t hM
    subst hM
    refine fin_x hG rfl rfl rfl (v' := .bool true) (by rfl) ⟨rfl, (show tk ≤ tk by omega), _, rfl, rfl⟩
   replace hM := ite_f hb5 hM
   refine run_skip ?_
   exact ⟨tk, (show tk ≤ tk by omega), hM, Sub.pk [1, 2, 4] rfl⟩
  replace hM := ite_f hb4 hM
  refine yO rfl ?_
  refine yO rfl ?_
  refine yO rfl ?_
  refine yO rfl ?_
  refine yP rfl ?_
  refine yN ?_
  refine run_if rfl rfl (fun h => by cases h) (fun _ => ?_)
  refine run_skip ?_
  exact ⟨tk, (show tk ≤ tk by omega), hM, Sub.pk [1, 2, 4] rfl⟩
 clear hM
 rintro σ' ⟨tkj3, hle29, hM, hsub⟩
 rw [hj30] at hM
 clear hj30
 refine run_sub_code hsub ?_
 refine run_seq ?_
 refine run_sr ?_
 refine yR rfl ?_
 refine yN ?_
 refine run_block ?_
 refine run_rounds (fun m σ => ∃ (i6 : Int) (tks_l01Occurs_L1 : Nat), tkj3 ≤ tks_l01Occurs_L1 ∧ s_l01Occurs_L1 (s_l01Occurs n) (T.mk k1 n1 s1 (ers ks1)) i2 m i6 = some r ∧ σ = ⟨[(1, .int .i64 i2), (2, .optr (.loc 2) 0 0), (4, .bool false), (5, .int .i64 i6)], [(2, ⟨27, 4, true, [[.int .i64 k1, .int .i64 n1, .str s1, .imm q1 4 f1 (cellss ks1)]]⟩)], [], O, tks_l01Occurs_L1⟩) n (Sub.pk [1, 2, 4, 5] rfl) ⟨0, tkj3, Nat.le_refl _, hM, rfl⟩ (fun m σ hI => ?_)
 clear hM
 obtain ⟨i6, tks_l01Occurs_L1, hle28, hM, rfl⟩ := hI
 obtain _ | m := m
 ·exact absurd hM (by rw [s_l01Occurs_L1]; exact fun h => by cases h)
 rw [s_l01Occurs_L1] at hM
 refine run_seq ?_
 refine run_sr ?_
 refine yL rfl ?_
 refine yF hG rfl ?_
 refine yD hG rfl ?_
 refine run_pu rfl (lenImm_step hG rfl rfl rfl rfl (tlen _)) rfl (ltb rfl) ?_
 refine yB rfl ?_
 refine yN ?_
 refine run_ifd rfl rfl (fun hb7 => ?_) (fun hb7 => ?_)
 ·replace hM := ite_t hb7 hM
  refine run_skip ?_
  refine run_seq ?_
  refine run_block ?_
  refine run_seq ?_
  refine run_draw [] (n := 11) mixed rfl yE ?_
  refine yTF hG 0 (by kernel_rfl) rfl ?_
  refine yTL hG 1 (by kernel_rfl) rfl ?_
  refine yTV 2 (by kernel_rfl) rfl ?_
  obtain ⟨y8, hy9, hM⟩ := bind_t hM
  obtain ⟨k10, n10, s10, q10, f10, ks10, rfl, hc11, hi12⟩ := tidx (ks := ks1) hy9
  refine yT 3 (by kernel_rfl) rfl rfl rfl (ltb rfl) ((indexImm_step hG rfl rfl rfl hi12 rfl rfl rfl rfl hc11).rd _) ?_
  refine yTL hG 4 (by kernel_rfl) rfl ?_
  refine yTV 5 (by kernel_rfl) rfl ?_
  refine yTL hG 6 (by kernel_rfl) rfl ?_
  refine yTV 7 (by kernel_rfl) rfl ?_
  obtain ⟨r13, hg14, hM⟩ := bind_t hM
  refine yC 8 (by kernel_rfl) rfl rfl (s_l01Under_ok k1 n1 s1 q1 f1 ks1 i6 hg14 _ _) (callK_retX (fun v tk15 (hle16 : tks_l01Occurs_L1 ≤ tk15) h17 => ?_))
  subst h17
  refine yT 9 (by kernel_rfl) rfl rfl rfl (ltb rfl) ((abin_step rfl rfl rfl rfl (fun _ h => by cases h)).rd _) ?_
  obtain ⟨r20, hg21, hM⟩ := bind_t hM
  refine yC 10 (by kernel_rfl) rfl rfl (ih_s_l01Occurs k10 n10 s10 q10 f10 ks10 (IntKind.i64.wrap (i2 + r13)) hg21 _ _) (callK_retX (fun v tk22 (hle23 : tk15 ≤ tk22) h24 => ?_))
  subst h24
  refine AAny.done (by kernel_rfl) ?_
  refine run_sub_code (σ' := ⟨[(1, .int .i64 i2), (2, .optr (.loc 2) 0 0), (4, .bool false), (5, .int .i64 i6), (32, .bool r20)], [(2, ⟨27, 4, true, [[.int .i64 k1, .int .i64 n1, .str s1, .imm q1 4 f1 (cellss ks1)]]⟩)], [], O, tk22⟩) (Sub.env _ ⟨rfl, rfl, rfl, rfl, rfl, trivial⟩) ?_
  refine run_ifb rfl rfl (fun hb27 => ?_) (fun hb27 => ?_)
  ·replace hM := ite_t hb27 hM
   refine run_sr ?_
   refine yR rfl ?_
   refine yN ?_
   refine run_ret_to ?_
   replace hM := some_t hM
   subst hM
   refine fin_x hG rfl rfl rfl (v' := .bool true) (by rfl) ⟨rfl, (show tk ≤ tk22 by omega), _, rfl, rfl⟩
  replace hM := ite_f hb27 hM
  refine run_skip ?_
  refine run_blk ?_
  refine run_region ?_
  refine yL rfl ?_
  refine yB rfl ?_
  refine yR rfl ?_
  refine yN ?_
  exact run_loop_end ⟨m, _, Nat.lt_succ_self _, ⟨(IntKind.i64.wrap (i6 + 1)), tk22, (show tkj3 ≤ tk22 by omega), hM, rfl⟩, Sub.pk [1, 2, 4, 5] rfl⟩
 replace hM := ite_f hb7 hM
 refine run_exit_to rfl ?_
 refine run_sr ?_
 refine yR rfl ?_
 refine yN ?_
 refine run_ret_to ?_
 replace hM := some_t hM
 subst hM
 refine fin_x hG rfl rfl rfl (v' := .bool false) (by rfl) ⟨rfl, (show tk ≤ tks_l01Occurs_L1 by omega), _, rfl, rfl⟩

theorem s_l01Occurs_all : ∀ (n : Nat), (s_l01Occurs_P n)
 | 0 => by intro k1 n1 s1 q1 f1 ks1 i2 r hM; rw [s_l01Occurs] at hM; cases hM
 | n + 1 => have ih := s_l01Occurs_all n; s_l01Occurs_st n (ih)

theorem s_l01Occurs_ok (n : Nat) : s_l01Occurs_P n := s_l01Occurs_all n

end Go.Am.YtoajlhhalpldfaaGreatDoor
