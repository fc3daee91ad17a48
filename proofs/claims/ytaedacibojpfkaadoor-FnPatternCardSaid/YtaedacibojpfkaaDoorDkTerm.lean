/- Printed by a program of ours: Lean functions that do what the Go functions do, and the contracts. -/
import Derived.Test.YtaedacibojpfkaaDoorMl0
import Derived.Test.YtaedacibojpfkaaDoorTypes
import Derived.Test.YtaedacibojpfkaaDoorDkB
-- packed
namespace Go.Am.YtaedacibojpfkaaDoor
open Go Go.Am

def i_Tree_bare__c (x1 : T) (i2 : Int) : Option Bool :=
 if x1.n = 0 then
  if (x1.name.toList == (⟨#[]⟩ : ByteArray).toList) = true then
   some (((x1.kids).length : Int) == i2)
  else
   some false
 else
  some false

set_option maxRecDepth 100000 in
theorem i_Tree_bare__c_ok : ∀ (k1 : Int) (n1 : Int) (s1 : ByteArray) (q1 : Nat) (f1 : Bool) (ks1 : List LT) (i2 : Int) {r : Bool}, i_Tree_bare__c (T.mk k1 n1 s1 (ers ks1)) i2 = some r → ∀ (O : Heap) (tk : Nat), ACalls Go.Proofs.Tryd.prog 138 [.cptr [.int .i64 k1, .int .i64 n1, .str s1, .imm q1 4 f1 (cellss ks1)], .int .i64 i2] O tk (RetX O tk (fun v tk' => v = .bool r)) := by
 intro k1 n1 s1 q1 f1 ks1 i2 r hM O tk
 unfold i_Tree_bare__c at hM
 refine acalls_of_run Go.Proofs.Tryd.func138 rfl rfl [] [] (Bor.nil _) [(0, .cptr [.int .i64 k1, .int .i64 n1, .str s1, .imm q1 4 f1 (cellss ks1)]), (1, .int .i64 i2)] (.cons (.cptr _) (.cons (entS rfl) (.nil _))) (leb rfl) (fun _ h => by cases h) (fun S0 hO htk hfz => ?_)
 refine run_sr ?_
 refine mvR rfl rfl rfl rfl (ltb rfl) ?_
 refine run_ops_nil ?_
 refine run_sr ?_
 refine mvL rfl rfl rfl rfl (ltb rfl) ?_
 refine run_pu rfl (nilCheck_step rfl rfl ⟨_, rfl⟩) rfl (ltb rfl) ?_
 refine run_pu rfl (fieldAddr_step hG rfl rfl rfl rfl rfl) rfl (ltb rfl) ?_
 refine run_ld hG rfl rfl rfl rfl rfl (ltb rfl) ?_
 refine run_bin rfl rfl rfl rfl rfl rfl rfl (ltb rfl) ?_
 refine mvL rfl rfl rfl rfl (ltb rfl) ?_
 refine run_splitd (i := 10) rfl (fun hb3 => ?_) (fun hb3 => ?_)
 ·replace hM := ite_t hb3 hM
  refine run_puG (on_of rfl rfl rfl rfl) (move_step (.inl rfl) rfl) rfl (ltb rfl) ?_
  refine run_puG (on_of rfl rfl rfl rfl) (nilCheck_step rfl rfl ⟨_, rfl⟩) rfl (ltb rfl) ?_
  refine run_puG (on_of rfl rfl rfl rfl) (fieldAddr_step hG rfl rfl rfl rfl rfl) rfl (ltb rfl) ?_
  refine run_rdG (on_of rfl rfl rfl rfl) (aload_rd hG rfl rfl rfl (by first | (simp [ldok]; done) | exact List.not_mem_nil | trivial)) rfl (ltb rfl) ?_
  refine run_puG (on_of rfl rfl rfl rfl) (abin_step rfl rfl rfl rfl (fun _ h => by cases h)) rfl (ltb rfl) ?_
  refine run_pu rfl (pick_step rfl rfl rfl) rfl (ltb rfl) ?_
  refine mvL rfl rfl rfl rfl (ltb rfl) ?_
  refine run_splitb (i := 17) rfl (fun hb4 => ?_) (fun hb4 => ?_)
  ·replace hM := ite_t hb4 hM
   refine run_puG (on_of rfl rfl rfl rfl) (move_step (.inl rfl) rfl) rfl (ltb rfl) ?_
   refine run_puG (on_of rfl rfl rfl rfl) (nilCheck_step rfl rfl ⟨_, rfl⟩) rfl (ltb rfl) ?_
   refine run_puG (on_of rfl rfl rfl rfl) (fieldAddr_step hG rfl rfl rfl rfl rfl) rfl (ltb rfl) ?_
   refine run_rdG (on_of rfl rfl rfl rfl) (aload_rd hG rfl rfl rfl (by first | (simp [ldok]; done) | exact List.not_mem_nil | trivial)) rfl (ltb rfl) ?_
   refine run_puG (on_of rfl rfl rfl rfl) (lenImm_step hG rfl rfl rfl rfl (tlen _)) rfl (ltb rfl) ?_
   refine run_puG (on_of rfl rfl rfl rfl) (move_step (.inl rfl) rfl) rfl (ltb rfl) ?_
   refine run_puG (on_of rfl rfl rfl rfl) (abin_step rfl rfl rfl rfl (fun _ h => by cases h)) rfl (ltb rfl) ?_
   refine run_pu rfl (pick_step rfl rfl rfl) rfl (ltb rfl) ?_
   refine mvR rfl rfl rfl rfl (ltb rfl) ?_
   refine run_ops_nil ?_
   refine run_ret_to ?_
   obtain rfl := some_t hM
   refine fin_x hG rfl rfl rfl (v' := .bool ((((ers ks1)).length : Int) == i2)) (by rfl) ⟨rfl, (show tk ≤ tk by omega), _, rfl, rfl⟩
  ·replace hM := ite_f hb4 hM
   refine run_off (on_of rfl rfl rfl rfl) rfl (ltb rfl) ?_
   refine run_off (on_of rfl rfl rfl rfl) rfl (ltb rfl) ?_
   refine run_off (on_of rfl rfl rfl rfl) rfl (ltb rfl) ?_
   refine run_off (on_of rfl rfl rfl rfl) rfl (ltb rfl) ?_
   refine run_off (on_of rfl rfl rfl rfl) rfl (ltb rfl) ?_
   refine run_off (on_of rfl rfl rfl rfl) rfl (ltb rfl) ?_
   refine run_off (on_of rfl rfl rfl rfl) rfl (ltb rfl) ?_
   refine run_pu rfl (pick_step rfl rfl rfl) rfl (ltb rfl) ?_
   refine mvR rfl rfl rfl rfl (ltb rfl) ?_
   refine run_ops_nil ?_
   refine run_ret_to ?_
   obtain rfl := some_t hM
   refine fin_x hG rfl rfl rfl (v' := .bool false) (by rfl) ⟨rfl, (show tk ≤ tk by omega), _, rfl, rfl⟩
 ·replace hM := ite_f hb3 hM
  refine run_off (on_of rfl rfl rfl rfl) rfl (ltb rfl) ?_
  refine run_off (on_of rfl rfl rfl rfl) rfl (ltb rfl) ?_
  refine run_off (on_of rfl rfl rfl rfl) rfl (ltb rfl) ?_
  refine run_off (on_of rfl rfl rfl rfl) rfl (ltb rfl) ?_
  refine run_off (on_of rfl rfl rfl rfl) rfl (ltb rfl) ?_
  refine run_pu rfl (pick_step rfl rfl rfl) rfl (ltb rfl) ?_
  refine mvL rfl rfl rfl rfl (ltb rfl) ?_
  refine run_off (on_of rfl rfl rfl rfl) rfl (ltb rfl) ?_
  refine run_off (on_of rfl rfl rfl rfl) rfl (ltb rfl) ?_
  refine run_off (on_of rfl rfl rfl rfl) rfl (ltb rfl) ?_
  refine run_off (on_of rfl rfl rfl rfl) rfl (ltb rfl) ?_
  refine run_off (on_of rfl rfl rfl rfl) rfl (ltb rfl) ?_
  refine run_off (on_of rfl rfl rfl rfl) rfl (ltb rfl) ?_
  refine run_off (on_of rfl rfl rfl rfl) rfl (ltb rfl) ?_
  refine run_pu rfl (pick_step rfl rfl rfl) rfl (ltb rfl) ?_
  refine mvR rfl rfl rfl rfl (ltb rfl) ?_
  refine run_ops_nil ?_
  refine run_ret_to ?_
  obtain rfl := some_t hM
  refine fin_x hG rfl rfl rfl (v' := .bool false) (by rfl) ⟨rfl, (show tk ≤ tk by omega), _, rfl, rfl⟩

def i_looker_args_L1 (rec_i_looker_term : (Int × Bool) → T → Option (Bool × (Int × Bool))) (l4 : List T) : Nat → Int → Int → Bool → Option (Bool × (Int × Bool))
 | 0, _, _, _ => none
 | m + 1, i5, i6, b7 =>
  if i5 < ((l4).length : Int) then
   (idx l4 i5).bind fun y9 =>
   if b7 = true then
    if y9.kind = 8 then
     (i_Tree_bare__c y9 0).bind fun r16 =>
     if (!r16) = true then
      some (false, (i6, b7))
     else
      (i_looker_node (i6, b7)).bind fun r24 =>
      if (!r24.1) = true then
       some (false, (r24.2.1, r24.2.2))
      else
       i_looker_args_L1 rec_i_looker_term l4 m (IntKind.i64.wrap (i5 + 1)) r24.2.1 r24.2.2
    else
     (rec_i_looker_term (i6, b7) y9).bind fun r36 =>
     if (!r36.1) = true then
      some (false, (r36.2.1, r36.2.2))
     else
      i_looker_args_L1 rec_i_looker_term l4 m (IntKind.i64.wrap (i5 + 1)) r36.2.1 r36.2.2
   else
    (rec_i_looker_term (i6, b7) y9).bind fun r48 =>
    if (!r48.1) = true then
     some (false, (r48.2.1, r48.2.2))
    else
     i_looker_args_L1 rec_i_looker_term l4 m (IntKind.i64.wrap (i5 + 1)) r48.2.1 r48.2.2
  else
   some (true, (i6, b7))

mutual

def i_looker_term : Nat → (Int × Bool) → T → Option (Bool × (Int × Bool))
 | 0, _, _ => none
 | n + 1, z1, x4 =>
  (i_looker_node (z1.1, z1.2)).bind fun r5 =>
  if (!r5.1) = true then
   some (false, (r5.2.1, r5.2.2))
  else
   if x4.kind = 4 then
    (i_Tree_bare__c x4 1).bind fun r18 =>
    if r18 = true then
     (idx x4.kids 0).bind fun y26 =>
     (i_looker_term n (r5.2.1, r5.2.2) y26).bind fun r31 =>
     some (r31.1, (r31.2.1, r31.2.2))
    else
     some (false, (r5.2.1, r5.2.2))
   else
    jn (fun (b43 : Bool) =>
     if b43 = true then
      (i_in x4.n 0 100).bind fun r46 =>
      if r46 = true then
       if (x4.name.toList == (⟨#[]⟩ : ByteArray).toList) = true then
        (i_looker_args n (r5.2.1, r5.2.2) x4.kids).bind fun r55 =>
        some (r55.1, (r55.2.1, r55.2.2))
       else
        some (false, (r5.2.1, r5.2.2))
      else
       some (false, (r5.2.1, r5.2.2))
     else
      if x4.kind = 6 then
       if x4.n = 0 then
        (i_NameOK x4.name).bind fun r68 =>
        if r68 = true then
         (i_looker_args n (r5.2.1, r5.2.2) x4.kids).bind fun r76 =>
         some (r76.1, (r76.2.1, r76.2.2))
        else
         some (false, (r5.2.1, r5.2.2))
       else
        some (false, (r5.2.1, r5.2.2))
      else
       some (false, (r5.2.1, r5.2.2))) fun j42 =>
    if x4.kind = 5 then
     j42 (x4.kind == 5)
    else
     j42 (x4.kind == 7)

def i_looker_args : Nat → (Int × Bool) → List T → Option (Bool × (Int × Bool))
 | 0, _, _ => none
 | n + 1, z1, l4 =>
  i_looker_args_L1 (i_looker_term n) l4 n 0 z1.1 z1.2

end

set_option maxHeartbeats 2000000 in
set_option maxRecDepth 100000 in
theorem i_looker_term_st (n : Nat) (ih_i_looker_term : ∀ (X0 : ID) (i2 : Int) (b3 : Bool) (k4 : Int) (n4 : Int) (s4 : ByteArray) (q4 : Nat) (f4 : Bool) (ks4 : List LT) {r : (Bool × (Int × Bool))}, i_looker_term n (i2, b3) (T.mk k4 n4 s4 (ers ks4)) = some r → ∀ (O : Heap) (tk : Nat), O X0 = some ⟨118, 2, true, [[.int .i64 i2, .bool b3]]⟩ → ACalls Go.Proofs.Tryd.prog 103 [.optr X0 0 0, .agg [.int .i64 k4, .int .i64 n4, .str s4, .imm q4 4 f4 (cellss ks4)]] O tk (RetV O X0 tk (fun v o' tk' => ∃ r0', ∃ (c0 : Int) (c1 : Bool) , r = (r0', (c0, c1)) ∧ o' = ⟨118, 2, true, [[.int .i64 c0, .bool c1]]⟩ ∧ v = .bool r0'))) (ih_i_looker_args : ∀ (X0 : ID) (i2 : Int) (b3 : Bool) (q4 : Nat) (f4 : Bool) (ks4 : List LT) {r : (Bool × (Int × Bool))}, i_looker_args n (i2, b3) (ers ks4) = some r → ∀ (O : Heap) (tk : Nat), O X0 = some ⟨118, 2, true, [[.int .i64 i2, .bool b3]]⟩ → ACalls Go.Proofs.Tryd.prog 139 [.optr X0 0 0, .imm q4 4 f4 (cellss ks4)] O tk (RetV O X0 tk (fun v o' tk' => ∃ r0', ∃ (c0 : Int) (c1 : Bool) , r = (r0', (c0, c1)) ∧ o' = ⟨118, 2, true, [[.int .i64 c0, .bool c1]]⟩ ∧ v = .bool r0'))) : ∀ (X0 : ID) (i2 : Int) (b3 : Bool) (k4 : Int) (n4 : Int) (s4 : ByteArray) (q4 : Nat) (f4 : Bool) (ks4 : List LT) {r : (Bool × (Int × Bool))}, i_looker_term (n + 1) (i2, b3) (T.mk k4 n4 s4 (ers ks4)) = some r → ∀ (O : Heap) (tk : Nat), O X0 = some ⟨118, 2, true, [[.int .i64 i2, .bool b3]]⟩ → ACalls Go.Proofs.Tryd.prog 103 [.optr X0 0 0, .agg [.int .i64 k4, .int .i64 n4, .str s4, .imm q4 4 f4 (cellss ks4)]] O tk (RetV O X0 tk (fun v o' tk' => ∃ r0', ∃ (c0 : Int) (c1 : Bool) , r = (r0', (c0, c1)) ∧ o' = ⟨118, 2, true, [[.int .i64 c0, .bool c1]]⟩ ∧ v = .bool r0')) := by
 intro X0 i2 b3 k4 n4 s4 q4 f4 ks4 r hM O tk hX0
 rw [i_looker_term] at hM
 refine acalls_of_run Go.Proofs.Tryd.func103 rfl rfl [X0] [⟨118, 2, true, [[.int .i64 i2, .bool b3]]⟩] (Bor.one hX0 rfl) [(0, .optr (.bor 0) 0 0), (1, .agg [.int .i64 k4, .int .i64 n4, .str s4, .imm q4 4 f4 (cellss ks4)])] (.cons (.bor 0 _ _ _ rfl) (.cons (.agg _) (.nil _))) (leb rfl) (by intro y h; simp only [List.mem_cons, List.not_mem_nil, or_false] at h; rcases h with rfl <;> simp [tch, tch0]) (fun S0 hO htk hfz => ?_)
 refine run_sr ?_
 refine run_op rfl (box_step (d := 3) rfl rfl rfl rfl rfl) rfl (ltb rfl) ?_
 refine mvR rfl rfl rfl rfl (ltb rfl) ?_
 refine run_ops_nil ?_
 refine run_seq ?_
 refine run_sr ?_
 refine mvL rfl rfl rfl rfl (ltb rfl) ?_
 obtain ⟨r5, hg6, hM⟩ := bind_t hM
 refine run_call rfl rfl rfl (ltb rfl) rfl rfl rfl (fun _ h => absurd h List.not_mem_nil) (i_looker_node_ok (.bor 0) i2 b3 hg6 _ _ rfl) (callK_retV_bor (k := 0) rfl (fun v o' tk' h => by obtain ⟨_, _, _, rfl, rfl, _⟩ := h; rfl) (fun v o'15 tk7 (hle8 : tk ≤ tk7) h9 => ?_))
 obtain ⟨ra14, c12, c13, rfl, rfl, rfl⟩ := h9
 refine run_pu rfl (aun_step rfl rfl rfl) rfl (ltb rfl) ?_
 refine run_ops_nil ?_
 refine run_ifb rfl rfl (fun hb16 => ?_) (fun hb16 => ?_)
 ·replace hM := ite_t hb16 hM
  refine run_sr ?_
  refine mvR rfl rfl rfl rfl (ltb rfl) ?_
  refine run_ops_nil ?_
  refine run_ret_to ?_
  obtain rfl := some_t hM
  refine fin_x hG rfl rfl rfl (v' := .bool false) (by rfl) ⟨_, ⟨118, 2, true, [[.int .i64 c12, .bool c13]]⟩, rfl, rfl, (show tk ≤ tk7 by omega), ⟨_, c12, c13, rfl, rfl, rfl⟩⟩
 ·replace hM := ite_f hb16 hM
  refine run_skip ?_
  refine run_seq ?_
  refine run_sr ?_
  refine run_pu rfl (fieldAddr_step hG rfl rfl rfl rfl rfl) rfl (ltb rfl) ?_
  refine run_ld hG rfl rfl rfl rfl rfl (ltb rfl) ?_
  refine run_ops_nil ?_
  refine run_block ?_
  refine run_sr ?_
  refine run_bin rfl rfl rfl rfl rfl rfl rfl (ltb rfl) ?_
  refine mvR rfl rfl rfl rfl (ltb rfl) ?_
  refine run_ops_nil ?_
  refine run_ifd rfl rfl (fun hb17 => ?_) (fun hb17 => ?_)
  ·replace hM := ite_t hb17 hM
   refine run_sr ?_
   refine run_sub_ops (Sub.frbox (k := 3) (env' := [(0, .optr (.bor 0) 0 0), (1, .agg [.int .i64 k4, .int .i64 n4, .str s4, .imm q4 4 f4 (cellss ks4)]), (3, .cptr [.int .i64 k4, .int .i64 n4, .str s4, .imm q4 4 f4 (cellss ks4)]), (4, .bool false), (5, .optr (.bor 0) 0 0), (6, .bool ra14), (7, .bool (!ra14)), (8, .cptr [.int .i64 k4, .int .i64 n4, .str s4, .imm q4 4 f4 (cellss ks4)]), (9, .int .i64 k4), (11, .bool (k4 == 4)), (10, .bool (k4 == 4))]) rfl rfl (.keep 0 _ _ rfl (.keep 1 _ _ rfl (.ptr 3 0 _ rfl (.keep 4 _ _ rfl (.keep 5 _ _ rfl (.keep 6 _ _ rfl (.keep 7 _ _ rfl (.ptr 8 0 _ rfl (.keep 9 _ _ rfl (.keep 11 _ _ rfl (.keep 10 _ _ rfl .nil)))))))))))) ?_
   obtain ⟨r18, hg19, hM⟩ := bind_t hM
   refine run_call rfl rfl rfl (ltb rfl) rfl rfl rfl (fun _ h => absurd h List.not_mem_nil) (i_Tree_bare__c_ok k4 n4 s4 q4 f4 ks4 1 hg19 _ _) (callK_retX (fun v tk20 (hle21 : tk7 ≤ tk20) h22 => ?_))
   subst h22
   refine mvL rfl rfl rfl rfl (ltb rfl) ?_
   refine run_splitb (i := 13) rfl (fun hb25 => ?_) (fun hb25 => ?_)
   ·replace hM := ite_t hb25 hM
    refine run_puG (on_of rfl rfl rfl rfl) (move_step (.inl rfl) rfl) rfl (ltb rfl) ?_
    refine run_puG (on_of rfl rfl rfl rfl) (fieldAddr_step hG rfl rfl rfl rfl rfl) rfl (ltb rfl) ?_
    refine run_rdG (on_of rfl rfl rfl rfl) (aload_rd hG rfl rfl rfl (by first | (simp [ldok]; done) | exact List.not_mem_nil | trivial)) rfl (ltb rfl) ?_
    obtain ⟨y26, hy27, hM⟩ := bind_t hM
    obtain ⟨k28, n28, s28, q28, f28, ks28, rfl, hc29, hi30⟩ := tidx (ks := ks4) hy27
    refine run_puG (on_of rfl rfl rfl rfl) (indexImm_step hG rfl rfl rfl hi30 rfl rfl rfl rfl hc29) rfl (ltb rfl) ?_
    refine run_rdG (on_of rfl rfl rfl rfl) (aload_rd hG rfl rfl rfl (by first | (simp [ldok]; done) | exact List.not_mem_nil | trivial)) rfl (ltb rfl) ?_
    obtain ⟨r31, hg32, hM⟩ := bind_t hM
    refine run_callG (on_of rfl rfl rfl rfl) rfl rfl (ltb rfl) rfl rfl rfl (fun _ h => absurd h List.not_mem_nil) (ih_i_looker_term (.bor 0) c12 c13 k28 n28 s28 q28 f28 ks28 hg32 _ _ rfl) (callK_retV_bor (k := 0) rfl (fun v o' tk' h => by obtain ⟨_, _, _, rfl, rfl, _⟩ := h; rfl) (fun v o'41 tk33 (hle34 : tk20 ≤ tk33) h35 => ?_))
    obtain ⟨ra40, c38, c39, rfl, rfl, rfl⟩ := h35
    refine run_pu rfl (pick_step rfl rfl rfl) rfl (ltb rfl) ?_
    refine mvR rfl rfl rfl rfl (ltb rfl) ?_
    refine run_ops_nil ?_
    refine run_ret_to ?_
    obtain rfl := some_t hM
    refine fin_x hG rfl rfl rfl (v' := .bool ra40) (by rfl) ⟨_, ⟨118, 2, true, [[.int .i64 c38, .bool c39]]⟩, rfl, rfl, (show tk ≤ tk33 by omega), ⟨_, c38, c39, rfl, rfl, rfl⟩⟩
   ·replace hM := ite_f hb25 hM
    refine run_off (on_of rfl rfl rfl rfl) rfl (ltb rfl) ?_
    refine run_off (on_of rfl rfl rfl rfl) rfl (ltb rfl) ?_
    refine run_off (on_of rfl rfl rfl rfl) rfl (ltb rfl) ?_
    refine run_off (on_of rfl rfl rfl rfl) rfl (ltb rfl) ?_
    refine run_off (on_of rfl rfl rfl rfl) rfl (ltb rfl) ?_
    refine run_off (on_of rfl rfl rfl rfl) rfl (ltb rfl) ?_
    refine run_pu rfl (pick_step rfl rfl rfl) rfl (ltb rfl) ?_
    refine mvR rfl rfl rfl rfl (ltb rfl) ?_
    refine run_ops_nil ?_
    refine run_ret_to ?_
    obtain rfl := some_t hM
    refine fin_x hG rfl rfl rfl (v' := .bool false) (by rfl) ⟨_, ⟨118, 2, true, [[.int .i64 c12, .bool c13]]⟩, rfl, rfl, (show tk ≤ tk20 by omega), ⟨_, c12, c13, rfl, rfl, rfl⟩⟩
  ·replace hM := ite_f hb17 hM
   refine run_seq ?_
   refine run_sr ?_
   refine run_bin rfl rfl rfl rfl rfl rfl rfl (ltb rfl) ?_
   refine mvR rfl rfl rfl rfl (ltb rfl) ?_
   refine run_ops_nil ?_
   obtain ⟨j42, hj88, hM⟩ := jn_t hM
   refine run_cutL [.code _] (fun σ' => ∃ (b43 : Bool) (tkj42 : Nat), tk7 ≤ tkj42 ∧ j42 b43 = some r ∧ Sub ⟨Go.Proofs.Tryd.prog, S0, Go.Proofs.Tryd.f103.ntmps, [X0], fun _ => False, []⟩ σ' ⟨[(0, .optr (.bor 0) 0 0), (3, .optr (.loc 3) 0 0), (4, .bool false), (9, .int .i64 k4), (21, .bool b43)], [(3, ⟨25, 4, true, [[.int .i64 k4, .int .i64 n4, .str s4, .imm q4 4 f4 (cellss ks4)]]⟩)], [⟨118, 2, true, [[.int .i64 c12, .bool c13]]⟩], O, tkj42⟩) rfl ?_ ?_
   ·refine run_ifd rfl rfl (fun hb44 => ?_) (fun hb44 => ?_)
    ·replace hM := ite_t hb44 hM
     refine run_skip ?_
     exact ⟨(k4 == 5), tk7, (show tk7 ≤ tk7 by omega), hM, Sub.env [(0, .optr (.bor 0) 0 0), (3, .optr (.loc 3) 0 0), (4, .bool false), (9, .int .i64 k4), (21, .bool (k4 == 5))] ⟨rfl, rfl, rfl, rfl, rfl, trivial⟩⟩
    ·replace hM := ite_f hb44 hM
     refine run_region ?_
     refine run_bin rfl rfl rfl rfl rfl rfl rfl (ltb rfl) ?_
     refine mvR rfl rfl rfl rfl (ltb rfl) ?_
     refine run_ops_nil ?_
     exact ⟨(k4 == 7), tk7, (show tk7 ≤ tk7 by omega), hM, Sub.env [(0, .optr (.bor 0) 0 0), (3, .optr (.loc 3) 0 0), (4, .bool false), (9, .int .i64 k4), (21, .bool (k4 == 7))] ⟨rfl, rfl, rfl, rfl, rfl, trivial⟩⟩
   ·clear hM
    rintro σ' ⟨b43, tkj42, hle87, hM, hsub⟩
    rw [hj88] at hM
    clear hj88
    refine run_sub_code hsub ?_
    refine run_ifb rfl rfl (fun hb45 => ?_) (fun hb45 => ?_)
    ·replace hM := ite_t hb45 hM
     refine run_sr ?_
     refine run_pu rfl (fieldAddr_step hG rfl rfl rfl rfl rfl) rfl (ltb rfl) ?_
     refine run_ld hG rfl rfl rfl rfl rfl (ltb rfl) ?_
     obtain ⟨r46, hg47, hM⟩ := bind_t hM
     refine run_call rfl rfl rfl (ltb rfl) rfl rfl rfl (fun _ h => absurd h List.not_mem_nil) (i_in_ok n4 0 100 hg47 _ _) (callK_retX (fun v tk48 (hle49 : tkj42 ≤ tk48) h50 => ?_))
     subst h50
     refine mvL rfl rfl rfl rfl (ltb rfl) ?_
     refine run_splitb (i := 27) rfl (fun hb53 => ?_) (fun hb53 => ?_)
     ·replace hM := ite_t hb53 hM
      refine run_puG (on_of rfl rfl rfl rfl) (fieldAddr_step hG rfl rfl rfl rfl rfl) rfl (ltb rfl) ?_
      refine run_rdG (on_of rfl rfl rfl rfl) (aload_rd hG rfl rfl rfl (by first | (simp [ldok]; done) | exact List.not_mem_nil | trivial)) rfl (ltb rfl) ?_
      refine run_puG (on_of rfl rfl rfl rfl) (abin_step rfl rfl rfl rfl (fun _ h => by cases h)) rfl (ltb rfl) ?_
      refine run_pu rfl (pick_step rfl rfl rfl) rfl (ltb rfl) ?_
      refine mvL rfl rfl rfl rfl (ltb rfl) ?_
      refine run_splitb (i := 32) rfl (fun hb54 => ?_) (fun hb54 => ?_)
      ·replace hM := ite_t hb54 hM
       refine run_puG (on_of rfl rfl rfl rfl) (move_step (.inl rfl) rfl) rfl (ltb rfl) ?_
       refine run_puG (on_of rfl rfl rfl rfl) (fieldAddr_step hG rfl rfl rfl rfl rfl) rfl (ltb rfl) ?_
       refine run_rdG (on_of rfl rfl rfl rfl) (aload_rd hG rfl rfl rfl (by first | (simp [ldok]; done) | exact List.not_mem_nil | trivial)) rfl (ltb rfl) ?_
       obtain ⟨r55, hg56, hM⟩ := bind_t hM
       refine run_callG (on_of rfl rfl rfl rfl) rfl rfl (ltb rfl) rfl rfl rfl (fun _ h => absurd h List.not_mem_nil) (ih_i_looker_args (.bor 0) c12 c13 q4 f4 ks4 hg56 _ _ rfl) (callK_retV_bor (k := 0) rfl (fun v o' tk' h => by obtain ⟨_, _, _, rfl, rfl, _⟩ := h; rfl) (fun v o'65 tk57 (hle58 : tk48 ≤ tk57) h59 => ?_))
       obtain ⟨ra64, c62, c63, rfl, rfl, rfl⟩ := h59
       refine run_pu rfl (pick_step rfl rfl rfl) rfl (ltb rfl) ?_
       refine mvR rfl rfl rfl rfl (ltb rfl) ?_
       refine run_ops_nil ?_
       refine run_ret_to ?_
       obtain rfl := some_t hM
       refine fin_x hG rfl rfl rfl (v' := .bool ra64) (by rfl) ⟨_, ⟨118, 2, true, [[.int .i64 c62, .bool c63]]⟩, rfl, rfl, (show tk ≤ tk57 by omega), ⟨_, c62, c63, rfl, rfl, rfl⟩⟩
      ·replace hM := ite_f hb54 hM
       refine run_off (on_of rfl rfl rfl rfl) rfl (ltb rfl) ?_
       refine run_off (on_of rfl rfl rfl rfl) rfl (ltb rfl) ?_
       refine run_off (on_of rfl rfl rfl rfl) rfl (ltb rfl) ?_
       refine run_off (on_of rfl rfl rfl rfl) rfl (ltb rfl) ?_
       refine run_pu rfl (pick_step rfl rfl rfl) rfl (ltb rfl) ?_
       refine mvR rfl rfl rfl rfl (ltb rfl) ?_
       refine run_ops_nil ?_
       refine run_ret_to ?_
       obtain rfl := some_t hM
       refine fin_x hG rfl rfl rfl (v' := .bool false) (by rfl) ⟨_, ⟨118, 2, true, [[.int .i64 c12, .bool c13]]⟩, rfl, rfl, (show tk ≤ tk48 by omega), ⟨_, c12, c13, rfl, rfl, rfl⟩⟩
     ·replace hM := ite_f hb53 hM
      refine run_off (on_of rfl rfl rfl rfl) rfl (ltb rfl) ?_
      refine run_off (on_of rfl rfl rfl rfl) rfl (ltb rfl) ?_
      refine run_off (on_of rfl rfl rfl rfl) rfl (ltb rfl) ?_
      refine run_pu rfl (pick_step rfl rfl rfl) rfl (ltb rfl) ?_
      refine mvL rfl rfl rfl rfl (ltb rfl) ?_
      refine run_off (on_of rfl rfl rfl rfl) rfl (ltb rfl) ?_
      refine run_off (on_of rfl rfl rfl rfl) rfl (ltb rfl) ?_
      refine run_off (on_of rfl rfl rfl rfl) rfl (ltb rfl) ?_
      refine run_off (on_of rfl rfl rfl rfl) rfl (ltb rfl) ?_
      refine run_pu rfl (pick_step rfl rfl rfl) rfl (ltb rfl) ?_
      refine mvR rfl rfl rfl rfl (ltb rfl) ?_
      refine run_ops_nil ?_
      refine run_ret_to ?_
      obtain rfl := some_t hM
      refine fin_x hG rfl rfl rfl (v' := .bool false) (by rfl) ⟨_, ⟨118, 2, true, [[.int .i64 c12, .bool c13]]⟩, rfl, rfl, (show tk ≤ tk48 by omega), ⟨_, c12, c13, rfl, rfl, rfl⟩⟩
    ·replace hM := ite_f hb45 hM
     refine run_sr ?_
     refine run_bin rfl rfl rfl rfl rfl rfl rfl (ltb rfl) ?_
     refine mvR rfl rfl rfl rfl (ltb rfl) ?_
     refine run_ops_nil ?_
     refine run_ifd rfl rfl (fun hb66 => ?_) (fun hb66 => ?_)
     ·replace hM := ite_t hb66 hM
      refine run_sr ?_
      refine run_pu rfl (fieldAddr_step hG rfl rfl rfl rfl rfl) rfl (ltb rfl) ?_
      refine run_ld hG rfl rfl rfl rfl rfl (ltb rfl) ?_
      refine run_bin rfl rfl rfl rfl rfl rfl rfl (ltb rfl) ?_
      refine mvL rfl rfl rfl rfl (ltb rfl) ?_
      refine run_splitd (i := 43) rfl (fun hb67 => ?_) (fun hb67 => ?_)
      ·replace hM := ite_t hb67 hM
       refine run_puG (on_of rfl rfl rfl rfl) (fieldAddr_step hG rfl rfl rfl rfl rfl) rfl (ltb rfl) ?_
       refine run_rdG (on_of rfl rfl rfl rfl) (aload_rd hG rfl rfl rfl (by first | (simp [ldok]; done) | exact List.not_mem_nil | trivial)) rfl (ltb rfl) ?_
       obtain ⟨r68, hg69, hM⟩ := bind_t hM
       refine run_callG (on_of rfl rfl rfl rfl) rfl rfl (ltb rfl) rfl rfl rfl (fun _ h => absurd h List.not_mem_nil) (i_NameOK_ok s4 hg69 _ _) (callK_retX (fun v tk70 (hle71 : tkj42 ≤ tk70) h72 => ?_))
       subst h72
       refine run_pu rfl (pick_step rfl rfl rfl) rfl (ltb rfl) ?_
       refine mvL rfl rfl rfl rfl (ltb rfl) ?_
       refine run_splitb (i := 48) rfl (fun hb75 => ?_) (fun hb75 => ?_)
       ·replace hM := ite_t hb75 hM
        refine run_puG (on_of rfl rfl rfl rfl) (move_step (.inl rfl) rfl) rfl (ltb rfl) ?_
        refine run_puG (on_of rfl rfl rfl rfl) (fieldAddr_step hG rfl rfl rfl rfl rfl) rfl (ltb rfl) ?_
        refine run_rdG (on_of rfl rfl rfl rfl) (aload_rd hG rfl rfl rfl (by first | (simp [ldok]; done) | exact List.not_mem_nil | trivial)) rfl (ltb rfl) ?_
        obtain ⟨r76, hg77, hM⟩ := bind_t hM
        refine run_callG (on_of rfl rfl rfl rfl) rfl rfl (ltb rfl) rfl rfl rfl (fun _ h => absurd h List.not_mem_nil) (ih_i_looker_args (.bor 0) c12 c13 q4 f4 ks4 hg77 _ _ rfl) (callK_retV_bor (k := 0) rfl (fun v o' tk' h => by obtain ⟨_, _, _, rfl, rfl, _⟩ := h; rfl) (fun v o'86 tk78 (hle79 : tk70 ≤ tk78) h80 => ?_))
        obtain ⟨ra85, c83, c84, rfl, rfl, rfl⟩ := h80
        refine run_pu rfl (pick_step rfl rfl rfl) rfl (ltb rfl) ?_
        refine mvR rfl rfl rfl rfl (ltb rfl) ?_
        refine run_ops_nil ?_
        refine run_ret_to ?_
        obtain rfl := some_t hM
        refine fin_x hG rfl rfl rfl (v' := .bool ra85) (by rfl) ⟨_, ⟨118, 2, true, [[.int .i64 c83, .bool c84]]⟩, rfl, rfl, (show tk ≤ tk78 by omega), ⟨_, c83, c84, rfl, rfl, rfl⟩⟩
       ·replace hM := ite_f hb75 hM
        refine run_off (on_of rfl rfl rfl rfl) rfl (ltb rfl) ?_
        refine run_off (on_of rfl rfl rfl rfl) rfl (ltb rfl) ?_
        refine run_off (on_of rfl rfl rfl rfl) rfl (ltb rfl) ?_
        refine run_off (on_of rfl rfl rfl rfl) rfl (ltb rfl) ?_
        refine run_pu rfl (pick_step rfl rfl rfl) rfl (ltb rfl) ?_
        refine mvR rfl rfl rfl rfl (ltb rfl) ?_
        refine run_ops_nil ?_
        refine run_ret_to ?_
        obtain rfl := some_t hM
        refine fin_x hG rfl rfl rfl (v' := .bool false) (by rfl) ⟨_, ⟨118, 2, true, [[.int .i64 c12, .bool c13]]⟩, rfl, rfl, (show tk ≤ tk70 by omega), ⟨_, c12, c13, rfl, rfl, rfl⟩⟩
      ·replace hM := ite_f hb67 hM
       refine run_off (on_of rfl rfl rfl rfl) rfl (ltb rfl) ?_
       refine run_off (on_of rfl rfl rfl rfl) rfl (ltb rfl) ?_
       refine run_off (on_of rfl rfl rfl rfl) rfl (ltb rfl) ?_
       refine run_pu rfl (pick_step rfl rfl rfl) rfl (ltb rfl) ?_
       refine mvL rfl rfl rfl rfl (ltb rfl) ?_
       refine run_off (on_of rfl rfl rfl rfl) rfl (ltb rfl) ?_
       refine run_off (on_of rfl rfl rfl rfl) rfl (ltb rfl) ?_
       refine run_off (on_of rfl rfl rfl rfl) rfl (ltb rfl) ?_
       refine run_off (on_of rfl rfl rfl rfl) rfl (ltb rfl) ?_
       refine run_pu rfl (pick_step rfl rfl rfl) rfl (ltb rfl) ?_
       refine mvR rfl rfl rfl rfl (ltb rfl) ?_
       refine run_ops_nil ?_
       refine run_ret_to ?_
       obtain rfl := some_t hM
       refine fin_x hG rfl rfl rfl (v' := .bool false) (by rfl) ⟨_, ⟨118, 2, true, [[.int .i64 c12, .bool c13]]⟩, rfl, rfl, (show tk ≤ tkj42 by omega), ⟨_, c12, c13, rfl, rfl, rfl⟩⟩
     ·replace hM := ite_f hb66 hM
      refine run_skip ?_
      refine run_blk ?_
      refine run_sr ?_
      refine mvR rfl rfl rfl rfl (ltb rfl) ?_
      refine run_ops_nil ?_
      refine run_ret_to ?_
      obtain rfl := some_t hM
      refine fin_x hG rfl rfl rfl (v' := .bool false) (by rfl) ⟨_, ⟨118, 2, true, [[.int .i64 c12, .bool c13]]⟩, rfl, rfl, (show tk ≤ tkj42 by omega), ⟨_, c12, c13, rfl, rfl, rfl⟩⟩

set_option maxRecDepth 100000 in
theorem i_looker_args_st (n : Nat) (ih_i_looker_term : ∀ (X0 : ID) (i2 : Int) (b3 : Bool) (k4 : Int) (n4 : Int) (s4 : ByteArray) (q4 : Nat) (f4 : Bool) (ks4 : List LT) {r : (Bool × (Int × Bool))}, i_looker_term n (i2, b3) (T.mk k4 n4 s4 (ers ks4)) = some r → ∀ (O : Heap) (tk : Nat), O X0 = some ⟨118, 2, true, [[.int .i64 i2, .bool b3]]⟩ → ACalls Go.Proofs.Tryd.prog 103 [.optr X0 0 0, .agg [.int .i64 k4, .int .i64 n4, .str s4, .imm q4 4 f4 (cellss ks4)]] O tk (RetV O X0 tk (fun v o' tk' => ∃ r0', ∃ (c0 : Int) (c1 : Bool) , r = (r0', (c0, c1)) ∧ o' = ⟨118, 2, true, [[.int .i64 c0, .bool c1]]⟩ ∧ v = .bool r0'))) : ∀ (X0 : ID) (i2 : Int) (b3 : Bool) (q4 : Nat) (f4 : Bool) (ks4 : List LT) {r : (Bool × (Int × Bool))}, i_looker_args (n + 1) (i2, b3) (ers ks4) = some r → ∀ (O : Heap) (tk : Nat), O X0 = some ⟨118, 2, true, [[.int .i64 i2, .bool b3]]⟩ → ACalls Go.Proofs.Tryd.prog 139 [.optr X0 0 0, .imm q4 4 f4 (cellss ks4)] O tk (RetV O X0 tk (fun v o' tk' => ∃ r0', ∃ (c0 : Int) (c1 : Bool) , r = (r0', (c0, c1)) ∧ o' = ⟨118, 2, true, [[.int .i64 c0, .bool c1]]⟩ ∧ v = .bool r0')) := by
 intro X0 i2 b3 q4 f4 ks4 r hM O tk hX0
 rw [i_looker_args] at hM
 refine acalls_of_run Go.Proofs.Tryd.func139 rfl rfl [X0] [⟨118, 2, true, [[.int .i64 i2, .bool b3]]⟩] (Bor.one hX0 rfl) [(0, .optr (.bor 0) 0 0), (1, .imm q4 4 f4 (cellss ks4))] (.cons (.bor 0 _ _ _ rfl) (.cons (entS rfl) (.nil _))) (leb rfl) (by intro y h; simp only [List.mem_cons, List.not_mem_nil, or_false] at h; rcases h with rfl <;> simp [tch, tch0]) (fun S0 hO htk hfz => ?_)
 refine run_sr ?_
 refine mvR rfl rfl rfl rfl (ltb rfl) ?_
 refine run_ops_nil ?_
 refine run_seq ?_
 refine run_sr ?_
 refine mvL rfl rfl rfl rfl (ltb rfl) ?_
 refine run_pu rfl (lenImm_step hG rfl rfl rfl rfl (tlen _)) rfl (ltb rfl) ?_
 refine mvL rfl rfl rfl rfl (ltb rfl) ?_
 refine run_ops_nil ?_
 refine run_block ?_
 refine run_rounds (fun m σ => ∃ (i5 : Int) (i6 : Int) (b7 : Bool) (tki_looker_args_L1 : Nat), tk ≤ tki_looker_args_L1 ∧ i_looker_args_L1 (i_looker_term n) (ers ks4) m i5 i6 b7 = some r ∧ σ = ⟨[(0, .optr (.bor 0) 0 0), (4, .bool false), (7, .imm q4 4 f4 (cellss ks4)), (8, .int .i64 (((ers ks4)).length : Int)), (9, .int .i64 i5)], [], [⟨118, 2, true, [[.int .i64 i6, .bool b7]]⟩], O, tki_looker_args_L1⟩) n (Sub.env [(0, .optr (.bor 0) 0 0), (4, .bool false), (7, .imm q4 4 f4 (cellss ks4)), (8, .int .i64 (((ers ks4)).length : Int)), (9, .int .i64 0)] ⟨rfl, rfl, rfl, rfl, rfl, trivial⟩) ⟨0, i2, b3, tk, Nat.le_refl _, hM, rfl⟩ (fun m σ hI => ?_)
 clear hM
 obtain ⟨i5, i6, b7, tki_looker_args_L1, hle60, hM, rfl⟩ := hI
 obtain _ | m := m
 ·exact absurd hM (by rw [i_looker_args_L1]; exact fun h => by cases h)
 rw [i_looker_args_L1] at hM
 refine run_sr ?_
 refine run_bin rfl rfl rfl rfl rfl rfl rfl (ltb rfl) ?_
 refine run_ops_nil ?_
 refine run_seq ?_
 refine run_ifd rfl rfl (fun hb8 => ?_) (fun hb8 => ?_)
 ·replace hM := ite_t hb8 hM
  refine run_skip ?_
  refine run_seq ?_
  refine run_block ?_
  refine run_sr ?_
  obtain ⟨y9, hy10, hM⟩ := bind_t hM
  obtain ⟨k11, n11, s11, q11, f11, ks11, rfl, hc12, hi13⟩ := tidx (ks := ks4) hy10
  refine run_pu rfl (indexImm_step hG rfl rfl rfl hi13 rfl rfl rfl rfl hc12) rfl (ltb rfl) ?_
  refine run_ld hG rfl rfl rfl rfl rfl (ltb rfl) ?_
  refine run_op rfl (alloc_step (d := 6) hG rfl rfl rfl) rfl (ltb rfl) ?_
  refine run_op0 rfl (store_step hG rfl rfl rfl rfl rfl rfl rfl rfl) rfl ?_
  refine run_ops_nil ?_
  refine run_sr ?_
  refine mvL rfl rfl rfl rfl (ltb rfl) ?_
  refine run_pu rfl (nilCheck_step rfl rfl ⟨_, rfl⟩) rfl (ltb rfl) ?_
  refine run_pu rfl (fieldAddr_step hG rfl rfl rfl rfl rfl) rfl (ltb rfl) ?_
  refine run_ld hG rfl rfl rfl rfl rfl (ltb rfl) ?_
  refine mvL rfl rfl rfl rfl (ltb rfl) ?_
  refine run_splitb (i := 17) rfl (fun hb14 => ?_) (fun hb14 => ?_)
  ·replace hM := ite_t hb14 hM
   refine run_puG (on_of rfl rfl rfl rfl) (fieldAddr_step hG rfl rfl rfl rfl rfl) rfl (ltb rfl) ?_
   refine run_rdG (on_of rfl rfl rfl rfl) (aload_rd hG rfl rfl rfl (by first | (simp [ldok]; done) | exact List.not_mem_nil | trivial)) rfl (ltb rfl) ?_
   refine run_puG (on_of rfl rfl rfl rfl) (abin_step rfl rfl rfl rfl (fun _ h => by cases h)) rfl (ltb rfl) ?_
   refine run_pu rfl (pick_step rfl rfl rfl) rfl (ltb rfl) ?_
   refine run_ops_nil ?_
   refine run_sub_code (σ' := ⟨[(0, .optr (.bor 0) 0 0), (4, .bool false), (7, .imm q4 4 f4 (cellss ks4)), (8, .int .i64 (((ers ks4)).length : Int)), (9, .int .i64 i5), (6, .optr (.loc 6) 0 0), (21, .bool (k11 == 8))], [(6, ⟨25, 4, true, [[.int .i64 k11, .int .i64 n11, .str s11, .imm q11 4 f11 (cellss ks11)]]⟩)], [⟨118, 2, true, [[.int .i64 i6, .bool b7]]⟩], O, tki_looker_args_L1⟩) (Sub.env _ ⟨rfl, rfl, rfl, rfl, rfl, rfl, rfl, trivial⟩) ?_
   refine run_ifd rfl rfl (fun hb15 => ?_) (fun hb15 => ?_)
   ·replace hM := ite_t hb15 hM
    refine run_sr ?_
    refine run_sub_ops (Sub.frbox (k := 6) (env' := [(0, .optr (.bor 0) 0 0), (4, .bool false), (7, .imm q4 4 f4 (cellss ks4)), (8, .int .i64 (((ers ks4)).length : Int)), (9, .int .i64 i5), (6, .cptr [.int .i64 k11, .int .i64 n11, .str s11, .imm q11 4 f11 (cellss ks11)]), (21, .bool (k11 == 8))]) rfl rfl (.keep 0 _ _ rfl (.keep 4 _ _ rfl (.keep 7 _ _ rfl (.keep 8 _ _ rfl (.keep 9 _ _ rfl (.ptr 6 0 _ rfl (.keep 21 _ _ rfl .nil)))))))) ?_
    obtain ⟨r16, hg17, hM⟩ := bind_t hM
    refine run_call rfl rfl rfl (ltb rfl) rfl rfl rfl (fun _ h => absurd h List.not_mem_nil) (i_Tree_bare__c_ok k11 n11 s11 q11 f11 ks11 0 hg17 _ _) (callK_retX (fun v tk18 (hle19 : tki_looker_args_L1 ≤ tk18) h20 => ?_))
    subst h20
    refine run_pu rfl (aun_step rfl rfl rfl) rfl (ltb rfl) ?_
    refine mvL rfl rfl rfl rfl (ltb rfl) ?_
    refine run_splitb (i := 24) rfl (fun hb23 => ?_) (fun hb23 => ?_)
    ·replace hM := ite_t hb23 hM
     refine run_off (on_of rfl rfl rfl rfl) rfl (ltb rfl) ?_
     refine run_off (on_of rfl rfl rfl rfl) rfl (ltb rfl) ?_
     refine run_off (on_of rfl rfl rfl rfl) rfl (ltb rfl) ?_
     refine run_pu rfl (pick_step rfl rfl rfl) rfl (ltb rfl) ?_
     refine run_ops_nil ?_
     refine run_if rfl rfl (fun _ => ?_) (fun h => by cases h)
     refine run_sr ?_
     refine mvR rfl rfl rfl rfl (ltb rfl) ?_
     refine run_ops_nil ?_
     refine run_ret_to ?_
     obtain rfl := some_t hM
     refine fin_x hG rfl rfl rfl (v' := .bool false) (by rfl) ⟨_, ⟨118, 2, true, [[.int .i64 i6, .bool b7]]⟩, rfl, rfl, (show tk ≤ tk18 by omega), ⟨_, i6, b7, rfl, rfl, rfl⟩⟩
    ·replace hM := ite_f hb23 hM
     refine run_puG (on_of rfl rfl rfl rfl) (move_step (.inl rfl) rfl) rfl (ltb rfl) ?_
     obtain ⟨r24, hg25, hM⟩ := bind_t hM
     refine run_callG (on_of rfl rfl rfl rfl) rfl rfl (ltb rfl) rfl rfl rfl (fun _ h => absurd h List.not_mem_nil) (i_looker_node_ok (.bor 0) i6 b7 hg25 _ _ rfl) (callK_retV_bor (k := 0) rfl (fun v o' tk' h => by obtain ⟨_, _, _, rfl, rfl, _⟩ := h; rfl) (fun v o'34 tk26 (hle27 : tk18 ≤ tk26) h28 => ?_))
     obtain ⟨ra33, c31, c32, rfl, rfl, rfl⟩ := h28
     refine run_puG (on_of rfl rfl rfl rfl) (aun_step rfl rfl rfl) rfl (ltb rfl) ?_
     refine run_pu rfl (pick_step rfl rfl rfl) rfl (ltb rfl) ?_
     refine run_ops_nil ?_
     refine run_ifb rfl rfl (fun hb35 => ?_) (fun hb35 => ?_)
     ·replace hM := ite_t hb35 hM
      refine run_sr ?_
      refine mvR rfl rfl rfl rfl (ltb rfl) ?_
      refine run_ops_nil ?_
      refine run_ret_to ?_
      obtain rfl := some_t hM
      refine fin_x hG rfl rfl rfl (v' := .bool false) (by rfl) ⟨_, ⟨118, 2, true, [[.int .i64 c31, .bool c32]]⟩, rfl, rfl, (show tk ≤ tk26 by omega), ⟨_, c31, c32, rfl, rfl, rfl⟩⟩
     ·replace hM := ite_f hb35 hM
      refine run_skip ?_
      refine run_blk ?_
      refine run_region ?_
      refine run_bin rfl rfl rfl rfl rfl rfl rfl (ltb rfl) ?_
      refine mvL rfl rfl rfl rfl (ltb rfl) ?_
      refine run_ops_nil ?_
      exact run_loop_end ⟨m, _, Nat.lt_succ_self _, ⟨(IntKind.i64.wrap (i5 + 1)), c31, c32, tk26, (show tk ≤ tk26 by omega), hM, rfl⟩, Sub.env [(0, .optr (.bor 0) 0 0), (4, .bool false), (7, .imm q4 4 f4 (cellss ks4)), (8, .int .i64 (((ers ks4)).length : Int)), (9, .int .i64 (IntKind.i64.wrap (i5 + 1)))] ⟨rfl, rfl, rfl, rfl, rfl, trivial⟩⟩
   ·replace hM := ite_f hb15 hM
    refine run_sr ?_
    refine mvL rfl rfl rfl rfl (ltb rfl) ?_
    refine run_ld hG rfl rfl rfl rfl rfl (ltb rfl) ?_
    obtain ⟨r36, hg37, hM⟩ := bind_t hM
    refine run_call rfl rfl rfl (ltb rfl) rfl rfl rfl (fun _ h => absurd h List.not_mem_nil) (ih_i_looker_term (.bor 0) i6 b7 k11 n11 s11 q11 f11 ks11 hg37 _ _ rfl) (callK_retV_bor (k := 0) rfl (fun v o' tk' h => by obtain ⟨_, _, _, rfl, rfl, _⟩ := h; rfl) (fun v o'46 tk38 (hle39 : tki_looker_args_L1 ≤ tk38) h40 => ?_))
    obtain ⟨ra45, c43, c44, rfl, rfl, rfl⟩ := h40
    refine run_pu rfl (aun_step rfl rfl rfl) rfl (ltb rfl) ?_
    refine run_ops_nil ?_
    refine run_ifb rfl rfl (fun hb47 => ?_) (fun hb47 => ?_)
    ·replace hM := ite_t hb47 hM
     refine run_sr ?_
     refine mvR rfl rfl rfl rfl (ltb rfl) ?_
     refine run_ops_nil ?_
     refine run_ret_to ?_
     obtain rfl := some_t hM
     refine fin_x hG rfl rfl rfl (v' := .bool false) (by rfl) ⟨_, ⟨118, 2, true, [[.int .i64 c43, .bool c44]]⟩, rfl, rfl, (show tk ≤ tk38 by omega), ⟨_, c43, c44, rfl, rfl, rfl⟩⟩
    ·replace hM := ite_f hb47 hM
     refine run_skip ?_
     refine run_blk ?_
     refine run_region ?_
     refine run_bin rfl rfl rfl rfl rfl rfl rfl (ltb rfl) ?_
     refine mvL rfl rfl rfl rfl (ltb rfl) ?_
     refine run_ops_nil ?_
     exact run_loop_end ⟨m, _, Nat.lt_succ_self _, ⟨(IntKind.i64.wrap (i5 + 1)), c43, c44, tk38, (show tk ≤ tk38 by omega), hM, rfl⟩, Sub.trans (Sub.drop (k := 6) rfl) (Sub.env [(0, .optr (.bor 0) 0 0), (4, .bool false), (7, .imm q4 4 f4 (cellss ks4)), (8, .int .i64 (((ers ks4)).length : Int)), (9, .int .i64 (IntKind.i64.wrap (i5 + 1)))] ⟨rfl, rfl, rfl, rfl, rfl, trivial⟩)⟩
  ·replace hM := ite_f hb14 hM
   refine run_off (on_of rfl rfl rfl rfl) rfl (ltb rfl) ?_
   refine run_off (on_of rfl rfl rfl rfl) rfl (ltb rfl) ?_
   refine run_off (on_of rfl rfl rfl rfl) rfl (ltb rfl) ?_
   refine run_pu rfl (pick_step rfl rfl rfl) rfl (ltb rfl) ?_
   refine run_ops_nil ?_
   refine run_if rfl rfl (fun h => by cases h) (fun _ => ?_)
   refine run_sr ?_
   refine mvL rfl rfl rfl rfl (ltb rfl) ?_
   refine run_ld hG rfl rfl rfl rfl rfl (ltb rfl) ?_
   obtain ⟨r48, hg49, hM⟩ := bind_t hM
   refine run_call rfl rfl rfl (ltb rfl) rfl rfl rfl (fun _ h => absurd h List.not_mem_nil) (ih_i_looker_term (.bor 0) i6 b7 k11 n11 s11 q11 f11 ks11 hg49 _ _ rfl) (callK_retV_bor (k := 0) rfl (fun v o' tk' h => by obtain ⟨_, _, _, rfl, rfl, _⟩ := h; rfl) (fun v o'58 tk50 (hle51 : tki_looker_args_L1 ≤ tk50) h52 => ?_))
   obtain ⟨ra57, c55, c56, rfl, rfl, rfl⟩ := h52
   refine run_pu rfl (aun_step rfl rfl rfl) rfl (ltb rfl) ?_
   refine run_ops_nil ?_
   refine run_sub_code (σ' := ⟨[(0, .optr (.bor 0) 0 0), (4, .bool false), (7, .imm q4 4 f4 (cellss ks4)), (8, .int .i64 (((ers ks4)).length : Int)), (9, .int .i64 i5), (32, .bool (!ra57))], [], [⟨118, 2, true, [[.int .i64 c55, .bool c56]]⟩], O, tk50⟩) (Sub.trans (Sub.drop (k := 6) rfl) (Sub.env _ ⟨rfl, rfl, rfl, rfl, rfl, rfl, trivial⟩)) ?_
   refine run_ifb rfl rfl (fun hb59 => ?_) (fun hb59 => ?_)
   ·replace hM := ite_t hb59 hM
    refine run_sr ?_
    refine mvR rfl rfl rfl rfl (ltb rfl) ?_
    refine run_ops_nil ?_
    refine run_ret_to ?_
    obtain rfl := some_t hM
    refine fin_x hG rfl rfl rfl (v' := .bool false) (by rfl) ⟨_, ⟨118, 2, true, [[.int .i64 c55, .bool c56]]⟩, rfl, rfl, (show tk ≤ tk50 by omega), ⟨_, c55, c56, rfl, rfl, rfl⟩⟩
   ·replace hM := ite_f hb59 hM
    refine run_skip ?_
    refine run_blk ?_
    refine run_region ?_
    refine run_bin rfl rfl rfl rfl rfl rfl rfl (ltb rfl) ?_
    refine mvL rfl rfl rfl rfl (ltb rfl) ?_
    refine run_ops_nil ?_
    exact run_loop_end ⟨m, _, Nat.lt_succ_self _, ⟨(IntKind.i64.wrap (i5 + 1)), c55, c56, tk50, (show tk ≤ tk50 by omega), hM, rfl⟩, Sub.env [(0, .optr (.bor 0) 0 0), (4, .bool false), (7, .imm q4 4 f4 (cellss ks4)), (8, .int .i64 (((ers ks4)).length : Int)), (9, .int .i64 (IntKind.i64.wrap (i5 + 1)))] ⟨rfl, rfl, rfl, rfl, rfl, trivial⟩⟩
 ·replace hM := ite_f hb8 hM
  refine run_exit_to rfl ?_
  refine run_sr ?_
  refine mvR rfl rfl rfl rfl (ltb rfl) ?_
  refine run_ops_nil ?_
  refine run_ret_to ?_
  obtain rfl := some_t hM
  refine fin_x hG rfl rfl rfl (v' := .bool true) (by rfl) ⟨_, ⟨118, 2, true, [[.int .i64 i6, .bool b7]]⟩, rfl, rfl, (show tk ≤ tki_looker_args_L1 by omega), ⟨_, i6, b7, rfl, rfl, rfl⟩⟩

theorem i_looker_term_all : ∀ (n : Nat), (∀ (X0 : ID) (i2 : Int) (b3 : Bool) (k4 : Int) (n4 : Int) (s4 : ByteArray) (q4 : Nat) (f4 : Bool) (ks4 : List LT) {r : (Bool × (Int × Bool))}, i_looker_term n (i2, b3) (T.mk k4 n4 s4 (ers ks4)) = some r → ∀ (O : Heap) (tk : Nat), O X0 = some ⟨118, 2, true, [[.int .i64 i2, .bool b3]]⟩ → ACalls Go.Proofs.Tryd.prog 103 [.optr X0 0 0, .agg [.int .i64 k4, .int .i64 n4, .str s4, .imm q4 4 f4 (cellss ks4)]] O tk (RetV O X0 tk (fun v o' tk' => ∃ r0', ∃ (c0 : Int) (c1 : Bool) , r = (r0', (c0, c1)) ∧ o' = ⟨118, 2, true, [[.int .i64 c0, .bool c1]]⟩ ∧ v = .bool r0'))) ∧ (∀ (X0 : ID) (i2 : Int) (b3 : Bool) (q4 : Nat) (f4 : Bool) (ks4 : List LT) {r : (Bool × (Int × Bool))}, i_looker_args n (i2, b3) (ers ks4) = some r → ∀ (O : Heap) (tk : Nat), O X0 = some ⟨118, 2, true, [[.int .i64 i2, .bool b3]]⟩ → ACalls Go.Proofs.Tryd.prog 139 [.optr X0 0 0, .imm q4 4 f4 (cellss ks4)] O tk (RetV O X0 tk (fun v o' tk' => ∃ r0', ∃ (c0 : Int) (c1 : Bool) , r = (r0', (c0, c1)) ∧ o' = ⟨118, 2, true, [[.int .i64 c0, .bool c1]]⟩ ∧ v = .bool r0')))
 | 0 => ⟨(by intro X0 i2 b3 k4 n4 s4 q4 f4 ks4 r hM; rw [i_looker_term] at hM; cases hM), (by intro X0 i2 b3 q4 f4 ks4 r hM; rw [i_looker_args] at hM; cases hM)⟩
 | n + 1 => have ih := i_looker_term_all n; ⟨i_looker_term_st n (ih.1) (ih.2), i_looker_args_st n (ih.1)⟩

theorem i_looker_term_ok (n : Nat) : ∀ (X0 : ID) (i2 : Int) (b3 : Bool) (k4 : Int) (n4 : Int) (s4 : ByteArray) (q4 : Nat) (f4 : Bool) (ks4 : List LT) {r : (Bool × (Int × Bool))}, i_looker_term n (i2, b3) (T.mk k4 n4 s4 (ers ks4)) = some r → ∀ (O : Heap) (tk : Nat), O X0 = some ⟨118, 2, true, [[.int .i64 i2, .bool b3]]⟩ → ACalls Go.Proofs.Tryd.prog 103 [.optr X0 0 0, .agg [.int .i64 k4, .int .i64 n4, .str s4, .imm q4 4 f4 (cellss ks4)]] O tk (RetV O X0 tk (fun v o' tk' => ∃ r0', ∃ (c0 : Int) (c1 : Bool) , r = (r0', (c0, c1)) ∧ o' = ⟨118, 2, true, [[.int .i64 c0, .bool c1]]⟩ ∧ v = .bool r0')) := (i_looker_term_all n).1

def i_TermOK (n : Nat) (x1 : T) : Option Bool :=
 (i_looker_term n (150, false) x1).bind fun r2 =>
 some r2.1

set_option maxRecDepth 100000 in
theorem i_TermOK_ok (n : Nat) : ∀ (k1 : Int) (n1 : Int) (s1 : ByteArray) (q1 : Nat) (f1 : Bool) (ks1 : List LT) {r : Bool}, i_TermOK n (T.mk k1 n1 s1 (ers ks1)) = some r → ∀ (O : Heap) (tk : Nat), ACalls Go.Proofs.Tryd.prog 57 [.agg [.int .i64 k1, .int .i64 n1, .str s1, .imm q1 4 f1 (cellss ks1)]] O tk (RetX O tk (fun v tk' => v = .bool r)) := by
 intro k1 n1 s1 q1 f1 ks1 r hM O tk
 unfold i_TermOK at hM
 refine acalls_of_run Go.Proofs.Tryd.func57 rfl rfl [] [] (Bor.nil _) [(0, .agg [.int .i64 k1, .int .i64 n1, .str s1, .imm q1 4 f1 (cellss ks1)])] (.cons (.agg _) (.nil _)) (leb rfl) (fun _ h => by cases h) (fun S0 hO htk hfz => ?_)
 refine run_sr ?_
 refine run_op rfl (box_step (d := 1) rfl rfl rfl rfl rfl) rfl (ltb rfl) ?_
 refine mvR rfl rfl rfl rfl (ltb rfl) ?_
 refine run_ops_nil ?_
 refine run_seq ?_
 refine run_draw [] (n := 4) mixed rfl (fun _ h => absurd h List.not_mem_nil) ?_
 refine AAny.take (i := 1) rfl (by kernel_rfl) (by kernel_rfl) (by kernel_rfl) rfl rfl (ltb rfl) (aload_rd hG rfl rfl rfl (by first | (simp [ldok]; done) | exact List.not_mem_nil | trivial)) ?_
 refine AAny.callBox (i := 0) (ob := ⟨118, 2, true, [[.int .i64 150, .bool false]]⟩) (by kernel_rfl) rfl rfl rfl rfl (ltb rfl) rfl rfl rfl rfl (i_fresh_box _ _) rfl (fun out O' tk' h => h) ?_
 obtain ⟨r2, hg3, hM⟩ := bind_t hM
 refine AAny.one (i := 2) (by kernel_rfl) (AOp.call rfl rfl rfl rfl (ltb rfl) rfl rfl rfl (fun _ h => absurd h List.not_mem_nil) (by intro x hx; simp only [tch, tch0, List.nil_append, List.append_nil, List.mem_cons, List.not_mem_nil, or_false] at hx; subst hx; simp) (i_looker_term_ok n (.loc 3) 150 false k1 n1 s1 q1 f1 ks1 hg3 _ _ rfl) (callK_retV_loc (k := 3) rfl (fun v o'12 tk4 (hle5 : tk ≤ tk4) h6 => ?_)))
 obtain ⟨ra11, c9, c10, rfl, rfl, rfl⟩ := h6
 refine AAny.take (i := 3) rfl (by kernel_rfl) (by kernel_rfl) (by kernel_rfl) rfl rfl (ltb rfl) ((move_step (.inr rfl) rfl).rd _) ?_
 refine AAny.done (by kernel_rfl) ?_
 refine run_ret_to ?_
 obtain rfl := some_t hM
 refine fin_x hG rfl rfl rfl (v' := .bool ra11) (by rfl) ⟨rfl, (show tk ≤ tk4 by omega), _, rfl, rfl⟩

def s_l01Terms_L1 (rec_s_l01Term : T → Bool → Option Bool) (l1 : List T) (b2 : Bool) : Nat → Int → Option Bool
 | 0, _ => none
 | m + 1, i3 =>
  if i3 < ((l1).length : Int) then
   if b2 = true then
    (idx l1 i3).bind fun y6 =>
    if y6.kind = 8 then
     (idx l1 i3).bind fun y12 =>
     if (y12.n != 0) = true then
      some false
     else
      (idx l1 i3).bind fun y18 =>
      if (!(y18.name.toList == (⟨#[]⟩ : ByteArray).toList)) = true then
       some false
      else
       (idx l1 i3).bind fun y24 =>
       if (((y24.kids).length : Int) != 0) = true then
        some false
       else
        s_l01Terms_L1 rec_s_l01Term l1 b2 m (IntKind.i64.wrap (i3 + 1))
    else
     (idx l1 i3).bind fun y30 =>
     (rec_s_l01Term y30 b2).bind fun r35 =>
     if (!r35) = true then
      some false
     else
      s_l01Terms_L1 rec_s_l01Term l1 b2 m (IntKind.i64.wrap (i3 + 1))
   else
    (idx l1 i3).bind fun y43 =>
    (rec_s_l01Term y43 b2).bind fun r48 =>
    if (!r48) = true then
     some false
    else
     s_l01Terms_L1 rec_s_l01Term l1 b2 m (IntKind.i64.wrap (i3 + 1))
  else
   some true

mutual

def s_l01Term : Nat → T → Bool → Option Bool
 | 0, _, _ => none
 | n + 1, x1, b2 =>
  if x1.kind = 4 then
   if x1.n = 0 then
    if (x1.name.toList == (⟨#[]⟩ : ByteArray).toList) = true then
     if ((x1.kids).length : Int) = 1 then
      (idx x1.kids 0).bind fun y7 =>
      (s_l01Term n y7 b2).bind fun r12 =>
      some r12
     else
      some false
    else
     some false
   else
    some false
  else
   jn (fun (b20 : Bool) =>
    if b20 = true then
     if x1.n ≥ 0 then
      if x1.n ≤ 100 then
       if (x1.name.toList == (⟨#[]⟩ : ByteArray).toList) = true then
        (s_l01Terms n x1.kids b2).bind fun r26 =>
        some r26
       else
        some false
      else
       some false
     else
      some false
    else
     if x1.kind = 6 then
      if x1.n = 0 then
       (s_NameOK n x1.name).bind fun r35 =>
       if r35 = true then
        (s_l01Terms n x1.kids b2).bind fun r43 =>
        some r43
       else
        some false
      else
       some false
     else
      some false) fun j19 =>
   if x1.kind = 5 then
    j19 (x1.kind == 5)
   else
    j19 (x1.kind == 7)

def s_l01Terms : Nat → List T → Bool → Option Bool
 | 0, _, _ => none
 | n + 1, l1, b2 =>
  s_l01Terms_L1 (s_l01Term n) l1 b2 n 0

end

end Go.Am.YtaedacibojpfkaaDoor
