/- Printed by a program of ours: Lean functions that do what the Go functions do, and the contracts. -/
import Derived.Test.YtoajlhhalpldfaaGreatDoorMl0
import Derived.Test.YtoajlhhalpldfaaGreatDoorTypes
import Derived.Test.YtoajlhhalpldfaaGreatDoorDkB
import Derived.Test.YtoajlhhalpldfaaGreatDoorMz
-- packed
namespace Go.Am.YtoajlhhalpldfaaGreatDoor
open Go Go.Am

def i_Tree_bare__c (x1 : T) (i2 : Int) : Option Bool :=
 if x1.n = 0 then
  if (x1.name.toList == (⟨#[]⟩ : ByteArray).toList) = true then
   some (((x1.kids).length : Int) == i2)
  else
   some false
 else
  some false

set_option maxRecDepth 100000 in
theorem i_Tree_bare__c_ok : ∀ (k1 : Int) (n1 : Int) (s1 : ByteArray) (q1 : Nat) (f1 : Bool) (ks1 : List LT) (i2 : Int) {r : Bool}, i_Tree_bare__c (T.mk k1 n1 s1 (ers ks1)) i2 = some r → ∀ (O : Heap) (tk : Nat), ACalls Go.Proofs.Tryz.prog 92 [.cptr [.int .i64 k1, .int .i64 n1, .str s1, .imm q1 4 f1 (cellss ks1)], .int .i64 i2] O tk (RetX O tk (fun v tk' => v = .bool r)) := by
 intro k1 n1 s1 q1 f1 ks1 i2 r hM O tk
 unfold i_Tree_bare__c at hM
 refine acalls_of_run Go.Proofs.Tryz.func92 rfl rfl [] [] (Bor.nil _) [(0, .cptr [.int .i64 k1, .int .i64 n1, .str s1, .imm q1 4 f1 (cellss ks1)]), (1, .int .i64 i2)] (.cons (.cptr _) (.cons (entS rfl) (.nil _))) (leb rfl) (fun _ h => by cases h) (fun S0 hO htk hfz => ?_)
 refine run_sr ?_
 refine yR rfl ?_
 refine yN ?_
 refine run_sr ?_
 refine yL rfl ?_
 refine run_pu rfl (nilCheck_step rfl rfl ⟨_, rfl⟩) rfl (ltb rfl) ?_
 refine yF hG rfl ?_
 refine yD hG rfl ?_
 refine yB rfl ?_
 refine yL rfl ?_
 refine run_splitd (i := 10) rfl (fun hb3 => ?_) (fun hb3 => ?_)
 ·replace hM := ite_t hb3 hM
  refine run_puG (on_of rfl rfl rfl rfl) (move_step (.inl rfl) rfl) rfl (ltb rfl) ?_
  refine run_puG (on_of rfl rfl rfl rfl) (nilCheck_step rfl rfl ⟨_, rfl⟩) rfl (ltb rfl) ?_
  refine run_puG (on_of rfl rfl rfl rfl) (fieldAddr_step hG rfl rfl rfl rfl rfl) rfl (ltb rfl) ?_
  refine run_rdG (on_of rfl rfl rfl rfl) (aload_rd hG rfl rfl rfl (by first | (simp [ldok]; done) | exact List.not_mem_nil | trivial)) rfl (ltb rfl) ?_
  refine run_puG (on_of rfl rfl rfl rfl) (abin_step rfl rfl rfl rfl (fun _ h => by cases h)) rfl (ltb rfl) ?_
  refine yP rfl ?_
  refine yL rfl ?_
  refine run_splitb (i := 17) rfl (fun hb4 => ?_) (fun hb4 => ?_)
  ·replace hM := ite_t hb4 hM
   refine run_puG (on_of rfl rfl rfl rfl) (move_step (.inl rfl) rfl) rfl (ltb rfl) ?_
   refine run_puG (on_of rfl rfl rfl rfl) (nilCheck_step rfl rfl ⟨_, rfl⟩) rfl (ltb rfl) ?_
   refine run_puG (on_of rfl rfl rfl rfl) (fieldAddr_step hG rfl rfl rfl rfl rfl) rfl (ltb rfl) ?_
   refine run_rdG (on_of rfl rfl rfl rfl) (aload_rd hG rfl rfl rfl (by first | (simp [ldok]; done) | exact List.not_mem_nil | trivial)) rfl (ltb rfl) ?_
   refine run_puG (on_of rfl rfl rfl rfl) (lenImm_step hG rfl rfl rfl rfl (tlen _)) rfl (ltb rfl) ?_
   refine run_puG (on_of rfl rfl rfl rfl) (move_step (.inl rfl) rfl) rfl (ltb rfl) ?_
   refine run_puG (on_of rfl rfl rfl rfl) (abin_step rfl rfl rfl rfl (fun _ h => by cases h)) rfl (ltb rfl) ?_
   refine yP rfl ?_
   refine yR rfl ?_
   refine yN ?_
   refine run_ret_to ?_
   replace hM := some_t hM
   subst hM
   refine fin_x hG rfl rfl rfl (v' := .bool ((((ers ks1)).length : Int) == i2)) (by rfl) ⟨rfl, (show tk ≤ tk by omega), _, rfl, rfl⟩
  replace hM := ite_f hb4 hM
  refine yO rfl ?_
  refine yO rfl ?_
  refine yO rfl ?_
  refine yO rfl ?_
  refine yO rfl ?_
  refine yO rfl ?_
  refine yO rfl ?_
  refine yP rfl ?_
  refine yR rfl ?_
  refine yN ?_
  refine run_ret_to ?_
  replace hM := some_t hM
  subst hM
  refine fin_x hG rfl rfl rfl (v' := .bool false) (by rfl) ⟨rfl, (show tk ≤ tk by omega), _, rfl, rfl⟩
 replace hM := ite_f hb3 hM
 refine yO rfl ?_
 refine yO rfl ?_
 refine yO rfl ?_
 refine yO rfl ?_
 refine yO rfl ?_
 refine yP rfl ?_
 refine yL rfl ?_
 refine yO rfl ?_
 refine yO rfl ?_
 refine yO rfl ?_
 refine yO rfl ?_
 refine yO rfl ?_
 refine yO rfl ?_
 refine yO rfl ?_
 refine yP rfl ?_
 refine yR rfl ?_
 refine yN ?_
 refine run_ret_to ?_
 replace hM := some_t hM
 subst hM
 refine fin_x hG rfl rfl rfl (v' := .bool false) (by rfl) ⟨rfl, (show tk ≤ tk by omega), _, rfl, rfl⟩

def i_looker_args_L1 (rec_i_looker_term : (Int × Bool) → T → Option (Bool × (Int × Bool))) (l4 : List T) : Nat → Int → Int → Bool → Option (Bool × (Int × Bool))
 | 0, _, _, _ => none
 | m + 1, i5, i6, b7 =>
  if i5 < ((l4).length : Int) then
   (idx l4 i5).bind fun y9 =>
   if b7 = true then
    if y9.kind = 8 then
     (i_Tree_bare__c y9 0).bind fun r16 =>
     if (!r16) = true then
      some (false, (i6, b7))
     else
      (i_looker_node (i6, b7)).bind fun r24 =>
      if (!r24.1) = true then
       some (false, (r24.2.1, r24.2.2))
      else
       i_looker_args_L1 rec_i_looker_term l4 m (IntKind.i64.wrap (i5 + 1)) r24.2.1 r24.2.2
    else
     (rec_i_looker_term (i6, b7) y9).bind fun r36 =>
     if (!r36.1) = true then
      some (false, (r36.2.1, r36.2.2))
     else
      i_looker_args_L1 rec_i_looker_term l4 m (IntKind.i64.wrap (i5 + 1)) r36.2.1 r36.2.2
   else
    (rec_i_looker_term (i6, b7) y9).bind fun r48 =>
    if (!r48.1) = true then
     some (false, (r48.2.1, r48.2.2))
    else
     i_looker_args_L1 rec_i_looker_term l4 m (IntKind.i64.wrap (i5 + 1)) r48.2.1 r48.2.2
  else
   some (true, (i6, b7))

mutual

def i_looker_term : Nat → (Int × Bool) → T → Option (Bool × (Int × Bool))
 | 0, _, _ => none
 | n + 1, z1, x4 =>
  (i_looker_node (z1.1, z1.2)).bind fun r5 =>
  if (!r5.1) = true then
   some (false, (r5.2.1, r5.2.2))
  else
   if x4.kind = 4 then
    (i_Tree_bare__c x4 1).bind fun r18 =>
    if r18 = true then
     (idx x4.kids 0).bind fun y26 =>
     (i_looker_term n (r5.2.1, r5.2.2) y26).bind fun r31 =>
     some (r31.1, (r31.2.1, r31.2.2))
    else
     some (false, (r5.2.1, r5.2.2))
   else
    jn (fun (b43 : Bool) =>
     if b43 = true then
      (i_in x4.n 0 100).bind fun r46 =>
      if r46 = true then
       if (x4.name.toList == (⟨#[]⟩ : ByteArray).toList) = true then
        (i_looker_args n (r5.2.1, r5.2.2) x4.kids).bind fun r55 =>
        some (r55.1, (r55.2.1, r55.2.2))
       else
        some (false, (r5.2.1, r5.2.2))
      else
       some (false, (r5.2.1, r5.2.2))
     else
      if x4.kind = 6 then
       if x4.n = 0 then
        (i_NameOK x4.name).bind fun r68 =>
        if r68 = true then
         (i_looker_args n (r5.2.1, r5.2.2) x4.kids).bind fun r76 =>
         some (r76.1, (r76.2.1, r76.2.2))
        else
         some (false, (r5.2.1, r5.2.2))
       else
        some (false, (r5.2.1, r5.2.2))
      else
       some (false, (r5.2.1, r5.2.2))) fun j42 =>
    if x4.kind = 5 then
     j42 (x4.kind == 5)
    else
     j42 (x4.kind == 7)

def i_looker_args : Nat → (Int × Bool) → List T → Option (Bool × (Int × Bool))
 | 0, _, _ => none
 | n + 1, z1, l4 =>
  i_looker_args_L1 (i_looker_term n) l4 n 0 z1.1 z1.2

end

def i_looker_args_P (n : Nat) : Prop := ∀ (X0 : ID) (i2 : Int) (b3 : Bool) (q4 : Nat) (f4 : Bool) (ks4 : List LT) {r : (Bool × (Int × Bool))}, i_looker_args n (i2, b3) (ers ks4) = some r → ∀ (O : Heap) (tk : Nat), O X0 = some ⟨100, 2, true, [[.int .i64 i2, .bool b3]]⟩ → ACalls Go.Proofs.Tryz.prog 93 [.optr X0 0 0, .imm q4 4 f4 (cellss ks4)] O tk (RetV O X0 tk (fun v o' tk' => ∃ r0', ∃ (c0 : Int) (c1 : Bool) , r = (r0', (c0, c1)) ∧ o' = ⟨100, 2, true, [[.int .i64 c0, .bool c1]]⟩ ∧ v = .bool r0'))

set_option maxHeartbeats 20000000 in
set_option maxHeartbeats 20000000 in
set_option maxRecDepth 100000 in
theorem i_looker_term_st (n : Nat) (ih_i_looker_term : ∀ (X0 : ID) (i2 : Int) (b3 : Bool) (k4 : Int) (n4 : Int) (s4 : ByteArray) (q4 : Nat) (f4 : Bool) (ks4 : List LT) {r : (Bool × (Int × Bool))}, i_looker_term n (i2, b3) (T.mk k4 n4 s4 (ers ks4)) = some r → ∀ (O : Heap) (tk : Nat), O X0 = some ⟨100, 2, true, [[.int .i64 i2, .bool b3]]⟩ → ACalls Go.Proofs.Tryz.prog 61 [.optr X0 0 0, .agg [.int .i64 k4, .int .i64 n4, .str s4, .imm q4 4 f4 (cellss ks4)]] O tk (RetV O X0 tk (fun v o' tk' => ∃ r0', ∃ (c0 : Int) (c1 : Bool) , r = (r0', (c0, c1)) ∧ o' = ⟨100, 2, true, [[.int .i64 c0, .bool c1]]⟩ ∧ v = .bool r0'))) (ih_i_looker_args : i_looker_args_P n) : ∀ (X0 : ID) (i2 : Int) (b3 : Bool) (k4 : Int) (n4 : Int) (s4 : ByteArray) (q4 : Nat) (f4 : Bool) (ks4 : List LT) {r : (Bool × (Int × Bool))}, i_looker_term (n + 1) (i2, b3) (T.mk k4 n4 s4 (ers ks4)) = some r → ∀ (O : Heap) (tk : Nat), O X0 = some ⟨100, 2, true, [[.int .i64 i2, .bool b3]]⟩ → ACalls Go.Proofs.Tryz.prog 61 [.optr X0 0 0, .agg [.int .i64 k4, .int .i64 n4, .str s4, .imm q4 4 f4 (cellss ks4)]] O tk (RetV O X0 tk (fun v o' tk' => ∃ r0', ∃ (c0 : Int) (c1 : Bool) , r = (r0', (c0, c1)) ∧ o' = ⟨100, 2, true, [[.int .i64 c0, .bool c1]]⟩ ∧ v = .bool r0')) := by
 intro X0 i2 b3 k4 n4 s4 q4 f4 ks4 r hM O tk hX0
 rw [i_looker_term] at hM
 refine acalls_of_run Go.Proofs.Tryz.func61 rfl rfl [X0] [⟨100, 2, true, [[.int .i64 i2, .bool b3]]⟩] (Bor.one hX0 rfl) [(0, .optr (.bor 0) 0 0), (1, .agg [.int .i64 k4, .int .i64 n4, .str s4, .imm q4 4 f4 (cellss ks4)])] (.cons (.bor 0 _ _ _ rfl) (.cons (.agg _) (.nil _))) (leb rfl) (by intro y h; simp only [List.mem_cons, List.not_mem_nil, or_false] at h; rcases h with rfl <;> simp [tch, tch0]) (fun S0 hO htk hfz => ?_)
 refine run_sr ?_
 refine run_op rfl (box_step (d := 3) rfl rfl rfl rfl rfl) rfl (ltb rfl) ?_
 refine yR rfl ?_
 refine yN ?_
 refine run_seq ?_
 refine run_sr ?_
 refine yL rfl ?_
 obtain ⟨r5, hg6, hM⟩ := bind_t hM
 refine yK rfl (i_looker_node_ok (.bor 0) i2 b3 hg6 _ _ rfl) (callK_retV_bor (k := 0) rfl (fun v o' tk' h => by obtain ⟨_, _, _, rfl, rfl, _⟩ := h; rfl) (fun v o'15 tk7 (hle8 : tk ≤ tk7) h9 => ?_))
 obtain ⟨ra14, c12, c13, rfl, rfl, rfl⟩ := h9
 refine run_pu rfl (aun_step rfl rfl rfl) rfl (ltb rfl) ?_
 refine yN ?_
 refine run_ifb rfl rfl (fun hb16 => ?_) (fun hb16 => ?_)
 ·replace hM := ite_t hb16 hM
  refine run_sr ?_
  refine yR rfl ?_
  refine yN ?_
  refine run_ret_to ?_
  replace hM := some_t hM
  subst hM
  refine fin_x hG rfl rfl rfl (v' := .bool false) (by rfl) ⟨_, ⟨100, 2, true, [[.int .i64 c12, .bool c13]]⟩, rfl, rfl, (show tk ≤ tk7 by omega), ⟨_, c12, c13, rfl, rfl, rfl⟩⟩
 replace hM := ite_f hb16 hM
 refine run_skip ?_
 refine run_seq ?_
 refine run_sr ?_
 refine yF hG rfl ?_
 refine yD hG rfl ?_
 refine yN ?_
 refine run_block ?_
 refine run_sr ?_
 refine yB rfl ?_
 refine yR rfl ?_
 refine yN ?_
 refine run_ifd rfl rfl (fun hb17 => ?_) (fun hb17 => ?_)
 ·replace hM := ite_t hb17 hM
  refine run_sr ?_
  refine run_sub_ops (Sub.frbox (k := 3) (env' := [(0, .optr (.bor 0) 0 0), (1, .agg [.int .i64 k4, .int .i64 n4, .str s4, .imm q4 4 f4 (cellss ks4)]), (3, .cptr [.int .i64 k4, .int .i64 n4, .str s4, .imm q4 4 f4 (cellss ks4)]), (4, .bool false), (5, .optr (.bor 0) 0 0), (6, .bool ra14), (7, .bool (!ra14)), (8, .cptr [.int .i64 k4, .int .i64 n4, .str s4, .imm q4 4 f4 (cellss ks4)]), (9, .int .i64 k4), (11, .bool (k4 == 4)), (10, .bool (k4 == 4))]) rfl rfl (.keep 0 _ _ rfl (.keep 1 _ _ rfl (.ptr 3 0 _ rfl (.keep 4 _ _ rfl (.keep 5 _ _ rfl (.keep 6 _ _ rfl (.keep 7 _ _ rfl (.ptr 8 0 _ rfl (.keep 9 _ _ rfl (.keep 11 _ _ rfl (.keep 10 _ _ rfl .nil)))))))))))) ?_
  obtain ⟨r18, hg19, hM⟩ := bind_t hM
  refine yK rfl (i_Tree_bare__c_ok k4 n4 s4 q4 f4 ks4 1 hg19 _ _) (callK_retX (fun v tk20 (hle21 : tk7 ≤ tk20) h22 => ?_))
  subst h22
  refine yL rfl ?_
  refine run_splitb (i := 13) rfl (fun hb25 => ?_) (fun hb25 => ?_)
  ·replace hM := ite_t hb25 hM
   refine run_puG (on_of rfl rfl rfl rfl) (move_step (.inl rfl) rfl) rfl (ltb rfl) ?_
   refine run_puG (on_of rfl rfl rfl rfl) (fieldAddr_step hG rfl rfl rfl rfl rfl) rfl (ltb rfl) ?_
   refine run_rdG (on_of rfl rfl rfl rfl) (aload_rd hG rfl rfl rfl (by first | (simp [ldok]; done) | exact List.not_mem_nil | trivial)) rfl (ltb rfl) ?_
   obtain ⟨y26, hy27, hM⟩ := bind_t hM
   obtain ⟨k28, n28, s28, q28, f28, ks28, rfl, hc29, hi30⟩ := tidx (ks := ks4) hy27
   refine run_puG (on_of rfl rfl rfl rfl) (indexImm_step hG rfl rfl rfl hi30 rfl rfl rfl rfl hc29) rfl (ltb rfl) ?_
   refine run_rdG (on_of rfl rfl rfl rfl) (aload_rd hG rfl rfl rfl (by first | (simp [ldok]; done) | exact List.not_mem_nil | trivial)) rfl (ltb rfl) ?_
   obtain ⟨r31, hg32, hM⟩ := bind_t hM
   refine yG (on_of rfl rfl rfl rfl) rfl (ih_i_looker_term (.bor 0) c12 c13 k28 n28 s28 q28 f28 ks28 hg32 _ _ rfl) (callK_retV_bor (k := 0) rfl (fun v o' tk' h => by obtain ⟨_, _, _, rfl, rfl, _⟩ := h; rfl) (fun v o'41 tk33 (hle34 : tk20 ≤ tk33) h35 => ?_))
   obtain ⟨ra40, c38, c39, rfl, rfl, rfl⟩ := h35
   refine yP rfl ?_
   refine yR rfl ?_
   refine yN ?_
   refine run_ret_to ?_
   replace hM := some_t hM
   subst hM
   refine fin_x hG rfl rfl rfl (v' := .bool ra40) (by rfl) ⟨_, ⟨100, 2, true, [[.int .i64 c38, .bool c39]]⟩, rfl, rfl, (show tk ≤ tk33 by omega), ⟨_, c38, c39, rfl, rfl, rfl⟩⟩
  replace hM := ite_f hb25 hM
  refine yO rfl ?_
  refine yO rfl ?_
  refine yO rfl ?_
  refine yO rfl ?_
  refine yO rfl ?_
  refine yO rfl ?_
  refine yP rfl ?_
  refine yR rfl ?_
  refine yN ?_
  refine run_ret_to ?_
  replace hM := some_t hM
  subst hM
  refine fin_x hG rfl rfl rfl (v' := .bool false) (by rfl) ⟨_, ⟨100, 2, true, [[.int .i64 c12, .bool c13]]⟩, rfl, rfl, (show tk ≤ tk20 by omega), ⟨_, c12, c13, rfl, rfl, rfl⟩⟩
 replace hM := ite_f hb17 hM
 refine run_seq ?_
 refine run_sr ?_
 refine yB rfl ?_
 refine yR rfl ?_
 refine yN ?_
 obtain ⟨j42, hj88, hM⟩ := jn_t hM
 refine run_cutL [.code _] (fun σ' => ∃ (b43 : Bool) (tkj42 : Nat), tk7 ≤ tkj42 ∧ j42 b43 = some r ∧ Sub ⟨Go.Proofs.Tryz.prog, S0, Go.Proofs.Tryz.f61.ntmps, [X0], fun _ => False, []⟩ σ' ⟨[(0, .optr (.bor 0) 0 0), (3, .optr (.loc 3) 0 0), (4, .bool false), (9, .int .i64 k4), (21, .bool b43)], [(3, ⟨27, 4, true, [[.int .i64 k4, .int .i64 n4, .str s4, .imm q4 4 f4 (cellss ks4)]]⟩)], [⟨100, 2, true, [[.int .i64 c12, .bool c13]]⟩], O, tkj42⟩) rfl ?_ ?_
 ·refine run_ifd rfl rfl (fun hb44 => ?_) (fun hb44 => ?_)
  ·replace hM := ite_t hb44 hM
   refine run_skip ?_
   exact ⟨(k4 == 5), tk7, (show tk7 ≤ tk7 by omega), hM, Sub.pk [0, 3, 4, 9, 21] rfl⟩
  replace hM := ite_f hb44 hM
  refine run_region ?_
  refine yB rfl ?_
  refine yR rfl ?_
  refine yN ?_
  exact ⟨(k4 == 7), tk7, (show tk7 ≤ tk7 by omega), hM, Sub.pk [0, 3, 4, 9, 21] rfl⟩
 clear hM
 rintro σ' ⟨b43, tkj42, hle87, hM, hsub⟩
 rw [hj88] at hM
 clear hj88
 refine run_sub_code hsub ?_
 refine run_ifb rfl rfl (fun hb45 => ?_) (fun hb45 => ?_)
 ·replace hM := ite_t hb45 hM
  refine run_sr ?_
  refine yF hG rfl ?_
  refine yD hG rfl ?_
  obtain ⟨r46, hg47, hM⟩ := bind_t hM
  refine yK rfl (i_in_ok n4 0 100 hg47 _ _) (callK_retX (fun v tk48 (hle49 : tkj42 ≤ tk48) h50 => ?_))
  subst h50
  refine yL rfl ?_
  refine run_splitb (i := 27) rfl (fun hb53 => ?_) (fun hb53 => ?_)
  ·replace hM := ite_t hb53 hM
   refine run_puG (on_of rfl rfl rfl rfl) (fieldAddr_step hG rfl rfl rfl rfl rfl) rfl (ltb rfl) ?_
   refine run_rdG (on_of rfl rfl rfl rfl) (aload_rd hG rfl rfl rfl (by first | (simp [ldok]; done) | exact List.not_mem_nil | trivial)) rfl (ltb rfl) ?_
   refine run_puG (on_of rfl rfl rfl rfl) (abin_step rfl rfl rfl rfl (fun _ h => by cases h)) rfl (ltb rfl) ?_
   refine yP rfl ?_
   refine yL rfl ?_
   refine run_splitb (i := 32) rfl (fun hb54 => ?_) (fun hb54 => ?_)
   ·replace hM := ite_t hb54 hM
    refine run_puG (on_of rfl rfl rfl rfl) (move_step (.inl rfl) rfl) rfl (ltb rfl) ?_
    refine run_puG (on_of rfl rfl rfl rfl) (fieldAddr_step hG rfl rfl rfl rfl rfl) rfl (ltb rfl) ?_
    refine run_rdG (on_of rfl rfl rfl rfl) (aload_rd hG rfl rfl rfl (by first | (simp [ldok]; done) | exact List.not_mem_nil | trivial)) rfl (ltb rfl) ?_
    obtain ⟨r55, hg56, hM⟩ := bind_t hM
    refine yG (on_of rfl rfl rfl rfl) rfl (ih_i_looker_args (.bor 0) c12 c13 q4 f4 ks4 hg56 _ _ rfl) (callK_retV_bor (k := 0) rfl (fun v o' tk' h => by obtain ⟨_, _, _, rfl, rfl, _⟩ := h; rfl) (fun v o'65 tk57 (hle58 : tk48 ≤ tk57) h59 => ?_))
    obtain ⟨ra64, c62, c63, rfl, rfl, rfl⟩ := h59
    refine yP rfl ?_
    refine yR rfl ?_
    refine yN ?_
    refine run_ret_to ?_
    replace hM := some_t hM
    subst hM
    refine fin_x hG rfl rfl rfl (v' := .bool ra64) (by rfl) ⟨_, ⟨100, 2, true, [[.int .i64 c62, .bool c63]]⟩, rfl, rfl, (show tk ≤ tk57 by omega), ⟨_, c62, c63, rfl, rfl, rfl⟩⟩
   replace hM := ite_f hb54 hM
   refine yO rfl ?_
   refine yO rfl ?_
   refine yO rfl ?_
   refine yO rfl ?_
   refine yP rfl ?_
   refine yR rfl ?_
   refine yN ?_
   refine run_ret_to ?_
   replace hM := some_t hM
   subst hM
   refine fin_x hG rfl rfl rfl (v' := .bool false) (by rfl) ⟨_, ⟨100, 2, true, [[.int .i64 c12, .bool c13]]⟩, rfl, rfl, (show tk ≤ tk48 by omega), ⟨_, c12, c13, rfl, rfl, rfl⟩⟩
  replace hM := ite_f hb53 hM
  refine yO rfl ?_
  refine yO rfl ?_
  refine yO rfl ?_
  refine yP rfl ?_
  refine yL rfl ?_
  refine yO rfl ?_
  refine yO rfl ?_
  refine yO rfl ?_
  refine yO rfl ?_
  refine yP rfl ?_
  refine yR rfl ?_
  refine yN ?_
  refine run_ret_to ?_
  replace hM := some_t hM
  subst hM
  refine fin_x hG rfl rfl rfl (v' := .bool false) (by rfl) ⟨_, ⟨100, 2, true, [[.int .i64 c12, .bool c13]]⟩, rfl, rfl, (show tk ≤ tk48 by omega), ⟨_, c12, c13, rfl, rfl, rfl⟩⟩
 replace hM := ite_f hb45 hM
 refine run_sr ?_
 refine yB rfl ?_
 refine yR rfl ?_
 refine yN ?_
 refine run_ifd rfl rfl (fun hb66 => ?_) (fun hb66 => ?_)
 ·replace hM := ite_t hb66 hM
  refine run_sr ?_
  refine yF hG rfl ?_
  refine yD hG rfl ?_
  refine yB rfl ?_
  refine yL rfl ?_
  refine run_splitd (i := 43) rfl (fun hb67 => ?_) (fun hb67 => ?_)
  ·replace hM := ite_t hb67 hM
   refine run_puG (on_of rfl rfl rfl rfl) (fieldAddr_step hG rfl rfl rfl rfl rfl) rfl (ltb rfl) ?_
   refine run_rdG (on_of rfl rfl rfl rfl) (aload_rd hG rfl rfl rfl (by first | (simp [ldok]; done) | exact List.not_mem_nil | trivial)) rfl (ltb rfl) ?_
   obtain ⟨r68, hg69, hM⟩ := bind_t hM
   refine yG (on_of rfl rfl rfl rfl) rfl (i_NameOK_ok s4 hg69 _ _) (callK_retX (fun v tk70 (hle71 : tkj42 ≤ tk70) h72 => ?_))
   subst h72
   refine yP rfl ?_
   refine yL rfl ?_
   refine run_splitb (i := 48) rfl (fun hb75 => ?_) (fun hb75 => ?_)
   ·replace hM := ite_t hb75 hM
    refine run_puG (on_of rfl rfl rfl rfl) (move_step (.inl rfl) rfl) rfl (ltb rfl) ?_
    refine run_puG (on_of rfl rfl rfl rfl) (fieldAddr_step hG rfl rfl rfl rfl rfl) rfl (ltb rfl) ?_
    refine run_rdG (on_of rfl rfl rfl rfl) (aload_rd hG rfl rfl rfl (by first | (simp [ldok]; done) | exact List.not_mem_nil | trivial)) rfl (ltb rfl) ?_
    obtain ⟨r76, hg77, hM⟩ := bind_t hM
    refine yG (on_of rfl rfl rfl rfl) rfl (ih_i_looker_args (.bor 0) c12 c13 q4 f4 ks4 hg77 _ _ rfl) (callK_retV_bor (k := 0) rfl (fun v o' tk' h => by obtain ⟨_, _, _, rfl, rfl, _⟩ := h; rfl) (fun v o'86 tk78 (hle79 : tk70 ≤ tk78) h80 => ?_))
    obtain ⟨ra85, c83, c84, rfl, rfl, rfl⟩ := h80
    refine yP rfl ?_
    refine yR rfl ?_
    refine yN ?_
    refine run_ret_to ?_
    replace hM := some_t hM
    subst hM
    refine fin_x hG rfl rfl rfl (v' := .bool ra85) (by rfl) ⟨_, ⟨100, 2, true, [[.int .i64 c83, .bool c84]]⟩, rfl, rfl, (show tk ≤ tk78 by omega), ⟨_, c83, c84, rfl, rfl, rfl⟩⟩
   replace hM := ite_f hb75 hM
   refine yO rfl ?_
   refine yO rfl ?_
   refine yO rfl ?_
   refine yO rfl ?_
   refine yP rfl ?_
   refine yR rfl ?_
   refine yN ?_
   refine run_ret_to ?_
   replace hM := some_t hM
   subst hM
   refine fin_x hG rfl rfl rfl (v' := .bool false) (by rfl) ⟨_, ⟨100, 2, true, [[.int .i64 c12, .bool c13]]⟩, rfl, rfl, (show tk ≤ tk70 by omega), ⟨_, c12, c13, rfl, rfl, rfl⟩⟩
  replace hM := ite_f hb67 hM
  refine yO rfl ?_
  refine yO rfl ?_
  refine yO rfl ?_
  refine yP rfl ?_
  refine yL rfl ?_
  refine yO rfl ?_
  refine yO rfl ?_
  refine yO rfl ?_
  refine yO rfl ?_
  refine yP rfl ?_
  refine yR rfl ?_
  refine yN ?_
  refine run_ret_to ?_
  replace hM := some_t hM
  subst hM
  refine fin_x hG rfl rfl rfl (v' := .bool false) (by rfl) ⟨_, ⟨100, 2, true, [[.int .i64 c12, .bool c13]]⟩, rfl, rfl, (show tk ≤ tkj42 by omega), ⟨_, c12, c13, rfl, rfl, rfl⟩⟩
 replace hM := ite_f hb66 hM
 refine run_skip ?_
 refine run_blk ?_
 refine run_sr ?_
 refine yR rfl ?_
 refine yN ?_
 refine run_ret_to ?_
 replace hM := some_t hM
 subst hM
 refine fin_x hG rfl rfl rfl (v' := .bool false) (by rfl) ⟨_, ⟨100, 2, true, [[.int .i64 c12, .bool c13]]⟩, rfl, rfl, (show tk ≤ tkj42 by omega), ⟨_, c12, c13, rfl, rfl, rfl⟩⟩

set_option maxHeartbeats 20000000 in
set_option maxHeartbeats 20000000 in
set_option maxRecDepth 100000 in
theorem i_looker_args_st (n : Nat) (ih_i_looker_term : ∀ (X0 : ID) (i2 : Int) (b3 : Bool) (k4 : Int) (n4 : Int) (s4 : ByteArray) (q4 : Nat) (f4 : Bool) (ks4 : List LT) {r : (Bool × (Int × Bool))}, i_looker_term n (i2, b3) (T.mk k4 n4 s4 (ers ks4)) = some r → ∀ (O : Heap) (tk : Nat), O X0 = some ⟨100, 2, true, [[.int .i64 i2, .bool b3]]⟩ → ACalls Go.Proofs.Tryz.prog 61 [.optr X0 0 0, .agg [.int .i64 k4, .int .i64 n4, .str s4, .imm q4 4 f4 (cellss ks4)]] O tk (RetV O X0 tk (fun v o' tk' => ∃ r0', ∃ (c0 : Int) (c1 : Bool) , r = (r0', (c0, c1)) ∧ o' = ⟨100, 2, true, [[.int .i64 c0, .bool c1]]⟩ ∧ v = .bool r0'))) : i_looker_args_P (n + 1) := by
 intro X0 i2 b3 q4 f4 ks4 r hM O tk hX0
 rw [i_looker_args] at hM
 refine acalls_of_run Go.Proofs.Tryz.func93 rfl rfl [X0] [⟨100, 2, true, [[.int .i64 i2, .bool b3]]⟩] (Bor.one hX0 rfl) [(0, .optr (.bor 0) 0 0), (1, .imm q4 4 f4 (cellss ks4))] (.cons (.bor 0 _ _ _ rfl) (.cons (entS rfl) (.nil _))) (leb rfl) (by intro y h; simp only [List.mem_cons, List.not_mem_nil, or_false] at h; rcases h with rfl <;> simp [tch, tch0]) (fun S0 hO htk hfz => ?_)
 refine run_sr ?_
 refine yR rfl ?_
 refine yN ?_
 refine run_seq ?_
 refine run_sr ?_
 refine yL rfl ?_
 refine run_pu rfl (lenImm_step hG rfl rfl rfl rfl (tlen _)) rfl (ltb rfl) ?_
 refine yL rfl ?_
 refine yN ?_
 refine run_block ?_
 refine run_rounds (fun m σ => ∃ (i5 : Int) (i6 : Int) (b7 : Bool) (tki_looker_args_L1 : Nat), tk ≤ tki_looker_args_L1 ∧ i_looker_args_L1 (i_looker_term n) (ers ks4) m i5 i6 b7 = some r ∧ σ = ⟨[(0, .optr (.bor 0) 0 0), (4, .bool false), (7, .imm q4 4 f4 (cellss ks4)), (8, .int .i64 (((ers ks4)).length : Int)), (9, .int .i64 i5)], [], [⟨100, 2, true, [[.int .i64 i6, .bool b7]]⟩], O, tki_looker_args_L1⟩) n (Sub.pk [0, 4, 7, 8, 9] rfl) ⟨0, i2, b3, tk, Nat.le_refl _, hM, rfl⟩ (fun m σ hI => ?_)
 clear hM
 obtain ⟨i5, i6, b7, tki_looker_args_L1, hle60, hM, rfl⟩ := hI
 obtain _ | m := m
 ·exact absurd hM (by rw [i_looker_args_L1]; exact fun h => by cases h)
 rw [i_looker_args_L1] at hM
 refine run_sr ?_
 refine yB rfl ?_
 refine yN ?_
 refine run_seq ?_
 refine run_ifd rfl rfl (fun hb8 => ?_) (fun hb8 => ?_)
 ·replace hM := ite_t hb8 hM
  refine run_skip ?_
  refine run_seq ?_
  refine run_block ?_
  refine run_sr ?_
  obtain ⟨y9, hy10, hM⟩ := bind_t hM
  obtain ⟨k11, n11, s11, q11, f11, ks11, rfl, hc12, hi13⟩ := tidx (ks := ks4) hy10
  refine run_pu rfl (indexImm_step hG rfl rfl rfl hi13 rfl rfl rfl rfl hc12) rfl (ltb rfl) ?_
  refine yD hG rfl ?_
  refine run_op rfl (alloc_step (d := 6) hG rfl rfl rfl) rfl (ltb rfl) ?_
  refine yS hG rfl ?_
  refine yN ?_
  refine run_sr ?_
  refine yL rfl ?_
  refine run_pu rfl (nilCheck_step rfl rfl ⟨_, rfl⟩) rfl (ltb rfl) ?_
  refine yF hG rfl ?_
  refine yD hG rfl ?_
  refine yL rfl ?_
  refine run_splitb (i := 17) rfl (fun hb14 => ?_) (fun hb14 => ?_)
  ·replace hM := ite_t hb14 hM
   refine run_puG (on_of rfl rfl rfl rfl) (fieldAddr_step hG rfl rfl rfl rfl rfl) rfl (ltb rfl) ?_
   refine run_rdG (on_of rfl rfl rfl rfl) (aload_rd hG rfl rfl rfl (by first | (simp [ldok]; done) | exact List.not_mem_nil | trivial)) rfl (ltb rfl) ?_
   refine run_puG (on_of rfl rfl rfl rfl) (abin_step rfl rfl rfl rfl (fun _ h => by cases h)) rfl (ltb rfl) ?_
   refine yP rfl ?_
   refine yN ?_
   refine run_sub_code (σ' := ⟨[(0, .optr (.bor 0) 0 0), (4, .bool false), (7, .imm q4 4 f4 (cellss ks4)), (8, .int .i64 (((ers ks4)).length : Int)), (9, .int .i64 i5), (6, .optr (.loc 6) 0 0), (21, .bool (k11 == 8))], [(6, ⟨27, 4, true, [[.int .i64 k11, .int .i64 n11, .str s11, .imm q11 4 f11 (cellss ks11)]]⟩)], [⟨100, 2, true, [[.int .i64 i6, .bool b7]]⟩], O, tki_looker_args_L1⟩) (Sub.env _ ⟨rfl, rfl, rfl, rfl, rfl, rfl, rfl, trivial⟩) ?_
   refine run_ifd rfl rfl (fun hb15 => ?_) (fun hb15 => ?_)
   ·replace hM := ite_t hb15 hM
    refine run_sr ?_
    refine run_sub_ops (Sub.frbox (k := 6) (env' := [(0, .optr (.bor 0) 0 0), (4, .bool false), (7, .imm q4 4 f4 (cellss ks4)), (8, .int .i64 (((ers ks4)).length : Int)), (9, .int .i64 i5), (6, .cptr [.int .i64 k11, .int .i64 n11, .str s11, .imm q11 4 f11 (cellss ks11)]), (21, .bool (k11 == 8))]) rfl rfl (.keep 0 _ _ rfl (.keep 4 _ _ rfl (.keep 7 _ _ rfl (.keep 8 _ _ rfl (.keep 9 _ _ rfl (.ptr 6 0 _ rfl (.keep 21 _ _ rfl .nil)))))))) ?_
    obtain ⟨r16, hg17, hM⟩ := bind_t hM
    refine yK rfl (i_Tree_bare__c_ok k11 n11 s11 q11 f11 ks11 0 hg17 _ _) (callK_retX (fun v tk18 (hle19 : tki_looker_args_L1 ≤ tk18) h20 => ?_))
    subst h20
    refine run_pu rfl (aun_step rfl rfl rfl) rfl (ltb rfl) ?_
    refine yL rfl ?_
    refine run_splitb (i := 24) rfl (fun hb23 => ?_) (fun hb23 => ?_)
    ·replace hM := ite_t hb23 hM
     refine yO rfl ?_
     refine yO rfl ?_
     refine yO rfl ?_
     refine yP rfl ?_
     refine yN ?_
     refine run_if rfl rfl (fun _ => ?_) (fun h => by cases h)
     refine run_sr ?_
     refine yR rfl ?_
     refine yN ?_
     refine run_ret_to ?_
     replace hM := some_t hM
     subst hM
     refine fin_x hG rfl rfl rfl (v' := .bool false) (by rfl) ⟨_, ⟨100, 2, true, [[.int .i64 i6, .bool b7]]⟩, rfl, rfl, (show tk ≤ tk18 by omega), ⟨_, i6, b7, rfl, rfl, rfl⟩⟩
    replace hM := ite_f hb23 hM
    refine run_puG (on_of rfl rfl rfl rfl) (move_step (.inl rfl) rfl) rfl (ltb rfl) ?_
    obtain ⟨r24, hg25, hM⟩ := bind_t hM
    refine yG (on_of rfl rfl rfl rfl) rfl (i_looker_node_ok (.bor 0) i6 b7 hg25 _ _ rfl) (callK_retV_bor (k := 0) rfl (fun v o' tk' h => by obtain ⟨_, _, _, rfl, rfl, _⟩ := h; rfl) (fun v o'34 tk26 (hle27 : tk18 ≤ tk26) h28 => ?_))
    obtain ⟨ra33, c31, c32, rfl, rfl, rfl⟩ := h28
    refine run_puG (on_of rfl rfl rfl rfl) (aun_step rfl rfl rfl) rfl (ltb rfl) ?_
    refine yP rfl ?_
    refine yN ?_
    refine run_ifb rfl rfl (fun hb35 => ?_) (fun hb35 => ?_)
    ·replace hM := ite_t hb35 hM
     refine run_sr ?_
     refine yR rfl ?_
     refine yN ?_
     refine run_ret_to ?_
     replace hM := some_t hM
     subst hM
     refine fin_x hG rfl rfl rfl (v' := .bool false) (by rfl) ⟨_, ⟨100, 2, true, [[.int .i64 c31, .bool c32]]⟩, rfl, rfl, (show tk ≤ tk26 by omega), ⟨_, c31, c32, rfl, rfl, rfl⟩⟩
    replace hM := ite_f hb35 hM
    refine run_skip ?_
    refine run_blk ?_
    refine run_region ?_
    refine yB rfl ?_
    refine yL rfl ?_
    refine yN ?_
    exact run_loop_end ⟨m, _, Nat.lt_succ_self _, ⟨(IntKind.i64.wrap (i5 + 1)), c31, c32, tk26, (show tk ≤ tk26 by omega), hM, rfl⟩, Sub.pk [0, 4, 7, 8, 9] rfl⟩
   replace hM := ite_f hb15 hM
   refine run_sr ?_
   refine yL rfl ?_
   refine yD hG rfl ?_
   obtain ⟨r36, hg37, hM⟩ := bind_t hM
   refine yK rfl (ih_i_looker_term (.bor 0) i6 b7 k11 n11 s11 q11 f11 ks11 hg37 _ _ rfl) (callK_retV_bor (k := 0) rfl (fun v o' tk' h => by obtain ⟨_, _, _, rfl, rfl, _⟩ := h; rfl) (fun v o'46 tk38 (hle39 : tki_looker_args_L1 ≤ tk38) h40 => ?_))
   obtain ⟨ra45, c43, c44, rfl, rfl, rfl⟩ := h40
   refine run_pu rfl (aun_step rfl rfl rfl) rfl (ltb rfl) ?_
   refine yN ?_
   refine run_ifb rfl rfl (fun hb47 => ?_) (fun hb47 => ?_)
   ·replace hM := ite_t hb47 hM
    refine run_sr ?_
    refine yR rfl ?_
    refine yN ?_
    refine run_ret_to ?_
    replace hM := some_t hM
    subst hM
    refine fin_x hG rfl rfl rfl (v' := .bool false) (by rfl) ⟨_, ⟨100, 2, true, [[.int .i64 c43, .bool c44]]⟩, rfl, rfl, (show tk ≤ tk38 by omega), ⟨_, c43, c44, rfl, rfl, rfl⟩⟩
   replace hM := ite_f hb47 hM
   refine run_skip ?_
   refine run_blk ?_
   refine run_region ?_
   refine yB rfl ?_
   refine yL rfl ?_
   refine yN ?_
   exact run_loop_end ⟨m, _, Nat.lt_succ_self _, ⟨(IntKind.i64.wrap (i5 + 1)), c43, c44, tk38, (show tk ≤ tk38 by omega), hM, rfl⟩, Sub.trans (Sub.drop (k := 6) rfl) (Sub.pk [0, 4, 7, 8, 9] rfl)⟩
  replace hM := ite_f hb14 hM
  refine yO rfl ?_
  refine yO rfl ?_
  refine yO rfl ?_
  refine yP rfl ?_
  refine yN ?_
  refine run_if rfl rfl (fun h => by cases h) (fun _ => ?_)
  refine run_sr ?_
  refine yL rfl ?_
  refine yD hG rfl ?_
  obtain ⟨r48, hg49, hM⟩ := bind_t hM
  refine yK rfl (ih_i_looker_term (.bor 0) i6 b7 k11 n11 s11 q11 f11 ks11 hg49 _ _ rfl) (callK_retV_bor (k := 0) rfl (fun v o' tk' h => by obtain ⟨_, _, _, rfl, rfl, _⟩ := h; rfl) (fun v o'58 tk50 (hle51 : tki_looker_args_L1 ≤ tk50) h52 => ?_))
  obtain ⟨ra57, c55, c56, rfl, rfl, rfl⟩ := h52
  refine run_pu rfl (aun_step rfl rfl rfl) rfl (ltb rfl) ?_
  refine yN ?_
  refine run_sub_code (σ' := ⟨[(0, .optr (.bor 0) 0 0), (4, .bool false), (7, .imm q4 4 f4 (cellss ks4)), (8, .int .i64 (((ers ks4)).length : Int)), (9, .int .i64 i5), (32, .bool (!ra57))], [], [⟨100, 2, true, [[.int .i64 c55, .bool c56]]⟩], O, tk50⟩) (Sub.trans (Sub.drop (k := 6) rfl) (Sub.env _ ⟨rfl, rfl, rfl, rfl, rfl, rfl, trivial⟩)) ?_
  refine run_ifb rfl rfl (fun hb59 => ?_) (fun hb59 => ?_)
  ·replace hM := ite_t hb59 hM
   refine run_sr ?_
   refine yR rfl ?_
   refine yN ?_
   refine run_ret_to ?_
   replace hM := some_t hM
   subst hM
   refine fin_x hG rfl rfl rfl (v' := .bool false) (by rfl) ⟨_, ⟨100, 2, true, [[.int .i64 c55, .bool c56]]⟩, rfl, rfl, (show tk ≤ tk50 by omega), ⟨_, c55, c56, rfl, rfl, rfl⟩⟩
  replace hM := ite_f hb59 hM
  refine run_skip ?_
  refine run_blk ?_
  refine run_region ?_
  refine yB rfl ?_
  refine yL rfl ?_
  refine yN ?_
  exact run_loop_end ⟨m, _, Nat.lt_succ_self _, ⟨(IntKind.i64.wrap (i5 + 1)), c55, c56, tk50, (show tk ≤ tk50 by omega), hM, rfl⟩, Sub.pk [0, 4, 7, 8, 9] rfl⟩
 replace hM := ite_f hb8 hM
 refine run_exit_to rfl ?_
 refine run_sr ?_
 refine yR rfl ?_
 refine yN ?_
 refine run_ret_to ?_
 replace hM := some_t hM
 subst hM
 refine fin_x hG rfl rfl rfl (v' := .bool true) (by rfl) ⟨_, ⟨100, 2, true, [[.int .i64 i6, .bool b7]]⟩, rfl, rfl, (show tk ≤ tki_looker_args_L1 by omega), ⟨_, i6, b7, rfl, rfl, rfl⟩⟩

theorem i_looker_term_all : ∀ (n : Nat), (∀ (X0 : ID) (i2 : Int) (b3 : Bool) (k4 : Int) (n4 : Int) (s4 : ByteArray) (q4 : Nat) (f4 : Bool) (ks4 : List LT) {r : (Bool × (Int × Bool))}, i_looker_term n (i2, b3) (T.mk k4 n4 s4 (ers ks4)) = some r → ∀ (O : Heap) (tk : Nat), O X0 = some ⟨100, 2, true, [[.int .i64 i2, .bool b3]]⟩ → ACalls Go.Proofs.Tryz.prog 61 [.optr X0 0 0, .agg [.int .i64 k4, .int .i64 n4, .str s4, .imm q4 4 f4 (cellss ks4)]] O tk (RetV O X0 tk (fun v o' tk' => ∃ r0', ∃ (c0 : Int) (c1 : Bool) , r = (r0', (c0, c1)) ∧ o' = ⟨100, 2, true, [[.int .i64 c0, .bool c1]]⟩ ∧ v = .bool r0'))) ∧ (i_looker_args_P n)
 | 0 => ⟨(by intro X0 i2 b3 k4 n4 s4 q4 f4 ks4 r hM; rw [i_looker_term] at hM; cases hM), (by intro X0 i2 b3 q4 f4 ks4 r hM; rw [i_looker_args] at hM; cases hM)⟩
 | n + 1 => have ih := i_looker_term_all n; ⟨i_looker_term_st n (ih.1) (ih.2), i_looker_args_st n (ih.1)⟩

theorem i_looker_args_ok (n : Nat) : i_looker_args_P n := (i_looker_term_all n).2

def s_l01Terms_L1 (rec_s_l01Term : T → Bool → Option Bool) (l1 : List T) (b2 : Bool) : Nat → Int → Option Bool
 | 0, _ => none
 | m + 1, i3 =>
  if i3 < ((l1).length : Int) then
   if b2 = true then
    (idx l1 i3).bind fun y6 =>
    if y6.kind = 8 then
     (idx l1 i3).bind fun y12 =>
     if (y12.n != 0) = true then
      some false
     else
      (idx l1 i3).bind fun y18 =>
      if (!(y18.name.toList == (⟨#[]⟩ : ByteArray).toList)) = true then
       some false
      else
       (idx l1 i3).bind fun y24 =>
       if (((y24.kids).length : Int) != 0) = true then
        some false
       else
        s_l01Terms_L1 rec_s_l01Term l1 b2 m (IntKind.i64.wrap (i3 + 1))
    else
     (idx l1 i3).bind fun y30 =>
     (rec_s_l01Term y30 b2).bind fun r35 =>
     if (!r35) = true then
      some false
     else
      s_l01Terms_L1 rec_s_l01Term l1 b2 m (IntKind.i64.wrap (i3 + 1))
   else
    (idx l1 i3).bind fun y43 =>
    (rec_s_l01Term y43 b2).bind fun r48 =>
    if (!r48) = true then
     some false
    else
     s_l01Terms_L1 rec_s_l01Term l1 b2 m (IntKind.i64.wrap (i3 + 1))
  else
   some true

mutual

def s_l01Term : Nat → T → Bool → Option Bool
 | 0, _, _ => none
 | n + 1, x1, b2 =>
  if x1.kind = 4 then
   if x1.n = 0 then
    if (x1.name.toList == (⟨#[]⟩ : ByteArray).toList) = true then
     if ((x1.kids).length : Int) = 1 then
      (idx x1.kids 0).bind fun y7 =>
      (s_l01Term n y7 b2).bind fun r12 =>
      some r12
     else
      some false
    else
     some false
   else
    some false
  else
   jn (fun (b20 : Bool) =>
    if b20 = true then
     if x1.n ≥ 0 then
      if x1.n ≤ 100 then
       if (x1.name.toList == (⟨#[]⟩ : ByteArray).toList) = true then
        (s_l01Terms n x1.kids b2).bind fun r26 =>
        some r26
       else
        some false
      else
       some false
     else
      some false
    else
     if x1.kind = 6 then
      if x1.n = 0 then
       (s_NameOK n x1.name).bind fun r35 =>
       if r35 = true then
        (s_l01Terms n x1.kids b2).bind fun r43 =>
        some r43
       else
        some false
      else
       some false
     else
      some false) fun j19 =>
   if x1.kind = 5 then
    j19 (x1.kind == 5)
   else
    j19 (x1.kind == 7)

def s_l01Terms : Nat → List T → Bool → Option Bool
 | 0, _, _ => none
 | n + 1, l1, b2 =>
  s_l01Terms_L1 (s_l01Term n) l1 b2 n 0

end

def s_l01Terms_P (n : Nat) : Prop := ∀ (q1 : Nat) (f1 : Bool) (ks1 : List LT) (b2 : Bool) {r : Bool}, s_l01Terms n (ers ks1) b2 = some r → ∀ (O : Heap) (tk : Nat), ACalls Go.Proofs.Tryz.prog 66 [.imm q1 4 f1 (cellss ks1), .bool b2] O tk (RetX O tk (fun v tk' => v = .bool r))

set_option maxHeartbeats 20000000 in
set_option maxHeartbeats 20000000 in
set_option maxRecDepth 100000 in
theorem s_l01Term_st (n : Nat) (ih_s_l01Term : ∀ (k1 : Int) (n1 : Int) (s1 : ByteArray) (q1 : Nat) (f1 : Bool) (ks1 : List LT) (b2 : Bool) {r : Bool}, s_l01Term n (T.mk k1 n1 s1 (ers ks1)) b2 = some r → ∀ (O : Heap) (tk : Nat), ACalls Go.Proofs.Tryz.prog 37 [.agg [.int .i64 k1, .int .i64 n1, .str s1, .imm q1 4 f1 (cellss ks1)], .bool b2] O tk (RetX O tk (fun v tk' => v = .bool r))) (ih_s_l01Terms : s_l01Terms_P n) : ∀ (k1 : Int) (n1 : Int) (s1 : ByteArray) (q1 : Nat) (f1 : Bool) (ks1 : List LT) (b2 : Bool) {r : Bool}, s_l01Term (n + 1) (T.mk k1 n1 s1 (ers ks1)) b2 = some r → ∀ (O : Heap) (tk : Nat), ACalls Go.Proofs.Tryz.prog 37 [.agg [.int .i64 k1, .int .i64 n1, .str s1, .imm q1 4 f1 (cellss ks1)], .bool b2] O tk (RetX O tk (fun v tk' => v = .bool r)) := by
 intro k1 n1 s1 q1 f1 ks1 b2 r hM O tk
 rw [s_l01Term] at hM
 refine acalls_of_run Go.Proofs.Tryz.func37 rfl rfl [] [] (Bor.nil _) [(0, .agg [.int .i64 k1, .int .i64 n1, .str s1, .imm q1 4 f1 (cellss ks1)]), (1, .bool b2)] (.cons (.agg _) (.cons (entS rfl) (.nil _))) (leb rfl) (fun _ h => by cases h) (fun S0 hO htk hfz => ?_)
 refine run_sr ?_
 refine run_op rfl (box_step (d := 2) rfl rfl rfl rfl rfl) rfl (ltb rfl) ?_
 refine yR rfl ?_
 refine yN ?_
 refine run_seq ?_
 refine run_sr ?_
 refine yF hG rfl ?_
 refine yD hG rfl ?_
 refine yN ?_
 refine run_block ?_
 refine run_sr ?_
 refine yB rfl ?_
 refine yR rfl ?_
 refine yN ?_
 refine run_ifd rfl rfl (fun hb3 => ?_) (fun hb3 => ?_)
 ·replace hM := ite_t hb3 hM
  refine run_sr ?_
  refine yF hG rfl ?_
  refine yD hG rfl ?_
  refine yB rfl ?_
  refine yL rfl ?_
  refine run_splitd (i := 12) rfl (fun hb4 => ?_) (fun hb4 => ?_)
  ·replace hM := ite_t hb4 hM
   refine run_puG (on_of rfl rfl rfl rfl) (fieldAddr_step hG rfl rfl rfl rfl rfl) rfl (ltb rfl) ?_
   refine run_rdG (on_of rfl rfl rfl rfl) (aload_rd hG rfl rfl rfl (by first | (simp [ldok]; done) | exact List.not_mem_nil | trivial)) rfl (ltb rfl) ?_
   refine run_puG (on_of rfl rfl rfl rfl) (abin_step rfl rfl rfl rfl (fun _ h => by cases h)) rfl (ltb rfl) ?_
   refine yP rfl ?_
   refine yL rfl ?_
   refine run_splitb (i := 17) rfl (fun hb5 => ?_) (fun hb5 => ?_)
   ·replace hM := ite_t hb5 hM
    refine run_puG (on_of rfl rfl rfl rfl) (fieldAddr_step hG rfl rfl rfl rfl rfl) rfl (ltb rfl) ?_
    refine run_rdG (on_of rfl rfl rfl rfl) (aload_rd hG rfl rfl rfl (by first | (simp [ldok]; done) | exact List.not_mem_nil | trivial)) rfl (ltb rfl) ?_
    refine run_puG (on_of rfl rfl rfl rfl) (lenImm_step hG rfl rfl rfl rfl (tlen _)) rfl (ltb rfl) ?_
    refine run_puG (on_of rfl rfl rfl rfl) (abin_step rfl rfl rfl rfl (fun _ h => by cases h)) rfl (ltb rfl) ?_
    refine yP rfl ?_
    refine yL rfl ?_
    refine run_splitd (i := 23) rfl (fun hb6 => ?_) (fun hb6 => ?_)
    ·replace hM := ite_t hb6 hM
     refine run_puG (on_of rfl rfl rfl rfl) (fieldAddr_step hG rfl rfl rfl rfl rfl) rfl (ltb rfl) ?_
     refine run_rdG (on_of rfl rfl rfl rfl) (aload_rd hG rfl rfl rfl (by first | (simp [ldok]; done) | exact List.not_mem_nil | trivial)) rfl (ltb rfl) ?_
     obtain ⟨y7, hy8, hM⟩ := bind_t hM
     obtain ⟨k9, n9, s9, q9, f9, ks9, rfl, hc10, hi11⟩ := tidx (ks := ks1) hy8
     refine run_puG (on_of rfl rfl rfl rfl) (indexImm_step hG rfl rfl rfl hi11 rfl rfl rfl rfl hc10) rfl (ltb rfl) ?_
     refine run_rdG (on_of rfl rfl rfl rfl) (aload_rd hG rfl rfl rfl (by first | (simp [ldok]; done) | exact List.not_mem_nil | trivial)) rfl (ltb rfl) ?_
     refine run_puG (on_of rfl rfl rfl rfl) (move_step (.inl rfl) rfl) rfl (ltb rfl) ?_
     obtain ⟨r12, hg13, hM⟩ := bind_t hM
     refine yG (on_of rfl rfl rfl rfl) rfl (ih_s_l01Term k9 n9 s9 q9 f9 ks9 b2 hg13 _ _) (callK_retX (fun v tk14 (hle15 : tk ≤ tk14) h16 => ?_))
     subst h16
     refine yP rfl ?_
     refine yR rfl ?_
     refine yN ?_
     refine run_ret_to ?_
     replace hM := some_t hM
     subst hM
     refine fin_x hG rfl rfl rfl (v' := .bool r12) (by rfl) ⟨rfl, (show tk ≤ tk14 by omega), _, rfl, rfl⟩
    replace hM := ite_f hb6 hM
    refine yO rfl ?_
    refine yO rfl ?_
    refine yO rfl ?_
    refine yO rfl ?_
    refine yO rfl ?_
    refine yO rfl ?_
    refine yP rfl ?_
    refine yR rfl ?_
    refine yN ?_
    refine run_ret_to ?_
    replace hM := some_t hM
    subst hM
    refine fin_x hG rfl rfl rfl (v' := .bool false) (by rfl) ⟨rfl, (show tk ≤ tk by omega), _, rfl, rfl⟩
   replace hM := ite_f hb5 hM
   refine yO rfl ?_
   refine yO rfl ?_
   refine yO rfl ?_
   refine yO rfl ?_
   refine yP rfl ?_
   refine yL rfl ?_
   refine yO rfl ?_
   refine yO rfl ?_
   refine yO rfl ?_
   refine yO rfl ?_
   refine yO rfl ?_
   refine yO rfl ?_
   refine yP rfl ?_
   refine yR rfl ?_
   refine yN ?_
   refine run_ret_to ?_
   replace hM := some_t hM
   subst hM
   refine fin_x hG rfl rfl rfl (v' := .bool false) (by rfl) ⟨rfl, (show tk ≤ tk by omega), _, rfl, rfl⟩
  replace hM := ite_f hb4 hM
  refine yO rfl ?_
  refine yO rfl ?_
  refine yO rfl ?_
  refine yP rfl ?_
  refine yL rfl ?_
  refine yO rfl ?_
  refine yO rfl ?_
  refine yO rfl ?_
  refine yO rfl ?_
  refine yP rfl ?_
  refine yL rfl ?_
  refine yO rfl ?_
  refine yO rfl ?_
  refine yO rfl ?_
  refine yO rfl ?_
  refine yO rfl ?_
  refine yO rfl ?_
  refine yP rfl ?_
  refine yR rfl ?_
  refine yN ?_
  refine run_ret_to ?_
  replace hM := some_t hM
  subst hM
  refine fin_x hG rfl rfl rfl (v' := .bool false) (by rfl) ⟨rfl, (show tk ≤ tk by omega), _, rfl, rfl⟩
 replace hM := ite_f hb3 hM
 refine run_seq ?_
 refine run_sr ?_
 refine yB rfl ?_
 refine yR rfl ?_
 refine yN ?_
 obtain ⟨j19, hj51, hM⟩ := jn_t hM
 refine run_cutL [.code _] (fun σ' => ∃ (b20 : Bool) (tkj19 : Nat), tk ≤ tkj19 ∧ j19 b20 = some r ∧ Sub ⟨Go.Proofs.Tryz.prog, S0, Go.Proofs.Tryz.f37.ntmps, [], fun _ => False, []⟩ σ' ⟨[(1, .bool b2), (2, .optr (.loc 2) 0 0), (4, .bool false), (6, .int .i64 k1), (31, .bool b20)], [(2, ⟨27, 4, true, [[.int .i64 k1, .int .i64 n1, .str s1, .imm q1 4 f1 (cellss ks1)]]⟩)], [], O, tkj19⟩) rfl ?_ ?_
 ·refine run_ifd rfl rfl (fun hb21 => ?_) (fun hb21 => ?_)
  ·replace hM := ite_t hb21 hM
   refine run_skip ?_
   exact ⟨(k1 == 5), tk, (show tk ≤ tk by omega), hM, Sub.pk [1, 2, 4, 6, 31] rfl⟩
  replace hM := ite_f hb21 hM
  refine run_region ?_
  refine yB rfl ?_
  refine yR rfl ?_
  refine yN ?_
  exact ⟨(k1 == 7), tk, (show tk ≤ tk by omega), hM, Sub.pk [1, 2, 4, 6, 31] rfl⟩
 clear hM
 rintro σ' ⟨b20, tkj19, hle50, hM, hsub⟩
 rw [hj51] at hM
 clear hj51
 refine run_sub_code hsub ?_
 refine run_ifb rfl rfl (fun hb22 => ?_) (fun hb22 => ?_)
 ·replace hM := ite_t hb22 hM
  refine run_sr ?_
  refine yF hG rfl ?_
  refine yD hG rfl ?_
  refine yB rfl ?_
  refine yL rfl ?_
  refine run_splitd (i := 37) rfl (fun hb23 => ?_) (fun hb23 => ?_)
  ·replace hM := ite_t hb23 hM
   refine run_puG (on_of rfl rfl rfl rfl) (fieldAddr_step hG rfl rfl rfl rfl rfl) rfl (ltb rfl) ?_
   refine run_rdG (on_of rfl rfl rfl rfl) (aload_rd hG rfl rfl rfl (by first | (simp [ldok]; done) | exact List.not_mem_nil | trivial)) rfl (ltb rfl) ?_
   refine run_puG (on_of rfl rfl rfl rfl) (abin_step rfl rfl rfl rfl (fun _ h => by cases h)) rfl (ltb rfl) ?_
   refine yP rfl ?_
   refine yL rfl ?_
   refine run_splitd (i := 42) rfl (fun hb24 => ?_) (fun hb24 => ?_)
   ·replace hM := ite_t hb24 hM
    refine run_puG (on_of rfl rfl rfl rfl) (fieldAddr_step hG rfl rfl rfl rfl rfl) rfl (ltb rfl) ?_
    refine run_rdG (on_of rfl rfl rfl rfl) (aload_rd hG rfl rfl rfl (by first | (simp [ldok]; done) | exact List.not_mem_nil | trivial)) rfl (ltb rfl) ?_
    refine run_puG (on_of rfl rfl rfl rfl) (abin_step rfl rfl rfl rfl (fun _ h => by cases h)) rfl (ltb rfl) ?_
    refine yP rfl ?_
    refine yL rfl ?_
    refine run_splitb (i := 47) rfl (fun hb25 => ?_) (fun hb25 => ?_)
    ·replace hM := ite_t hb25 hM
     refine run_puG (on_of rfl rfl rfl rfl) (fieldAddr_step hG rfl rfl rfl rfl rfl) rfl (ltb rfl) ?_
     refine run_rdG (on_of rfl rfl rfl rfl) (aload_rd hG rfl rfl rfl (by first | (simp [ldok]; done) | exact List.not_mem_nil | trivial)) rfl (ltb rfl) ?_
     refine run_puG (on_of rfl rfl rfl rfl) (move_step (.inl rfl) rfl) rfl (ltb rfl) ?_
     obtain ⟨r26, hg27, hM⟩ := bind_t hM
     refine yG (on_of rfl rfl rfl rfl) rfl (ih_s_l01Terms q1 f1 ks1 b2 hg27 _ _) (callK_retX (fun v tk28 (hle29 : tkj19 ≤ tk28) h30 => ?_))
     subst h30
     refine yP rfl ?_
     refine yR rfl ?_
     refine yN ?_
     refine run_ret_to ?_
     replace hM := some_t hM
     subst hM
     refine fin_x hG rfl rfl rfl (v' := .bool r26) (by rfl) ⟨rfl, (show tk ≤ tk28 by omega), _, rfl, rfl⟩
    replace hM := ite_f hb25 hM
    refine yO rfl ?_
    refine yO rfl ?_
    refine yO rfl ?_
    refine yO rfl ?_
    refine yP rfl ?_
    refine yR rfl ?_
    refine yN ?_
    refine run_ret_to ?_
    replace hM := some_t hM
    subst hM
    refine fin_x hG rfl rfl rfl (v' := .bool false) (by rfl) ⟨rfl, (show tk ≤ tkj19 by omega), _, rfl, rfl⟩
   replace hM := ite_f hb24 hM
   refine yO rfl ?_
   refine yO rfl ?_
   refine yO rfl ?_
   refine yP rfl ?_
   refine yL rfl ?_
   refine yO rfl ?_
   refine yO rfl ?_
   refine yO rfl ?_
   refine yO rfl ?_
   refine yP rfl ?_
   refine yR rfl ?_
   refine yN ?_
   refine run_ret_to ?_
   replace hM := some_t hM
   subst hM
   refine fin_x hG rfl rfl rfl (v' := .bool false) (by rfl) ⟨rfl, (show tk ≤ tkj19 by omega), _, rfl, rfl⟩
  replace hM := ite_f hb23 hM
  refine yO rfl ?_
  refine yO rfl ?_
  refine yO rfl ?_
  refine yP rfl ?_
  refine yL rfl ?_
  refine yO rfl ?_
  refine yO rfl ?_
  refine yO rfl ?_
  refine yP rfl ?_
  refine yL rfl ?_
  refine yO rfl ?_
  refine yO rfl ?_
  refine yO rfl ?_
  refine yO rfl ?_
  refine yP rfl ?_
  refine yR rfl ?_
  refine yN ?_
  refine run_ret_to ?_
  replace hM := some_t hM
  subst hM
  refine fin_x hG rfl rfl rfl (v' := .bool false) (by rfl) ⟨rfl, (show tk ≤ tkj19 by omega), _, rfl, rfl⟩
 replace hM := ite_f hb22 hM
 refine run_sr ?_
 refine yB rfl ?_
 refine yR rfl ?_
 refine yN ?_
 refine run_ifd rfl rfl (fun hb33 => ?_) (fun hb33 => ?_)
 ·replace hM := ite_t hb33 hM
  refine run_sr ?_
  refine yF hG rfl ?_
  refine yD hG rfl ?_
  refine yB rfl ?_
  refine yL rfl ?_
  refine run_splitd (i := 58) rfl (fun hb34 => ?_) (fun hb34 => ?_)
  ·replace hM := ite_t hb34 hM
   refine run_puG (on_of rfl rfl rfl rfl) (fieldAddr_step hG rfl rfl rfl rfl rfl) rfl (ltb rfl) ?_
   refine run_rdG (on_of rfl rfl rfl rfl) (aload_rd hG rfl rfl rfl (by first | (simp [ldok]; done) | exact List.not_mem_nil | trivial)) rfl (ltb rfl) ?_
   obtain ⟨r35, hg36, hM⟩ := bind_t hM
   refine yG (on_of rfl rfl rfl rfl) rfl (s_NameOK_ok n s1 hg36 _ _) (callK_retX (fun v tk37 (hle38 : tkj19 ≤ tk37) h39 => ?_))
   subst h39
   refine yP rfl ?_
   refine yL rfl ?_
   refine run_splitb (i := 63) rfl (fun hb42 => ?_) (fun hb42 => ?_)
   ·replace hM := ite_t hb42 hM
    refine run_puG (on_of rfl rfl rfl rfl) (fieldAddr_step hG rfl rfl rfl rfl rfl) rfl (ltb rfl) ?_
    refine run_rdG (on_of rfl rfl rfl rfl) (aload_rd hG rfl rfl rfl (by first | (simp [ldok]; done) | exact List.not_mem_nil | trivial)) rfl (ltb rfl) ?_
    refine run_puG (on_of rfl rfl rfl rfl) (move_step (.inl rfl) rfl) rfl (ltb rfl) ?_
    obtain ⟨r43, hg44, hM⟩ := bind_t hM
    refine yG (on_of rfl rfl rfl rfl) rfl (ih_s_l01Terms q1 f1 ks1 b2 hg44 _ _) (callK_retX (fun v tk45 (hle46 : tk37 ≤ tk45) h47 => ?_))
    subst h47
    refine yP rfl ?_
    refine yR rfl ?_
    refine yN ?_
    refine run_ret_to ?_
    replace hM := some_t hM
    subst hM
    refine fin_x hG rfl rfl rfl (v' := .bool r43) (by rfl) ⟨rfl, (show tk ≤ tk45 by omega), _, rfl, rfl⟩
   replace hM := ite_f hb42 hM
   refine yO rfl ?_
   refine yO rfl ?_
   refine yO rfl ?_
   refine yO rfl ?_
   refine yP rfl ?_
   refine yR rfl ?_
   refine yN ?_
   refine run_ret_to ?_
   replace hM := some_t hM
   subst hM
   refine fin_x hG rfl rfl rfl (v' := .bool false) (by rfl) ⟨rfl, (show tk ≤ tk37 by omega), _, rfl, rfl⟩
  replace hM := ite_f hb34 hM
  refine yO rfl ?_
  refine yO rfl ?_
  refine yO rfl ?_
  refine yP rfl ?_
  refine yL rfl ?_
  refine yO rfl ?_
  refine yO rfl ?_
  refine yO rfl ?_
  refine yO rfl ?_
  refine yP rfl ?_
  refine yR rfl ?_
  refine yN ?_
  refine run_ret_to ?_
  replace hM := some_t hM
  subst hM
  refine fin_x hG rfl rfl rfl (v' := .bool false) (by rfl) ⟨rfl, (show tk ≤ tkj19 by omega), _, rfl, rfl⟩
 replace hM := ite_f hb33 hM
 refine run_skip ?_
 refine run_blk ?_
 refine run_sr ?_
 refine yR rfl ?_
 refine yN ?_
 refine run_ret_to ?_
 replace hM := some_t hM
 subst hM
 refine fin_x hG rfl rfl rfl (v' := .bool false) (by rfl) ⟨rfl, (show tk ≤ tkj19 by omega), _, rfl, rfl⟩

set_option maxHeartbeats 20000000 in
set_option maxHeartbeats 20000000 in
set_option maxRecDepth 100000 in
theorem s_l01Terms_st (n : Nat) (ih_s_l01Term : ∀ (k1 : Int) (n1 : Int) (s1 : ByteArray) (q1 : Nat) (f1 : Bool) (ks1 : List LT) (b2 : Bool) {r : Bool}, s_l01Term n (T.mk k1 n1 s1 (ers ks1)) b2 = some r → ∀ (O : Heap) (tk : Nat), ACalls Go.Proofs.Tryz.prog 37 [.agg [.int .i64 k1, .int .i64 n1, .str s1, .imm q1 4 f1 (cellss ks1)], .bool b2] O tk (RetX O tk (fun v tk' => v = .bool r))) : s_l01Terms_P (n + 1) := by
 intro q1 f1 ks1 b2 r hM O tk
 rw [s_l01Terms] at hM
 refine acalls_of_run Go.Proofs.Tryz.func66 rfl rfl [] [] (Bor.nil _) [(0, .imm q1 4 f1 (cellss ks1)), (1, .bool b2)] (.cons (entS rfl) (.cons (entS rfl) (.nil _))) (leb rfl) (fun _ h => by cases h) (fun S0 hO htk hfz => ?_)
 refine run_sr ?_
 refine yR rfl ?_
 refine yN ?_
 refine run_seq ?_
 refine run_sr ?_
 refine yR rfl ?_
 refine yN ?_
 refine run_block ?_
 refine run_rounds (fun m σ => ∃ (i3 : Int) (tks_l01Terms_L1 : Nat), tk ≤ tks_l01Terms_L1 ∧ s_l01Terms_L1 (s_l01Term n) (ers ks1) b2 m i3 = some r ∧ σ = ⟨[(0, .imm q1 4 f1 (cellss ks1)), (1, .bool b2), (4, .bool false), (5, .int .i64 i3)], [], [], O, tks_l01Terms_L1⟩) n (Sub.pk [0, 1, 4, 5] rfl) ⟨0, tk, Nat.le_refl _, hM, rfl⟩ (fun m σ hI => ?_)
 clear hM
 obtain ⟨i3, tks_l01Terms_L1, hle56, hM, rfl⟩ := hI
 obtain _ | m := m
 ·exact absurd hM (by rw [s_l01Terms_L1]; exact fun h => by cases h)
 rw [s_l01Terms_L1] at hM
 refine run_seq ?_
 refine run_sr ?_
 refine yL rfl ?_
 refine yL rfl ?_
 refine run_pu rfl (lenImm_step hG rfl rfl rfl rfl (tlen _)) rfl (ltb rfl) ?_
 refine yB rfl ?_
 refine yN ?_
 refine run_ifd rfl rfl (fun hb4 => ?_) (fun hb4 => ?_)
 ·replace hM := ite_t hb4 hM
  refine run_skip ?_
  refine run_seq ?_
  refine run_block ?_
  refine run_seq ?_
  refine run_sr ?_
  refine yL rfl ?_
  refine yL rfl ?_
  refine run_splitb (i := 13) rfl (fun hb5 => ?_) (fun hb5 => ?_)
  ·replace hM := ite_t hb5 hM
   refine run_puG (on_of rfl rfl rfl rfl) (move_step (.inl rfl) rfl) rfl (ltb rfl) ?_
   refine run_puG (on_of rfl rfl rfl rfl) (move_step (.inl rfl) rfl) rfl (ltb rfl) ?_
   obtain ⟨y6, hy7, hM⟩ := bind_t hM
   obtain ⟨k8, n8, s8, q8, f8, ks8, rfl, hc9, hi10⟩ := tidx (ks := ks1) hy7
   refine run_puG (on_of rfl rfl rfl rfl) (indexImm_step hG rfl rfl rfl hi10 rfl rfl rfl rfl hc9) rfl (ltb rfl) ?_
   refine run_puG (on_of rfl rfl rfl rfl) (fieldAddr_step hG rfl rfl rfl rfl rfl) rfl (ltb rfl) ?_
   refine run_rdG (on_of rfl rfl rfl rfl) (aload_rd hG rfl rfl rfl (by first | (simp [ldok]; done) | exact List.not_mem_nil | trivial)) rfl (ltb rfl) ?_
   refine run_puG (on_of rfl rfl rfl rfl) (abin_step rfl rfl rfl rfl (fun _ h => by cases h)) rfl (ltb rfl) ?_
   refine yP rfl ?_
   refine yN ?_
   refine run_ifd rfl rfl (fun hb11 => ?_) (fun hb11 => ?_)
   ·replace hM := ite_t hb11 hM
    refine run_seq ?_
    refine run_sr ?_
    refine yL rfl ?_
    refine yL rfl ?_
    obtain ⟨y12, hy13, hM⟩ := bind_t hM
    obtain ⟨k14, n14, s14, q14, f14, ks14, rfl, hc15, hi16⟩ := tidx (ks := ks1) hy13
    refine run_pu rfl (indexImm_step hG rfl rfl rfl hi16 rfl rfl rfl rfl hc15) rfl (ltb rfl) ?_
    refine yF hG rfl ?_
    refine yD hG rfl ?_
    refine yB rfl ?_
    refine yL rfl ?_
    refine run_splitb (i := 27) rfl (fun hb17 => ?_) (fun hb17 => ?_)
    ·replace hM := ite_t hb17 hM
     refine yO rfl ?_
     refine yO rfl ?_
     refine yO rfl ?_
     refine yO rfl ?_
     refine yO rfl ?_
     refine yO rfl ?_
     refine yP rfl ?_
     refine yL rfl ?_
     refine yO rfl ?_
     refine yO rfl ?_
     refine yO rfl ?_
     refine yO rfl ?_
     refine yO rfl ?_
     refine yO rfl ?_
     refine yO rfl ?_
     refine yP rfl ?_
     refine yN ?_
     refine run_sub_code (σ' := ⟨[(0, .imm q1 4 f1 (cellss ks1)), (1, .bool b2), (4, .bool false), (5, .int .i64 i3), (43, .bool true)], [], [], O, tks_l01Terms_L1⟩) (Sub.env _ ⟨rfl, rfl, rfl, rfl, rfl, trivial⟩) ?_
     refine run_if rfl rfl (fun _ => ?_) (fun h => by cases h)
     refine run_sr ?_
     refine yR rfl ?_
     refine yN ?_
     refine run_ret_to ?_
     replace hM := some_t hM
     subst hM
     refine fin_x hG rfl rfl rfl (v' := .bool false) (by rfl) ⟨rfl, (show tk ≤ tks_l01Terms_L1 by omega), _, rfl, rfl⟩
    replace hM := ite_f hb17 hM
    refine run_puG (on_of rfl rfl rfl rfl) (move_step (.inl rfl) rfl) rfl (ltb rfl) ?_
    refine run_puG (on_of rfl rfl rfl rfl) (move_step (.inl rfl) rfl) rfl (ltb rfl) ?_
    obtain ⟨y18, hy19, hM⟩ := bind_t hM
    obtain ⟨k20, n20, s20, q20, f20, ks20, rfl, hc21, hi22⟩ := tidx (ks := ks1) hy19
    refine run_puG (on_of rfl rfl rfl rfl) (indexImm_step hG rfl rfl rfl hi22 rfl rfl rfl rfl hc21) rfl (ltb rfl) ?_
    refine run_puG (on_of rfl rfl rfl rfl) (fieldAddr_step hG rfl rfl rfl rfl rfl) rfl (ltb rfl) ?_
    refine run_rdG (on_of rfl rfl rfl rfl) (aload_rd hG rfl rfl rfl (by first | (simp [ldok]; done) | exact List.not_mem_nil | trivial)) rfl (ltb rfl) ?_
    refine run_puG (on_of rfl rfl rfl rfl) (abin_step rfl rfl rfl rfl (fun _ h => by cases h)) rfl (ltb rfl) ?_
    refine yP rfl ?_
    refine yL rfl ?_
    refine run_splitb (i := 35) rfl (fun hb23 => ?_) (fun hb23 => ?_)
    ·replace hM := ite_t hb23 hM
     refine yO rfl ?_
     refine yO rfl ?_
     refine yO rfl ?_
     refine yO rfl ?_
     refine yO rfl ?_
     refine yO rfl ?_
     refine yO rfl ?_
     refine yP rfl ?_
     refine yN ?_
     refine run_sub_code (σ' := ⟨[(0, .imm q1 4 f1 (cellss ks1)), (1, .bool b2), (4, .bool false), (5, .int .i64 i3), (43, .bool true)], [], [], O, tks_l01Terms_L1⟩) (Sub.env _ ⟨rfl, rfl, rfl, rfl, rfl, trivial⟩) ?_
     refine run_if rfl rfl (fun _ => ?_) (fun h => by cases h)
     refine run_sr ?_
     refine yR rfl ?_
     refine yN ?_
     refine run_ret_to ?_
     replace hM := some_t hM
     subst hM
     refine fin_x hG rfl rfl rfl (v' := .bool false) (by rfl) ⟨rfl, (show tk ≤ tks_l01Terms_L1 by omega), _, rfl, rfl⟩
    replace hM := ite_f hb23 hM
    refine run_puG (on_of rfl rfl rfl rfl) (move_step (.inl rfl) rfl) rfl (ltb rfl) ?_
    refine run_puG (on_of rfl rfl rfl rfl) (move_step (.inl rfl) rfl) rfl (ltb rfl) ?_
    obtain ⟨y24, hy25, hM⟩ := bind_t hM
    obtain ⟨k26, n26, s26, q26, f26, ks26, rfl, hc27, hi28⟩ := tidx (ks := ks1) hy25
    refine run_puG (on_of rfl rfl rfl rfl) (indexImm_step hG rfl rfl rfl hi28 rfl rfl rfl rfl hc27) rfl (ltb rfl) ?_
    refine run_puG (on_of rfl rfl rfl rfl) (fieldAddr_step hG rfl rfl rfl rfl rfl) rfl (ltb rfl) ?_
    refine run_rdG (on_of rfl rfl rfl rfl) (aload_rd hG rfl rfl rfl (by first | (simp [ldok]; done) | exact List.not_mem_nil | trivial)) rfl (ltb rfl) ?_
    refine run_puG (on_of rfl rfl rfl rfl) (lenImm_step hG rfl rfl rfl rfl (tlen _)) rfl (ltb rfl) ?_
    refine run_puG (on_of rfl rfl rfl rfl) (abin_step rfl rfl rfl rfl (fun _ h => by cases h)) rfl (ltb rfl) ?_
    refine yP rfl ?_
    refine yN ?_
    refine run_sub_code (σ' := ⟨[(0, .imm q1 4 f1 (cellss ks1)), (1, .bool b2), (4, .bool false), (5, .int .i64 i3), (43, .bool ((((ers ks26)).length : Int) != 0))], [], [], O, tks_l01Terms_L1⟩) (Sub.env _ ⟨rfl, rfl, rfl, rfl, rfl, trivial⟩) ?_
    refine run_ifb rfl rfl (fun hb29 => ?_) (fun hb29 => ?_)
    ·replace hM := ite_t hb29 hM
     refine run_sr ?_
     refine yR rfl ?_
     refine yN ?_
     refine run_ret_to ?_
     replace hM := some_t hM
     subst hM
     refine fin_x hG rfl rfl rfl (v' := .bool false) (by rfl) ⟨rfl, (show tk ≤ tks_l01Terms_L1 by omega), _, rfl, rfl⟩
    replace hM := ite_f hb29 hM
    refine run_skip ?_
    refine run_exit_to rfl ?_
    refine run_region ?_
    refine yL rfl ?_
    refine yB rfl ?_
    refine yR rfl ?_
    refine yN ?_
    exact run_loop_end ⟨m, _, Nat.lt_succ_self _, ⟨(IntKind.i64.wrap (i3 + 1)), tks_l01Terms_L1, (show tk ≤ tks_l01Terms_L1 by omega), hM, rfl⟩, Sub.pk [0, 1, 4, 5] rfl⟩
   replace hM := ite_f hb11 hM
   refine run_skip ?_
   refine run_sr ?_
   refine yL rfl ?_
   refine yL rfl ?_
   obtain ⟨y30, hy31, hM⟩ := bind_t hM
   obtain ⟨k32, n32, s32, q32, f32, ks32, rfl, hc33, hi34⟩ := tidx (ks := ks1) hy31
   refine run_pu rfl (indexImm_step hG rfl rfl rfl hi34 rfl rfl rfl rfl hc33) rfl (ltb rfl) ?_
   refine yD hG rfl ?_
   refine yL rfl ?_
   obtain ⟨r35, hg36, hM⟩ := bind_t hM
   refine yK rfl (ih_s_l01Term k32 n32 s32 q32 f32 ks32 b2 hg36 _ _) (callK_retX (fun v tk37 (hle38 : tks_l01Terms_L1 ≤ tk37) h39 => ?_))
   subst h39
   refine run_pu rfl (aun_step rfl rfl rfl) rfl (ltb rfl) ?_
   refine yN ?_
   refine run_sub_code (σ' := ⟨[(0, .imm q1 4 f1 (cellss ks1)), (1, .bool b2), (4, .bool false), (5, .int .i64 i3), (50, .bool (!r35))], [], [], O, tk37⟩) (Sub.env _ ⟨rfl, rfl, rfl, rfl, rfl, trivial⟩) ?_
   refine run_ifb rfl rfl (fun hb42 => ?_) (fun hb42 => ?_)
   ·replace hM := ite_t hb42 hM
    refine run_sr ?_
    refine yR rfl ?_
    refine yN ?_
    refine run_ret_to ?_
    replace hM := some_t hM
    subst hM
    refine fin_x hG rfl rfl rfl (v' := .bool false) (by rfl) ⟨rfl, (show tk ≤ tk37 by omega), _, rfl, rfl⟩
   replace hM := ite_f hb42 hM
   refine run_skip ?_
   refine run_blk ?_
   refine run_region ?_
   refine yL rfl ?_
   refine yB rfl ?_
   refine yR rfl ?_
   refine yN ?_
   exact run_loop_end ⟨m, _, Nat.lt_succ_self _, ⟨(IntKind.i64.wrap (i3 + 1)), tk37, (show tk ≤ tk37 by omega), hM, rfl⟩, Sub.pk [0, 1, 4, 5] rfl⟩
  replace hM := ite_f hb5 hM
  refine yO rfl ?_
  refine yO rfl ?_
  refine yO rfl ?_
  refine yO rfl ?_
  refine yO rfl ?_
  refine yO rfl ?_
  refine yP rfl ?_
  refine yN ?_
  refine run_if rfl rfl (fun h => by cases h) (fun _ => ?_)
  refine run_skip ?_
  refine run_sr ?_
  refine yL rfl ?_
  refine yL rfl ?_
  obtain ⟨y43, hy44, hM⟩ := bind_t hM
  obtain ⟨k45, n45, s45, q45, f45, ks45, rfl, hc46, hi47⟩ := tidx (ks := ks1) hy44
  refine run_pu rfl (indexImm_step hG rfl rfl rfl hi47 rfl rfl rfl rfl hc46) rfl (ltb rfl) ?_
  refine yD hG rfl ?_
  refine yL rfl ?_
  obtain ⟨r48, hg49, hM⟩ := bind_t hM
  refine yK rfl (ih_s_l01Term k45 n45 s45 q45 f45 ks45 b2 hg49 _ _) (callK_retX (fun v tk50 (hle51 : tks_l01Terms_L1 ≤ tk50) h52 => ?_))
  subst h52
  refine run_pu rfl (aun_step rfl rfl rfl) rfl (ltb rfl) ?_
  refine yN ?_
  refine run_sub_code (σ' := ⟨[(0, .imm q1 4 f1 (cellss ks1)), (1, .bool b2), (4, .bool false), (5, .int .i64 i3), (50, .bool (!r48))], [], [], O, tk50⟩) (Sub.env _ ⟨rfl, rfl, rfl, rfl, rfl, trivial⟩) ?_
  refine run_ifb rfl rfl (fun hb55 => ?_) (fun hb55 => ?_)
  ·replace hM := ite_t hb55 hM
   refine run_sr ?_
   refine yR rfl ?_
   refine yN ?_
   refine run_ret_to ?_
   replace hM := some_t hM
   subst hM
   refine fin_x hG rfl rfl rfl (v' := .bool false) (by rfl) ⟨rfl, (show tk ≤ tk50 by omega), _, rfl, rfl⟩
  replace hM := ite_f hb55 hM
  refine run_skip ?_
  refine run_blk ?_
  refine run_region ?_
  refine yL rfl ?_
  refine yB rfl ?_
  refine yR rfl ?_
  refine yN ?_
  exact run_loop_end ⟨m, _, Nat.lt_succ_self _, ⟨(IntKind.i64.wrap (i3 + 1)), tk50, (show tk ≤ tk50 by omega), hM, rfl⟩, Sub.pk [0, 1, 4, 5] rfl⟩
 replace hM := ite_f hb4 hM
 refine run_exit_to rfl ?_
 refine run_sr ?_
 refine yR rfl ?_
 refine yN ?_
 refine run_ret_to ?_
 replace hM := some_t hM
 subst hM
 refine fin_x hG rfl rfl rfl (v' := .bool true) (by rfl) ⟨rfl, (show tk ≤ tks_l01Terms_L1 by omega), _, rfl, rfl⟩

theorem s_l01Term_all : ∀ (n : Nat), (∀ (k1 : Int) (n1 : Int) (s1 : ByteArray) (q1 : Nat) (f1 : Bool) (ks1 : List LT) (b2 : Bool) {r : Bool}, s_l01Term n (T.mk k1 n1 s1 (ers ks1)) b2 = some r → ∀ (O : Heap) (tk : Nat), ACalls Go.Proofs.Tryz.prog 37 [.agg [.int .i64 k1, .int .i64 n1, .str s1, .imm q1 4 f1 (cellss ks1)], .bool b2] O tk (RetX O tk (fun v tk' => v = .bool r))) ∧ (s_l01Terms_P n)
 | 0 => ⟨(by intro k1 n1 s1 q1 f1 ks1 b2 r hM; rw [s_l01Term] at hM; cases hM), (by intro q1 f1 ks1 b2 r hM; rw [s_l01Terms] at hM; cases hM)⟩
 | n + 1 => have ih := s_l01Term_all n; ⟨s_l01Term_st n (ih.1) (ih.2), s_l01Terms_st n (ih.1)⟩

theorem s_l01Terms_ok (n : Nat) : s_l01Terms_P n := (s_l01Term_all n).2

end Go.Am.YtoajlhhalpldfaaGreatDoor
