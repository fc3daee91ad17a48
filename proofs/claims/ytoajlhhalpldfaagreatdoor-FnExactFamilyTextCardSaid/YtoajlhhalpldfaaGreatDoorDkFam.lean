/- Printed by a program of ours: Lean functions that do what the Go functions do, and the contracts. -/
import Derived.Test.YtoajlhhalpldfaaGreatDoorMl0
import Derived.Test.YtoajlhhalpldfaaGreatDoorTypes
import Derived.Test.YtoajlhhalpldfaaGreatDoorDkTerm
import Derived.Test.YtoajlhhalpldfaaGreatDoorMz
-- packed
namespace Go.Am.YtoajlhhalpldfaaGreatDoor
open Go Go.Am

def i_looker_family : Nat → (Int × Bool) → T → Bool → Option (Bool × (Int × Bool))
 | 0, _, _, _ => none
 | n + 1, z1, x4, b5 =>
  (i_looker_node (z1.1, z1.2)).bind fun r6 =>
  if (!r6.1) = true then
   some (false, (r6.2.1, r6.2.2))
  else
   if x4.kind = 1 then
    if b5 = true then
     (i_Tree_bare__c x4 0).bind fun r20 =>
     some (r20, (r6.2.1, r6.2.2))
    else
     some (false, (r6.2.1, r6.2.2))
   else
    if x4.kind = 3 then
     if (!b5) = true then
      if x4.n = 0 then
       (i_NameOK x4.name).bind fun r30 =>
       if r30 = true then
        (i_looker_args n (r6.2.1, r6.2.2) x4.kids).bind fun r38 =>
        some (r38.1, (r38.2.1, r38.2.2))
       else
        some (false, (r6.2.1, r6.2.2))
      else
       some (false, (r6.2.1, r6.2.2))
     else
      some (false, (r6.2.1, r6.2.2))
    else
     if x4.kind = 2 then
      (i_Tree_bare__c x4 2).bind fun r50 =>
      if r50 = true then
       (idx x4.kids 0).bind fun y58 =>
       (i_looker_family n (r6.2.1, r6.2.2) y58 false).bind fun r63 =>
       if r63.1 = true then
        (idx x4.kids 1).bind fun y75 =>
        (i_looker_family n (r63.2.1, r63.2.2) y75 b5).bind fun r80 =>
        some (r80.1, (r80.2.1, r80.2.2))
       else
        some (false, (r63.2.1, r63.2.2))
      else
       some (false, (r6.2.1, r6.2.2))
     else
      some (false, (r6.2.1, r6.2.2))

def i_looker_family_P (n : Nat) : Prop := ∀ (X0 : ID) (i2 : Int) (b3 : Bool) (k4 : Int) (n4 : Int) (s4 : ByteArray) (q4 : Nat) (f4 : Bool) (ks4 : List LT) (b5 : Bool) {r : (Bool × (Int × Bool))}, i_looker_family n (i2, b3) (T.mk k4 n4 s4 (ers ks4)) b5 = some r → ∀ (O : Heap) (tk : Nat), O X0 = some ⟨100, 2, true, [[.int .i64 i2, .bool b3]]⟩ → ACalls Go.Proofs.Tryz.prog 77 [.optr X0 0 0, .agg [.int .i64 k4, .int .i64 n4, .str s4, .imm q4 4 f4 (cellss ks4)], .bool b5] O tk (RetV O X0 tk (fun v o' tk' => ∃ r0', ∃ (c0 : Int) (c1 : Bool) , r = (r0', (c0, c1)) ∧ o' = ⟨100, 2, true, [[.int .i64 c0, .bool c1]]⟩ ∧ v = .bool r0'))

set_option maxHeartbeats 20000000 in
set_option maxHeartbeats 20000000 in
set_option maxRecDepth 100000 in
theorem i_looker_family_st (n : Nat) (ih_i_looker_family : i_looker_family_P n) : i_looker_family_P (n + 1) := by
 intro X0 i2 b3 k4 n4 s4 q4 f4 ks4 b5 r hM O tk hX0
 rw [i_looker_family] at hM
 refine acalls_of_run Go.Proofs.Tryz.func77 rfl rfl [X0] [⟨100, 2, true, [[.int .i64 i2, .bool b3]]⟩] (Bor.one hX0 rfl) [(0, .optr (.bor 0) 0 0), (1, .agg [.int .i64 k4, .int .i64 n4, .str s4, .imm q4 4 f4 (cellss ks4)]), (2, .bool b5)] (.cons (.bor 0 _ _ _ rfl) (.cons (.agg _) (.cons (entS rfl) (.nil _)))) (leb rfl) (by intro y h; simp only [List.mem_cons, List.not_mem_nil, or_false] at h; rcases h with rfl <;> simp [tch, tch0]) (fun S0 hO htk hfz => ?_)
 refine run_sr ?_
 refine run_op rfl (box_step (d := 4) rfl rfl rfl rfl rfl) rfl (ltb rfl) ?_
 refine yR rfl ?_
 refine yN ?_
 refine run_seq ?_
 refine run_sr ?_
 refine yL rfl ?_
 obtain ⟨r6, hg7, hM⟩ := bind_t hM
 refine yK rfl (i_looker_node_ok (.bor 0) i2 b3 hg7 _ _ rfl) (callK_retV_bor (k := 0) rfl (fun v o' tk' h => by obtain ⟨_, _, _, rfl, rfl, _⟩ := h; rfl) (fun v o'16 tk8 (hle9 : tk ≤ tk8) h10 => ?_))
 obtain ⟨ra15, c13, c14, rfl, rfl, rfl⟩ := h10
 refine run_pu rfl (aun_step rfl rfl rfl) rfl (ltb rfl) ?_
 refine yN ?_
 refine run_ifb rfl rfl (fun hb17 => ?_) (fun hb17 => ?_)
 ·replace hM := ite_t hb17 hM
  refine run_sr ?_
  refine yR rfl ?_
  refine yN ?_
  refine run_ret_to ?_
  replace hM := some_t hM
  subst hM
  refine fin_x hG rfl rfl rfl (v' := .bool false) (by rfl) ⟨_, ⟨100, 2, true, [[.int .i64 c13, .bool c14]]⟩, rfl, rfl, (show tk ≤ tk8 by omega), ⟨_, c13, c14, rfl, rfl, rfl⟩⟩
 replace hM := ite_f hb17 hM
 refine run_skip ?_
 refine run_seq ?_
 refine run_sr ?_
 refine yF hG rfl ?_
 refine yD hG rfl ?_
 refine yN ?_
 refine run_block ?_
 refine run_sr ?_
 refine yB rfl ?_
 refine yR rfl ?_
 refine yN ?_
 refine run_ifd rfl rfl (fun hb18 => ?_) (fun hb18 => ?_)
 ·replace hM := ite_t hb18 hM
  refine run_sr ?_
  refine yL rfl ?_
  refine yL rfl ?_
  refine run_splitb (i := 15) rfl (fun hb19 => ?_) (fun hb19 => ?_)
  ·replace hM := ite_t hb19 hM
   refine run_sub_ops (Sub.frbox (k := 4) (env' := [(0, .optr (.bor 0) 0 0), (1, .agg [.int .i64 k4, .int .i64 n4, .str s4, .imm q4 4 f4 (cellss ks4)]), (2, .bool b5), (4, .cptr [.int .i64 k4, .int .i64 n4, .str s4, .imm q4 4 f4 (cellss ks4)]), (6, .bool false), (7, .optr (.bor 0) 0 0), (8, .bool ra15), (9, .bool (!ra15)), (10, .cptr [.int .i64 k4, .int .i64 n4, .str s4, .imm q4 4 f4 (cellss ks4)]), (11, .int .i64 k4), (13, .bool (k4 == 1)), (12, .bool (k4 == 1)), (14, .bool b5), (15, .bool true)]) rfl rfl (.keep 0 _ _ rfl (.keep 1 _ _ rfl (.keep 2 _ _ rfl (.ptr 4 0 _ rfl (.keep 6 _ _ rfl (.keep 7 _ _ rfl (.keep 8 _ _ rfl (.keep 9 _ _ rfl (.ptr 10 0 _ rfl (.keep 11 _ _ rfl (.keep 13 _ _ rfl (.keep 12 _ _ rfl (.keep 14 _ _ rfl (.keep 15 _ _ rfl .nil))))))))))))))) ?_
   obtain ⟨r20, hg21, hM⟩ := bind_t hM
   refine yG (on_of rfl rfl rfl rfl) rfl (i_Tree_bare__c_ok k4 n4 s4 q4 f4 ks4 0 hg21 _ _) (callK_retX (fun v tk22 (hle23 : tk8 ≤ tk22) h24 => ?_))
   subst h24
   refine yP rfl ?_
   refine yR rfl ?_
   refine yN ?_
   refine run_ret_to ?_
   replace hM := some_t hM
   subst hM
   refine fin_x hG rfl rfl rfl (v' := .bool r20) (by rfl) ⟨_, ⟨100, 2, true, [[.int .i64 c13, .bool c14]]⟩, rfl, rfl, (show tk ≤ tk22 by omega), ⟨_, c13, c14, rfl, rfl, rfl⟩⟩
  replace hM := ite_f hb19 hM
  refine yO rfl ?_
  refine yP rfl ?_
  refine yR rfl ?_
  refine yN ?_
  refine run_ret_to ?_
  replace hM := some_t hM
  subst hM
  refine fin_x hG rfl rfl rfl (v' := .bool false) (by rfl) ⟨_, ⟨100, 2, true, [[.int .i64 c13, .bool c14]]⟩, rfl, rfl, (show tk ≤ tk8 by omega), ⟨_, c13, c14, rfl, rfl, rfl⟩⟩
 replace hM := ite_f hb18 hM
 refine run_sr ?_
 refine yB rfl ?_
 refine yR rfl ?_
 refine yN ?_
 refine run_ifd rfl rfl (fun hb27 => ?_) (fun hb27 => ?_)
 ·replace hM := ite_t hb27 hM
  refine run_sr ?_
  refine yL rfl ?_
  refine run_pu rfl (aun_step rfl rfl rfl) rfl (ltb rfl) ?_
  refine yL rfl ?_
  refine run_splitb (i := 22) rfl (fun hb28 => ?_) (fun hb28 => ?_)
  ·replace hM := ite_t hb28 hM
   refine run_puG (on_of rfl rfl rfl rfl) (fieldAddr_step hG rfl rfl rfl rfl rfl) rfl (ltb rfl) ?_
   refine run_rdG (on_of rfl rfl rfl rfl) (aload_rd hG rfl rfl rfl (by first | (simp [ldok]; done) | exact List.not_mem_nil | trivial)) rfl (ltb rfl) ?_
   refine run_puG (on_of rfl rfl rfl rfl) (abin_step rfl rfl rfl rfl (fun _ h => by cases h)) rfl (ltb rfl) ?_
   refine yP rfl ?_
   refine yL rfl ?_
   refine run_splitd (i := 27) rfl (fun hb29 => ?_) (fun hb29 => ?_)
   ·replace hM := ite_t hb29 hM
    refine run_puG (on_of rfl rfl rfl rfl) (fieldAddr_step hG rfl rfl rfl rfl rfl) rfl (ltb rfl) ?_
    refine run_rdG (on_of rfl rfl rfl rfl) (aload_rd hG rfl rfl rfl (by first | (simp [ldok]; done) | exact List.not_mem_nil | trivial)) rfl (ltb rfl) ?_
    obtain ⟨r30, hg31, hM⟩ := bind_t hM
    refine yG (on_of rfl rfl rfl rfl) rfl (i_NameOK_ok s4 hg31 _ _) (callK_retX (fun v tk32 (hle33 : tk8 ≤ tk32) h34 => ?_))
    subst h34
    refine yP rfl ?_
    refine yL rfl ?_
    refine run_splitb (i := 32) rfl (fun hb37 => ?_) (fun hb37 => ?_)
    ·replace hM := ite_t hb37 hM
     refine run_puG (on_of rfl rfl rfl rfl) (move_step (.inl rfl) rfl) rfl (ltb rfl) ?_
     refine run_puG (on_of rfl rfl rfl rfl) (fieldAddr_step hG rfl rfl rfl rfl rfl) rfl (ltb rfl) ?_
     refine run_rdG (on_of rfl rfl rfl rfl) (aload_rd hG rfl rfl rfl (by first | (simp [ldok]; done) | exact List.not_mem_nil | trivial)) rfl (ltb rfl) ?_
     obtain ⟨r38, hg39, hM⟩ := bind_t hM
     refine yG (on_of rfl rfl rfl rfl) rfl (i_looker_args_ok n (.bor 0) c13 c14 q4 f4 ks4 hg39 _ _ rfl) (callK_retV_bor (k := 0) rfl (fun v o' tk' h => by obtain ⟨_, _, _, rfl, rfl, _⟩ := h; rfl) (fun v o'48 tk40 (hle41 : tk32 ≤ tk40) h42 => ?_))
     obtain ⟨ra47, c45, c46, rfl, rfl, rfl⟩ := h42
     refine yP rfl ?_
     refine yR rfl ?_
     refine yN ?_
     refine run_ret_to ?_
     replace hM := some_t hM
     subst hM
     refine fin_x hG rfl rfl rfl (v' := .bool ra47) (by rfl) ⟨_, ⟨100, 2, true, [[.int .i64 c45, .bool c46]]⟩, rfl, rfl, (show tk ≤ tk40 by omega), ⟨_, c45, c46, rfl, rfl, rfl⟩⟩
    replace hM := ite_f hb37 hM
    refine yO rfl ?_
    refine yO rfl ?_
    refine yO rfl ?_
    refine yO rfl ?_
    refine yP rfl ?_
    refine yR rfl ?_
    refine yN ?_
    refine run_ret_to ?_
    replace hM := some_t hM
    subst hM
    refine fin_x hG rfl rfl rfl (v' := .bool false) (by rfl) ⟨_, ⟨100, 2, true, [[.int .i64 c13, .bool c14]]⟩, rfl, rfl, (show tk ≤ tk32 by omega), ⟨_, c13, c14, rfl, rfl, rfl⟩⟩
   replace hM := ite_f hb29 hM
   refine yO rfl ?_
   refine yO rfl ?_
   refine yO rfl ?_
   refine yP rfl ?_
   refine yL rfl ?_
   refine yO rfl ?_
   refine yO rfl ?_
   refine yO rfl ?_
   refine yO rfl ?_
   refine yP rfl ?_
   refine yR rfl ?_
   refine yN ?_
   refine run_ret_to ?_
   replace hM := some_t hM
   subst hM
   refine fin_x hG rfl rfl rfl (v' := .bool false) (by rfl) ⟨_, ⟨100, 2, true, [[.int .i64 c13, .bool c14]]⟩, rfl, rfl, (show tk ≤ tk8 by omega), ⟨_, c13, c14, rfl, rfl, rfl⟩⟩
  replace hM := ite_f hb28 hM
  refine yO rfl ?_
  refine yO rfl ?_
  refine yO rfl ?_
  refine yP rfl ?_
  refine yL rfl ?_
  refine yO rfl ?_
  refine yO rfl ?_
  refine yO rfl ?_
  refine yP rfl ?_
  refine yL rfl ?_
  refine yO rfl ?_
  refine yO rfl ?_
  refine yO rfl ?_
  refine yO rfl ?_
  refine yP rfl ?_
  refine yR rfl ?_
  refine yN ?_
  refine run_ret_to ?_
  replace hM := some_t hM
  subst hM
  refine fin_x hG rfl rfl rfl (v' := .bool false) (by rfl) ⟨_, ⟨100, 2, true, [[.int .i64 c13, .bool c14]]⟩, rfl, rfl, (show tk ≤ tk8 by omega), ⟨_, c13, c14, rfl, rfl, rfl⟩⟩
 replace hM := ite_f hb27 hM
 refine run_sr ?_
 refine yB rfl ?_
 refine yR rfl ?_
 refine yN ?_
 refine run_ifd rfl rfl (fun hb49 => ?_) (fun hb49 => ?_)
 ·replace hM := ite_t hb49 hM
  refine run_sr ?_
  refine run_sub_ops (Sub.frbox (k := 4) (env' := [(0, .optr (.bor 0) 0 0), (1, .agg [.int .i64 k4, .int .i64 n4, .str s4, .imm q4 4 f4 (cellss ks4)]), (2, .bool b5), (4, .cptr [.int .i64 k4, .int .i64 n4, .str s4, .imm q4 4 f4 (cellss ks4)]), (6, .bool false), (7, .optr (.bor 0) 0 0), (8, .bool ra15), (9, .bool (!ra15)), (10, .cptr [.int .i64 k4, .int .i64 n4, .str s4, .imm q4 4 f4 (cellss ks4)]), (11, .int .i64 k4), (13, .bool (k4 == 1)), (12, .bool (k4 == 1)), (19, .bool (k4 == 3)), (18, .bool (k4 == 3)), (39, .bool (k4 == 2)), (38, .bool (k4 == 2))]) rfl rfl (.keep 0 _ _ rfl (.keep 1 _ _ rfl (.keep 2 _ _ rfl (.ptr 4 0 _ rfl (.keep 6 _ _ rfl (.keep 7 _ _ rfl (.keep 8 _ _ rfl (.keep 9 _ _ rfl (.ptr 10 0 _ rfl (.keep 11 _ _ rfl (.keep 13 _ _ rfl (.keep 12 _ _ rfl (.keep 19 _ _ rfl (.keep 18 _ _ rfl (.keep 39 _ _ rfl (.keep 38 _ _ rfl .nil))))))))))))))))) ?_
  obtain ⟨r50, hg51, hM⟩ := bind_t hM
  refine yK rfl (i_Tree_bare__c_ok k4 n4 s4 q4 f4 ks4 2 hg51 _ _) (callK_retX (fun v tk52 (hle53 : tk8 ≤ tk52) h54 => ?_))
  subst h54
  refine yL rfl ?_
  refine run_splitb (i := 41) rfl (fun hb57 => ?_) (fun hb57 => ?_)
  ·replace hM := ite_t hb57 hM
   refine run_puG (on_of rfl rfl rfl rfl) (move_step (.inl rfl) rfl) rfl (ltb rfl) ?_
   refine run_puG (on_of rfl rfl rfl rfl) (fieldAddr_step hG rfl rfl rfl rfl rfl) rfl (ltb rfl) ?_
   refine run_rdG (on_of rfl rfl rfl rfl) (aload_rd hG rfl rfl rfl (by first | (simp [ldok]; done) | exact List.not_mem_nil | trivial)) rfl (ltb rfl) ?_
   obtain ⟨y58, hy59, hM⟩ := bind_t hM
   obtain ⟨k60, n60, s60, q60, f60, ks60, rfl, hc61, hi62⟩ := tidx (ks := ks4) hy59
   refine run_puG (on_of rfl rfl rfl rfl) (indexImm_step hG rfl rfl rfl hi62 rfl rfl rfl rfl hc61) rfl (ltb rfl) ?_
   refine run_rdG (on_of rfl rfl rfl rfl) (aload_rd hG rfl rfl rfl (by first | (simp [ldok]; done) | exact List.not_mem_nil | trivial)) rfl (ltb rfl) ?_
   obtain ⟨r63, hg64, hM⟩ := bind_t hM
   refine yG (on_of rfl rfl rfl rfl) rfl (ih_i_looker_family (.bor 0) c13 c14 k60 n60 s60 q60 f60 ks60 false hg64 _ _ rfl) (callK_retV_bor (k := 0) rfl (fun v o' tk' h => by obtain ⟨_, _, _, rfl, rfl, _⟩ := h; rfl) (fun v o'73 tk65 (hle66 : tk52 ≤ tk65) h67 => ?_))
   obtain ⟨ra72, c70, c71, rfl, rfl, rfl⟩ := h67
   refine yP rfl ?_
   refine yL rfl ?_
   refine run_splitb (i := 49) rfl (fun hb74 => ?_) (fun hb74 => ?_)
   ·replace hM := ite_t hb74 hM
    refine run_puG (on_of rfl rfl rfl rfl) (move_step (.inl rfl) rfl) rfl (ltb rfl) ?_
    refine run_puG (on_of rfl rfl rfl rfl) (fieldAddr_step hG rfl rfl rfl rfl rfl) rfl (ltb rfl) ?_
    refine run_rdG (on_of rfl rfl rfl rfl) (aload_rd hG rfl rfl rfl (by first | (simp [ldok]; done) | exact List.not_mem_nil | trivial)) rfl (ltb rfl) ?_
    obtain ⟨y75, hy76, hM⟩ := bind_t hM
    obtain ⟨k77, n77, s77, q77, f77, ks77, rfl, hc78, hi79⟩ := tidx (ks := ks4) hy76
    refine run_puG (on_of rfl rfl rfl rfl) (indexImm_step hG rfl rfl rfl hi79 rfl rfl rfl rfl hc78) rfl (ltb rfl) ?_
    refine run_rdG (on_of rfl rfl rfl rfl) (aload_rd hG rfl rfl rfl (by first | (simp [ldok]; done) | exact List.not_mem_nil | trivial)) rfl (ltb rfl) ?_
    refine run_puG (on_of rfl rfl rfl rfl) (move_step (.inl rfl) rfl) rfl (ltb rfl) ?_
    obtain ⟨r80, hg81, hM⟩ := bind_t hM
    refine yG (on_of rfl rfl rfl rfl) rfl (ih_i_looker_family (.bor 0) c70 c71 k77 n77 s77 q77 f77 ks77 b5 hg81 _ _ rfl) (callK_retV_bor (k := 0) rfl (fun v o' tk' h => by obtain ⟨_, _, _, rfl, rfl, _⟩ := h; rfl) (fun v o'90 tk82 (hle83 : tk65 ≤ tk82) h84 => ?_))
    obtain ⟨ra89, c87, c88, rfl, rfl, rfl⟩ := h84
    refine yP rfl ?_
    refine yR rfl ?_
    refine yN ?_
    refine run_ret_to ?_
    replace hM := some_t hM
    subst hM
    refine fin_x hG rfl rfl rfl (v' := .bool ra89) (by rfl) ⟨_, ⟨100, 2, true, [[.int .i64 c87, .bool c88]]⟩, rfl, rfl, (show tk ≤ tk82 by omega), ⟨_, c87, c88, rfl, rfl, rfl⟩⟩
   replace hM := ite_f hb74 hM
   refine yO rfl ?_
   refine yO rfl ?_
   refine yO rfl ?_
   refine yO rfl ?_
   refine yO rfl ?_
   refine yO rfl ?_
   refine yO rfl ?_
   refine yP rfl ?_
   refine yR rfl ?_
   refine yN ?_
   refine run_ret_to ?_
   replace hM := some_t hM
   subst hM
   refine fin_x hG rfl rfl rfl (v' := .bool false) (by rfl) ⟨_, ⟨100, 2, true, [[.int .i64 c70, .bool c71]]⟩, rfl, rfl, (show tk ≤ tk65 by omega), ⟨_, c70, c71, rfl, rfl, rfl⟩⟩
  replace hM := ite_f hb57 hM
  refine yO rfl ?_
  refine yO rfl ?_
  refine yO rfl ?_
  refine yO rfl ?_
  refine yO rfl ?_
  refine yO rfl ?_
  refine yP rfl ?_
  refine yL rfl ?_
  refine yO rfl ?_
  refine yO rfl ?_
  refine yO rfl ?_
  refine yO rfl ?_
  refine yO rfl ?_
  refine yO rfl ?_
  refine yO rfl ?_
  refine yP rfl ?_
  refine yR rfl ?_
  refine yN ?_
  refine run_ret_to ?_
  replace hM := some_t hM
  subst hM
  refine fin_x hG rfl rfl rfl (v' := .bool false) (by rfl) ⟨_, ⟨100, 2, true, [[.int .i64 c13, .bool c14]]⟩, rfl, rfl, (show tk ≤ tk52 by omega), ⟨_, c13, c14, rfl, rfl, rfl⟩⟩
 replace hM := ite_f hb49 hM
 refine run_skip ?_
 refine run_blk ?_
 refine run_sr ?_
 refine yR rfl ?_
 refine yN ?_
 refine run_ret_to ?_
 replace hM := some_t hM
 subst hM
 refine fin_x hG rfl rfl rfl (v' := .bool false) (by rfl) ⟨_, ⟨100, 2, true, [[.int .i64 c13, .bool c14]]⟩, rfl, rfl, (show tk ≤ tk8 by omega), ⟨_, c13, c14, rfl, rfl, rfl⟩⟩

theorem i_looker_family_all : ∀ (n : Nat), (i_looker_family_P n)
 | 0 => by intro X0 i2 b3 k4 n4 s4 q4 f4 ks4 b5 r hM; rw [i_looker_family] at hM; cases hM
 | n + 1 => have ih := i_looker_family_all n; i_looker_family_st n (ih)

theorem i_looker_family_ok (n : Nat) : i_looker_family_P n := i_looker_family_all n

def i_FamilyOK (n : Nat) (x1 : T) : Option Bool :=
 (i_looker_family n (150, false) x1 false).bind fun r2 =>
 some r2.1

set_option maxRecDepth 100000 in
theorem i_FamilyOK_ok (n : Nat) : ∀ (k1 : Int) (n1 : Int) (s1 : ByteArray) (q1 : Nat) (f1 : Bool) (ks1 : List LT) {r : Bool}, i_FamilyOK n (T.mk k1 n1 s1 (ers ks1)) = some r → ∀ (O : Heap) (tk : Nat), ACalls Go.Proofs.Tryz.prog 45 [.agg [.int .i64 k1, .int .i64 n1, .str s1, .imm q1 4 f1 (cellss ks1)]] O tk (RetX O tk (fun v tk' => v = .bool r)) := by
 intro k1 n1 s1 q1 f1 ks1 r hM O tk
 unfold i_FamilyOK at hM
 refine acalls_of_run Go.Proofs.Tryz.func45 rfl rfl [] [] (Bor.nil _) [(0, .agg [.int .i64 k1, .int .i64 n1, .str s1, .imm q1 4 f1 (cellss ks1)])] (.cons (.agg _) (.nil _)) (leb rfl) (fun _ h => by cases h) (fun S0 hO htk hfz => ?_)
 refine run_sr ?_
 refine run_op rfl (box_step (d := 1) rfl rfl rfl rfl rfl) rfl (ltb rfl) ?_
 refine yR rfl ?_
 refine yN ?_
 refine run_seq ?_
 refine run_draw [] (n := 4) mixed rfl yE ?_
 refine yTL hG 1 (by kernel_rfl) rfl ?_
 refine AAny.callBox (i := 0) (ob := ⟨100, 2, true, [[.int .i64 150, .bool false]]⟩) (by kernel_rfl) rfl rfl rfl rfl (ltb rfl) rfl rfl rfl rfl (i_fresh_box _ _) rfl (fun out O' tk' h => h) ?_
 obtain ⟨r2, hg3, hM⟩ := bind_t hM
 refine AAny.one (i := 2) (by kernel_rfl) (AOp.call rfl rfl rfl rfl (ltb rfl) rfl rfl rfl yE (by intro x hx; have hx : x ∈ [ID.loc 3] := hx; simp only [List.mem_cons, List.not_mem_nil, or_false] at hx; subst hx; simp) (i_looker_family_ok n (.loc 3) 150 false k1 n1 s1 q1 f1 ks1 false hg3 _ _ rfl) (callK_retV_loc (k := 3) rfl (fun v o'12 tk4 (hle5 : tk ≤ tk4) h6 => ?_)))
 obtain ⟨ra11, c9, c10, rfl, rfl, rfl⟩ := h6
 refine yTW 3 (by kernel_rfl) rfl ?_
 refine AAny.done (by kernel_rfl) ?_
 refine run_ret_to ?_
 replace hM := some_t hM
 subst hM
 refine fin_x hG rfl rfl rfl (v' := .bool ra11) (by rfl) ⟨rfl, (show tk ≤ tk4 by omega), _, rfl, rfl⟩

def i_KindOK (n : Nat) (x1 : T) : Option Bool :=
 (i_looker_family n (150, false) x1 true).bind fun r2 =>
 some r2.1

set_option maxRecDepth 100000 in
theorem i_KindOK_ok (n : Nat) : ∀ (k1 : Int) (n1 : Int) (s1 : ByteArray) (q1 : Nat) (f1 : Bool) (ks1 : List LT) {r : Bool}, i_KindOK n (T.mk k1 n1 s1 (ers ks1)) = some r → ∀ (O : Heap) (tk : Nat), ACalls Go.Proofs.Tryz.prog 46 [.agg [.int .i64 k1, .int .i64 n1, .str s1, .imm q1 4 f1 (cellss ks1)]] O tk (RetX O tk (fun v tk' => v = .bool r)) := by
 intro k1 n1 s1 q1 f1 ks1 r hM O tk
 unfold i_KindOK at hM
 refine acalls_of_run Go.Proofs.Tryz.func46 rfl rfl [] [] (Bor.nil _) [(0, .agg [.int .i64 k1, .int .i64 n1, .str s1, .imm q1 4 f1 (cellss ks1)])] (.cons (.agg _) (.nil _)) (leb rfl) (fun _ h => by cases h) (fun S0 hO htk hfz => ?_)
 refine run_sr ?_
 refine run_op rfl (box_step (d := 1) rfl rfl rfl rfl rfl) rfl (ltb rfl) ?_
 refine yR rfl ?_
 refine yN ?_
 refine run_seq ?_
 refine run_draw [] (n := 4) mixed rfl yE ?_
 refine yTL hG 1 (by kernel_rfl) rfl ?_
 refine AAny.callBox (i := 0) (ob := ⟨100, 2, true, [[.int .i64 150, .bool false]]⟩) (by kernel_rfl) rfl rfl rfl rfl (ltb rfl) rfl rfl rfl rfl (i_fresh_box _ _) rfl (fun out O' tk' h => h) ?_
 obtain ⟨r2, hg3, hM⟩ := bind_t hM
 refine AAny.one (i := 2) (by kernel_rfl) (AOp.call rfl rfl rfl rfl (ltb rfl) rfl rfl rfl yE (by intro x hx; have hx : x ∈ [ID.loc 3] := hx; simp only [List.mem_cons, List.not_mem_nil, or_false] at hx; subst hx; simp) (i_looker_family_ok n (.loc 3) 150 false k1 n1 s1 q1 f1 ks1 true hg3 _ _ rfl) (callK_retV_loc (k := 3) rfl (fun v o'12 tk4 (hle5 : tk ≤ tk4) h6 => ?_)))
 obtain ⟨ra11, c9, c10, rfl, rfl, rfl⟩ := h6
 refine yTW 3 (by kernel_rfl) rfl ?_
 refine AAny.done (by kernel_rfl) ?_
 refine run_ret_to ?_
 replace hM := some_t hM
 subst hM
 refine fin_x hG rfl rfl rfl (v' := .bool ra11) (by rfl) ⟨rfl, (show tk ≤ tk4 by omega), _, rfl, rfl⟩

def s_l01Family : Nat → T → Option Bool
 | 0, _ => none
 | n + 1, x1 =>
  if x1.kind = 2 then
   if x1.n = 0 then
    if (x1.name.toList == (⟨#[]⟩ : ByteArray).toList) = true then
     if ((x1.kids).length : Int) = 2 then
      (idx x1.kids 0).bind fun y6 =>
      (s_l01Family n y6).bind fun r11 =>
      if r11 = true then
       (idx x1.kids 1).bind fun y19 =>
       (s_l01Family n y19).bind fun r24 =>
       some r24
      else
       some false
     else
      some false
    else
     some false
   else
    some false
  else
   if x1.kind = 3 then
    if x1.n = 0 then
     (s_NameOK n x1.name).bind fun r33 =>
     if r33 = true then
      (s_l01Terms n x1.kids false).bind fun r41 =>
      some r41
     else
      some false
    else
     some false
   else
    some false

def s_l01Family_P (n : Nat) : Prop := ∀ (k1 : Int) (n1 : Int) (s1 : ByteArray) (q1 : Nat) (f1 : Bool) (ks1 : List LT) {r : Bool}, s_l01Family n (T.mk k1 n1 s1 (ers ks1)) = some r → ∀ (O : Heap) (tk : Nat), ACalls Go.Proofs.Tryz.prog 68 [.agg [.int .i64 k1, .int .i64 n1, .str s1, .imm q1 4 f1 (cellss ks1)]] O tk (RetX O tk (fun v tk' => v = .bool r))

set_option maxHeartbeats 20000000 in
set_option maxHeartbeats 20000000 in
set_option maxRecDepth 100000 in
theorem s_l01Family_st (n : Nat) (ih_s_l01Family : s_l01Family_P n) : s_l01Family_P (n + 1) := by
 intro k1 n1 s1 q1 f1 ks1 r hM O tk
 rw [s_l01Family] at hM
 refine acalls_of_run Go.Proofs.Tryz.func68 rfl rfl [] [] (Bor.nil _) [(0, .agg [.int .i64 k1, .int .i64 n1, .str s1, .imm q1 4 f1 (cellss ks1)])] (.cons (.agg _) (.nil _)) (leb rfl) (fun _ h => by cases h) (fun S0 hO htk hfz => ?_)
 refine run_sr ?_
 refine run_op rfl (box_step (d := 1) rfl rfl rfl rfl rfl) rfl (ltb rfl) ?_
 refine yR rfl ?_
 refine yN ?_
 refine run_seq ?_
 refine run_sr ?_
 refine yF hG rfl ?_
 refine yD hG rfl ?_
 refine yN ?_
 refine run_block ?_
 refine run_sr ?_
 refine yB rfl ?_
 refine yR rfl ?_
 refine yN ?_
 refine run_ifd rfl rfl (fun hb2 => ?_) (fun hb2 => ?_)
 ·replace hM := ite_t hb2 hM
  refine run_sr ?_
  refine yF hG rfl ?_
  refine yD hG rfl ?_
  refine yB rfl ?_
  refine yL rfl ?_
  refine run_splitd (i := 10) rfl (fun hb3 => ?_) (fun hb3 => ?_)
  ·replace hM := ite_t hb3 hM
   refine run_puG (on_of rfl rfl rfl rfl) (fieldAddr_step hG rfl rfl rfl rfl rfl) rfl (ltb rfl) ?_
   refine run_rdG (on_of rfl rfl rfl rfl) (aload_rd hG rfl rfl rfl (by first | (simp [ldok]; done) | exact List.not_mem_nil | trivial)) rfl (ltb rfl) ?_
   refine run_puG (on_of rfl rfl rfl rfl) (abin_step rfl rfl rfl rfl (fun _ h => by cases h)) rfl (ltb rfl) ?_
   refine yP rfl ?_
   refine yL rfl ?_
   refine run_splitb (i := 15) rfl (fun hb4 => ?_) (fun hb4 => ?_)
   ·replace hM := ite_t hb4 hM
    refine run_puG (on_of rfl rfl rfl rfl) (fieldAddr_step hG rfl rfl rfl rfl rfl) rfl (ltb rfl) ?_
    refine run_rdG (on_of rfl rfl rfl rfl) (aload_rd hG rfl rfl rfl (by first | (simp [ldok]; done) | exact List.not_mem_nil | trivial)) rfl (ltb rfl) ?_
    refine run_puG (on_of rfl rfl rfl rfl) (lenImm_step hG rfl rfl rfl rfl (tlen _)) rfl (ltb rfl) ?_
    refine run_puG (on_of rfl rfl rfl rfl) (abin_step rfl rfl rfl rfl (fun _ h => by cases h)) rfl (ltb rfl) ?_
    refine yP rfl ?_
    refine yL rfl ?_
    refine run_splitd (i := 21) rfl (fun hb5 => ?_) (fun hb5 => ?_)
    ·replace hM := ite_t hb5 hM
     refine run_puG (on_of rfl rfl rfl rfl) (fieldAddr_step hG rfl rfl rfl rfl rfl) rfl (ltb rfl) ?_
     refine run_rdG (on_of rfl rfl rfl rfl) (aload_rd hG rfl rfl rfl (by first | (simp [ldok]; done) | exact List.not_mem_nil | trivial)) rfl (ltb rfl) ?_
     obtain ⟨y6, hy7, hM⟩ := bind_t hM
     obtain ⟨k8, n8, s8, q8, f8, ks8, rfl, hc9, hi10⟩ := tidx (ks := ks1) hy7
     refine run_puG (on_of rfl rfl rfl rfl) (indexImm_step hG rfl rfl rfl hi10 rfl rfl rfl rfl hc9) rfl (ltb rfl) ?_
     refine run_rdG (on_of rfl rfl rfl rfl) (aload_rd hG rfl rfl rfl (by first | (simp [ldok]; done) | exact List.not_mem_nil | trivial)) rfl (ltb rfl) ?_
     obtain ⟨r11, hg12, hM⟩ := bind_t hM
     refine yG (on_of rfl rfl rfl rfl) rfl (ih_s_l01Family k8 n8 s8 q8 f8 ks8 hg12 _ _) (callK_retX (fun v tk13 (hle14 : tk ≤ tk13) h15 => ?_))
     subst h15
     refine yP rfl ?_
     refine yL rfl ?_
     refine run_splitb (i := 28) rfl (fun hb18 => ?_) (fun hb18 => ?_)
     ·replace hM := ite_t hb18 hM
      refine run_puG (on_of rfl rfl rfl rfl) (fieldAddr_step hG rfl rfl rfl rfl rfl) rfl (ltb rfl) ?_
      refine run_rdG (on_of rfl rfl rfl rfl) (aload_rd hG rfl rfl rfl (by first | (simp [ldok]; done) | exact List.not_mem_nil | trivial)) rfl (ltb rfl) ?_
      obtain ⟨y19, hy20, hM⟩ := bind_t hM
      obtain ⟨k21, n21, s21, q21, f21, ks21, rfl, hc22, hi23⟩ := tidx (ks := ks1) hy20
      refine run_puG (on_of rfl rfl rfl rfl) (indexImm_step hG rfl rfl rfl hi23 rfl rfl rfl rfl hc22) rfl (ltb rfl) ?_
      refine run_rdG (on_of rfl rfl rfl rfl) (aload_rd hG rfl rfl rfl (by first | (simp [ldok]; done) | exact List.not_mem_nil | trivial)) rfl (ltb rfl) ?_
      obtain ⟨r24, hg25, hM⟩ := bind_t hM
      refine yG (on_of rfl rfl rfl rfl) rfl (ih_s_l01Family k21 n21 s21 q21 f21 ks21 hg25 _ _) (callK_retX (fun v tk26 (hle27 : tk13 ≤ tk26) h28 => ?_))
      subst h28
      refine yP rfl ?_
      refine yR rfl ?_
      refine yN ?_
      refine run_ret_to ?_
      replace hM := some_t hM
      subst hM
      refine fin_x hG rfl rfl rfl (v' := .bool r24) (by rfl) ⟨rfl, (show tk ≤ tk26 by omega), _, rfl, rfl⟩
     replace hM := ite_f hb18 hM
     refine yO rfl ?_
     refine yO rfl ?_
     refine yO rfl ?_
     refine yO rfl ?_
     refine yO rfl ?_
     refine yP rfl ?_
     refine yR rfl ?_
     refine yN ?_
     refine run_ret_to ?_
     replace hM := some_t hM
     subst hM
     refine fin_x hG rfl rfl rfl (v' := .bool false) (by rfl) ⟨rfl, (show tk ≤ tk13 by omega), _, rfl, rfl⟩
    replace hM := ite_f hb5 hM
    refine yO rfl ?_
    refine yO rfl ?_
    refine yO rfl ?_
    refine yO rfl ?_
    refine yO rfl ?_
    refine yP rfl ?_
    refine yL rfl ?_
    refine yO rfl ?_
    refine yO rfl ?_
    refine yO rfl ?_
    refine yO rfl ?_
    refine yO rfl ?_
    refine yP rfl ?_
    refine yR rfl ?_
    refine yN ?_
    refine run_ret_to ?_
    replace hM := some_t hM
    subst hM
    refine fin_x hG rfl rfl rfl (v' := .bool false) (by rfl) ⟨rfl, (show tk ≤ tk by omega), _, rfl, rfl⟩
   replace hM := ite_f hb4 hM
   refine yO rfl ?_
   refine yO rfl ?_
   refine yO rfl ?_
   refine yO rfl ?_
   refine yP rfl ?_
   refine yL rfl ?_
   refine yO rfl ?_
   refine yO rfl ?_
   refine yO rfl ?_
   refine yO rfl ?_
   refine yO rfl ?_
   refine yP rfl ?_
   refine yL rfl ?_
   refine yO rfl ?_
   refine yO rfl ?_
   refine yO rfl ?_
   refine yO rfl ?_
   refine yO rfl ?_
   refine yP rfl ?_
   refine yR rfl ?_
   refine yN ?_
   refine run_ret_to ?_
   replace hM := some_t hM
   subst hM
   refine fin_x hG rfl rfl rfl (v' := .bool false) (by rfl) ⟨rfl, (show tk ≤ tk by omega), _, rfl, rfl⟩
  replace hM := ite_f hb3 hM
  refine yO rfl ?_
  refine yO rfl ?_
  refine yO rfl ?_
  refine yP rfl ?_
  refine yL rfl ?_
  refine yO rfl ?_
  refine yO rfl ?_
  refine yO rfl ?_
  refine yO rfl ?_
  refine yP rfl ?_
  refine yL rfl ?_
  refine yO rfl ?_
  refine yO rfl ?_
  refine yO rfl ?_
  refine yO rfl ?_
  refine yO rfl ?_
  refine yP rfl ?_
  refine yL rfl ?_
  refine yO rfl ?_
  refine yO rfl ?_
  refine yO rfl ?_
  refine yO rfl ?_
  refine yO rfl ?_
  refine yP rfl ?_
  refine yR rfl ?_
  refine yN ?_
  refine run_ret_to ?_
  replace hM := some_t hM
  subst hM
  refine fin_x hG rfl rfl rfl (v' := .bool false) (by rfl) ⟨rfl, (show tk ≤ tk by omega), _, rfl, rfl⟩
 replace hM := ite_f hb2 hM
 refine run_sr ?_
 refine yB rfl ?_
 refine yR rfl ?_
 refine yN ?_
 refine run_ifd rfl rfl (fun hb31 => ?_) (fun hb31 => ?_)
 ·replace hM := ite_t hb31 hM
  refine run_sr ?_
  refine yF hG rfl ?_
  refine yD hG rfl ?_
  refine yB rfl ?_
  refine yL rfl ?_
  refine run_splitd (i := 40) rfl (fun hb32 => ?_) (fun hb32 => ?_)
  ·replace hM := ite_t hb32 hM
   refine run_puG (on_of rfl rfl rfl rfl) (fieldAddr_step hG rfl rfl rfl rfl rfl) rfl (ltb rfl) ?_
   refine run_rdG (on_of rfl rfl rfl rfl) (aload_rd hG rfl rfl rfl (by first | (simp [ldok]; done) | exact List.not_mem_nil | trivial)) rfl (ltb rfl) ?_
   obtain ⟨r33, hg34, hM⟩ := bind_t hM
   refine yG (on_of rfl rfl rfl rfl) rfl (s_NameOK_ok n s1 hg34 _ _) (callK_retX (fun v tk35 (hle36 : tk ≤ tk35) h37 => ?_))
   subst h37
   refine yP rfl ?_
   refine yL rfl ?_
   refine run_splitb (i := 45) rfl (fun hb40 => ?_) (fun hb40 => ?_)
   ·replace hM := ite_t hb40 hM
    refine run_puG (on_of rfl rfl rfl rfl) (fieldAddr_step hG rfl rfl rfl rfl rfl) rfl (ltb rfl) ?_
    refine run_rdG (on_of rfl rfl rfl rfl) (aload_rd hG rfl rfl rfl (by first | (simp [ldok]; done) | exact List.not_mem_nil | trivial)) rfl (ltb rfl) ?_
    obtain ⟨r41, hg42, hM⟩ := bind_t hM
    refine yG (on_of rfl rfl rfl rfl) rfl (s_l01Terms_ok n q1 f1 ks1 false hg42 _ _) (callK_retX (fun v tk43 (hle44 : tk35 ≤ tk43) h45 => ?_))
    subst h45
    refine yP rfl ?_
    refine yR rfl ?_
    refine yN ?_
    refine run_ret_to ?_
    replace hM := some_t hM
    subst hM
    refine fin_x hG rfl rfl rfl (v' := .bool r41) (by rfl) ⟨rfl, (show tk ≤ tk43 by omega), _, rfl, rfl⟩
   replace hM := ite_f hb40 hM
   refine yO rfl ?_
   refine yO rfl ?_
   refine yO rfl ?_
   refine yP rfl ?_
   refine yR rfl ?_
   refine yN ?_
   refine run_ret_to ?_
   replace hM := some_t hM
   subst hM
   refine fin_x hG rfl rfl rfl (v' := .bool false) (by rfl) ⟨rfl, (show tk ≤ tk35 by omega), _, rfl, rfl⟩
  replace hM := ite_f hb32 hM
  refine yO rfl ?_
  refine yO rfl ?_
  refine yO rfl ?_
  refine yP rfl ?_
  refine yL rfl ?_
  refine yO rfl ?_
  refine yO rfl ?_
  refine yO rfl ?_
  refine yP rfl ?_
  refine yR rfl ?_
  refine yN ?_
  refine run_ret_to ?_
  replace hM := some_t hM
  subst hM
  refine fin_x hG rfl rfl rfl (v' := .bool false) (by rfl) ⟨rfl, (show tk ≤ tk by omega), _, rfl, rfl⟩
 replace hM := ite_f hb31 hM
 refine run_skip ?_
 refine run_blk ?_
 refine run_sr ?_
 refine yR rfl ?_
 refine yN ?_
 refine run_ret_to ?_
 replace hM := some_t hM
 subst hM
 refine fin_x hG rfl rfl rfl (v' := .bool false) (by rfl) ⟨rfl, (show tk ≤ tk by omega), _, rfl, rfl⟩

theorem s_l01Family_all : ∀ (n : Nat), (s_l01Family_P n)
 | 0 => by intro k1 n1 s1 q1 f1 ks1 r hM; rw [s_l01Family] at hM; cases hM
 | n + 1 => have ih := s_l01Family_all n; s_l01Family_st n (ih)

theorem s_l01Family_ok (n : Nat) : s_l01Family_P n := s_l01Family_all n

def s_l01Kind : Nat → T → Option Bool
 | 0, _ => none
 | n + 1, x1 =>
  if x1.kind = 2 then
   if x1.n = 0 then
    if (x1.name.toList == (⟨#[]⟩ : ByteArray).toList) = true then
     if ((x1.kids).length : Int) = 2 then
      (idx x1.kids 0).bind fun y6 =>
      (s_l01Family n y6).bind fun r11 =>
      if r11 = true then
       (idx x1.kids 1).bind fun y19 =>
       (s_l01Kind n y19).bind fun r24 =>
       some r24
      else
       some false
     else
      some false
    else
     some false
   else
    some false
  else
   if x1.kind = 1 then
    if x1.n = 0 then
     if (x1.name.toList == (⟨#[]⟩ : ByteArray).toList) = true then
      some (((x1.kids).length : Int) == 0)
     else
      some false
    else
     some false
   else
    some false

def s_l01Kind_P (n : Nat) : Prop := ∀ (k1 : Int) (n1 : Int) (s1 : ByteArray) (q1 : Nat) (f1 : Bool) (ks1 : List LT) {r : Bool}, s_l01Kind n (T.mk k1 n1 s1 (ers ks1)) = some r → ∀ (O : Heap) (tk : Nat), ACalls Go.Proofs.Tryz.prog 69 [.agg [.int .i64 k1, .int .i64 n1, .str s1, .imm q1 4 f1 (cellss ks1)]] O tk (RetX O tk (fun v tk' => v = .bool r))

set_option maxHeartbeats 20000000 in
set_option maxHeartbeats 20000000 in
set_option maxRecDepth 100000 in
theorem s_l01Kind_st (n : Nat) (ih_s_l01Kind : s_l01Kind_P n) : s_l01Kind_P (n + 1) := by
 intro k1 n1 s1 q1 f1 ks1 r hM O tk
 rw [s_l01Kind] at hM
 refine acalls_of_run Go.Proofs.Tryz.func69 rfl rfl [] [] (Bor.nil _) [(0, .agg [.int .i64 k1, .int .i64 n1, .str s1, .imm q1 4 f1 (cellss ks1)])] (.cons (.agg _) (.nil _)) (leb rfl) (fun _ h => by cases h) (fun S0 hO htk hfz => ?_)
 refine run_sr ?_
 refine run_op rfl (box_step (d := 1) rfl rfl rfl rfl rfl) rfl (ltb rfl) ?_
 refine yR rfl ?_
 refine yN ?_
 refine run_seq ?_
 refine run_sr ?_
 refine yF hG rfl ?_
 refine yD hG rfl ?_
 refine yN ?_
 refine run_block ?_
 refine run_sr ?_
 refine yB rfl ?_
 refine yR rfl ?_
 refine yN ?_
 refine run_ifd rfl rfl (fun hb2 => ?_) (fun hb2 => ?_)
 ·replace hM := ite_t hb2 hM
  refine run_sr ?_
  refine yF hG rfl ?_
  refine yD hG rfl ?_
  refine yB rfl ?_
  refine yL rfl ?_
  refine run_splitd (i := 10) rfl (fun hb3 => ?_) (fun hb3 => ?_)
  ·replace hM := ite_t hb3 hM
   refine run_puG (on_of rfl rfl rfl rfl) (fieldAddr_step hG rfl rfl rfl rfl rfl) rfl (ltb rfl) ?_
   refine run_rdG (on_of rfl rfl rfl rfl) (aload_rd hG rfl rfl rfl (by first | (simp [ldok]; done) | exact List.not_mem_nil | trivial)) rfl (ltb rfl) ?_
   refine run_puG (on_of rfl rfl rfl rfl) (abin_step rfl rfl rfl rfl (fun _ h => by cases h)) rfl (ltb rfl) ?_
   refine yP rfl ?_
   refine yL rfl ?_
   refine run_splitb (i := 15) rfl (fun hb4 => ?_) (fun hb4 => ?_)
   ·replace hM := ite_t hb4 hM
    refine run_puG (on_of rfl rfl rfl rfl) (fieldAddr_step hG rfl rfl rfl rfl rfl) rfl (ltb rfl) ?_
    refine run_rdG (on_of rfl rfl rfl rfl) (aload_rd hG rfl rfl rfl (by first | (simp [ldok]; done) | exact List.not_mem_nil | trivial)) rfl (ltb rfl) ?_
    refine run_puG (on_of rfl rfl rfl rfl) (lenImm_step hG rfl rfl rfl rfl (tlen _)) rfl (ltb rfl) ?_
    refine run_puG (on_of rfl rfl rfl rfl) (abin_step rfl rfl rfl rfl (fun _ h => by cases h)) rfl (ltb rfl) ?_
    refine yP rfl ?_
    refine yL rfl ?_
    refine run_splitd (i := 21) rfl (fun hb5 => ?_) (fun hb5 => ?_)
    ·replace hM := ite_t hb5 hM
     refine run_puG (on_of rfl rfl rfl rfl) (fieldAddr_step hG rfl rfl rfl rfl rfl) rfl (ltb rfl) ?_
     refine run_rdG (on_of rfl rfl rfl rfl) (aload_rd hG rfl rfl rfl (by first | (simp [ldok]; done) | exact List.not_mem_nil | trivial)) rfl (ltb rfl) ?_
     obtain ⟨y6, hy7, hM⟩ := bind_t hM
     obtain ⟨k8, n8, s8, q8, f8, ks8, rfl, hc9, hi10⟩ := tidx (ks := ks1) hy7
     refine run_puG (on_of rfl rfl rfl rfl) (indexImm_step hG rfl rfl rfl hi10 rfl rfl rfl rfl hc9) rfl (ltb rfl) ?_
     refine run_rdG (on_of rfl rfl rfl rfl) (aload_rd hG rfl rfl rfl (by first | (simp [ldok]; done) | exact List.not_mem_nil | trivial)) rfl (ltb rfl) ?_
     obtain ⟨r11, hg12, hM⟩ := bind_t hM
     refine yG (on_of rfl rfl rfl rfl) rfl (s_l01Family_ok n k8 n8 s8 q8 f8 ks8 hg12 _ _) (callK_retX (fun v tk13 (hle14 : tk ≤ tk13) h15 => ?_))
     subst h15
     refine yP rfl ?_
     refine yL rfl ?_
     refine run_splitb (i := 28) rfl (fun hb18 => ?_) (fun hb18 => ?_)
     ·replace hM := ite_t hb18 hM
      refine run_puG (on_of rfl rfl rfl rfl) (fieldAddr_step hG rfl rfl rfl rfl rfl) rfl (ltb rfl) ?_
      refine run_rdG (on_of rfl rfl rfl rfl) (aload_rd hG rfl rfl rfl (by first | (simp [ldok]; done) | exact List.not_mem_nil | trivial)) rfl (ltb rfl) ?_
      obtain ⟨y19, hy20, hM⟩ := bind_t hM
      obtain ⟨k21, n21, s21, q21, f21, ks21, rfl, hc22, hi23⟩ := tidx (ks := ks1) hy20
      refine run_puG (on_of rfl rfl rfl rfl) (indexImm_step hG rfl rfl rfl hi23 rfl rfl rfl rfl hc22) rfl (ltb rfl) ?_
      refine run_rdG (on_of rfl rfl rfl rfl) (aload_rd hG rfl rfl rfl (by first | (simp [ldok]; done) | exact List.not_mem_nil | trivial)) rfl (ltb rfl) ?_
      obtain ⟨r24, hg25, hM⟩ := bind_t hM
      refine yG (on_of rfl rfl rfl rfl) rfl (ih_s_l01Kind k21 n21 s21 q21 f21 ks21 hg25 _ _) (callK_retX (fun v tk26 (hle27 : tk13 ≤ tk26) h28 => ?_))
      subst h28
      refine yP rfl ?_
      refine yR rfl ?_
      refine yN ?_
      refine run_ret_to ?_
      replace hM := some_t hM
      subst hM
      refine fin_x hG rfl rfl rfl (v' := .bool r24) (by rfl) ⟨rfl, (show tk ≤ tk26 by omega), _, rfl, rfl⟩
     replace hM := ite_f hb18 hM
     refine yO rfl ?_
     refine yO rfl ?_
     refine yO rfl ?_
     refine yO rfl ?_
     refine yO rfl ?_
     refine yP rfl ?_
     refine yR rfl ?_
     refine yN ?_
     refine run_ret_to ?_
     replace hM := some_t hM
     subst hM
     refine fin_x hG rfl rfl rfl (v' := .bool false) (by rfl) ⟨rfl, (show tk ≤ tk13 by omega), _, rfl, rfl⟩
    replace hM := ite_f hb5 hM
    refine yO rfl ?_
    refine yO rfl ?_
    refine yO rfl ?_
    refine yO rfl ?_
    refine yO rfl ?_
    refine yP rfl ?_
    refine yL rfl ?_
    refine yO rfl ?_
    refine yO rfl ?_
    refine yO rfl ?_
    refine yO rfl ?_
    refine yO rfl ?_
    refine yP rfl ?_
    refine yR rfl ?_
    refine yN ?_
    refine run_ret_to ?_
    replace hM := some_t hM
    subst hM
    refine fin_x hG rfl rfl rfl (v' := .bool false) (by rfl) ⟨rfl, (show tk ≤ tk by omega), _, rfl, rfl⟩
   replace hM := ite_f hb4 hM
   refine yO rfl ?_
   refine yO rfl ?_
   refine yO rfl ?_
   refine yO rfl ?_
   refine yP rfl ?_
   refine yL rfl ?_
   refine yO rfl ?_
   refine yO rfl ?_
   refine yO rfl ?_
   refine yO rfl ?_
   refine yO rfl ?_
   refine yP rfl ?_
   refine yL rfl ?_
   refine yO rfl ?_
   refine yO rfl ?_
   refine yO rfl ?_
   refine yO rfl ?_
   refine yO rfl ?_
   refine yP rfl ?_
   refine yR rfl ?_
   refine yN ?_
   refine run_ret_to ?_
   replace hM := some_t hM
   subst hM
   refine fin_x hG rfl rfl rfl (v' := .bool false) (by rfl) ⟨rfl, (show tk ≤ tk by omega), _, rfl, rfl⟩
  replace hM := ite_f hb3 hM
  refine yO rfl ?_
  refine yO rfl ?_
  refine yO rfl ?_
  refine yP rfl ?_
  refine yL rfl ?_
  refine yO rfl ?_
  refine yO rfl ?_
  refine yO rfl ?_
  refine yO rfl ?_
  refine yP rfl ?_
  refine yL rfl ?_
  refine yO rfl ?_
  refine yO rfl ?_
  refine yO rfl ?_
  refine yO rfl ?_
  refine yO rfl ?_
  refine yP rfl ?_
  refine yL rfl ?_
  refine yO rfl ?_
  refine yO rfl ?_
  refine yO rfl ?_
  refine yO rfl ?_
  refine yO rfl ?_
  refine yP rfl ?_
  refine yR rfl ?_
  refine yN ?_
  refine run_ret_to ?_
  replace hM := some_t hM
  subst hM
  refine fin_x hG rfl rfl rfl (v' := .bool false) (by rfl) ⟨rfl, (show tk ≤ tk by omega), _, rfl, rfl⟩
 replace hM := ite_f hb2 hM
 refine run_sr ?_
 refine yB rfl ?_
 refine yR rfl ?_
 refine yN ?_
 refine run_ifd rfl rfl (fun hb31 => ?_) (fun hb31 => ?_)
 ·replace hM := ite_t hb31 hM
  refine run_sr ?_
  refine yF hG rfl ?_
  refine yD hG rfl ?_
  refine yB rfl ?_
  refine yL rfl ?_
  refine run_splitd (i := 40) rfl (fun hb32 => ?_) (fun hb32 => ?_)
  ·replace hM := ite_t hb32 hM
   refine run_puG (on_of rfl rfl rfl rfl) (fieldAddr_step hG rfl rfl rfl rfl rfl) rfl (ltb rfl) ?_
   refine run_rdG (on_of rfl rfl rfl rfl) (aload_rd hG rfl rfl rfl (by first | (simp [ldok]; done) | exact List.not_mem_nil | trivial)) rfl (ltb rfl) ?_
   refine run_puG (on_of rfl rfl rfl rfl) (abin_step rfl rfl rfl rfl (fun _ h => by cases h)) rfl (ltb rfl) ?_
   refine yP rfl ?_
   refine yL rfl ?_
   refine run_splitb (i := 45) rfl (fun hb33 => ?_) (fun hb33 => ?_)
   ·replace hM := ite_t hb33 hM
    refine run_puG (on_of rfl rfl rfl rfl) (fieldAddr_step hG rfl rfl rfl rfl rfl) rfl (ltb rfl) ?_
    refine run_rdG (on_of rfl rfl rfl rfl) (aload_rd hG rfl rfl rfl (by first | (simp [ldok]; done) | exact List.not_mem_nil | trivial)) rfl (ltb rfl) ?_
    refine run_puG (on_of rfl rfl rfl rfl) (lenImm_step hG rfl rfl rfl rfl (tlen _)) rfl (ltb rfl) ?_
    refine run_puG (on_of rfl rfl rfl rfl) (abin_step rfl rfl rfl rfl (fun _ h => by cases h)) rfl (ltb rfl) ?_
    refine yP rfl ?_
    refine yR rfl ?_
    refine yN ?_
    refine run_ret_to ?_
    replace hM := some_t hM
    subst hM
    refine fin_x hG rfl rfl rfl (v' := .bool ((((ers ks1)).length : Int) == 0)) (by rfl) ⟨rfl, (show tk ≤ tk by omega), _, rfl, rfl⟩
   replace hM := ite_f hb33 hM
   refine yO rfl ?_
   refine yO rfl ?_
   refine yO rfl ?_
   refine yO rfl ?_
   refine yP rfl ?_
   refine yR rfl ?_
   refine yN ?_
   refine run_ret_to ?_
   replace hM := some_t hM
   subst hM
   refine fin_x hG rfl rfl rfl (v' := .bool false) (by rfl) ⟨rfl, (show tk ≤ tk by omega), _, rfl, rfl⟩
  replace hM := ite_f hb32 hM
  refine yO rfl ?_
  refine yO rfl ?_
  refine yO rfl ?_
  refine yP rfl ?_
  refine yL rfl ?_
  refine yO rfl ?_
  refine yO rfl ?_
  refine yO rfl ?_
  refine yO rfl ?_
  refine yP rfl ?_
  refine yR rfl ?_
  refine yN ?_
  refine run_ret_to ?_
  replace hM := some_t hM
  subst hM
  refine fin_x hG rfl rfl rfl (v' := .bool false) (by rfl) ⟨rfl, (show tk ≤ tk by omega), _, rfl, rfl⟩
 replace hM := ite_f hb31 hM
 refine run_skip ?_
 refine run_blk ?_
 refine run_sr ?_
 refine yR rfl ?_
 refine yN ?_
 refine run_ret_to ?_
 replace hM := some_t hM
 subst hM
 refine fin_x hG rfl rfl rfl (v' := .bool false) (by rfl) ⟨rfl, (show tk ≤ tk by omega), _, rfl, rfl⟩

theorem s_l01Kind_all : ∀ (n : Nat), (s_l01Kind_P n)
 | 0 => by intro k1 n1 s1 q1 f1 ks1 r hM; rw [s_l01Kind] at hM; cases hM
 | n + 1 => have ih := s_l01Kind_all n; s_l01Kind_st n (ih)

theorem s_l01Kind_ok (n : Nat) : s_l01Kind_P n := s_l01Kind_all n

def s_FamilyOK (n : Nat) (x1 : T) : Option Bool :=
 (s_l01Small n x1).bind fun r2 =>
 if r2 = true then
  (s_l01Family n x1).bind fun r10 =>
  some r10
 else
  some false

set_option maxRecDepth 100000 in
theorem s_FamilyOK_ok (n : Nat) : ∀ (k1 : Int) (n1 : Int) (s1 : ByteArray) (q1 : Nat) (f1 : Bool) (ks1 : List LT) {r : Bool}, s_FamilyOK n (T.mk k1 n1 s1 (ers ks1)) = some r → ∀ (O : Heap) (tk : Nat), ACalls Go.Proofs.Tryz.prog 39 [.agg [.int .i64 k1, .int .i64 n1, .str s1, .imm q1 4 f1 (cellss ks1)]] O tk (RetX O tk (fun v tk' => v = .bool r)) := by
 intro k1 n1 s1 q1 f1 ks1 r hM O tk
 unfold s_FamilyOK at hM
 refine acalls_of_run Go.Proofs.Tryz.func39 rfl rfl [] [] (Bor.nil _) [(0, .agg [.int .i64 k1, .int .i64 n1, .str s1, .imm q1 4 f1 (cellss ks1)])] (.cons (.agg _) (.nil _)) (leb rfl) (fun _ h => by cases h) (fun S0 hO htk hfz => ?_)
 refine run_sr ?_
 refine run_op rfl (box_step (d := 1) rfl rfl rfl rfl rfl) rfl (ltb rfl) ?_
 refine yR rfl ?_
 refine yN ?_
 refine run_sr ?_
 refine yD hG rfl ?_
 obtain ⟨r2, hg3, hM⟩ := bind_t hM
 refine yK rfl (s_l01Small_ok n k1 n1 s1 q1 f1 ks1 hg3 _ _) (callK_retX (fun v tk4 (hle5 : tk ≤ tk4) h6 => ?_))
 subst h6
 refine yL rfl ?_
 refine run_splitb (i := 5) rfl (fun hb9 => ?_) (fun hb9 => ?_)
 ·replace hM := ite_t hb9 hM
  refine run_rdG (on_of rfl rfl rfl rfl) (aload_rd hG rfl rfl rfl (by first | (simp [ldok]; done) | exact List.not_mem_nil | trivial)) rfl (ltb rfl) ?_
  obtain ⟨r10, hg11, hM⟩ := bind_t hM
  refine yG (on_of rfl rfl rfl rfl) rfl (s_l01Family_ok n k1 n1 s1 q1 f1 ks1 hg11 _ _) (callK_retX (fun v tk12 (hle13 : tk4 ≤ tk12) h14 => ?_))
  subst h14
  refine yP rfl ?_
  refine yR rfl ?_
  refine yN ?_
  refine run_ret_to ?_
  replace hM := some_t hM
  subst hM
  refine fin_x hG rfl rfl rfl (v' := .bool r10) (by rfl) ⟨rfl, (show tk ≤ tk12 by omega), _, rfl, rfl⟩
 replace hM := ite_f hb9 hM
 refine yO rfl ?_
 refine yO rfl ?_
 refine yP rfl ?_
 refine yR rfl ?_
 refine yN ?_
 refine run_ret_to ?_
 replace hM := some_t hM
 subst hM
 refine fin_x hG rfl rfl rfl (v' := .bool false) (by rfl) ⟨rfl, (show tk ≤ tk4 by omega), _, rfl, rfl⟩

def s_KindOK (n : Nat) (x1 : T) : Option Bool :=
 (s_l01Small n x1).bind fun r2 =>
 if r2 = true then
  (s_l01Kind n x1).bind fun r10 =>
  some r10
 else
  some false

set_option maxRecDepth 100000 in
theorem s_KindOK_ok (n : Nat) : ∀ (k1 : Int) (n1 : Int) (s1 : ByteArray) (q1 : Nat) (f1 : Bool) (ks1 : List LT) {r : Bool}, s_KindOK n (T.mk k1 n1 s1 (ers ks1)) = some r → ∀ (O : Heap) (tk : Nat), ACalls Go.Proofs.Tryz.prog 40 [.agg [.int .i64 k1, .int .i64 n1, .str s1, .imm q1 4 f1 (cellss ks1)]] O tk (RetX O tk (fun v tk' => v = .bool r)) := by
 intro k1 n1 s1 q1 f1 ks1 r hM O tk
 unfold s_KindOK at hM
 refine acalls_of_run Go.Proofs.Tryz.func40 rfl rfl [] [] (Bor.nil _) [(0, .agg [.int .i64 k1, .int .i64 n1, .str s1, .imm q1 4 f1 (cellss ks1)])] (.cons (.agg _) (.nil _)) (leb rfl) (fun _ h => by cases h) (fun S0 hO htk hfz => ?_)
 refine run_sr ?_
 refine run_op rfl (box_step (d := 1) rfl rfl rfl rfl rfl) rfl (ltb rfl) ?_
 refine yR rfl ?_
 refine yN ?_
 refine run_sr ?_
 refine yD hG rfl ?_
 obtain ⟨r2, hg3, hM⟩ := bind_t hM
 refine yK rfl (s_l01Small_ok n k1 n1 s1 q1 f1 ks1 hg3 _ _) (callK_retX (fun v tk4 (hle5 : tk ≤ tk4) h6 => ?_))
 subst h6
 refine yL rfl ?_
 refine run_splitb (i := 5) rfl (fun hb9 => ?_) (fun hb9 => ?_)
 ·replace hM := ite_t hb9 hM
  refine run_rdG (on_of rfl rfl rfl rfl) (aload_rd hG rfl rfl rfl (by first | (simp [ldok]; done) | exact List.not_mem_nil | trivial)) rfl (ltb rfl) ?_
  obtain ⟨r10, hg11, hM⟩ := bind_t hM
  refine yG (on_of rfl rfl rfl rfl) rfl (s_l01Kind_ok n k1 n1 s1 q1 f1 ks1 hg11 _ _) (callK_retX (fun v tk12 (hle13 : tk4 ≤ tk12) h14 => ?_))
  subst h14
  refine yP rfl ?_
  refine yR rfl ?_
  refine yN ?_
  refine run_ret_to ?_
  replace hM := some_t hM
  subst hM
  refine fin_x hG rfl rfl rfl (v' := .bool r10) (by rfl) ⟨rfl, (show tk ≤ tk12 by omega), _, rfl, rfl⟩
 replace hM := ite_f hb9 hM
 refine yO rfl ?_
 refine yO rfl ?_
 refine yP rfl ?_
 refine yR rfl ?_
 refine yN ?_
 refine run_ret_to ?_
 replace hM := some_t hM
 subst hM
 refine fin_x hG rfl rfl rfl (v' := .bool false) (by rfl) ⟨rfl, (show tk ≤ tk4 by omega), _, rfl, rfl⟩

end Go.Am.YtoajlhhalpldfaaGreatDoor
