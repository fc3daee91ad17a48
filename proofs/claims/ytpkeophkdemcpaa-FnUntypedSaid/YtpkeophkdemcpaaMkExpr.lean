/- Printed by a program of ours: Lean functions that do what the Go functions do, and the contracts. -/
import Derived.Test.YtpkeophkdemcpaaMi1
import Derived.Test.YtpkeophkdemcpaaTypes
import Derived.Test.YtpkeophkdemcpaaMkType
import Derived.Test.YtpkeophkdemcpaaMz
-- packed
namespace Go.Am.Ytpkeophkdemcpaa
open Go Go.Am

def i_looker_expr : Nat → (Int × Bool) → Pf → Option (Bool × (Int × Bool))
 | 0, _, _ => none
 | n + 1, z1, x4 =>
  (i_looker_node (z1.1, z1.2)).bind fun r5 =>
  if (!r5.1) = true then
   some (false, (r5.2.1, r5.2.2))
  else
   if x4.kind = 1 then
    (i_in x4.n 0 100).bind fun r17 =>
    if r17 = true then
     if ((x4.forms).length : Int) = 0 then
      some ((((x4.kids).length : Int) == 0), (r5.2.1, r5.2.2))
     else
      some (false, (r5.2.1, r5.2.2))
    else
     some (false, (r5.2.1, r5.2.2))
   else
    if x4.kind = 2 then
     if x4.n = 0 then
      if ((x4.forms).length : Int) = 0 then
       if ((x4.kids).length : Int) = 2 then
        (idx x4.kids 0).bind fun y30 =>
        (i_looker_expr n (r5.2.1, r5.2.2) y30).bind fun r35 =>
        if r35.1 = true then
         (idx x4.kids 1).bind fun y46 =>
         (i_looker_expr n (r35.2.1, r35.2.2) y46).bind fun r51 =>
         some (r51.1, (r51.2.1, r51.2.2))
        else
         some (false, (r35.2.1, r35.2.2))
       else
        some (false, (r5.2.1, r5.2.2))
      else
       some (false, (r5.2.1, r5.2.2))
     else
      some (false, (r5.2.1, r5.2.2))
    else
     if x4.kind = 3 then
      if x4.n = 0 then
       if ((x4.forms).length : Int) = 1 then
        if ((x4.kids).length : Int) = 1 then
         (idx x4.forms 0).bind fun y65 =>
         (i_looker_typ n (r5.2.1, r5.2.2) y65).bind fun r70 =>
         if r70.1 = true then
          (idx x4.kids 0).bind fun y81 =>
          (i_looker_expr n (r70.2.1, r70.2.2) y81).bind fun r86 =>
          some (r86.1, (r86.2.1, r86.2.2))
         else
          some (false, (r70.2.1, r70.2.2))
        else
         some (false, (r5.2.1, r5.2.2))
       else
        some (false, (r5.2.1, r5.2.2))
      else
       some (false, (r5.2.1, r5.2.2))
     else
      some (false, (r5.2.1, r5.2.2))

def i_looker_expr_P (n : Nat) : Prop := ∀ (X0 : ID) (i2 : Int) (b3 : Bool) (k4 : Int) (n4 : Int) (p4 : Nat) (e4 : Bool) (fs4 : List LF) (q4 : Nat) (f4 : Bool) (ks4 : List LP) {r : (Bool × (Int × Bool))}, i_looker_expr n (i2, b3) (Pf.mk k4 n4 (fers fs4) (pers ks4)) = some r → ∀ (O : Heap) (tk : Nat), O X0 = some ⟨200, 2, true, [[.int .i64 i2, .bool b3]]⟩ → ACalls Go.Proofs.Try.prog 147 [.optr X0 0 0, .agg [.int .i64 k4, .int .i64 n4, .imm p4 3 e4 (fcellss fs4), .imm q4 4 f4 (pcellss ks4)]] O tk (RetV O X0 tk (fun v o' tk' => ∃ r0', ∃ (c0 : Int) (c1 : Bool) , r = (r0', (c0, c1)) ∧ o' = ⟨200, 2, true, [[.int .i64 c0, .bool c1]]⟩ ∧ v = .bool r0'))

set_option maxHeartbeats 20000000 in
set_option maxRecDepth 100000 in
theorem i_looker_expr_st (n : Nat) (ih_i_looker_expr : i_looker_expr_P n) : i_looker_expr_P (n + 1) := by
 intro X0 i2 b3 k4 n4 p4 e4 fs4 q4 f4 ks4 r hM O tk hX0
 rw [i_looker_expr] at hM
 refine acalls_of_run Go.Proofs.Try.func147 rfl rfl [X0] [⟨200, 2, true, [[.int .i64 i2, .bool b3]]⟩] (Bor.one hX0 rfl) [(0, .optr (.bor 0) 0 0), (1, .agg [.int .i64 k4, .int .i64 n4, .imm p4 3 e4 (fcellss fs4), .imm q4 4 f4 (pcellss ks4)])] (.cons (.bor 0 _ _ _ rfl) (.cons (.agg _) (.nil _))) (leb rfl) (by intro y h; simp only [List.mem_cons, List.not_mem_nil, or_false] at h; rcases h with rfl <;> simp [tch, tch0]) (fun S0 hO htk hfz => ?_)
 refine run_sr ?_
 refine run_op rfl (box_step (d := 3) rfl rfl rfl rfl rfl) rfl (ltb rfl) ?_
 refine yR rfl ?_
 refine yN ?_
 refine run_seq ?_
 refine run_sr ?_
 refine yL rfl ?_
 obtain ⟨r5, hg6, hM⟩ := bind_t hM
 refine yK rfl (i_looker_node_ok (.bor 0) i2 b3 hg6 _ _ rfl) (callK_retV_bor (k := 0) rfl (fun v o' tk' h => by obtain ⟨_, _, _, rfl, rfl, _⟩ := h; rfl) (fun v o' tk7 (hle8 : tk ≤ tk7) h9 => ?_))
 obtain ⟨ra14, c12, c13, rfl, rfl, rfl⟩ := h9
 refine run_pu rfl (aun_step rfl rfl rfl) rfl (ltb rfl) ?_
 refine yN ?_
 refine run_ifb rfl rfl (fun hb15 => ?_) (fun hb15 => ?_)
 ·replace hM := ite_t hb15 hM
  refine run_sr ?_
  refine yR rfl ?_
  refine yN ?_
  refine run_ret_to ?_
  obtain rfl := some_t hM
  refine fin_x hG rfl rfl rfl (v' := .bool false) (by rfl) ⟨_, ⟨200, 2, true, [[.int .i64 c12, .bool c13]]⟩, rfl, rfl, (show tk ≤ tk7 by omega), ⟨_, c12, c13, rfl, rfl, rfl⟩⟩
 replace hM := ite_f hb15 hM
 refine run_skip ?_
 refine run_seq ?_
 refine run_sr ?_
 refine yF hG rfl ?_
 refine yD hG rfl ?_
 refine yN ?_
 refine run_block ?_
 refine run_sr ?_
 refine yB rfl ?_
 refine yR rfl ?_
 refine yN ?_
 refine run_ifd rfl rfl (fun hb16 => ?_) (fun hb16 => ?_)
 ·replace hM := ite_t hb16 hM
  refine run_sr ?_
  refine yF hG rfl ?_
  refine yD hG rfl ?_
  obtain ⟨r17, hg18, hM⟩ := bind_t hM
  refine yK rfl (i_in_ok n4 0 100 hg18 _ _) (callK_retX (fun v tk19 (hle20 : tk7 ≤ tk19) h21 => ?_))
  subst h21
  refine yL rfl ?_
  refine run_splitb (i := 15) rfl (fun hb24 => ?_) (fun hb24 => ?_)
  ·replace hM := ite_t hb24 hM
   refine run_puG (on_of rfl rfl rfl rfl) (fieldAddr_step hG rfl rfl rfl rfl rfl) rfl (ltb rfl) ?_
   refine run_rdG (on_of rfl rfl rfl rfl) (aload_rd hG rfl rfl rfl (by simp [ldok])) rfl (ltb rfl) ?_
   refine run_puG (on_of rfl rfl rfl rfl) (lenImm_step hG rfl rfl rfl rfl (flen _)) rfl (ltb rfl) ?_
   refine run_puG (on_of rfl rfl rfl rfl) (abin_step rfl rfl rfl rfl (fun _ h => by cases h)) rfl (ltb rfl) ?_
   refine yP rfl ?_
   refine yL rfl ?_
   refine run_splitd (i := 21) rfl (fun hb25 => ?_) (fun hb25 => ?_)
   ·replace hM := ite_t hb25 hM
    refine run_puG (on_of rfl rfl rfl rfl) (fieldAddr_step hG rfl rfl rfl rfl rfl) rfl (ltb rfl) ?_
    refine run_rdG (on_of rfl rfl rfl rfl) (aload_rd hG rfl rfl rfl (by simp [ldok])) rfl (ltb rfl) ?_
    refine run_puG (on_of rfl rfl rfl rfl) (lenImm_step hG rfl rfl rfl rfl (plen _)) rfl (ltb rfl) ?_
    refine run_puG (on_of rfl rfl rfl rfl) (abin_step rfl rfl rfl rfl (fun _ h => by cases h)) rfl (ltb rfl) ?_
    refine yP rfl ?_
    refine yR rfl ?_
    refine yN ?_
    refine run_ret_to ?_
    obtain rfl := some_t hM
    refine fin_x hG rfl rfl rfl (v' := .bool ((((pers ks4)).length : Int) == 0)) (by rfl) ⟨_, ⟨200, 2, true, [[.int .i64 c12, .bool c13]]⟩, rfl, rfl, (show tk ≤ tk19 by omega), ⟨_, c12, c13, rfl, rfl, rfl⟩⟩
   replace hM := ite_f hb25 hM
   refine yO rfl ?_
   refine yO rfl ?_
   refine yO rfl ?_
   refine yO rfl ?_
   refine yP rfl ?_
   refine yR rfl ?_
   refine yN ?_
   refine run_ret_to ?_
   obtain rfl := some_t hM
   refine fin_x hG rfl rfl rfl (v' := .bool false) (by rfl) ⟨_, ⟨200, 2, true, [[.int .i64 c12, .bool c13]]⟩, rfl, rfl, (show tk ≤ tk19 by omega), ⟨_, c12, c13, rfl, rfl, rfl⟩⟩
  replace hM := ite_f hb24 hM
  refine yO rfl ?_
  refine yO rfl ?_
  refine yO rfl ?_
  refine yO rfl ?_
  refine yP rfl ?_
  refine yL rfl ?_
  refine yO rfl ?_
  refine yO rfl ?_
  refine yO rfl ?_
  refine yO rfl ?_
  refine yP rfl ?_
  refine yR rfl ?_
  refine yN ?_
  refine run_ret_to ?_
  obtain rfl := some_t hM
  refine fin_x hG rfl rfl rfl (v' := .bool false) (by rfl) ⟨_, ⟨200, 2, true, [[.int .i64 c12, .bool c13]]⟩, rfl, rfl, (show tk ≤ tk19 by omega), ⟨_, c12, c13, rfl, rfl, rfl⟩⟩
 replace hM := ite_f hb16 hM
 refine run_sr ?_
 refine yB rfl ?_
 refine yR rfl ?_
 refine yN ?_
 refine run_ifd rfl rfl (fun hb26 => ?_) (fun hb26 => ?_)
 ·replace hM := ite_t hb26 hM
  refine run_sr ?_
  refine yF hG rfl ?_
  refine yD hG rfl ?_
  refine yB rfl ?_
  refine yL rfl ?_
  refine run_splitd (i := 32) rfl (fun hb27 => ?_) (fun hb27 => ?_)
  ·replace hM := ite_t hb27 hM
   refine run_puG (on_of rfl rfl rfl rfl) (fieldAddr_step hG rfl rfl rfl rfl rfl) rfl (ltb rfl) ?_
   refine run_rdG (on_of rfl rfl rfl rfl) (aload_rd hG rfl rfl rfl (by simp [ldok])) rfl (ltb rfl) ?_
   refine run_puG (on_of rfl rfl rfl rfl) (lenImm_step hG rfl rfl rfl rfl (flen _)) rfl (ltb rfl) ?_
   refine run_puG (on_of rfl rfl rfl rfl) (abin_step rfl rfl rfl rfl (fun _ h => by cases h)) rfl (ltb rfl) ?_
   refine yP rfl ?_
   refine yL rfl ?_
   refine run_splitd (i := 38) rfl (fun hb28 => ?_) (fun hb28 => ?_)
   ·replace hM := ite_t hb28 hM
    refine run_puG (on_of rfl rfl rfl rfl) (fieldAddr_step hG rfl rfl rfl rfl rfl) rfl (ltb rfl) ?_
    refine run_rdG (on_of rfl rfl rfl rfl) (aload_rd hG rfl rfl rfl (by simp [ldok])) rfl (ltb rfl) ?_
    refine run_puG (on_of rfl rfl rfl rfl) (lenImm_step hG rfl rfl rfl rfl (plen _)) rfl (ltb rfl) ?_
    refine run_puG (on_of rfl rfl rfl rfl) (abin_step rfl rfl rfl rfl (fun _ h => by cases h)) rfl (ltb rfl) ?_
    refine yP rfl ?_
    refine yL rfl ?_
    refine run_splitd (i := 44) rfl (fun hb29 => ?_) (fun hb29 => ?_)
    ·replace hM := ite_t hb29 hM
     refine run_puG (on_of rfl rfl rfl rfl) (move_step (.inl rfl) rfl) rfl (ltb rfl) ?_
     refine run_puG (on_of rfl rfl rfl rfl) (fieldAddr_step hG rfl rfl rfl rfl rfl) rfl (ltb rfl) ?_
     refine run_rdG (on_of rfl rfl rfl rfl) (aload_rd hG rfl rfl rfl (by simp [ldok])) rfl (ltb rfl) ?_
     obtain ⟨y30, hy31, hM⟩ := bind_t hM
     obtain ⟨k32, n32, p32, e32, fs32, q32, f32, ks32, rfl, hc33, hi34⟩ := pidx hy31
     refine run_puG (on_of rfl rfl rfl rfl) (indexImm_step hG rfl rfl rfl hi34 rfl rfl rfl rfl hc33) rfl (ltb rfl) ?_
     refine run_rdG (on_of rfl rfl rfl rfl) (aload_rd hG rfl rfl rfl (by simp [ldok])) rfl (ltb rfl) ?_
     obtain ⟨r35, hg36, hM⟩ := bind_t hM
     refine yG (on_of rfl rfl rfl rfl) rfl (ih_i_looker_expr (.bor 0) c12 c13 k32 n32 p32 e32 fs32 q32 f32 ks32 hg36 _ _ rfl) (callK_retV_bor (k := 0) rfl (fun v o' tk' h => by obtain ⟨_, _, _, rfl, rfl, _⟩ := h; rfl) (fun v o' tk37 (hle38 : tk7 ≤ tk37) h39 => ?_))
     obtain ⟨ra44, c42, c43, rfl, rfl, rfl⟩ := h39
     refine yP rfl ?_
     refine yL rfl ?_
     refine run_splitb (i := 52) rfl (fun hb45 => ?_) (fun hb45 => ?_)
     ·replace hM := ite_t hb45 hM
      refine run_puG (on_of rfl rfl rfl rfl) (move_step (.inl rfl) rfl) rfl (ltb rfl) ?_
      refine run_puG (on_of rfl rfl rfl rfl) (fieldAddr_step hG rfl rfl rfl rfl rfl) rfl (ltb rfl) ?_
      refine run_rdG (on_of rfl rfl rfl rfl) (aload_rd hG rfl rfl rfl (by simp [ldok])) rfl (ltb rfl) ?_
      obtain ⟨y46, hy47, hM⟩ := bind_t hM
      obtain ⟨k48, n48, p48, e48, fs48, q48, f48, ks48, rfl, hc49, hi50⟩ := pidx hy47
      refine run_puG (on_of rfl rfl rfl rfl) (indexImm_step hG rfl rfl rfl hi50 rfl rfl rfl rfl hc49) rfl (ltb rfl) ?_
      refine run_rdG (on_of rfl rfl rfl rfl) (aload_rd hG rfl rfl rfl (by simp [ldok])) rfl (ltb rfl) ?_
      obtain ⟨r51, hg52, hM⟩ := bind_t hM
      refine yG (on_of rfl rfl rfl rfl) rfl (ih_i_looker_expr (.bor 0) c42 c43 k48 n48 p48 e48 fs48 q48 f48 ks48 hg52 _ _ rfl) (callK_retV_bor (k := 0) rfl (fun v o' tk' h => by obtain ⟨_, _, _, rfl, rfl, _⟩ := h; rfl) (fun v o' tk53 (hle54 : tk37 ≤ tk53) h55 => ?_))
      obtain ⟨ra60, c58, c59, rfl, rfl, rfl⟩ := h55
      refine yP rfl ?_
      refine yR rfl ?_
      refine yN ?_
      refine run_ret_to ?_
      obtain rfl := some_t hM
      refine fin_x hG rfl rfl rfl (v' := .bool ra60) (by rfl) ⟨_, ⟨200, 2, true, [[.int .i64 c58, .bool c59]]⟩, rfl, rfl, (show tk ≤ tk53 by omega), ⟨_, c58, c59, rfl, rfl, rfl⟩⟩
     replace hM := ite_f hb45 hM
     refine yO rfl ?_
     refine yO rfl ?_
     refine yO rfl ?_
     refine yO rfl ?_
     refine yO rfl ?_
     refine yO rfl ?_
     refine yP rfl ?_
     refine yR rfl ?_
     refine yN ?_
     refine run_ret_to ?_
     obtain rfl := some_t hM
     refine fin_x hG rfl rfl rfl (v' := .bool false) (by rfl) ⟨_, ⟨200, 2, true, [[.int .i64 c42, .bool c43]]⟩, rfl, rfl, (show tk ≤ tk37 by omega), ⟨_, c42, c43, rfl, rfl, rfl⟩⟩
    replace hM := ite_f hb29 hM
    refine yO rfl ?_
    refine yO rfl ?_
    refine yO rfl ?_
    refine yO rfl ?_
    refine yO rfl ?_
    refine yO rfl ?_
    refine yP rfl ?_
    refine yL rfl ?_
    refine yO rfl ?_
    refine yO rfl ?_
    refine yO rfl ?_
    refine yO rfl ?_
    refine yO rfl ?_
    refine yO rfl ?_
    refine yP rfl ?_
    refine yR rfl ?_
    refine yN ?_
    refine run_ret_to ?_
    obtain rfl := some_t hM
    refine fin_x hG rfl rfl rfl (v' := .bool false) (by rfl) ⟨_, ⟨200, 2, true, [[.int .i64 c12, .bool c13]]⟩, rfl, rfl, (show tk ≤ tk7 by omega), ⟨_, c12, c13, rfl, rfl, rfl⟩⟩
   replace hM := ite_f hb28 hM
   refine yO rfl ?_
   refine yO rfl ?_
   refine yO rfl ?_
   refine yO rfl ?_
   refine yP rfl ?_
   refine yL rfl ?_
   refine yO rfl ?_
   refine yO rfl ?_
   refine yO rfl ?_
   refine yO rfl ?_
   refine yO rfl ?_
   refine yO rfl ?_
   refine yP rfl ?_
   refine yL rfl ?_
   refine yO rfl ?_
   refine yO rfl ?_
   refine yO rfl ?_
   refine yO rfl ?_
   refine yO rfl ?_
   refine yO rfl ?_
   refine yP rfl ?_
   refine yR rfl ?_
   refine yN ?_
   refine run_ret_to ?_
   obtain rfl := some_t hM
   refine fin_x hG rfl rfl rfl (v' := .bool false) (by rfl) ⟨_, ⟨200, 2, true, [[.int .i64 c12, .bool c13]]⟩, rfl, rfl, (show tk ≤ tk7 by omega), ⟨_, c12, c13, rfl, rfl, rfl⟩⟩
  replace hM := ite_f hb27 hM
  refine yO rfl ?_
  refine yO rfl ?_
  refine yO rfl ?_
  refine yO rfl ?_
  refine yP rfl ?_
  refine yL rfl ?_
  refine yO rfl ?_
  refine yO rfl ?_
  refine yO rfl ?_
  refine yO rfl ?_
  refine yP rfl ?_
  refine yL rfl ?_
  refine yO rfl ?_
  refine yO rfl ?_
  refine yO rfl ?_
  refine yO rfl ?_
  refine yO rfl ?_
  refine yO rfl ?_
  refine yP rfl ?_
  refine yL rfl ?_
  refine yO rfl ?_
  refine yO rfl ?_
  refine yO rfl ?_
  refine yO rfl ?_
  refine yO rfl ?_
  refine yO rfl ?_
  refine yP rfl ?_
  refine yR rfl ?_
  refine yN ?_
  refine run_ret_to ?_
  obtain rfl := some_t hM
  refine fin_x hG rfl rfl rfl (v' := .bool false) (by rfl) ⟨_, ⟨200, 2, true, [[.int .i64 c12, .bool c13]]⟩, rfl, rfl, (show tk ≤ tk7 by omega), ⟨_, c12, c13, rfl, rfl, rfl⟩⟩
 replace hM := ite_f hb26 hM
 refine run_sr ?_
 refine yB rfl ?_
 refine yR rfl ?_
 refine yN ?_
 refine run_ifd rfl rfl (fun hb61 => ?_) (fun hb61 => ?_)
 ·replace hM := ite_t hb61 hM
  refine run_sr ?_
  refine yF hG rfl ?_
  refine yD hG rfl ?_
  refine yB rfl ?_
  refine yL rfl ?_
  refine run_splitd (i := 65) rfl (fun hb62 => ?_) (fun hb62 => ?_)
  ·replace hM := ite_t hb62 hM
   refine run_puG (on_of rfl rfl rfl rfl) (fieldAddr_step hG rfl rfl rfl rfl rfl) rfl (ltb rfl) ?_
   refine run_rdG (on_of rfl rfl rfl rfl) (aload_rd hG rfl rfl rfl (by simp [ldok])) rfl (ltb rfl) ?_
   refine run_puG (on_of rfl rfl rfl rfl) (lenImm_step hG rfl rfl rfl rfl (flen _)) rfl (ltb rfl) ?_
   refine run_puG (on_of rfl rfl rfl rfl) (abin_step rfl rfl rfl rfl (fun _ h => by cases h)) rfl (ltb rfl) ?_
   refine yP rfl ?_
   refine yL rfl ?_
   refine run_splitd (i := 71) rfl (fun hb63 => ?_) (fun hb63 => ?_)
   ·replace hM := ite_t hb63 hM
    refine run_puG (on_of rfl rfl rfl rfl) (fieldAddr_step hG rfl rfl rfl rfl rfl) rfl (ltb rfl) ?_
    refine run_rdG (on_of rfl rfl rfl rfl) (aload_rd hG rfl rfl rfl (by simp [ldok])) rfl (ltb rfl) ?_
    refine run_puG (on_of rfl rfl rfl rfl) (lenImm_step hG rfl rfl rfl rfl (plen _)) rfl (ltb rfl) ?_
    refine run_puG (on_of rfl rfl rfl rfl) (abin_step rfl rfl rfl rfl (fun _ h => by cases h)) rfl (ltb rfl) ?_
    refine yP rfl ?_
    refine yL rfl ?_
    refine run_splitd (i := 77) rfl (fun hb64 => ?_) (fun hb64 => ?_)
    ·replace hM := ite_t hb64 hM
     refine run_puG (on_of rfl rfl rfl rfl) (move_step (.inl rfl) rfl) rfl (ltb rfl) ?_
     refine run_puG (on_of rfl rfl rfl rfl) (fieldAddr_step hG rfl rfl rfl rfl rfl) rfl (ltb rfl) ?_
     refine run_rdG (on_of rfl rfl rfl rfl) (aload_rd hG rfl rfl rfl (by simp [ldok])) rfl (ltb rfl) ?_
     obtain ⟨y65, hy66, hM⟩ := bind_t hM
     obtain ⟨k67, n67, q67, f67, ks67, rfl, hc68, hi69⟩ := fidx hy66
     refine run_puG (on_of rfl rfl rfl rfl) (indexImm_step hG rfl rfl rfl hi69 rfl rfl rfl rfl hc68) rfl (ltb rfl) ?_
     refine run_rdG (on_of rfl rfl rfl rfl) (aload_rd hG rfl rfl rfl (by simp [ldok])) rfl (ltb rfl) ?_
     obtain ⟨r70, hg71, hM⟩ := bind_t hM
     refine yG (on_of rfl rfl rfl rfl) rfl (i_looker_typ_ok n (.bor 0) c12 c13 k67 n67 q67 f67 ks67 hg71 _ _ rfl) (callK_retV_bor (k := 0) rfl (fun v o' tk' h => by obtain ⟨_, _, _, rfl, rfl, _⟩ := h; rfl) (fun v o' tk72 (hle73 : tk7 ≤ tk72) h74 => ?_))
     obtain ⟨ra79, c77, c78, rfl, rfl, rfl⟩ := h74
     refine yP rfl ?_
     refine yL rfl ?_
     refine run_splitb (i := 85) rfl (fun hb80 => ?_) (fun hb80 => ?_)
     ·replace hM := ite_t hb80 hM
      refine run_puG (on_of rfl rfl rfl rfl) (move_step (.inl rfl) rfl) rfl (ltb rfl) ?_
      refine run_puG (on_of rfl rfl rfl rfl) (fieldAddr_step hG rfl rfl rfl rfl rfl) rfl (ltb rfl) ?_
      refine run_rdG (on_of rfl rfl rfl rfl) (aload_rd hG rfl rfl rfl (by simp [ldok])) rfl (ltb rfl) ?_
      obtain ⟨y81, hy82, hM⟩ := bind_t hM
      obtain ⟨k83, n83, p83, e83, fs83, q83, f83, ks83, rfl, hc84, hi85⟩ := pidx hy82
      refine run_puG (on_of rfl rfl rfl rfl) (indexImm_step hG rfl rfl rfl hi85 rfl rfl rfl rfl hc84) rfl (ltb rfl) ?_
      refine run_rdG (on_of rfl rfl rfl rfl) (aload_rd hG rfl rfl rfl (by simp [ldok])) rfl (ltb rfl) ?_
      obtain ⟨r86, hg87, hM⟩ := bind_t hM
      refine yG (on_of rfl rfl rfl rfl) rfl (ih_i_looker_expr (.bor 0) c77 c78 k83 n83 p83 e83 fs83 q83 f83 ks83 hg87 _ _ rfl) (callK_retV_bor (k := 0) rfl (fun v o' tk' h => by obtain ⟨_, _, _, rfl, rfl, _⟩ := h; rfl) (fun v o' tk88 (hle89 : tk72 ≤ tk88) h90 => ?_))
      obtain ⟨ra95, c93, c94, rfl, rfl, rfl⟩ := h90
      refine yP rfl ?_
      refine yR rfl ?_
      refine yN ?_
      refine run_ret_to ?_
      obtain rfl := some_t hM
      refine fin_x hG rfl rfl rfl (v' := .bool ra95) (by rfl) ⟨_, ⟨200, 2, true, [[.int .i64 c93, .bool c94]]⟩, rfl, rfl, (show tk ≤ tk88 by omega), ⟨_, c93, c94, rfl, rfl, rfl⟩⟩
     replace hM := ite_f hb80 hM
     refine yO rfl ?_
     refine yO rfl ?_
     refine yO rfl ?_
     refine yO rfl ?_
     refine yO rfl ?_
     refine yO rfl ?_
     refine yP rfl ?_
     refine yR rfl ?_
     refine yN ?_
     refine run_ret_to ?_
     obtain rfl := some_t hM
     refine fin_x hG rfl rfl rfl (v' := .bool false) (by rfl) ⟨_, ⟨200, 2, true, [[.int .i64 c77, .bool c78]]⟩, rfl, rfl, (show tk ≤ tk72 by omega), ⟨_, c77, c78, rfl, rfl, rfl⟩⟩
    replace hM := ite_f hb64 hM
    refine yO rfl ?_
    refine yO rfl ?_
    refine yO rfl ?_
    refine yO rfl ?_
    refine yO rfl ?_
    refine yO rfl ?_
    refine yP rfl ?_
    refine yL rfl ?_
    refine yO rfl ?_
    refine yO rfl ?_
    refine yO rfl ?_
    refine yO rfl ?_
    refine yO rfl ?_
    refine yO rfl ?_
    refine yP rfl ?_
    refine yR rfl ?_
    refine yN ?_
    refine run_ret_to ?_
    obtain rfl := some_t hM
    refine fin_x hG rfl rfl rfl (v' := .bool false) (by rfl) ⟨_, ⟨200, 2, true, [[.int .i64 c12, .bool c13]]⟩, rfl, rfl, (show tk ≤ tk7 by omega), ⟨_, c12, c13, rfl, rfl, rfl⟩⟩
   replace hM := ite_f hb63 hM
   refine yO rfl ?_
   refine yO rfl ?_
   refine yO rfl ?_
   refine yO rfl ?_
   refine yP rfl ?_
   refine yL rfl ?_
   refine yO rfl ?_
   refine yO rfl ?_
   refine yO rfl ?_
   refine yO rfl ?_
   refine yO rfl ?_
   refine yO rfl ?_
   refine yP rfl ?_
   refine yL rfl ?_
   refine yO rfl ?_
   refine yO rfl ?_
   refine yO rfl ?_
   refine yO rfl ?_
   refine yO rfl ?_
   refine yO rfl ?_
   refine yP rfl ?_
   refine yR rfl ?_
   refine yN ?_
   refine run_ret_to ?_
   obtain rfl := some_t hM
   refine fin_x hG rfl rfl rfl (v' := .bool false) (by rfl) ⟨_, ⟨200, 2, true, [[.int .i64 c12, .bool c13]]⟩, rfl, rfl, (show tk ≤ tk7 by omega), ⟨_, c12, c13, rfl, rfl, rfl⟩⟩
  replace hM := ite_f hb62 hM
  refine yO rfl ?_
  refine yO rfl ?_
  refine yO rfl ?_
  refine yO rfl ?_
  refine yP rfl ?_
  refine yL rfl ?_
  refine yO rfl ?_
  refine yO rfl ?_
  refine yO rfl ?_
  refine yO rfl ?_
  refine yP rfl ?_
  refine yL rfl ?_
  refine yO rfl ?_
  refine yO rfl ?_
  refine yO rfl ?_
  refine yO rfl ?_
  refine yO rfl ?_
  refine yO rfl ?_
  refine yP rfl ?_
  refine yL rfl ?_
  refine yO rfl ?_
  refine yO rfl ?_
  refine yO rfl ?_
  refine yO rfl ?_
  refine yO rfl ?_
  refine yO rfl ?_
  refine yP rfl ?_
  refine yR rfl ?_
  refine yN ?_
  refine run_ret_to ?_
  obtain rfl := some_t hM
  refine fin_x hG rfl rfl rfl (v' := .bool false) (by rfl) ⟨_, ⟨200, 2, true, [[.int .i64 c12, .bool c13]]⟩, rfl, rfl, (show tk ≤ tk7 by omega), ⟨_, c12, c13, rfl, rfl, rfl⟩⟩
 replace hM := ite_f hb61 hM
 refine run_skip ?_
 refine run_blk ?_
 refine run_sr ?_
 refine yR rfl ?_
 refine yN ?_
 refine run_ret_to ?_
 obtain rfl := some_t hM
 refine fin_x hG rfl rfl rfl (v' := .bool false) (by rfl) ⟨_, ⟨200, 2, true, [[.int .i64 c12, .bool c13]]⟩, rfl, rfl, (show tk ≤ tk7 by omega), ⟨_, c12, c13, rfl, rfl, rfl⟩⟩

theorem i_looker_expr_all : ∀ (n : Nat), (i_looker_expr_P n)
 | 0 => by intro X0 i2 b3 k4 n4 p4 e4 fs4 q4 f4 ks4 r hM; rw [i_looker_expr] at hM; cases hM
 | n + 1 => have ih := i_looker_expr_all n; i_looker_expr_st n (ih)

theorem i_looker_expr_ok (n : Nat) : i_looker_expr_P n := i_looker_expr_all n

def i_ExprOK (n : Nat) (x1 : Pf) : Option Bool :=
 (i_looker_expr n (150, false) x1).bind fun r2 =>
 some r2.1

set_option maxRecDepth 100000 in
theorem i_ExprOK_ok (n : Nat) : ∀ (k1 : Int) (n1 : Int) (p1 : Nat) (e1 : Bool) (fs1 : List LF) (q1 : Nat) (f1 : Bool) (ks1 : List LP) {r : Bool}, i_ExprOK n (Pf.mk k1 n1 (fers fs1) (pers ks1)) = some r → ∀ (O : Heap) (tk : Nat), ACalls Go.Proofs.Try.prog 68 [.agg [.int .i64 k1, .int .i64 n1, .imm p1 3 e1 (fcellss fs1), .imm q1 4 f1 (pcellss ks1)]] O tk (RetX O tk (fun v tk' => v = .bool r)) := by
 intro k1 n1 p1 e1 fs1 q1 f1 ks1 r hM O tk
 unfold i_ExprOK at hM
 refine acalls_of_run Go.Proofs.Try.func68 rfl rfl [] [] (Bor.nil _) [(0, .agg [.int .i64 k1, .int .i64 n1, .imm p1 3 e1 (fcellss fs1), .imm q1 4 f1 (pcellss ks1)])] (.cons (.agg _) (.nil _)) (leb rfl) (fun _ h => by cases h) (fun S0 hO htk hfz => ?_)
 refine run_sr ?_
 refine run_op rfl (box_step (d := 1) rfl rfl rfl rfl rfl) rfl (ltb rfl) ?_
 refine yR rfl ?_
 refine yN ?_
 refine run_seq ?_
 refine run_draw [] (n := 4) mixed rfl yE ?_
 refine yTL hG 1 (by kernel_rfl) rfl ?_
 refine AAny.callBox (i := 0) (ob := ⟨200, 2, true, [[.int .i64 150, .bool false]]⟩) (by kernel_rfl) rfl rfl rfl rfl (ltb rfl) rfl rfl rfl rfl (i_fresh_box _ _) rfl (fun out O' tk' h => h) ?_
 obtain ⟨r2, hg3, hM⟩ := bind_t hM
 refine AAny.one (i := 2) (by kernel_rfl) (AOp.call rfl rfl rfl rfl (ltb rfl) rfl rfl rfl yE (by intro x hx; simp only [tch, tch0, List.nil_append, List.append_nil, List.mem_cons, List.not_mem_nil, or_false] at hx; subst hx; simp) (i_looker_expr_ok n (.loc 3) 150 false k1 n1 p1 e1 fs1 q1 f1 ks1 hg3 _ _ rfl) (callK_retV_loc (k := 3) rfl (fun v o' tk4 (hle5 : tk ≤ tk4) h6 => ?_)))
 obtain ⟨ra11, c9, c10, rfl, rfl, rfl⟩ := h6
 refine yTW 3 (by kernel_rfl) rfl ?_
 refine AAny.done (by kernel_rfl) ?_
 refine run_ret_to ?_
 obtain rfl := some_t hM
 refine fin_x hG rfl rfl rfl (v' := .bool ra11) (by rfl) ⟨rfl, (show tk ≤ tk4 by omega), _, rfl, rfl⟩

def s_l09Count_L2 (rec_s_l09Count : Pf → Int → Option Int) (x1 : Pf) : Nat → Int → Int → Option Int
 | 0, _, _ => none
 | m + 1, i19, i20 =>
  if i20 < ((x1.kids).length : Int) then
   if i19 ≥ 0 then
    (idx x1.kids i20).bind fun y23 =>
    (rec_s_l09Count y23 i19).bind fun r28 =>
    s_l09Count_L2 rec_s_l09Count x1 m r28 (IntKind.i64.wrap (i20 + 1))
   else
    some i19
  else
   some i19

def s_l09Count_L1 (rec_s_l09Count : Pf → Int → Option Int) (n : Nat) (x1 : Pf) : Nat → Int → Int → Option Int
 | 0, _, _ => none
 | m + 1, i3, i4 =>
  if i4 < ((x1.forms).length : Int) then
   if i3 ≥ 0 then
    (idx x1.forms i4).bind fun y7 =>
    (s_l09TypeCount n y7 i3).bind fun r12 =>
    s_l09Count_L1 rec_s_l09Count n x1 m r12 (IntKind.i64.wrap (i4 + 1))
   else
    s_l09Count_L2 rec_s_l09Count x1 n i3 0
  else
   s_l09Count_L2 rec_s_l09Count x1 n i3 0

def s_l09Count : Nat → Pf → Int → Option Int
 | 0, _, _ => none
 | n + 1, x1, i2 =>
  s_l09Count_L1 (s_l09Count n) n x1 n (IntKind.i64.wrap (i2 - 1)) 0

def s_l09Count_P (n : Nat) : Prop := ∀ (k1 : Int) (n1 : Int) (p1 : Nat) (e1 : Bool) (fs1 : List LF) (q1 : Nat) (f1 : Bool) (ks1 : List LP) (i2 : Int) {r : Int}, s_l09Count n (Pf.mk k1 n1 (fers fs1) (pers ks1)) i2 = some r → ∀ (O : Heap) (tk : Nat), ACalls Go.Proofs.Try.prog 65 [.agg [.int .i64 k1, .int .i64 n1, .imm p1 3 e1 (fcellss fs1), .imm q1 4 f1 (pcellss ks1)], .int .i64 i2] O tk (RetX O tk (fun v tk' => v = .int .i64 r))

set_option maxHeartbeats 20000000 in
set_option maxRecDepth 100000 in
theorem s_l09Count_st (n : Nat) (ih_s_l09Count : s_l09Count_P n) : s_l09Count_P (n + 1) := by
 intro k1 n1 p1 e1 fs1 q1 f1 ks1 i2 r hM O tk
 rw [s_l09Count] at hM
 refine acalls_of_run Go.Proofs.Try.func65 rfl rfl [] [] (Bor.nil _) [(0, .agg [.int .i64 k1, .int .i64 n1, .imm p1 3 e1 (fcellss fs1), .imm q1 4 f1 (pcellss ks1)]), (1, .int .i64 i2)] (.cons (.agg _) (.cons (entS rfl) (.nil _))) (leb rfl) (fun _ h => by cases h) (fun S0 hO htk hfz => ?_)
 refine run_sr ?_
 refine run_op rfl (box_step (d := 2) rfl rfl rfl rfl rfl) rfl (ltb rfl) ?_
 refine yR rfl ?_
 refine yN ?_
 refine run_sr ?_
 refine yL rfl ?_
 refine yB rfl ?_
 refine yR rfl ?_
 refine yN ?_
 refine run_seq ?_
 refine run_sr ?_
 refine yR rfl ?_
 refine yN ?_
 refine run_block ?_
 refine run_rounds (fun m σ => ∃ (i3 : Int) (i4 : Int) (tks_l09Count_L1 : Nat), tk ≤ tks_l09Count_L1 ∧ s_l09Count_L1 (s_l09Count n) n (Pf.mk k1 n1 (fers fs1) (pers ks1)) m i3 i4 = some r ∧ σ = ⟨[(1, .int .i64 i3), (2, .optr (.loc 2) 0 0), (4, .int .i64 0), (5, .int .i64 i4)], [(2, ⟨40, 4, true, [[.int .i64 k1, .int .i64 n1, .imm p1 3 e1 (fcellss fs1), .imm q1 4 f1 (pcellss ks1)]]⟩)], [], O, tks_l09Count_L1⟩) n (Sub.pk [1, 2, 4, 5] rfl) ⟨(IntKind.i64.wrap (i2 - 1)), 0, tk, Nat.le_refl _, hM, rfl⟩ (fun m σ hI => ?_)
 clear hM
 obtain ⟨i3, i4, tks_l09Count_L1, hle53, hM, rfl⟩ := hI
 obtain _ | m := m
 ·exact absurd hM (by rw [s_l09Count_L1]; exact fun h => by cases h)
 rw [s_l09Count_L1] at hM
 refine run_seq ?_
 refine run_sr ?_
 refine yL rfl ?_
 refine yF hG rfl ?_
 refine yD hG rfl ?_
 refine run_pu rfl (lenImm_step hG rfl rfl rfl rfl (flen _)) rfl (ltb rfl) ?_
 refine yB rfl ?_
 refine yL rfl ?_
 refine run_splitd (i := 14) rfl (fun hb5 => ?_) (fun hb5 => ?_)
 ·replace hM := ite_t hb5 hM
  refine run_puG (on_of rfl rfl rfl rfl) (move_step (.inl rfl) rfl) rfl (ltb rfl) ?_
  refine run_puG (on_of rfl rfl rfl rfl) (abin_step rfl rfl rfl rfl (fun _ h => by cases h)) rfl (ltb rfl) ?_
  refine yP rfl ?_
  refine yN ?_
  refine run_ifd rfl rfl (fun hb6 => ?_) (fun hb6 => ?_)
  ·replace hM := ite_t hb6 hM
   refine run_skip ?_
   refine run_seq ?_
   refine run_block ?_
   refine run_region ?_
   refine yF hG rfl ?_
   refine yD hG rfl ?_
   refine yL rfl ?_
   obtain ⟨y7, hy8, hM⟩ := bind_t hM
   obtain ⟨k9, n9, q9, f9, ks9, rfl, hc10, hi11⟩ := fidx hy8
   refine run_pu rfl (indexImm_step hG rfl rfl rfl hi11 rfl rfl rfl rfl hc10) rfl (ltb rfl) ?_
   refine yD hG rfl ?_
   refine yL rfl ?_
   obtain ⟨r12, hg13, hM⟩ := bind_t hM
   refine yK rfl (s_l09TypeCount_ok n k9 n9 q9 f9 ks9 i3 hg13 _ _) (callK_retX (fun v tk14 (hle15 : tks_l09Count_L1 ≤ tk14) h16 => ?_))
   subst h16
   refine yR rfl ?_
   refine yN ?_
   refine run_blk ?_
   refine run_sub_code (σ' := ⟨[(1, .int .i64 r12), (2, .optr (.loc 2) 0 0), (4, .int .i64 0), (5, .int .i64 i4)], [(2, ⟨40, 4, true, [[.int .i64 k1, .int .i64 n1, .imm p1 3 e1 (fcellss fs1), .imm q1 4 f1 (pcellss ks1)]]⟩)], [], O, tk14⟩) (Sub.env _ ⟨rfl, rfl, rfl, rfl, trivial⟩) ?_
   refine run_region ?_
   refine yL rfl ?_
   refine yB rfl ?_
   refine yR rfl ?_
   refine yN ?_
   exact run_loop_end ⟨m, _, Nat.lt_succ_self _, ⟨r12, (IntKind.i64.wrap (i4 + 1)), tk14, (show tk ≤ tk14 by omega), hM, rfl⟩, Sub.pk [1, 2, 4, 5] rfl⟩
  replace hM := ite_f hb6 hM
  refine run_exit_to rfl ?_
  refine run_seq ?_
  refine run_sr ?_
  refine yR rfl ?_
  refine yN ?_
  refine run_block ?_
  refine run_rounds (fun m σ => ∃ (i19 : Int) (i20 : Int) (tks_l09Count_L2 : Nat), tks_l09Count_L1 ≤ tks_l09Count_L2 ∧ s_l09Count_L2 (s_l09Count n) (Pf.mk k1 n1 (fers fs1) (pers ks1)) m i19 i20 = some r ∧ σ = ⟨[(1, .int .i64 i19), (2, .optr (.loc 2) 0 0), (4, .int .i64 0), (6, .int .i64 i20)], [(2, ⟨40, 4, true, [[.int .i64 k1, .int .i64 n1, .imm p1 3 e1 (fcellss fs1), .imm q1 4 f1 (pcellss ks1)]]⟩)], [], O, tks_l09Count_L2⟩) n (Sub.pk [1, 2, 4, 6] rfl) ⟨i3, 0, tks_l09Count_L1, Nat.le_refl _, hM, rfl⟩ (fun m σ hI => ?_)
  clear hM
  obtain ⟨i19, i20, tks_l09Count_L2, hle35, hM, rfl⟩ := hI
  obtain _ | m := m
  ·exact absurd hM (by rw [s_l09Count_L2]; exact fun h => by cases h)
  rw [s_l09Count_L2] at hM
  refine run_seq ?_
  refine run_sr ?_
  refine yL rfl ?_
  refine yF hG rfl ?_
  refine yD hG rfl ?_
  refine run_pu rfl (lenImm_step hG rfl rfl rfl rfl (plen _)) rfl (ltb rfl) ?_
  refine yB rfl ?_
  refine yL rfl ?_
  refine run_splitd (i := 32) rfl (fun hb21 => ?_) (fun hb21 => ?_)
  ·replace hM := ite_t hb21 hM
   refine run_puG (on_of rfl rfl rfl rfl) (move_step (.inl rfl) rfl) rfl (ltb rfl) ?_
   refine run_puG (on_of rfl rfl rfl rfl) (abin_step rfl rfl rfl rfl (fun _ h => by cases h)) rfl (ltb rfl) ?_
   refine yP rfl ?_
   refine yN ?_
   refine run_ifd rfl rfl (fun hb22 => ?_) (fun hb22 => ?_)
   ·replace hM := ite_t hb22 hM
    refine run_skip ?_
    refine run_seq ?_
    refine run_block ?_
    refine run_region ?_
    refine yF hG rfl ?_
    refine yD hG rfl ?_
    refine yL rfl ?_
    obtain ⟨y23, hy24, hM⟩ := bind_t hM
    obtain ⟨k25, n25, p25, e25, fs25, q25, f25, ks25, rfl, hc26, hi27⟩ := pidx hy24
    refine run_pu rfl (indexImm_step hG rfl rfl rfl hi27 rfl rfl rfl rfl hc26) rfl (ltb rfl) ?_
    refine yD hG rfl ?_
    refine yL rfl ?_
    obtain ⟨r28, hg29, hM⟩ := bind_t hM
    refine yK rfl (ih_s_l09Count k25 n25 p25 e25 fs25 q25 f25 ks25 i19 hg29 _ _) (callK_retX (fun v tk30 (hle31 : tks_l09Count_L2 ≤ tk30) h32 => ?_))
    subst h32
    refine yR rfl ?_
    refine yN ?_
    refine run_blk ?_
    refine run_sub_code (σ' := ⟨[(1, .int .i64 r28), (2, .optr (.loc 2) 0 0), (4, .int .i64 0), (6, .int .i64 i20)], [(2, ⟨40, 4, true, [[.int .i64 k1, .int .i64 n1, .imm p1 3 e1 (fcellss fs1), .imm q1 4 f1 (pcellss ks1)]]⟩)], [], O, tk30⟩) (Sub.env _ ⟨rfl, rfl, rfl, rfl, trivial⟩) ?_
    refine run_region ?_
    refine yL rfl ?_
    refine yB rfl ?_
    refine yR rfl ?_
    refine yN ?_
    exact run_loop_end ⟨m, _, Nat.lt_succ_self _, ⟨r28, (IntKind.i64.wrap (i20 + 1)), tk30, (show tks_l09Count_L1 ≤ tk30 by omega), hM, rfl⟩, Sub.pk [1, 2, 4, 6] rfl⟩
   replace hM := ite_f hb22 hM
   refine run_exit_to rfl ?_
   refine run_sr ?_
   refine yL rfl ?_
   refine yR rfl ?_
   refine yN ?_
   refine run_ret_to ?_
   obtain rfl := some_t hM
   refine fin_x hG rfl rfl rfl (v' := .int .i64 i19) (by rfl) ⟨rfl, (show tk ≤ tks_l09Count_L2 by omega), _, rfl, rfl⟩
  replace hM := ite_f hb21 hM
  refine yO rfl ?_
  refine yO rfl ?_
  refine yP rfl ?_
  refine yN ?_
  refine run_if rfl rfl (fun h => by cases h) (fun _ => ?_)
  refine run_exit_to rfl ?_
  refine run_sr ?_
  refine yL rfl ?_
  refine yR rfl ?_
  refine yN ?_
  refine run_ret_to ?_
  obtain rfl := some_t hM
  refine fin_x hG rfl rfl rfl (v' := .int .i64 i19) (by rfl) ⟨rfl, (show tk ≤ tks_l09Count_L2 by omega), _, rfl, rfl⟩
 replace hM := ite_f hb5 hM
 refine yO rfl ?_
 refine yO rfl ?_
 refine yP rfl ?_
 refine yN ?_
 refine run_if rfl rfl (fun h => by cases h) (fun _ => ?_)
 refine run_exit_to rfl ?_
 refine run_seq ?_
 refine run_sr ?_
 refine yR rfl ?_
 refine yN ?_
 refine run_block ?_
 refine run_rounds (fun m σ => ∃ (i36 : Int) (i37 : Int) (tks_l09Count_L3 : Nat), tks_l09Count_L1 ≤ tks_l09Count_L3 ∧ s_l09Count_L2 (s_l09Count n) (Pf.mk k1 n1 (fers fs1) (pers ks1)) m i36 i37 = some r ∧ σ = ⟨[(1, .int .i64 i36), (2, .optr (.loc 2) 0 0), (4, .int .i64 0), (6, .int .i64 i37)], [(2, ⟨40, 4, true, [[.int .i64 k1, .int .i64 n1, .imm p1 3 e1 (fcellss fs1), .imm q1 4 f1 (pcellss ks1)]]⟩)], [], O, tks_l09Count_L3⟩) n (Sub.pk [1, 2, 4, 6] rfl) ⟨i3, 0, tks_l09Count_L1, Nat.le_refl _, hM, rfl⟩ (fun m σ hI => ?_)
 clear hM
 obtain ⟨i36, i37, tks_l09Count_L3, hle52, hM, rfl⟩ := hI
 obtain _ | m := m
 ·exact absurd hM (by rw [s_l09Count_L2]; exact fun h => by cases h)
 rw [s_l09Count_L2] at hM
 refine run_seq ?_
 refine run_sr ?_
 refine yL rfl ?_
 refine yF hG rfl ?_
 refine yD hG rfl ?_
 refine run_pu rfl (lenImm_step hG rfl rfl rfl rfl (plen _)) rfl (ltb rfl) ?_
 refine yB rfl ?_
 refine yL rfl ?_
 refine run_splitd (i := 32) rfl (fun hb38 => ?_) (fun hb38 => ?_)
 ·replace hM := ite_t hb38 hM
  refine run_puG (on_of rfl rfl rfl rfl) (move_step (.inl rfl) rfl) rfl (ltb rfl) ?_
  refine run_puG (on_of rfl rfl rfl rfl) (abin_step rfl rfl rfl rfl (fun _ h => by cases h)) rfl (ltb rfl) ?_
  refine yP rfl ?_
  refine yN ?_
  refine run_ifd rfl rfl (fun hb39 => ?_) (fun hb39 => ?_)
  ·replace hM := ite_t hb39 hM
   refine run_skip ?_
   refine run_seq ?_
   refine run_block ?_
   refine run_region ?_
   refine yF hG rfl ?_
   refine yD hG rfl ?_
   refine yL rfl ?_
   obtain ⟨y40, hy41, hM⟩ := bind_t hM
   obtain ⟨k42, n42, p42, e42, fs42, q42, f42, ks42, rfl, hc43, hi44⟩ := pidx hy41
   refine run_pu rfl (indexImm_step hG rfl rfl rfl hi44 rfl rfl rfl rfl hc43) rfl (ltb rfl) ?_
   refine yD hG rfl ?_
   refine yL rfl ?_
   obtain ⟨r45, hg46, hM⟩ := bind_t hM
   refine yK rfl (ih_s_l09Count k42 n42 p42 e42 fs42 q42 f42 ks42 i36 hg46 _ _) (callK_retX (fun v tk47 (hle48 : tks_l09Count_L3 ≤ tk47) h49 => ?_))
   subst h49
   refine yR rfl ?_
   refine yN ?_
   refine run_blk ?_
   refine run_sub_code (σ' := ⟨[(1, .int .i64 r45), (2, .optr (.loc 2) 0 0), (4, .int .i64 0), (6, .int .i64 i37)], [(2, ⟨40, 4, true, [[.int .i64 k1, .int .i64 n1, .imm p1 3 e1 (fcellss fs1), .imm q1 4 f1 (pcellss ks1)]]⟩)], [], O, tk47⟩) (Sub.env _ ⟨rfl, rfl, rfl, rfl, trivial⟩) ?_
   refine run_region ?_
   refine yL rfl ?_
   refine yB rfl ?_
   refine yR rfl ?_
   refine yN ?_
   exact run_loop_end ⟨m, _, Nat.lt_succ_self _, ⟨r45, (IntKind.i64.wrap (i37 + 1)), tk47, (show tks_l09Count_L1 ≤ tk47 by omega), hM, rfl⟩, Sub.pk [1, 2, 4, 6] rfl⟩
  replace hM := ite_f hb39 hM
  refine run_exit_to rfl ?_
  refine run_sr ?_
  refine yL rfl ?_
  refine yR rfl ?_
  refine yN ?_
  refine run_ret_to ?_
  obtain rfl := some_t hM
  refine fin_x hG rfl rfl rfl (v' := .int .i64 i36) (by rfl) ⟨rfl, (show tk ≤ tks_l09Count_L3 by omega), _, rfl, rfl⟩
 replace hM := ite_f hb38 hM
 refine yO rfl ?_
 refine yO rfl ?_
 refine yP rfl ?_
 refine yN ?_
 refine run_if rfl rfl (fun h => by cases h) (fun _ => ?_)
 refine run_exit_to rfl ?_
 refine run_sr ?_
 refine yL rfl ?_
 refine yR rfl ?_
 refine yN ?_
 refine run_ret_to ?_
 obtain rfl := some_t hM
 refine fin_x hG rfl rfl rfl (v' := .int .i64 i36) (by rfl) ⟨rfl, (show tk ≤ tks_l09Count_L3 by omega), _, rfl, rfl⟩

theorem s_l09Count_all : ∀ (n : Nat), (s_l09Count_P n)
 | 0 => by intro k1 n1 p1 e1 fs1 q1 f1 ks1 i2 r hM; rw [s_l09Count] at hM; cases hM
 | n + 1 => have ih := s_l09Count_all n; s_l09Count_st n (ih)

theorem s_l09Count_ok (n : Nat) : s_l09Count_P n := s_l09Count_all n

def s_l09Expr_L2 (rec_s_l09Expr : Pf → Option Bool) (x1 : Pf) (i9 : Int) : Nat → Int → Option Bool
 | 0, _ => none
 | m + 1, i30 =>
  if i30 < i9 then
   (idx x1.kids i30).bind fun y32 =>
   (rec_s_l09Expr y32).bind fun r37 =>
   if (!r37) = true then
    some false
   else
    s_l09Expr_L2 rec_s_l09Expr x1 i9 m (IntKind.i64.wrap (i30 + 1))
  else
   some true

def s_l09Expr_L1 (rec_s_l09Expr : Pf → Option Bool) (n : Nat) (x1 : Pf) (i8 : Int) (i9 : Int) : Nat → Int → Option Bool
 | 0, _ => none
 | m + 1, i15 =>
  if i15 < i8 then
   (idx x1.forms i15).bind fun y17 =>
   (s_l09Type n y17).bind fun r22 =>
   if (!r22) = true then
    some false
   else
    s_l09Expr_L1 rec_s_l09Expr n x1 i8 i9 m (IntKind.i64.wrap (i15 + 1))
  else
   s_l09Expr_L2 rec_s_l09Expr x1 i9 n 0

def s_l09Expr : Nat → Pf → Option Bool
 | 0, _ => none
 | n + 1, x1 =>
  jn (
   jn (fun (i8 : Int) (i9 : Int) =>
    if (((x1.forms).length : Int) != i8) = true then
     some false
    else
     if (((x1.kids).length : Int) != i9) = true then
      some false
     else
      s_l09Expr_L1 (s_l09Expr n) n x1 i8 i9 n 0) fun j7 =>
   if x1.kind = 1 then
    j7 0 0
   else
    if x1.kind = 2 then
     j7 0 2
    else
     if x1.kind = 3 then
      j7 1 1
     else
      some false) fun j2 =>
  if x1.n < 0 then
   some false
  else
   if x1.n > 100 then
    some false
   else
    if (x1.kind != 1) = true then
     if (x1.n != 0) = true then
      some false
     else
      j2
    else
     j2

def s_l09Expr_P (n : Nat) : Prop := ∀ (k1 : Int) (n1 : Int) (p1 : Nat) (e1 : Bool) (fs1 : List LF) (q1 : Nat) (f1 : Bool) (ks1 : List LP) {r : Bool}, s_l09Expr n (Pf.mk k1 n1 (fers fs1) (pers ks1)) = some r → ∀ (O : Heap) (tk : Nat), ACalls Go.Proofs.Try.prog 66 [.agg [.int .i64 k1, .int .i64 n1, .imm p1 3 e1 (fcellss fs1), .imm q1 4 f1 (pcellss ks1)]] O tk (RetX O tk (fun v tk' => v = .bool r))

set_option maxHeartbeats 20000000 in
set_option maxRecDepth 100000 in
theorem s_l09Expr_st (n : Nat) (ih_s_l09Expr : s_l09Expr_P n) : s_l09Expr_P (n + 1) := by
 intro k1 n1 p1 e1 fs1 q1 f1 ks1 r hM O tk
 rw [s_l09Expr] at hM
 refine acalls_of_run Go.Proofs.Try.func66 rfl rfl [] [] (Bor.nil _) [(0, .agg [.int .i64 k1, .int .i64 n1, .imm p1 3 e1 (fcellss fs1), .imm q1 4 f1 (pcellss ks1)])] (.cons (.agg _) (.nil _)) (leb rfl) (fun _ h => by cases h) (fun S0 hO htk hfz => ?_)
 refine run_sr ?_
 refine run_op rfl (box_step (d := 1) rfl rfl rfl rfl rfl) rfl (ltb rfl) ?_
 refine yR rfl ?_
 refine yN ?_
 refine run_seq ?_
 refine run_seq ?_
 obtain ⟨j2, hj50, hM⟩ := jn_t hM
 refine run_cutL [.code _, .code _] (fun σ' => ∃ (tkj2 : Nat), tk ≤ tkj2 ∧ j2 = some r ∧ Sub ⟨Go.Proofs.Try.prog, S0, Go.Proofs.Try.f66.ntmps, [], fun _ => False, []⟩ σ' ⟨[(1, .optr (.loc 1) 0 0), (2, .bool false)], [(1, ⟨40, 4, true, [[.int .i64 k1, .int .i64 n1, .imm p1 3 e1 (fcellss fs1), .imm q1 4 f1 (pcellss ks1)]]⟩)], [], O, tkj2⟩) rfl ?_ ?_
 ·refine run_region ?_
  refine yF hG rfl ?_
  refine yD hG rfl ?_
  refine yB rfl ?_
  refine yL rfl ?_
  refine run_splitd (i := 10) rfl (fun hb3 => ?_) (fun hb3 => ?_)
  ·replace hM := ite_t hb3 hM
   refine yO rfl ?_
   refine yO rfl ?_
   refine yO rfl ?_
   refine yP rfl ?_
   refine yL rfl ?_
   refine yO rfl ?_
   refine yO rfl ?_
   refine yO rfl ?_
   refine yO rfl ?_
   refine run_off (off_un rfl rfl rfl) rfl (ltb rfl) ?_
   refine run_off (off_un rfl rfl rfl) rfl (ltb rfl) ?_
   refine run_off (off_un rfl rfl rfl) rfl (ltb rfl) ?_
   refine yO rfl ?_
   refine yP rfl ?_
   refine yN ?_
   refine run_if rfl rfl (fun _ => ?_) (fun h => by cases h)
   refine run_sr ?_
   refine yR rfl ?_
   refine yN ?_
   refine run_ret_to ?_
   refine cut_ret ?_
   obtain rfl := some_t hM
   refine fin_x hG rfl rfl rfl (v' := .bool false) (by rfl) ⟨rfl, (show tk ≤ tk by omega), _, rfl, rfl⟩
  replace hM := ite_f hb3 hM
  refine run_puG (on_of rfl rfl rfl rfl) (fieldAddr_step hG rfl rfl rfl rfl rfl) rfl (ltb rfl) ?_
  refine run_rdG (on_of rfl rfl rfl rfl) (aload_rd hG rfl rfl rfl (by simp [ldok])) rfl (ltb rfl) ?_
  refine run_puG (on_of rfl rfl rfl rfl) (abin_step rfl rfl rfl rfl (fun _ h => by cases h)) rfl (ltb rfl) ?_
  refine yP rfl ?_
  refine yL rfl ?_
  refine run_splitd (i := 15) rfl (fun hb4 => ?_) (fun hb4 => ?_)
  ·replace hM := ite_t hb4 hM
   refine yO rfl ?_
   refine yO rfl ?_
   refine yO rfl ?_
   refine yO rfl ?_
   refine run_off (off_un rfl rfl rfl) rfl (ltb rfl) ?_
   refine run_off (off_un rfl rfl rfl) rfl (ltb rfl) ?_
   refine run_off (off_un rfl rfl rfl) rfl (ltb rfl) ?_
   refine yO rfl ?_
   refine yP rfl ?_
   refine yN ?_
   refine run_if rfl rfl (fun _ => ?_) (fun h => by cases h)
   refine run_sr ?_
   refine yR rfl ?_
   refine yN ?_
   refine run_ret_to ?_
   refine cut_ret ?_
   obtain rfl := some_t hM
   refine fin_x hG rfl rfl rfl (v' := .bool false) (by rfl) ⟨rfl, (show tk ≤ tk by omega), _, rfl, rfl⟩
  replace hM := ite_f hb4 hM
  refine run_puG (on_of rfl rfl rfl rfl) (fieldAddr_step hG rfl rfl rfl rfl rfl) rfl (ltb rfl) ?_
  refine run_rdG (on_of rfl rfl rfl rfl) (aload_rd hG rfl rfl rfl (by simp [ldok])) rfl (ltb rfl) ?_
  refine run_puG (on_of rfl rfl rfl rfl) (abin_step rfl rfl rfl rfl (fun _ h => by cases h)) rfl (ltb rfl) ?_
  refine run_puG (on_of rfl rfl rfl rfl) (move_step (.inl rfl) rfl) rfl (ltb rfl) ?_
  refine run_splitb (i := 19) rfl (fun hb5 => ?_) (fun hb5 => ?_)
  ·replace hM := ite_t hb5 hM
   refine run_puG (on_of rfl rfl rfl rfl) (fieldAddr_step hG rfl rfl rfl rfl rfl) rfl (ltb rfl) ?_
   refine run_rdG (on_of rfl rfl rfl rfl) (aload_rd hG rfl rfl rfl (by simp [ldok])) rfl (ltb rfl) ?_
   refine run_puG (on_of rfl rfl rfl rfl) (abin_step rfl rfl rfl rfl (fun _ h => by cases h)) rfl (ltb rfl) ?_
   refine run_puG (on_of rfl rfl rfl rfl) (pick_step rfl rfl rfl) rfl (ltb rfl) ?_
   refine yP rfl ?_
   refine yN ?_
   refine run_sub_code (σ' := ⟨[(1, .optr (.loc 1) 0 0), (2, .bool false), (24, .bool (n1 != 0))], [(1, ⟨40, 4, true, [[.int .i64 k1, .int .i64 n1, .imm p1 3 e1 (fcellss fs1), .imm q1 4 f1 (pcellss ks1)]]⟩)], [], O, tk⟩) (Sub.env _ ⟨rfl, rfl, rfl, trivial⟩) ?_
   refine run_ifb rfl rfl (fun hb6 => ?_) (fun hb6 => ?_)
   ·replace hM := ite_t hb6 hM
    refine run_sr ?_
    refine yR rfl ?_
    refine yN ?_
    refine run_ret_to ?_
    refine cut_ret ?_
    obtain rfl := some_t hM
    refine fin_x hG rfl rfl rfl (v' := .bool false) (by rfl) ⟨rfl, (show tk ≤ tk by omega), _, rfl, rfl⟩
   replace hM := ite_f hb6 hM
   refine run_skip ?_
   exact ⟨tk, (show tk ≤ tk by omega), hM, Sub.pk [1, 2] rfl⟩
  replace hM := ite_f hb5 hM
  refine yO rfl ?_
  refine yO rfl ?_
  refine yO rfl ?_
  refine run_puG (on_of rfl rfl rfl rfl) (pick_step rfl rfl rfl) rfl (ltb rfl) ?_
  refine yP rfl ?_
  refine yN ?_
  refine run_sub_code (σ' := ⟨[(1, .optr (.loc 1) 0 0), (2, .bool false), (24, .bool false)], [(1, ⟨40, 4, true, [[.int .i64 k1, .int .i64 n1, .imm p1 3 e1 (fcellss fs1), .imm q1 4 f1 (pcellss ks1)]]⟩)], [], O, tk⟩) (Sub.env _ ⟨rfl, rfl, rfl, trivial⟩) ?_
  refine run_if rfl rfl (fun h => by cases h) (fun _ => ?_)
  refine run_skip ?_
  exact ⟨tk, (show tk ≤ tk by omega), hM, Sub.pk [1, 2] rfl⟩
 clear hM
 rintro σ' ⟨tkj2, hle49, hM, hsub⟩
 rw [hj50] at hM
 clear hj50
 refine run_sub_code hsub ?_
 refine run_sr ?_
 refine yR rfl ?_
 refine yN ?_
 refine run_sr ?_
 refine yR rfl ?_
 refine yN ?_
 refine run_seq ?_
 refine run_sr ?_
 refine yF hG rfl ?_
 refine yD hG rfl ?_
 refine yN ?_
 refine run_block ?_
 refine run_sr ?_
 refine yB rfl ?_
 refine yR rfl ?_
 refine yN ?_
 obtain ⟨j7, hj48, hM⟩ := jn_t hM
 refine run_cutL [.code _, .blk 0] (fun σ' => ∃ (i8 : Int) (i9 : Int) (tkj7 : Nat), tkj2 ≤ tkj7 ∧ j7 i8 i9 = some r ∧ Sub ⟨Go.Proofs.Try.prog, S0, Go.Proofs.Try.f66.ntmps, [], fun _ => False, []⟩ σ' ⟨[(1, .optr (.loc 1) 0 0), (2, .bool false), (3, .int .i64 i8), (4, .int .i64 i9)], [(1, ⟨40, 4, true, [[.int .i64 k1, .int .i64 n1, .imm p1 3 e1 (fcellss fs1), .imm q1 4 f1 (pcellss ks1)]]⟩)], [], O, tkj7⟩) rfl ?_ ?_
 ·refine run_ifd rfl rfl (fun hb10 => ?_) (fun hb10 => ?_)
  ·replace hM := ite_t hb10 hM
   refine run_skip ?_
   refine run_blk ?_
   exact ⟨0, 0, tkj2, (show tkj2 ≤ tkj2 by omega), hM, Sub.pk [1, 2, 3, 4] rfl⟩
  replace hM := ite_f hb10 hM
  refine run_sr ?_
  refine yB rfl ?_
  refine yR rfl ?_
  refine yN ?_
  refine run_ifd rfl rfl (fun hb11 => ?_) (fun hb11 => ?_)
  ·replace hM := ite_t hb11 hM
   refine run_region ?_
   refine yR rfl ?_
   refine yN ?_
   refine run_blk ?_
   exact ⟨0, 2, tkj2, (show tkj2 ≤ tkj2 by omega), hM, Sub.pk [1, 2, 3, 4] rfl⟩
  replace hM := ite_f hb11 hM
  refine run_sr ?_
  refine yB rfl ?_
  refine yR rfl ?_
  refine yN ?_
  refine run_ifd rfl rfl (fun hb12 => ?_) (fun hb12 => ?_)
  ·replace hM := ite_t hb12 hM
   refine run_sr ?_
   refine yR rfl ?_
   refine yN ?_
   refine run_region ?_
   refine yR rfl ?_
   refine yN ?_
   refine run_blk ?_
   exact ⟨1, 1, tkj2, (show tkj2 ≤ tkj2 by omega), hM, Sub.pk [1, 2, 3, 4] rfl⟩
  replace hM := ite_f hb12 hM
  refine run_sr ?_
  refine yR rfl ?_
  refine yN ?_
  refine run_ret_to ?_
  refine cut_ret ?_
  obtain rfl := some_t hM
  refine fin_x hG rfl rfl rfl (v' := .bool false) (by rfl) ⟨rfl, (show tk ≤ tkj2 by omega), _, rfl, rfl⟩
 clear hM
 rintro σ' ⟨i8, i9, tkj7, hle47, hM, hsub⟩
 rw [hj48] at hM
 clear hj48
 refine run_sub_code hsub ?_
 refine run_seq ?_
 refine run_sr ?_
 refine yF hG rfl ?_
 refine yD hG rfl ?_
 refine run_pu rfl (lenImm_step hG rfl rfl rfl rfl (flen _)) rfl (ltb rfl) ?_
 refine yL rfl ?_
 refine yB rfl ?_
 refine yL rfl ?_
 refine run_splitb (i := 38) rfl (fun hb13 => ?_) (fun hb13 => ?_)
 ·replace hM := ite_t hb13 hM
  refine yO rfl ?_
  refine yO rfl ?_
  refine yO rfl ?_
  refine yO rfl ?_
  refine yO rfl ?_
  refine yP rfl ?_
  refine yN ?_
  refine run_if rfl rfl (fun _ => ?_) (fun h => by cases h)
  refine run_sr ?_
  refine yR rfl ?_
  refine yN ?_
  refine run_ret_to ?_
  obtain rfl := some_t hM
  refine fin_x hG rfl rfl rfl (v' := .bool false) (by rfl) ⟨rfl, (show tk ≤ tkj7 by omega), _, rfl, rfl⟩
 replace hM := ite_f hb13 hM
 refine run_puG (on_of rfl rfl rfl rfl) (fieldAddr_step hG rfl rfl rfl rfl rfl) rfl (ltb rfl) ?_
 refine run_rdG (on_of rfl rfl rfl rfl) (aload_rd hG rfl rfl rfl (by simp [ldok])) rfl (ltb rfl) ?_
 refine run_puG (on_of rfl rfl rfl rfl) (lenImm_step hG rfl rfl rfl rfl (plen _)) rfl (ltb rfl) ?_
 refine run_puG (on_of rfl rfl rfl rfl) (move_step (.inl rfl) rfl) rfl (ltb rfl) ?_
 refine run_puG (on_of rfl rfl rfl rfl) (abin_step rfl rfl rfl rfl (fun _ h => by cases h)) rfl (ltb rfl) ?_
 refine yP rfl ?_
 refine yN ?_
 refine run_ifb rfl rfl (fun hb14 => ?_) (fun hb14 => ?_)
 ·replace hM := ite_t hb14 hM
  refine run_sr ?_
  refine yR rfl ?_
  refine yN ?_
  refine run_ret_to ?_
  obtain rfl := some_t hM
  refine fin_x hG rfl rfl rfl (v' := .bool false) (by rfl) ⟨rfl, (show tk ≤ tkj7 by omega), _, rfl, rfl⟩
 replace hM := ite_f hb14 hM
 refine run_skip ?_
 refine run_seq ?_
 refine run_sr ?_
 refine yR rfl ?_
 refine yN ?_
 refine run_block ?_
 refine run_rounds (fun m σ => ∃ (i15 : Int) (tks_l09Expr_L1 : Nat), tkj7 ≤ tks_l09Expr_L1 ∧ s_l09Expr_L1 (s_l09Expr n) n (Pf.mk k1 n1 (fers fs1) (pers ks1)) i8 i9 m i15 = some r ∧ σ = ⟨[(1, .optr (.loc 1) 0 0), (2, .bool false), (3, .int .i64 i8), (4, .int .i64 i9), (5, .int .i64 i15)], [(1, ⟨40, 4, true, [[.int .i64 k1, .int .i64 n1, .imm p1 3 e1 (fcellss fs1), .imm q1 4 f1 (pcellss ks1)]]⟩)], [], O, tks_l09Expr_L1⟩) n (Sub.pk [1, 2, 3, 4, 5] rfl) ⟨0, tkj7, Nat.le_refl _, hM, rfl⟩ (fun m σ hI => ?_)
 clear hM
 obtain ⟨i15, tks_l09Expr_L1, hle46, hM, rfl⟩ := hI
 obtain _ | m := m
 ·exact absurd hM (by rw [s_l09Expr_L1]; exact fun h => by cases h)
 rw [s_l09Expr_L1] at hM
 refine run_seq ?_
 refine run_sr ?_
 refine yL rfl ?_
 refine yL rfl ?_
 refine yB rfl ?_
 refine yN ?_
 refine run_ifd rfl rfl (fun hb16 => ?_) (fun hb16 => ?_)
 ·replace hM := ite_t hb16 hM
  refine run_skip ?_
  refine run_seq ?_
  refine run_block ?_
  refine run_sr ?_
  refine yF hG rfl ?_
  refine yD hG rfl ?_
  refine yL rfl ?_
  obtain ⟨y17, hy18, hM⟩ := bind_t hM
  obtain ⟨k19, n19, q19, f19, ks19, rfl, hc20, hi21⟩ := fidx hy18
  refine run_pu rfl (indexImm_step hG rfl rfl rfl hi21 rfl rfl rfl rfl hc20) rfl (ltb rfl) ?_
  refine yD hG rfl ?_
  obtain ⟨r22, hg23, hM⟩ := bind_t hM
  refine yK rfl (s_l09Type_ok n k19 n19 q19 f19 ks19 hg23 _ _) (callK_retX (fun v tk24 (hle25 : tks_l09Expr_L1 ≤ tk24) h26 => ?_))
  subst h26
  refine run_pu rfl (aun_step rfl rfl rfl) rfl (ltb rfl) ?_
  refine yN ?_
  refine run_ifb rfl rfl (fun hb29 => ?_) (fun hb29 => ?_)
  ·replace hM := ite_t hb29 hM
   refine run_sr ?_
   refine yR rfl ?_
   refine yN ?_
   refine run_ret_to ?_
   obtain rfl := some_t hM
   refine fin_x hG rfl rfl rfl (v' := .bool false) (by rfl) ⟨rfl, (show tk ≤ tk24 by omega), _, rfl, rfl⟩
  replace hM := ite_f hb29 hM
  refine run_skip ?_
  refine run_blk ?_
  refine run_region ?_
  refine yL rfl ?_
  refine yB rfl ?_
  refine yR rfl ?_
  refine yN ?_
  exact run_loop_end ⟨m, _, Nat.lt_succ_self _, ⟨(IntKind.i64.wrap (i15 + 1)), tk24, (show tkj7 ≤ tk24 by omega), hM, rfl⟩, Sub.pk [1, 2, 3, 4, 5] rfl⟩
 replace hM := ite_f hb16 hM
 refine run_exit_to rfl ?_
 refine run_seq ?_
 refine run_sr ?_
 refine yR rfl ?_
 refine yN ?_
 refine run_block ?_
 refine run_rounds (fun m σ => ∃ (i30 : Int) (tks_l09Expr_L2 : Nat), tks_l09Expr_L1 ≤ tks_l09Expr_L2 ∧ s_l09Expr_L2 (s_l09Expr n) (Pf.mk k1 n1 (fers fs1) (pers ks1)) i9 m i30 = some r ∧ σ = ⟨[(1, .optr (.loc 1) 0 0), (2, .bool false), (4, .int .i64 i9), (6, .int .i64 i30)], [(1, ⟨40, 4, true, [[.int .i64 k1, .int .i64 n1, .imm p1 3 e1 (fcellss fs1), .imm q1 4 f1 (pcellss ks1)]]⟩)], [], O, tks_l09Expr_L2⟩) n (Sub.pk [1, 2, 4, 6] rfl) ⟨0, tks_l09Expr_L1, Nat.le_refl _, hM, rfl⟩ (fun m σ hI => ?_)
 clear hM
 obtain ⟨i30, tks_l09Expr_L2, hle45, hM, rfl⟩ := hI
 obtain _ | m := m
 ·exact absurd hM (by rw [s_l09Expr_L2]; exact fun h => by cases h)
 rw [s_l09Expr_L2] at hM
 refine run_seq ?_
 refine run_sr ?_
 refine yL rfl ?_
 refine yL rfl ?_
 refine yB rfl ?_
 refine yN ?_
 refine run_ifd rfl rfl (fun hb31 => ?_) (fun hb31 => ?_)
 ·replace hM := ite_t hb31 hM
  refine run_skip ?_
  refine run_seq ?_
  refine run_block ?_
  refine run_sr ?_
  refine yF hG rfl ?_
  refine yD hG rfl ?_
  refine yL rfl ?_
  obtain ⟨y32, hy33, hM⟩ := bind_t hM
  obtain ⟨k34, n34, p34, e34, fs34, q34, f34, ks34, rfl, hc35, hi36⟩ := pidx hy33
  refine run_pu rfl (indexImm_step hG rfl rfl rfl hi36 rfl rfl rfl rfl hc35) rfl (ltb rfl) ?_
  refine yD hG rfl ?_
  obtain ⟨r37, hg38, hM⟩ := bind_t hM
  refine yK rfl (ih_s_l09Expr k34 n34 p34 e34 fs34 q34 f34 ks34 hg38 _ _) (callK_retX (fun v tk39 (hle40 : tks_l09Expr_L2 ≤ tk39) h41 => ?_))
  subst h41
  refine run_pu rfl (aun_step rfl rfl rfl) rfl (ltb rfl) ?_
  refine yN ?_
  refine run_ifb rfl rfl (fun hb44 => ?_) (fun hb44 => ?_)
  ·replace hM := ite_t hb44 hM
   refine run_sr ?_
   refine yR rfl ?_
   refine yN ?_
   refine run_ret_to ?_
   obtain rfl := some_t hM
   refine fin_x hG rfl rfl rfl (v' := .bool false) (by rfl) ⟨rfl, (show tk ≤ tk39 by omega), _, rfl, rfl⟩
  replace hM := ite_f hb44 hM
  refine run_skip ?_
  refine run_blk ?_
  refine run_region ?_
  refine yL rfl ?_
  refine yB rfl ?_
  refine yR rfl ?_
  refine yN ?_
  exact run_loop_end ⟨m, _, Nat.lt_succ_self _, ⟨(IntKind.i64.wrap (i30 + 1)), tk39, (show tks_l09Expr_L1 ≤ tk39 by omega), hM, rfl⟩, Sub.pk [1, 2, 4, 6] rfl⟩
 replace hM := ite_f hb31 hM
 refine run_exit_to rfl ?_
 refine run_sr ?_
 refine yR rfl ?_
 refine yN ?_
 refine run_ret_to ?_
 obtain rfl := some_t hM
 refine fin_x hG rfl rfl rfl (v' := .bool true) (by rfl) ⟨rfl, (show tk ≤ tks_l09Expr_L2 by omega), _, rfl, rfl⟩

theorem s_l09Expr_all : ∀ (n : Nat), (s_l09Expr_P n)
 | 0 => by intro k1 n1 p1 e1 fs1 q1 f1 ks1 r hM; rw [s_l09Expr] at hM; cases hM
 | n + 1 => have ih := s_l09Expr_all n; s_l09Expr_st n (ih)

theorem s_l09Expr_ok (n : Nat) : s_l09Expr_P n := s_l09Expr_all n

def s_ExprOK (n : Nat) (x1 : Pf) : Option Bool :=
 (s_l09Count n x1 150).bind fun r2 =>
 if r2 ≥ 0 then
  (s_l09Expr n x1).bind fun r10 =>
  some r10
 else
  some false

set_option maxRecDepth 100000 in
theorem s_ExprOK_ok (n : Nat) : ∀ (k1 : Int) (n1 : Int) (p1 : Nat) (e1 : Bool) (fs1 : List LF) (q1 : Nat) (f1 : Bool) (ks1 : List LP) {r : Bool}, s_ExprOK n (Pf.mk k1 n1 (fers fs1) (pers ks1)) = some r → ∀ (O : Heap) (tk : Nat), ACalls Go.Proofs.Try.prog 15 [.agg [.int .i64 k1, .int .i64 n1, .imm p1 3 e1 (fcellss fs1), .imm q1 4 f1 (pcellss ks1)]] O tk (RetX O tk (fun v tk' => v = .bool r)) := by
 intro k1 n1 p1 e1 fs1 q1 f1 ks1 r hM O tk
 unfold s_ExprOK at hM
 refine acalls_of_run Go.Proofs.Try.func15 rfl rfl [] [] (Bor.nil _) [(0, .agg [.int .i64 k1, .int .i64 n1, .imm p1 3 e1 (fcellss fs1), .imm q1 4 f1 (pcellss ks1)])] (.cons (.agg _) (.nil _)) (leb rfl) (fun _ h => by cases h) (fun S0 hO htk hfz => ?_)
 refine run_sr ?_
 refine run_op rfl (box_step (d := 1) rfl rfl rfl rfl rfl) rfl (ltb rfl) ?_
 refine yR rfl ?_
 refine yN ?_
 refine run_sr ?_
 refine yD hG rfl ?_
 obtain ⟨r2, hg3, hM⟩ := bind_t hM
 refine yK rfl (s_l09Count_ok n k1 n1 p1 e1 fs1 q1 f1 ks1 150 hg3 _ _) (callK_retX (fun v tk4 (hle5 : tk ≤ tk4) h6 => ?_))
 subst h6
 refine yB rfl ?_
 refine yL rfl ?_
 refine run_splitd (i := 6) rfl (fun hb9 => ?_) (fun hb9 => ?_)
 ·replace hM := ite_t hb9 hM
  refine run_rdG (on_of rfl rfl rfl rfl) (aload_rd hG rfl rfl rfl (by simp [ldok])) rfl (ltb rfl) ?_
  obtain ⟨r10, hg11, hM⟩ := bind_t hM
  refine yG (on_of rfl rfl rfl rfl) rfl (s_l09Expr_ok n k1 n1 p1 e1 fs1 q1 f1 ks1 hg11 _ _) (callK_retX (fun v tk12 (hle13 : tk4 ≤ tk12) h14 => ?_))
  subst h14
  refine yP rfl ?_
  refine yR rfl ?_
  refine yN ?_
  refine run_ret_to ?_
  obtain rfl := some_t hM
  refine fin_x hG rfl rfl rfl (v' := .bool r10) (by rfl) ⟨rfl, (show tk ≤ tk12 by omega), _, rfl, rfl⟩
 replace hM := ite_f hb9 hM
 refine yO rfl ?_
 refine yO rfl ?_
 refine yP rfl ?_
 refine yR rfl ?_
 refine yN ?_
 refine run_ret_to ?_
 obtain rfl := some_t hM
 refine fin_x hG rfl rfl rfl (v' := .bool false) (by rfl) ⟨rfl, (show tk ≤ tk4 by omega), _, rfl, rfl⟩

end Go.Am.Ytpkeophkdemcpaa
