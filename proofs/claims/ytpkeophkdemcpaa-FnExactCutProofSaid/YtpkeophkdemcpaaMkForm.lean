/- Printed by a program of ours: Lean functions that do what the Go functions do, and the contracts. -/
import Derived.Test.YtpkeophkdemcpaaMi1
import Derived.Test.YtpkeophkdemcpaaTypes
import Derived.Test.YtpkeophkdemcpaaMkA
import Derived.Test.YtpkeophkdemcpaaMz
-- packed
namespace Go.Am.Ytpkeophkdemcpaa
open Go Go.Am

def i_looker_form : Nat → (Int × Bool) → F → Option (Bool × (Int × Bool))
 | 0, _, _ => none
 | n + 1, z1, x4 =>
  (i_looker_node (z1.1, z1.2)).bind fun r5 =>
  if (!r5.1) = true then
   some (false, (r5.2.1, r5.2.2))
  else
   if x4.kind = 1 then
    (i_in x4.n 0 5).bind fun r17 =>
    if r17 = true then
     some ((((x4.kids).length : Int) == 0), (r5.2.1, r5.2.2))
    else
     some (false, (r5.2.1, r5.2.2))
   else
    if x4.kind = 4 then
     if x4.n = 0 then
      some ((((x4.kids).length : Int) == 0), (r5.2.1, r5.2.2))
     else
      some (false, (r5.2.1, r5.2.2))
    else
     jn (fun (b28 : Bool) =>
      if b28 = true then
       if x4.n = 0 then
        if ((x4.kids).length : Int) = 2 then
         (idx x4.kids 0).bind fun y33 =>
         (i_looker_form n (r5.2.1, r5.2.2) y33).bind fun r38 =>
         if r38.1 = true then
          (idx x4.kids 1).bind fun y49 =>
          (i_looker_form n (r38.2.1, r38.2.2) y49).bind fun r54 =>
          some (r54.1, (r54.2.1, r54.2.2))
         else
          some (false, (r38.2.1, r38.2.2))
        else
         some (false, (r5.2.1, r5.2.2))
       else
        some (false, (r5.2.1, r5.2.2))
      else
       some (false, (r5.2.1, r5.2.2))) fun j27 =>
     if x4.kind = 2 then
      j27 (x4.kind == 2)
     else
      j27 (x4.kind == 3)

def i_looker_form_P (n : Nat) : Prop := ∀ (X0 : ID) (i2 : Int) (b3 : Bool) (k4 : Int) (n4 : Int) (q4 : Nat) (f4 : Bool) (ks4 : List LF) {r : (Bool × (Int × Bool))}, i_looker_form n (i2, b3) (F.mk k4 n4 (fers ks4)) = some r → ∀ (O : Heap) (tk : Nat), O X0 = some ⟨200, 2, true, [[.int .i64 i2, .bool b3]]⟩ → ACalls Go.Proofs.Try.prog 184 [.optr X0 0 0, .agg [.int .i64 k4, .int .i64 n4, .imm q4 3 f4 (fcellss ks4)]] O tk (RetV O X0 tk (fun v o' tk' => ∃ r0', ∃ (c0 : Int) (c1 : Bool) , r = (r0', (c0, c1)) ∧ o' = ⟨200, 2, true, [[.int .i64 c0, .bool c1]]⟩ ∧ v = .bool r0'))

set_option maxHeartbeats 20000000 in
set_option maxRecDepth 100000 in
theorem i_looker_form_st (n : Nat) (ih_i_looker_form : i_looker_form_P n) : i_looker_form_P (n + 1) := by
 intro X0 i2 b3 k4 n4 q4 f4 ks4 r hM O tk hX0
 rw [i_looker_form] at hM
 refine acalls_of_run Go.Proofs.Try.func184 rfl rfl [X0] [⟨200, 2, true, [[.int .i64 i2, .bool b3]]⟩] (Bor.one hX0 rfl) [(0, .optr (.bor 0) 0 0), (1, .agg [.int .i64 k4, .int .i64 n4, .imm q4 3 f4 (fcellss ks4)])] (.cons (.bor 0 _ _ _ rfl) (.cons (.agg _) (.nil _))) (leb rfl) (by intro y h; simp only [List.mem_cons, List.not_mem_nil, or_false] at h; rcases h with rfl <;> simp [tch, tch0]) (fun S0 hO htk hfz => ?_)
 refine run_sr ?_
 refine run_op rfl (box_step (d := 3) rfl rfl rfl rfl rfl) rfl (ltb rfl) ?_
 refine yR rfl ?_
 refine yN ?_
 refine run_seq ?_
 refine run_sr ?_
 refine yL rfl ?_
 obtain ⟨r5, hg6, hM⟩ := bind_t hM
 refine yK rfl (i_looker_node_ok (.bor 0) i2 b3 hg6 _ _ rfl) (callK_retV_bor (k := 0) rfl (fun v o' tk' h => by obtain ⟨_, _, _, rfl, rfl, _⟩ := h; rfl) (fun v o' tk7 (hle8 : tk ≤ tk7) h9 => ?_))
 obtain ⟨ra14, c12, c13, rfl, rfl, rfl⟩ := h9
 refine run_pu rfl (aun_step rfl rfl rfl) rfl (ltb rfl) ?_
 refine yN ?_
 refine run_ifb rfl rfl (fun hb15 => ?_) (fun hb15 => ?_)
 ·replace hM := ite_t hb15 hM
  refine run_sr ?_
  refine yR rfl ?_
  refine yN ?_
  refine run_ret_to ?_
  obtain rfl := some_t hM
  refine fin_x hG rfl rfl rfl (v' := .bool false) (by rfl) ⟨_, ⟨200, 2, true, [[.int .i64 c12, .bool c13]]⟩, rfl, rfl, (show tk ≤ tk7 by omega), ⟨_, c12, c13, rfl, rfl, rfl⟩⟩
 replace hM := ite_f hb15 hM
 refine run_skip ?_
 refine run_seq ?_
 refine run_sr ?_
 refine yF hG rfl ?_
 refine yD hG rfl ?_
 refine yN ?_
 refine run_block ?_
 refine run_sr ?_
 refine yB rfl ?_
 refine yR rfl ?_
 refine yN ?_
 refine run_ifd rfl rfl (fun hb16 => ?_) (fun hb16 => ?_)
 ·replace hM := ite_t hb16 hM
  refine run_sr ?_
  refine yF hG rfl ?_
  refine yD hG rfl ?_
  obtain ⟨r17, hg18, hM⟩ := bind_t hM
  refine yK rfl (i_in_ok n4 0 5 hg18 _ _) (callK_retX (fun v tk19 (hle20 : tk7 ≤ tk19) h21 => ?_))
  subst h21
  refine yL rfl ?_
  refine run_splitb (i := 15) rfl (fun hb24 => ?_) (fun hb24 => ?_)
  ·replace hM := ite_t hb24 hM
   refine run_puG (on_of rfl rfl rfl rfl) (fieldAddr_step hG rfl rfl rfl rfl rfl) rfl (ltb rfl) ?_
   refine run_rdG (on_of rfl rfl rfl rfl) (aload_rd hG rfl rfl rfl (by simp [ldok])) rfl (ltb rfl) ?_
   refine run_puG (on_of rfl rfl rfl rfl) (lenImm_step hG rfl rfl rfl rfl (flen _)) rfl (ltb rfl) ?_
   refine run_puG (on_of rfl rfl rfl rfl) (abin_step rfl rfl rfl rfl (fun _ h => by cases h)) rfl (ltb rfl) ?_
   refine yP rfl ?_
   refine yR rfl ?_
   refine yN ?_
   refine run_ret_to ?_
   obtain rfl := some_t hM
   refine fin_x hG rfl rfl rfl (v' := .bool ((((fers ks4)).length : Int) == 0)) (by rfl) ⟨_, ⟨200, 2, true, [[.int .i64 c12, .bool c13]]⟩, rfl, rfl, (show tk ≤ tk19 by omega), ⟨_, c12, c13, rfl, rfl, rfl⟩⟩
  replace hM := ite_f hb24 hM
  refine yO rfl ?_
  refine yO rfl ?_
  refine yO rfl ?_
  refine yO rfl ?_
  refine yP rfl ?_
  refine yR rfl ?_
  refine yN ?_
  refine run_ret_to ?_
  obtain rfl := some_t hM
  refine fin_x hG rfl rfl rfl (v' := .bool false) (by rfl) ⟨_, ⟨200, 2, true, [[.int .i64 c12, .bool c13]]⟩, rfl, rfl, (show tk ≤ tk19 by omega), ⟨_, c12, c13, rfl, rfl, rfl⟩⟩
 replace hM := ite_f hb16 hM
 refine run_sr ?_
 refine yB rfl ?_
 refine yR rfl ?_
 refine yN ?_
 refine run_ifd rfl rfl (fun hb25 => ?_) (fun hb25 => ?_)
 ·replace hM := ite_t hb25 hM
  refine run_sr ?_
  refine yF hG rfl ?_
  refine yD hG rfl ?_
  refine yB rfl ?_
  refine yL rfl ?_
  refine run_splitd (i := 26) rfl (fun hb26 => ?_) (fun hb26 => ?_)
  ·replace hM := ite_t hb26 hM
   refine run_puG (on_of rfl rfl rfl rfl) (fieldAddr_step hG rfl rfl rfl rfl rfl) rfl (ltb rfl) ?_
   refine run_rdG (on_of rfl rfl rfl rfl) (aload_rd hG rfl rfl rfl (by simp [ldok])) rfl (ltb rfl) ?_
   refine run_puG (on_of rfl rfl rfl rfl) (lenImm_step hG rfl rfl rfl rfl (flen _)) rfl (ltb rfl) ?_
   refine run_puG (on_of rfl rfl rfl rfl) (abin_step rfl rfl rfl rfl (fun _ h => by cases h)) rfl (ltb rfl) ?_
   refine yP rfl ?_
   refine yR rfl ?_
   refine yN ?_
   refine run_ret_to ?_
   obtain rfl := some_t hM
   refine fin_x hG rfl rfl rfl (v' := .bool ((((fers ks4)).length : Int) == 0)) (by rfl) ⟨_, ⟨200, 2, true, [[.int .i64 c12, .bool c13]]⟩, rfl, rfl, (show tk ≤ tk7 by omega), ⟨_, c12, c13, rfl, rfl, rfl⟩⟩
  replace hM := ite_f hb26 hM
  refine yO rfl ?_
  refine yO rfl ?_
  refine yO rfl ?_
  refine yO rfl ?_
  refine yP rfl ?_
  refine yR rfl ?_
  refine yN ?_
  refine run_ret_to ?_
  obtain rfl := some_t hM
  refine fin_x hG rfl rfl rfl (v' := .bool false) (by rfl) ⟨_, ⟨200, 2, true, [[.int .i64 c12, .bool c13]]⟩, rfl, rfl, (show tk ≤ tk7 by omega), ⟨_, c12, c13, rfl, rfl, rfl⟩⟩
 replace hM := ite_f hb25 hM
 refine run_seq ?_
 refine run_sr ?_
 refine yB rfl ?_
 refine yR rfl ?_
 refine yN ?_
 obtain ⟨j27, hj65, hM⟩ := jn_t hM
 refine run_cutL [.code _] (fun σ' => ∃ (b28 : Bool) (tkj27 : Nat), tk7 ≤ tkj27 ∧ j27 b28 = some r ∧ Sub ⟨Go.Proofs.Try.prog, S0, Go.Proofs.Try.f184.ntmps, [X0], fun _ => False, []⟩ σ' ⟨[(0, .optr (.bor 0) 0 0), (3, .optr (.loc 3) 0 0), (4, .bool false), (32, .bool b28)], [(3, ⟨28, 3, true, [[.int .i64 k4, .int .i64 n4, .imm q4 3 f4 (fcellss ks4)]]⟩)], [⟨200, 2, true, [[.int .i64 c12, .bool c13]]⟩], O, tkj27⟩) rfl ?_ ?_
 ·refine run_ifd rfl rfl (fun hb29 => ?_) (fun hb29 => ?_)
  ·replace hM := ite_t hb29 hM
   refine run_skip ?_
   exact ⟨(k4 == 2), tk7, (show tk7 ≤ tk7 by omega), hM, Sub.pk [0, 3, 4, 32] rfl⟩
  replace hM := ite_f hb29 hM
  refine run_region ?_
  refine yB rfl ?_
  refine yR rfl ?_
  refine yN ?_
  exact ⟨(k4 == 3), tk7, (show tk7 ≤ tk7 by omega), hM, Sub.pk [0, 3, 4, 32] rfl⟩
 clear hM
 rintro σ' ⟨b28, tkj27, hle64, hM, hsub⟩
 rw [hj65] at hM
 clear hj65
 refine run_sub_code hsub ?_
 refine run_ifb rfl rfl (fun hb30 => ?_) (fun hb30 => ?_)
 ·replace hM := ite_t hb30 hM
  refine run_sr ?_
  refine yF hG rfl ?_
  refine yD hG rfl ?_
  refine yB rfl ?_
  refine yL rfl ?_
  refine run_splitd (i := 38) rfl (fun hb31 => ?_) (fun hb31 => ?_)
  ·replace hM := ite_t hb31 hM
   refine run_puG (on_of rfl rfl rfl rfl) (fieldAddr_step hG rfl rfl rfl rfl rfl) rfl (ltb rfl) ?_
   refine run_rdG (on_of rfl rfl rfl rfl) (aload_rd hG rfl rfl rfl (by simp [ldok])) rfl (ltb rfl) ?_
   refine run_puG (on_of rfl rfl rfl rfl) (lenImm_step hG rfl rfl rfl rfl (flen _)) rfl (ltb rfl) ?_
   refine run_puG (on_of rfl rfl rfl rfl) (abin_step rfl rfl rfl rfl (fun _ h => by cases h)) rfl (ltb rfl) ?_
   refine yP rfl ?_
   refine yL rfl ?_
   refine run_splitd (i := 44) rfl (fun hb32 => ?_) (fun hb32 => ?_)
   ·replace hM := ite_t hb32 hM
    refine run_puG (on_of rfl rfl rfl rfl) (move_step (.inl rfl) rfl) rfl (ltb rfl) ?_
    refine run_puG (on_of rfl rfl rfl rfl) (fieldAddr_step hG rfl rfl rfl rfl rfl) rfl (ltb rfl) ?_
    refine run_rdG (on_of rfl rfl rfl rfl) (aload_rd hG rfl rfl rfl (by simp [ldok])) rfl (ltb rfl) ?_
    obtain ⟨y33, hy34, hM⟩ := bind_t hM
    obtain ⟨k35, n35, q35, f35, ks35, rfl, hc36, hi37⟩ := fidx hy34
    refine run_puG (on_of rfl rfl rfl rfl) (indexImm_step hG rfl rfl rfl hi37 rfl rfl rfl rfl hc36) rfl (ltb rfl) ?_
    refine run_rdG (on_of rfl rfl rfl rfl) (aload_rd hG rfl rfl rfl (by simp [ldok])) rfl (ltb rfl) ?_
    obtain ⟨r38, hg39, hM⟩ := bind_t hM
    refine yG (on_of rfl rfl rfl rfl) rfl (ih_i_looker_form (.bor 0) c12 c13 k35 n35 q35 f35 ks35 hg39 _ _ rfl) (callK_retV_bor (k := 0) rfl (fun v o' tk' h => by obtain ⟨_, _, _, rfl, rfl, _⟩ := h; rfl) (fun v o' tk40 (hle41 : tkj27 ≤ tk40) h42 => ?_))
    obtain ⟨ra47, c45, c46, rfl, rfl, rfl⟩ := h42
    refine yP rfl ?_
    refine yL rfl ?_
    refine run_splitb (i := 52) rfl (fun hb48 => ?_) (fun hb48 => ?_)
    ·replace hM := ite_t hb48 hM
     refine run_puG (on_of rfl rfl rfl rfl) (move_step (.inl rfl) rfl) rfl (ltb rfl) ?_
     refine run_puG (on_of rfl rfl rfl rfl) (fieldAddr_step hG rfl rfl rfl rfl rfl) rfl (ltb rfl) ?_
     refine run_rdG (on_of rfl rfl rfl rfl) (aload_rd hG rfl rfl rfl (by simp [ldok])) rfl (ltb rfl) ?_
     obtain ⟨y49, hy50, hM⟩ := bind_t hM
     obtain ⟨k51, n51, q51, f51, ks51, rfl, hc52, hi53⟩ := fidx hy50
     refine run_puG (on_of rfl rfl rfl rfl) (indexImm_step hG rfl rfl rfl hi53 rfl rfl rfl rfl hc52) rfl (ltb rfl) ?_
     refine run_rdG (on_of rfl rfl rfl rfl) (aload_rd hG rfl rfl rfl (by simp [ldok])) rfl (ltb rfl) ?_
     obtain ⟨r54, hg55, hM⟩ := bind_t hM
     refine yG (on_of rfl rfl rfl rfl) rfl (ih_i_looker_form (.bor 0) c45 c46 k51 n51 q51 f51 ks51 hg55 _ _ rfl) (callK_retV_bor (k := 0) rfl (fun v o' tk' h => by obtain ⟨_, _, _, rfl, rfl, _⟩ := h; rfl) (fun v o' tk56 (hle57 : tk40 ≤ tk56) h58 => ?_))
     obtain ⟨ra63, c61, c62, rfl, rfl, rfl⟩ := h58
     refine yP rfl ?_
     refine yR rfl ?_
     refine yN ?_
     refine run_ret_to ?_
     obtain rfl := some_t hM
     refine fin_x hG rfl rfl rfl (v' := .bool ra63) (by rfl) ⟨_, ⟨200, 2, true, [[.int .i64 c61, .bool c62]]⟩, rfl, rfl, (show tk ≤ tk56 by omega), ⟨_, c61, c62, rfl, rfl, rfl⟩⟩
    replace hM := ite_f hb48 hM
    refine yO rfl ?_
    refine yO rfl ?_
    refine yO rfl ?_
    refine yO rfl ?_
    refine yO rfl ?_
    refine yO rfl ?_
    refine yP rfl ?_
    refine yR rfl ?_
    refine yN ?_
    refine run_ret_to ?_
    obtain rfl := some_t hM
    refine fin_x hG rfl rfl rfl (v' := .bool false) (by rfl) ⟨_, ⟨200, 2, true, [[.int .i64 c45, .bool c46]]⟩, rfl, rfl, (show tk ≤ tk40 by omega), ⟨_, c45, c46, rfl, rfl, rfl⟩⟩
   replace hM := ite_f hb32 hM
   refine yO rfl ?_
   refine yO rfl ?_
   refine yO rfl ?_
   refine yO rfl ?_
   refine yO rfl ?_
   refine yO rfl ?_
   refine yP rfl ?_
   refine yL rfl ?_
   refine yO rfl ?_
   refine yO rfl ?_
   refine yO rfl ?_
   refine yO rfl ?_
   refine yO rfl ?_
   refine yO rfl ?_
   refine yP rfl ?_
   refine yR rfl ?_
   refine yN ?_
   refine run_ret_to ?_
   obtain rfl := some_t hM
   refine fin_x hG rfl rfl rfl (v' := .bool false) (by rfl) ⟨_, ⟨200, 2, true, [[.int .i64 c12, .bool c13]]⟩, rfl, rfl, (show tk ≤ tkj27 by omega), ⟨_, c12, c13, rfl, rfl, rfl⟩⟩
  replace hM := ite_f hb31 hM
  refine yO rfl ?_
  refine yO rfl ?_
  refine yO rfl ?_
  refine yO rfl ?_
  refine yP rfl ?_
  refine yL rfl ?_
  refine yO rfl ?_
  refine yO rfl ?_
  refine yO rfl ?_
  refine yO rfl ?_
  refine yO rfl ?_
  refine yO rfl ?_
  refine yP rfl ?_
  refine yL rfl ?_
  refine yO rfl ?_
  refine yO rfl ?_
  refine yO rfl ?_
  refine yO rfl ?_
  refine yO rfl ?_
  refine yO rfl ?_
  refine yP rfl ?_
  refine yR rfl ?_
  refine yN ?_
  refine run_ret_to ?_
  obtain rfl := some_t hM
  refine fin_x hG rfl rfl rfl (v' := .bool false) (by rfl) ⟨_, ⟨200, 2, true, [[.int .i64 c12, .bool c13]]⟩, rfl, rfl, (show tk ≤ tkj27 by omega), ⟨_, c12, c13, rfl, rfl, rfl⟩⟩
 replace hM := ite_f hb30 hM
 refine run_skip ?_
 refine run_blk ?_
 refine run_sr ?_
 refine yR rfl ?_
 refine yN ?_
 refine run_ret_to ?_
 obtain rfl := some_t hM
 refine fin_x hG rfl rfl rfl (v' := .bool false) (by rfl) ⟨_, ⟨200, 2, true, [[.int .i64 c12, .bool c13]]⟩, rfl, rfl, (show tk ≤ tkj27 by omega), ⟨_, c12, c13, rfl, rfl, rfl⟩⟩

theorem i_looker_form_all : ∀ (n : Nat), (i_looker_form_P n)
 | 0 => by intro X0 i2 b3 k4 n4 q4 f4 ks4 r hM; rw [i_looker_form] at hM; cases hM
 | n + 1 => have ih := i_looker_form_all n; i_looker_form_st n (ih)

theorem i_looker_form_ok (n : Nat) : i_looker_form_P n := i_looker_form_all n

def i_FormOK (n : Nat) (x1 : F) : Option Bool :=
 (i_looker_form n (150, false) x1).bind fun r2 =>
 some r2.1

set_option maxRecDepth 100000 in
theorem i_FormOK_ok (n : Nat) : ∀ (k1 : Int) (n1 : Int) (q1 : Nat) (f1 : Bool) (ks1 : List LF) {r : Bool}, i_FormOK n (F.mk k1 n1 (fers ks1)) = some r → ∀ (O : Heap) (tk : Nat), ACalls Go.Proofs.Try.prog 181 [.agg [.int .i64 k1, .int .i64 n1, .imm q1 3 f1 (fcellss ks1)]] O tk (RetX O tk (fun v tk' => v = .bool r)) := by
 intro k1 n1 q1 f1 ks1 r hM O tk
 unfold i_FormOK at hM
 refine acalls_of_run Go.Proofs.Try.func181 rfl rfl [] [] (Bor.nil _) [(0, .agg [.int .i64 k1, .int .i64 n1, .imm q1 3 f1 (fcellss ks1)])] (.cons (.agg _) (.nil _)) (leb rfl) (fun _ h => by cases h) (fun S0 hO htk hfz => ?_)
 refine run_sr ?_
 refine run_op rfl (box_step (d := 1) rfl rfl rfl rfl rfl) rfl (ltb rfl) ?_
 refine yR rfl ?_
 refine yN ?_
 refine run_seq ?_
 refine run_draw [] (n := 4) mixed rfl yE ?_
 refine yTL hG 1 (by kernel_rfl) rfl ?_
 refine AAny.callBox (i := 0) (ob := ⟨200, 2, true, [[.int .i64 150, .bool false]]⟩) (by kernel_rfl) rfl rfl rfl rfl (ltb rfl) rfl rfl rfl rfl (i_fresh_box _ _) rfl (fun out O' tk' h => h) ?_
 obtain ⟨r2, hg3, hM⟩ := bind_t hM
 refine AAny.one (i := 2) (by kernel_rfl) (AOp.call rfl rfl rfl rfl (ltb rfl) rfl rfl rfl yE (by intro x hx; simp only [tch, tch0, List.nil_append, List.append_nil, List.mem_cons, List.not_mem_nil, or_false] at hx; subst hx; simp) (i_looker_form_ok n (.loc 3) 150 false k1 n1 q1 f1 ks1 hg3 _ _ rfl) (callK_retV_loc (k := 3) rfl (fun v o' tk4 (hle5 : tk ≤ tk4) h6 => ?_)))
 obtain ⟨ra11, c9, c10, rfl, rfl, rfl⟩ := h6
 refine yTW 3 (by kernel_rfl) rfl ?_
 refine AAny.done (by kernel_rfl) ?_
 refine run_ret_to ?_
 obtain rfl := some_t hM
 refine fin_x hG rfl rfl rfl (v' := .bool ra11) (by rfl) ⟨rfl, (show tk ≤ tk4 by omega), _, rfl, rfl⟩

def s_l08FormCount_L1 (rec_s_l08FormCount : F → Int → Option Int) (x1 : F) : Nat → Int → Int → Option Int
 | 0, _, _ => none
 | m + 1, i3, i4 =>
  if i4 < ((x1.kids).length : Int) then
   if i3 ≥ 0 then
    (idx x1.kids i4).bind fun y7 =>
    (rec_s_l08FormCount y7 i3).bind fun r12 =>
    s_l08FormCount_L1 rec_s_l08FormCount x1 m r12 (IntKind.i64.wrap (i4 + 1))
   else
    some i3
  else
   some i3

def s_l08FormCount : Nat → F → Int → Option Int
 | 0, _, _ => none
 | n + 1, x1, i2 =>
  s_l08FormCount_L1 (s_l08FormCount n) x1 n (IntKind.i64.wrap (i2 - 1)) 0

def s_l08FormCount_P (n : Nat) : Prop := ∀ (k1 : Int) (n1 : Int) (q1 : Nat) (f1 : Bool) (ks1 : List LF) (i2 : Int) {r : Int}, s_l08FormCount n (F.mk k1 n1 (fers ks1)) i2 = some r → ∀ (O : Heap) (tk : Nat), ACalls Go.Proofs.Try.prog 123 [.agg [.int .i64 k1, .int .i64 n1, .imm q1 3 f1 (fcellss ks1)], .int .i64 i2] O tk (RetX O tk (fun v tk' => v = .int .i64 r))

set_option maxRecDepth 100000 in
theorem s_l08FormCount_st (n : Nat) (ih_s_l08FormCount : s_l08FormCount_P n) : s_l08FormCount_P (n + 1) := by
 intro k1 n1 q1 f1 ks1 i2 r hM O tk
 rw [s_l08FormCount] at hM
 refine acalls_of_run Go.Proofs.Try.func123 rfl rfl [] [] (Bor.nil _) [(0, .agg [.int .i64 k1, .int .i64 n1, .imm q1 3 f1 (fcellss ks1)]), (1, .int .i64 i2)] (.cons (.agg _) (.cons (entS rfl) (.nil _))) (leb rfl) (fun _ h => by cases h) (fun S0 hO htk hfz => ?_)
 refine run_sr ?_
 refine run_op rfl (box_step (d := 2) rfl rfl rfl rfl rfl) rfl (ltb rfl) ?_
 refine yR rfl ?_
 refine yN ?_
 refine run_sr ?_
 refine yL rfl ?_
 refine yB rfl ?_
 refine yR rfl ?_
 refine yN ?_
 refine run_seq ?_
 refine run_sr ?_
 refine yR rfl ?_
 refine yN ?_
 refine run_block ?_
 refine run_rounds (fun m σ => ∃ (i3 : Int) (i4 : Int) (tks_l08FormCount_L1 : Nat), tk ≤ tks_l08FormCount_L1 ∧ s_l08FormCount_L1 (s_l08FormCount n) (F.mk k1 n1 (fers ks1)) m i3 i4 = some r ∧ σ = ⟨[(1, .int .i64 i3), (2, .optr (.loc 2) 0 0), (4, .int .i64 0), (5, .int .i64 i4)], [(2, ⟨28, 3, true, [[.int .i64 k1, .int .i64 n1, .imm q1 3 f1 (fcellss ks1)]]⟩)], [], O, tks_l08FormCount_L1⟩) n (Sub.pk [1, 2, 4, 5] rfl) ⟨(IntKind.i64.wrap (i2 - 1)), 0, tk, Nat.le_refl _, hM, rfl⟩ (fun m σ hI => ?_)
 clear hM
 obtain ⟨i3, i4, tks_l08FormCount_L1, hle19, hM, rfl⟩ := hI
 obtain _ | m := m
 ·exact absurd hM (by rw [s_l08FormCount_L1]; exact fun h => by cases h)
 rw [s_l08FormCount_L1] at hM
 refine run_seq ?_
 refine run_sr ?_
 refine yL rfl ?_
 refine yF hG rfl ?_
 refine yD hG rfl ?_
 refine run_pu rfl (lenImm_step hG rfl rfl rfl rfl (flen _)) rfl (ltb rfl) ?_
 refine yB rfl ?_
 refine yL rfl ?_
 refine run_splitd (i := 13) rfl (fun hb5 => ?_) (fun hb5 => ?_)
 ·replace hM := ite_t hb5 hM
  refine run_puG (on_of rfl rfl rfl rfl) (move_step (.inl rfl) rfl) rfl (ltb rfl) ?_
  refine run_puG (on_of rfl rfl rfl rfl) (abin_step rfl rfl rfl rfl (fun _ h => by cases h)) rfl (ltb rfl) ?_
  refine yP rfl ?_
  refine yN ?_
  refine run_ifd rfl rfl (fun hb6 => ?_) (fun hb6 => ?_)
  ·replace hM := ite_t hb6 hM
   refine run_skip ?_
   refine run_seq ?_
   refine run_block ?_
   refine run_region ?_
   refine yF hG rfl ?_
   refine yD hG rfl ?_
   refine yL rfl ?_
   obtain ⟨y7, hy8, hM⟩ := bind_t hM
   obtain ⟨k9, n9, q9, f9, ks9, rfl, hc10, hi11⟩ := fidx hy8
   refine run_pu rfl (indexImm_step hG rfl rfl rfl hi11 rfl rfl rfl rfl hc10) rfl (ltb rfl) ?_
   refine yD hG rfl ?_
   refine yL rfl ?_
   obtain ⟨r12, hg13, hM⟩ := bind_t hM
   refine yK rfl (ih_s_l08FormCount k9 n9 q9 f9 ks9 i3 hg13 _ _) (callK_retX (fun v tk14 (hle15 : tks_l08FormCount_L1 ≤ tk14) h16 => ?_))
   subst h16
   refine yR rfl ?_
   refine yN ?_
   refine run_blk ?_
   refine run_sub_code (σ' := ⟨[(1, .int .i64 r12), (2, .optr (.loc 2) 0 0), (4, .int .i64 0), (5, .int .i64 i4)], [(2, ⟨28, 3, true, [[.int .i64 k1, .int .i64 n1, .imm q1 3 f1 (fcellss ks1)]]⟩)], [], O, tk14⟩) (Sub.env _ ⟨rfl, rfl, rfl, rfl, trivial⟩) ?_
   refine run_region ?_
   refine yL rfl ?_
   refine yB rfl ?_
   refine yR rfl ?_
   refine yN ?_
   exact run_loop_end ⟨m, _, Nat.lt_succ_self _, ⟨r12, (IntKind.i64.wrap (i4 + 1)), tk14, (show tk ≤ tk14 by omega), hM, rfl⟩, Sub.pk [1, 2, 4, 5] rfl⟩
  replace hM := ite_f hb6 hM
  refine run_exit_to rfl ?_
  refine run_sr ?_
  refine yL rfl ?_
  refine yR rfl ?_
  refine yN ?_
  refine run_ret_to ?_
  obtain rfl := some_t hM
  refine fin_x hG rfl rfl rfl (v' := .int .i64 i3) (by rfl) ⟨rfl, (show tk ≤ tks_l08FormCount_L1 by omega), _, rfl, rfl⟩
 replace hM := ite_f hb5 hM
 refine yO rfl ?_
 refine yO rfl ?_
 refine yP rfl ?_
 refine yN ?_
 refine run_if rfl rfl (fun h => by cases h) (fun _ => ?_)
 refine run_exit_to rfl ?_
 refine run_sr ?_
 refine yL rfl ?_
 refine yR rfl ?_
 refine yN ?_
 refine run_ret_to ?_
 obtain rfl := some_t hM
 refine fin_x hG rfl rfl rfl (v' := .int .i64 i3) (by rfl) ⟨rfl, (show tk ≤ tks_l08FormCount_L1 by omega), _, rfl, rfl⟩

theorem s_l08FormCount_all : ∀ (n : Nat), (s_l08FormCount_P n)
 | 0 => by intro k1 n1 q1 f1 ks1 i2 r hM; rw [s_l08FormCount] at hM; cases hM
 | n + 1 => have ih := s_l08FormCount_all n; s_l08FormCount_st n (ih)

theorem s_l08FormCount_ok (n : Nat) : s_l08FormCount_P n := s_l08FormCount_all n

def s_l08Form_L1 (rec_s_l08Form : F → Option Bool) (x1 : F) (i3 : Int) : Nat → Int → Option Bool
 | 0, _ => none
 | m + 1, i16 =>
  if i16 < i3 then
   (idx x1.kids i16).bind fun y18 =>
   (rec_s_l08Form y18).bind fun r23 =>
   if (!r23) = true then
    some false
   else
    s_l08Form_L1 rec_s_l08Form x1 i3 m (IntKind.i64.wrap (i16 + 1))
  else
   some true

def s_l08Form : Nat → F → Option Bool
 | 0, _ => none
 | n + 1, x1 =>
  jn (fun (i3 : Int) =>
   jn (
    s_l08Form_L1 (s_l08Form n) x1 i3 n 0) fun j12 =>
   if (((x1.kids).length : Int) != i3) = true then
    some false
   else
    if (x1.kind != 1) = true then
     if (x1.n != 0) = true then
      some false
     else
      j12
    else
     j12) fun j2 =>
  if x1.kind = 1 then
   if x1.n < 0 then
    some false
   else
    if x1.n ≥ 6 then
     some false
    else
     j2 0
  else
   if x1.kind = 2 then
    if x1.kind = 2 then
     j2 2
    else
     if x1.kind = 4 then
      j2 0
     else
      some false
   else
    if x1.kind = 3 then
     j2 2
    else
     if x1.kind = 4 then
      j2 0
     else
      some false

def s_l08Form_P (n : Nat) : Prop := ∀ (k1 : Int) (n1 : Int) (q1 : Nat) (f1 : Bool) (ks1 : List LF) {r : Bool}, s_l08Form n (F.mk k1 n1 (fers ks1)) = some r → ∀ (O : Heap) (tk : Nat), ACalls Go.Proofs.Try.prog 125 [.agg [.int .i64 k1, .int .i64 n1, .imm q1 3 f1 (fcellss ks1)]] O tk (RetX O tk (fun v tk' => v = .bool r))

set_option maxHeartbeats 20000000 in
set_option maxRecDepth 100000 in
theorem s_l08Form_st (n : Nat) (ih_s_l08Form : s_l08Form_P n) : s_l08Form_P (n + 1) := by
 intro k1 n1 q1 f1 ks1 r hM O tk
 rw [s_l08Form] at hM
 refine acalls_of_run Go.Proofs.Try.func125 rfl rfl [] [] (Bor.nil _) [(0, .agg [.int .i64 k1, .int .i64 n1, .imm q1 3 f1 (fcellss ks1)])] (.cons (.agg _) (.nil _)) (leb rfl) (fun _ h => by cases h) (fun S0 hO htk hfz => ?_)
 refine run_sr ?_
 refine run_op rfl (box_step (d := 1) rfl rfl rfl rfl rfl) rfl (ltb rfl) ?_
 refine yR rfl ?_
 refine yN ?_
 refine run_sr ?_
 refine yR rfl ?_
 refine yN ?_
 refine run_seq ?_
 refine run_sr ?_
 refine yF hG rfl ?_
 refine yD hG rfl ?_
 refine yN ?_
 refine run_block ?_
 refine run_sr ?_
 refine yB rfl ?_
 refine yR rfl ?_
 refine yN ?_
 obtain ⟨j2, hj35, hM⟩ := jn_t hM
 refine run_cutL [.code _, .blk 0] (fun σ' => ∃ (i3 : Int) (tkj2 : Nat), tk ≤ tkj2 ∧ j2 i3 = some r ∧ Sub ⟨Go.Proofs.Try.prog, S0, Go.Proofs.Try.f125.ntmps, [], fun _ => False, []⟩ σ' ⟨[(1, .optr (.loc 1) 0 0), (2, .bool false), (3, .int .i64 i3)], [(1, ⟨28, 3, true, [[.int .i64 k1, .int .i64 n1, .imm q1 3 f1 (fcellss ks1)]]⟩)], [], O, tkj2⟩) rfl ?_ ?_
 ·refine run_ifd rfl rfl (fun hb4 => ?_) (fun hb4 => ?_)
  ·replace hM := ite_t hb4 hM
   refine run_sr ?_
   refine yF hG rfl ?_
   refine yD hG rfl ?_
   refine yB rfl ?_
   refine yL rfl ?_
   refine run_splitd (i := 12) rfl (fun hb5 => ?_) (fun hb5 => ?_)
   ·replace hM := ite_t hb5 hM
    refine yO rfl ?_
    refine yO rfl ?_
    refine yO rfl ?_
    refine yP rfl ?_
    refine yN ?_
    refine run_if rfl rfl (fun _ => ?_) (fun h => by cases h)
    refine run_sr ?_
    refine yR rfl ?_
    refine yN ?_
    refine run_ret_to ?_
    refine cut_ret ?_
    obtain rfl := some_t hM
    refine fin_x hG rfl rfl rfl (v' := .bool false) (by rfl) ⟨rfl, (show tk ≤ tk by omega), _, rfl, rfl⟩
   replace hM := ite_f hb5 hM
   refine run_puG (on_of rfl rfl rfl rfl) (fieldAddr_step hG rfl rfl rfl rfl rfl) rfl (ltb rfl) ?_
   refine run_rdG (on_of rfl rfl rfl rfl) (aload_rd hG rfl rfl rfl (by simp [ldok])) rfl (ltb rfl) ?_
   refine run_puG (on_of rfl rfl rfl rfl) (abin_step rfl rfl rfl rfl (fun _ h => by cases h)) rfl (ltb rfl) ?_
   refine yP rfl ?_
   refine yN ?_
   refine run_sub_code (σ' := ⟨[(1, .optr (.loc 1) 0 0), (2, .bool false), (3, .int .i64 0), (16, .bool (decide (n1 ≥ 6)))], [(1, ⟨28, 3, true, [[.int .i64 k1, .int .i64 n1, .imm q1 3 f1 (fcellss ks1)]]⟩)], [], O, tk⟩) (Sub.env _ ⟨rfl, rfl, rfl, rfl, trivial⟩) ?_
   refine run_ifd rfl rfl (fun hb6 => ?_) (fun hb6 => ?_)
   ·replace hM := ite_t hb6 hM
    refine run_sr ?_
    refine yR rfl ?_
    refine yN ?_
    refine run_ret_to ?_
    refine cut_ret ?_
    obtain rfl := some_t hM
    refine fin_x hG rfl rfl rfl (v' := .bool false) (by rfl) ⟨rfl, (show tk ≤ tk by omega), _, rfl, rfl⟩
   replace hM := ite_f hb6 hM
   refine run_skip ?_
   refine run_blk ?_
   exact ⟨0, tk, (show tk ≤ tk by omega), hM, Sub.pk [1, 2, 3] rfl⟩
  replace hM := ite_f hb4 hM
  refine run_seq ?_
  refine run_sr ?_
  refine yB rfl ?_
  refine yR rfl ?_
  refine yN ?_
  refine run_ifd rfl rfl (fun hb7 => ?_) (fun hb7 => ?_)
  ·replace hM := ite_t hb7 hM
   refine run_skip ?_
   refine run_ifd rfl rfl (fun hb8 => ?_) (fun hb8 => ?_)
   ·replace hM := ite_t hb8 hM
    refine run_region ?_
    refine yR rfl ?_
    refine yN ?_
    refine run_blk ?_
    exact ⟨2, tk, (show tk ≤ tk by omega), hM, Sub.pk [1, 2, 3] rfl⟩
   replace hM := ite_f hb8 hM
   refine run_sr ?_
   refine yB rfl ?_
   refine yR rfl ?_
   refine yN ?_
   refine run_ifd rfl rfl (fun hb9 => ?_) (fun hb9 => ?_)
   ·replace hM := ite_t hb9 hM
    refine run_skip ?_
    refine run_blk ?_
    exact ⟨0, tk, (show tk ≤ tk by omega), hM, Sub.pk [1, 2, 3] rfl⟩
   replace hM := ite_f hb9 hM
   refine run_sr ?_
   refine yR rfl ?_
   refine yN ?_
   refine run_ret_to ?_
   refine cut_ret ?_
   obtain rfl := some_t hM
   refine fin_x hG rfl rfl rfl (v' := .bool false) (by rfl) ⟨rfl, (show tk ≤ tk by omega), _, rfl, rfl⟩
  replace hM := ite_f hb7 hM
  refine run_region ?_
  refine yB rfl ?_
  refine yR rfl ?_
  refine yN ?_
  refine run_ifd rfl rfl (fun hb10 => ?_) (fun hb10 => ?_)
  ·replace hM := ite_t hb10 hM
   refine run_region ?_
   refine yR rfl ?_
   refine yN ?_
   refine run_blk ?_
   exact ⟨2, tk, (show tk ≤ tk by omega), hM, Sub.pk [1, 2, 3] rfl⟩
  replace hM := ite_f hb10 hM
  refine run_sr ?_
  refine yB rfl ?_
  refine yR rfl ?_
  refine yN ?_
  refine run_ifd rfl rfl (fun hb11 => ?_) (fun hb11 => ?_)
  ·replace hM := ite_t hb11 hM
   refine run_skip ?_
   refine run_blk ?_
   exact ⟨0, tk, (show tk ≤ tk by omega), hM, Sub.pk [1, 2, 3] rfl⟩
  replace hM := ite_f hb11 hM
  refine run_sr ?_
  refine yR rfl ?_
  refine yN ?_
  refine run_ret_to ?_
  refine cut_ret ?_
  obtain rfl := some_t hM
  refine fin_x hG rfl rfl rfl (v' := .bool false) (by rfl) ⟨rfl, (show tk ≤ tk by omega), _, rfl, rfl⟩
 clear hM
 rintro σ' ⟨i3, tkj2, hle34, hM, hsub⟩
 rw [hj35] at hM
 clear hj35
 refine run_sub_code hsub ?_
 refine run_seq ?_
 refine run_seq ?_
 obtain ⟨j12, hj33, hM⟩ := jn_t hM
 refine run_cutL [.code _, .code _] (fun σ' => ∃ (tkj12 : Nat), tkj2 ≤ tkj12 ∧ j12 = some r ∧ Sub ⟨Go.Proofs.Try.prog, S0, Go.Proofs.Try.f125.ntmps, [], fun _ => False, []⟩ σ' ⟨[(1, .optr (.loc 1) 0 0), (2, .bool false), (3, .int .i64 i3)], [(1, ⟨28, 3, true, [[.int .i64 k1, .int .i64 n1, .imm q1 3 f1 (fcellss ks1)]]⟩)], [], O, tkj12⟩) rfl ?_ ?_
 ·refine run_region ?_
  refine yF hG rfl ?_
  refine yD hG rfl ?_
  refine run_pu rfl (lenImm_step hG rfl rfl rfl rfl (flen _)) rfl (ltb rfl) ?_
  refine yL rfl ?_
  refine yB rfl ?_
  refine yL rfl ?_
  refine run_splitb (i := 27) rfl (fun hb13 => ?_) (fun hb13 => ?_)
  ·replace hM := ite_t hb13 hM
   refine yO rfl ?_
   refine yO rfl ?_
   refine yO rfl ?_
   refine yO rfl ?_
   refine run_off (off_un rfl rfl rfl) rfl (ltb rfl) ?_
   refine run_off (off_un rfl rfl rfl) rfl (ltb rfl) ?_
   refine run_off (off_un rfl rfl rfl) rfl (ltb rfl) ?_
   refine yO rfl ?_
   refine yP rfl ?_
   refine yN ?_
   refine run_if rfl rfl (fun _ => ?_) (fun h => by cases h)
   refine run_sr ?_
   refine yR rfl ?_
   refine yN ?_
   refine run_ret_to ?_
   refine cut_ret ?_
   obtain rfl := some_t hM
   refine fin_x hG rfl rfl rfl (v' := .bool false) (by rfl) ⟨rfl, (show tk ≤ tkj2 by omega), _, rfl, rfl⟩
  replace hM := ite_f hb13 hM
  refine run_puG (on_of rfl rfl rfl rfl) (fieldAddr_step hG rfl rfl rfl rfl rfl) rfl (ltb rfl) ?_
  refine run_rdG (on_of rfl rfl rfl rfl) (aload_rd hG rfl rfl rfl (by simp [ldok])) rfl (ltb rfl) ?_
  refine run_puG (on_of rfl rfl rfl rfl) (abin_step rfl rfl rfl rfl (fun _ h => by cases h)) rfl (ltb rfl) ?_
  refine run_puG (on_of rfl rfl rfl rfl) (move_step (.inl rfl) rfl) rfl (ltb rfl) ?_
  refine run_splitb (i := 31) rfl (fun hb14 => ?_) (fun hb14 => ?_)
  ·replace hM := ite_t hb14 hM
   refine run_puG (on_of rfl rfl rfl rfl) (fieldAddr_step hG rfl rfl rfl rfl rfl) rfl (ltb rfl) ?_
   refine run_rdG (on_of rfl rfl rfl rfl) (aload_rd hG rfl rfl rfl (by simp [ldok])) rfl (ltb rfl) ?_
   refine run_puG (on_of rfl rfl rfl rfl) (abin_step rfl rfl rfl rfl (fun _ h => by cases h)) rfl (ltb rfl) ?_
   refine run_puG (on_of rfl rfl rfl rfl) (pick_step rfl rfl rfl) rfl (ltb rfl) ?_
   refine yP rfl ?_
   refine yN ?_
   refine run_sub_code (σ' := ⟨[(1, .optr (.loc 1) 0 0), (2, .bool false), (3, .int .i64 i3), (36, .bool (n1 != 0))], [(1, ⟨28, 3, true, [[.int .i64 k1, .int .i64 n1, .imm q1 3 f1 (fcellss ks1)]]⟩)], [], O, tkj2⟩) (Sub.env _ ⟨rfl, rfl, rfl, rfl, trivial⟩) ?_
   refine run_ifb rfl rfl (fun hb15 => ?_) (fun hb15 => ?_)
   ·replace hM := ite_t hb15 hM
    refine run_sr ?_
    refine yR rfl ?_
    refine yN ?_
    refine run_ret_to ?_
    refine cut_ret ?_
    obtain rfl := some_t hM
    refine fin_x hG rfl rfl rfl (v' := .bool false) (by rfl) ⟨rfl, (show tk ≤ tkj2 by omega), _, rfl, rfl⟩
   replace hM := ite_f hb15 hM
   refine run_skip ?_
   exact ⟨tkj2, (show tkj2 ≤ tkj2 by omega), hM, Sub.pk [1, 2, 3] rfl⟩
  replace hM := ite_f hb14 hM
  refine yO rfl ?_
  refine yO rfl ?_
  refine yO rfl ?_
  refine run_puG (on_of rfl rfl rfl rfl) (pick_step rfl rfl rfl) rfl (ltb rfl) ?_
  refine yP rfl ?_
  refine yN ?_
  refine run_if rfl rfl (fun h => by cases h) (fun _ => ?_)
  refine run_skip ?_
  exact ⟨tkj2, (show tkj2 ≤ tkj2 by omega), hM, Sub.pk [1, 2, 3] rfl⟩
 clear hM
 rintro σ' ⟨tkj12, hle32, hM, hsub⟩
 rw [hj33] at hM
 clear hj33
 refine run_sub_code hsub ?_
 refine run_seq ?_
 refine run_sr ?_
 refine yR rfl ?_
 refine yN ?_
 refine run_block ?_
 refine run_rounds (fun m σ => ∃ (i16 : Int) (tks_l08Form_L1 : Nat), tkj12 ≤ tks_l08Form_L1 ∧ s_l08Form_L1 (s_l08Form n) (F.mk k1 n1 (fers ks1)) i3 m i16 = some r ∧ σ = ⟨[(1, .optr (.loc 1) 0 0), (2, .bool false), (3, .int .i64 i3), (4, .int .i64 i16)], [(1, ⟨28, 3, true, [[.int .i64 k1, .int .i64 n1, .imm q1 3 f1 (fcellss ks1)]]⟩)], [], O, tks_l08Form_L1⟩) n (Sub.pk [1, 2, 3, 4] rfl) ⟨0, tkj12, Nat.le_refl _, hM, rfl⟩ (fun m σ hI => ?_)
 clear hM
 obtain ⟨i16, tks_l08Form_L1, hle31, hM, rfl⟩ := hI
 obtain _ | m := m
 ·exact absurd hM (by rw [s_l08Form_L1]; exact fun h => by cases h)
 rw [s_l08Form_L1] at hM
 refine run_seq ?_
 refine run_sr ?_
 refine yL rfl ?_
 refine yL rfl ?_
 refine yB rfl ?_
 refine yN ?_
 refine run_ifd rfl rfl (fun hb17 => ?_) (fun hb17 => ?_)
 ·replace hM := ite_t hb17 hM
  refine run_skip ?_
  refine run_seq ?_
  refine run_block ?_
  refine run_sr ?_
  refine yF hG rfl ?_
  refine yD hG rfl ?_
  refine yL rfl ?_
  obtain ⟨y18, hy19, hM⟩ := bind_t hM
  obtain ⟨k20, n20, q20, f20, ks20, rfl, hc21, hi22⟩ := fidx hy19
  refine run_pu rfl (indexImm_step hG rfl rfl rfl hi22 rfl rfl rfl rfl hc21) rfl (ltb rfl) ?_
  refine yD hG rfl ?_
  obtain ⟨r23, hg24, hM⟩ := bind_t hM
  refine yK rfl (ih_s_l08Form k20 n20 q20 f20 ks20 hg24 _ _) (callK_retX (fun v tk25 (hle26 : tks_l08Form_L1 ≤ tk25) h27 => ?_))
  subst h27
  refine run_pu rfl (aun_step rfl rfl rfl) rfl (ltb rfl) ?_
  refine yN ?_
  refine run_ifb rfl rfl (fun hb30 => ?_) (fun hb30 => ?_)
  ·replace hM := ite_t hb30 hM
   refine run_sr ?_
   refine yR rfl ?_
   refine yN ?_
   refine run_ret_to ?_
   obtain rfl := some_t hM
   refine fin_x hG rfl rfl rfl (v' := .bool false) (by rfl) ⟨rfl, (show tk ≤ tk25 by omega), _, rfl, rfl⟩
  replace hM := ite_f hb30 hM
  refine run_skip ?_
  refine run_blk ?_
  refine run_region ?_
  refine yL rfl ?_
  refine yB rfl ?_
  refine yR rfl ?_
  refine yN ?_
  exact run_loop_end ⟨m, _, Nat.lt_succ_self _, ⟨(IntKind.i64.wrap (i16 + 1)), tk25, (show tkj12 ≤ tk25 by omega), hM, rfl⟩, Sub.pk [1, 2, 3, 4] rfl⟩
 replace hM := ite_f hb17 hM
 refine run_exit_to rfl ?_
 refine run_sr ?_
 refine yR rfl ?_
 refine yN ?_
 refine run_ret_to ?_
 obtain rfl := some_t hM
 refine fin_x hG rfl rfl rfl (v' := .bool true) (by rfl) ⟨rfl, (show tk ≤ tks_l08Form_L1 by omega), _, rfl, rfl⟩

theorem s_l08Form_all : ∀ (n : Nat), (s_l08Form_P n)
 | 0 => by intro k1 n1 q1 f1 ks1 r hM; rw [s_l08Form] at hM; cases hM
 | n + 1 => have ih := s_l08Form_all n; s_l08Form_st n (ih)

theorem s_l08Form_ok (n : Nat) : s_l08Form_P n := s_l08Form_all n

def s_FormOK (n : Nat) (x1 : F) : Option Bool :=
 (s_l08FormCount n x1 150).bind fun r2 =>
 if r2 ≥ 0 then
  (s_l08Form n x1).bind fun r10 =>
  some r10
 else
  some false

set_option maxRecDepth 100000 in
theorem s_FormOK_ok (n : Nat) : ∀ (k1 : Int) (n1 : Int) (q1 : Nat) (f1 : Bool) (ks1 : List LF) {r : Bool}, s_FormOK n (F.mk k1 n1 (fers ks1)) = some r → ∀ (O : Heap) (tk : Nat), ACalls Go.Proofs.Try.prog 165 [.agg [.int .i64 k1, .int .i64 n1, .imm q1 3 f1 (fcellss ks1)]] O tk (RetX O tk (fun v tk' => v = .bool r)) := by
 intro k1 n1 q1 f1 ks1 r hM O tk
 unfold s_FormOK at hM
 refine acalls_of_run Go.Proofs.Try.func165 rfl rfl [] [] (Bor.nil _) [(0, .agg [.int .i64 k1, .int .i64 n1, .imm q1 3 f1 (fcellss ks1)])] (.cons (.agg _) (.nil _)) (leb rfl) (fun _ h => by cases h) (fun S0 hO htk hfz => ?_)
 refine run_sr ?_
 refine run_op rfl (box_step (d := 1) rfl rfl rfl rfl rfl) rfl (ltb rfl) ?_
 refine yR rfl ?_
 refine yN ?_
 refine run_sr ?_
 refine yD hG rfl ?_
 obtain ⟨r2, hg3, hM⟩ := bind_t hM
 refine yK rfl (s_l08FormCount_ok n k1 n1 q1 f1 ks1 150 hg3 _ _) (callK_retX (fun v tk4 (hle5 : tk ≤ tk4) h6 => ?_))
 subst h6
 refine yB rfl ?_
 refine yL rfl ?_
 refine run_splitd (i := 6) rfl (fun hb9 => ?_) (fun hb9 => ?_)
 ·replace hM := ite_t hb9 hM
  refine run_rdG (on_of rfl rfl rfl rfl) (aload_rd hG rfl rfl rfl (by simp [ldok])) rfl (ltb rfl) ?_
  obtain ⟨r10, hg11, hM⟩ := bind_t hM
  refine yG (on_of rfl rfl rfl rfl) rfl (s_l08Form_ok n k1 n1 q1 f1 ks1 hg11 _ _) (callK_retX (fun v tk12 (hle13 : tk4 ≤ tk12) h14 => ?_))
  subst h14
  refine yP rfl ?_
  refine yR rfl ?_
  refine yN ?_
  refine run_ret_to ?_
  obtain rfl := some_t hM
  refine fin_x hG rfl rfl rfl (v' := .bool r10) (by rfl) ⟨rfl, (show tk ≤ tk12 by omega), _, rfl, rfl⟩
 replace hM := ite_f hb9 hM
 refine yO rfl ?_
 refine yO rfl ?_
 refine yP rfl ?_
 refine yR rfl ?_
 refine yN ?_
 refine run_ret_to ?_
 obtain rfl := some_t hM
 refine fin_x hG rfl rfl rfl (v' := .bool false) (by rfl) ⟨rfl, (show tk ≤ tk4 by omega), _, rfl, rfl⟩

end Go.Am.Ytpkeophkdemcpaa
