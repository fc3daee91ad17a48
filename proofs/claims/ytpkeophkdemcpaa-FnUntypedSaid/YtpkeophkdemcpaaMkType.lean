/- Printed by a program of ours: Lean functions that do what the Go functions do, and the contracts. -/
import Derived.Test.YtpkeophkdemcpaaMi1
import Derived.Test.YtpkeophkdemcpaaTypes
import Derived.Test.YtpkeophkdemcpaaMkA
import Derived.Test.YtpkeophkdemcpaaMz
-- packed
namespace Go.Am.Ytpkeophkdemcpaa
open Go Go.Am

def i_looker_typ : Nat → (Int × Bool) → F → Option (Bool × (Int × Bool))
 | 0, _, _ => none
 | n + 1, z1, x4 =>
  (i_looker_node (z1.1, z1.2)).bind fun r5 =>
  if (!r5.1) = true then
   some (false, (r5.2.1, r5.2.2))
  else
   if x4.kind = 1 then
    (i_in x4.n 0 5).bind fun r17 =>
    if r17 = true then
     some ((((x4.kids).length : Int) == 0), (r5.2.1, r5.2.2))
    else
     some (false, (r5.2.1, r5.2.2))
   else
    if x4.kind = 2 then
     if x4.n = 0 then
      if ((x4.kids).length : Int) = 2 then
       (idx x4.kids 0).bind fun y28 =>
       (i_looker_typ n (r5.2.1, r5.2.2) y28).bind fun r33 =>
       if r33.1 = true then
        (idx x4.kids 1).bind fun y44 =>
        (i_looker_typ n (r33.2.1, r33.2.2) y44).bind fun r49 =>
        some (r49.1, (r49.2.1, r49.2.2))
       else
        some (false, (r33.2.1, r33.2.2))
      else
       some (false, (r5.2.1, r5.2.2))
     else
      some (false, (r5.2.1, r5.2.2))
    else
     some (false, (r5.2.1, r5.2.2))

def i_looker_typ_P (n : Nat) : Prop := ∀ (X0 : ID) (i2 : Int) (b3 : Bool) (k4 : Int) (n4 : Int) (q4 : Nat) (f4 : Bool) (ks4 : List LF) {r : (Bool × (Int × Bool))}, i_looker_typ n (i2, b3) (F.mk k4 n4 (fers ks4)) = some r → ∀ (O : Heap) (tk : Nat), O X0 = some ⟨200, 2, true, [[.int .i64 i2, .bool b3]]⟩ → ACalls Go.Proofs.Try.prog 199 [.optr X0 0 0, .agg [.int .i64 k4, .int .i64 n4, .imm q4 3 f4 (fcellss ks4)]] O tk (RetV O X0 tk (fun v o' tk' => ∃ r0', ∃ (c0 : Int) (c1 : Bool) , r = (r0', (c0, c1)) ∧ o' = ⟨200, 2, true, [[.int .i64 c0, .bool c1]]⟩ ∧ v = .bool r0'))

set_option maxHeartbeats 20000000 in
set_option maxRecDepth 100000 in
theorem i_looker_typ_st (n : Nat) (ih_i_looker_typ : i_looker_typ_P n) : i_looker_typ_P (n + 1) := by
 intro X0 i2 b3 k4 n4 q4 f4 ks4 r hM O tk hX0
 rw [i_looker_typ] at hM
 refine acalls_of_run Go.Proofs.Try.func199 rfl rfl [X0] [⟨200, 2, true, [[.int .i64 i2, .bool b3]]⟩] (Bor.one hX0 rfl) [(0, .optr (.bor 0) 0 0), (1, .agg [.int .i64 k4, .int .i64 n4, .imm q4 3 f4 (fcellss ks4)])] (.cons (.bor 0 _ _ _ rfl) (.cons (.agg _) (.nil _))) (leb rfl) (by intro y h; simp only [List.mem_cons, List.not_mem_nil, or_false] at h; rcases h with rfl <;> simp [tch, tch0]) (fun S0 hO htk hfz => ?_)
 refine run_sr ?_
 refine run_op rfl (box_step (d := 3) rfl rfl rfl rfl rfl) rfl (ltb rfl) ?_
 refine yR rfl ?_
 refine yN ?_
 refine run_seq ?_
 refine run_sr ?_
 refine yL rfl ?_
 obtain ⟨r5, hg6, hM⟩ := bind_t hM
 refine yK rfl (i_looker_node_ok (.bor 0) i2 b3 hg6 _ _ rfl) (callK_retV_bor (k := 0) rfl (fun v o' tk' h => by obtain ⟨_, _, _, rfl, rfl, _⟩ := h; rfl) (fun v o' tk7 (hle8 : tk ≤ tk7) h9 => ?_))
 obtain ⟨ra14, c12, c13, rfl, rfl, rfl⟩ := h9
 refine run_pu rfl (aun_step rfl rfl rfl) rfl (ltb rfl) ?_
 refine yN ?_
 refine run_ifb rfl rfl (fun hb15 => ?_) (fun hb15 => ?_)
 ·replace hM := ite_t hb15 hM
  refine run_sr ?_
  refine yR rfl ?_
  refine yN ?_
  refine run_ret_to ?_
  obtain rfl := some_t hM
  refine fin_x hG rfl rfl rfl (v' := .bool false) (by rfl) ⟨_, ⟨200, 2, true, [[.int .i64 c12, .bool c13]]⟩, rfl, rfl, (show tk ≤ tk7 by omega), ⟨_, c12, c13, rfl, rfl, rfl⟩⟩
 replace hM := ite_f hb15 hM
 refine run_skip ?_
 refine run_seq ?_
 refine run_sr ?_
 refine yF hG rfl ?_
 refine yD hG rfl ?_
 refine yN ?_
 refine run_block ?_
 refine run_sr ?_
 refine yB rfl ?_
 refine yR rfl ?_
 refine yN ?_
 refine run_ifd rfl rfl (fun hb16 => ?_) (fun hb16 => ?_)
 ·replace hM := ite_t hb16 hM
  refine run_sr ?_
  refine yF hG rfl ?_
  refine yD hG rfl ?_
  obtain ⟨r17, hg18, hM⟩ := bind_t hM
  refine yK rfl (i_in_ok n4 0 5 hg18 _ _) (callK_retX (fun v tk19 (hle20 : tk7 ≤ tk19) h21 => ?_))
  subst h21
  refine yL rfl ?_
  refine run_splitb (i := 15) rfl (fun hb24 => ?_) (fun hb24 => ?_)
  ·replace hM := ite_t hb24 hM
   refine run_puG (on_of rfl rfl rfl rfl) (fieldAddr_step hG rfl rfl rfl rfl rfl) rfl (ltb rfl) ?_
   refine run_rdG (on_of rfl rfl rfl rfl) (aload_rd hG rfl rfl rfl (by simp [ldok])) rfl (ltb rfl) ?_
   refine run_puG (on_of rfl rfl rfl rfl) (lenImm_step hG rfl rfl rfl rfl (flen _)) rfl (ltb rfl) ?_
   refine run_puG (on_of rfl rfl rfl rfl) (abin_step rfl rfl rfl rfl (fun _ h => by cases h)) rfl (ltb rfl) ?_
   refine yP rfl ?_
   refine yR rfl ?_
   refine yN ?_
   refine run_ret_to ?_
   obtain rfl := some_t hM
   refine fin_x hG rfl rfl rfl (v' := .bool ((((fers ks4)).length : Int) == 0)) (by rfl) ⟨_, ⟨200, 2, true, [[.int .i64 c12, .bool c13]]⟩, rfl, rfl, (show tk ≤ tk19 by omega), ⟨_, c12, c13, rfl, rfl, rfl⟩⟩
  replace hM := ite_f hb24 hM
  refine yO rfl ?_
  refine yO rfl ?_
  refine yO rfl ?_
  refine yO rfl ?_
  refine yP rfl ?_
  refine yR rfl ?_
  refine yN ?_
  refine run_ret_to ?_
  obtain rfl := some_t hM
  refine fin_x hG rfl rfl rfl (v' := .bool false) (by rfl) ⟨_, ⟨200, 2, true, [[.int .i64 c12, .bool c13]]⟩, rfl, rfl, (show tk ≤ tk19 by omega), ⟨_, c12, c13, rfl, rfl, rfl⟩⟩
 replace hM := ite_f hb16 hM
 refine run_sr ?_
 refine yB rfl ?_
 refine yR rfl ?_
 refine yN ?_
 refine run_ifd rfl rfl (fun hb25 => ?_) (fun hb25 => ?_)
 ·replace hM := ite_t hb25 hM
  refine run_sr ?_
  refine yF hG rfl ?_
  refine yD hG rfl ?_
  refine yB rfl ?_
  refine yL rfl ?_
  refine run_splitd (i := 26) rfl (fun hb26 => ?_) (fun hb26 => ?_)
  ·replace hM := ite_t hb26 hM
   refine run_puG (on_of rfl rfl rfl rfl) (fieldAddr_step hG rfl rfl rfl rfl rfl) rfl (ltb rfl) ?_
   refine run_rdG (on_of rfl rfl rfl rfl) (aload_rd hG rfl rfl rfl (by simp [ldok])) rfl (ltb rfl) ?_
   refine run_puG (on_of rfl rfl rfl rfl) (lenImm_step hG rfl rfl rfl rfl (flen _)) rfl (ltb rfl) ?_
   refine run_puG (on_of rfl rfl rfl rfl) (abin_step rfl rfl rfl rfl (fun _ h => by cases h)) rfl (ltb rfl) ?_
   refine yP rfl ?_
   refine yL rfl ?_
   refine run_splitd (i := 32) rfl (fun hb27 => ?_) (fun hb27 => ?_)
   ·replace hM := ite_t hb27 hM
    refine run_puG (on_of rfl rfl rfl rfl) (move_step (.inl rfl) rfl) rfl (ltb rfl) ?_
    refine run_puG (on_of rfl rfl rfl rfl) (fieldAddr_step hG rfl rfl rfl rfl rfl) rfl (ltb rfl) ?_
    refine run_rdG (on_of rfl rfl rfl rfl) (aload_rd hG rfl rfl rfl (by simp [ldok])) rfl (ltb rfl) ?_
    obtain ⟨y28, hy29, hM⟩ := bind_t hM
    obtain ⟨k30, n30, q30, f30, ks30, rfl, hc31, hi32⟩ := fidx hy29
    refine run_puG (on_of rfl rfl rfl rfl) (indexImm_step hG rfl rfl rfl hi32 rfl rfl rfl rfl hc31) rfl (ltb rfl) ?_
    refine run_rdG (on_of rfl rfl rfl rfl) (aload_rd hG rfl rfl rfl (by simp [ldok])) rfl (ltb rfl) ?_
    obtain ⟨r33, hg34, hM⟩ := bind_t hM
    refine yG (on_of rfl rfl rfl rfl) rfl (ih_i_looker_typ (.bor 0) c12 c13 k30 n30 q30 f30 ks30 hg34 _ _ rfl) (callK_retV_bor (k := 0) rfl (fun v o' tk' h => by obtain ⟨_, _, _, rfl, rfl, _⟩ := h; rfl) (fun v o' tk35 (hle36 : tk7 ≤ tk35) h37 => ?_))
    obtain ⟨ra42, c40, c41, rfl, rfl, rfl⟩ := h37
    refine yP rfl ?_
    refine yL rfl ?_
    refine run_splitb (i := 40) rfl (fun hb43 => ?_) (fun hb43 => ?_)
    ·replace hM := ite_t hb43 hM
     refine run_puG (on_of rfl rfl rfl rfl) (move_step (.inl rfl) rfl) rfl (ltb rfl) ?_
     refine run_puG (on_of rfl rfl rfl rfl) (fieldAddr_step hG rfl rfl rfl rfl rfl) rfl (ltb rfl) ?_
     refine run_rdG (on_of rfl rfl rfl rfl) (aload_rd hG rfl rfl rfl (by simp [ldok])) rfl (ltb rfl) ?_
     obtain ⟨y44, hy45, hM⟩ := bind_t hM
     obtain ⟨k46, n46, q46, f46, ks46, rfl, hc47, hi48⟩ := fidx hy45
     refine run_puG (on_of rfl rfl rfl rfl) (indexImm_step hG rfl rfl rfl hi48 rfl rfl rfl rfl hc47) rfl (ltb rfl) ?_
     refine run_rdG (on_of rfl rfl rfl rfl) (aload_rd hG rfl rfl rfl (by simp [ldok])) rfl (ltb rfl) ?_
     obtain ⟨r49, hg50, hM⟩ := bind_t hM
     refine yG (on_of rfl rfl rfl rfl) rfl (ih_i_looker_typ (.bor 0) c40 c41 k46 n46 q46 f46 ks46 hg50 _ _ rfl) (callK_retV_bor (k := 0) rfl (fun v o' tk' h => by obtain ⟨_, _, _, rfl, rfl, _⟩ := h; rfl) (fun v o' tk51 (hle52 : tk35 ≤ tk51) h53 => ?_))
     obtain ⟨ra58, c56, c57, rfl, rfl, rfl⟩ := h53
     refine yP rfl ?_
     refine yR rfl ?_
     refine yN ?_
     refine run_ret_to ?_
     obtain rfl := some_t hM
     refine fin_x hG rfl rfl rfl (v' := .bool ra58) (by rfl) ⟨_, ⟨200, 2, true, [[.int .i64 c56, .bool c57]]⟩, rfl, rfl, (show tk ≤ tk51 by omega), ⟨_, c56, c57, rfl, rfl, rfl⟩⟩
    replace hM := ite_f hb43 hM
    refine yO rfl ?_
    refine yO rfl ?_
    refine yO rfl ?_
    refine yO rfl ?_
    refine yO rfl ?_
    refine yO rfl ?_
    refine yP rfl ?_
    refine yR rfl ?_
    refine yN ?_
    refine run_ret_to ?_
    obtain rfl := some_t hM
    refine fin_x hG rfl rfl rfl (v' := .bool false) (by rfl) ⟨_, ⟨200, 2, true, [[.int .i64 c40, .bool c41]]⟩, rfl, rfl, (show tk ≤ tk35 by omega), ⟨_, c40, c41, rfl, rfl, rfl⟩⟩
   replace hM := ite_f hb27 hM
   refine yO rfl ?_
   refine yO rfl ?_
   refine yO rfl ?_
   refine yO rfl ?_
   refine yO rfl ?_
   refine yO rfl ?_
   refine yP rfl ?_
   refine yL rfl ?_
   refine yO rfl ?_
   refine yO rfl ?_
   refine yO rfl ?_
   refine yO rfl ?_
   refine yO rfl ?_
   refine yO rfl ?_
   refine yP rfl ?_
   refine yR rfl ?_
   refine yN ?_
   refine run_ret_to ?_
   obtain rfl := some_t hM
   refine fin_x hG rfl rfl rfl (v' := .bool false) (by rfl) ⟨_, ⟨200, 2, true, [[.int .i64 c12, .bool c13]]⟩, rfl, rfl, (show tk ≤ tk7 by omega), ⟨_, c12, c13, rfl, rfl, rfl⟩⟩
  replace hM := ite_f hb26 hM
  refine yO rfl ?_
  refine yO rfl ?_
  refine yO rfl ?_
  refine yO rfl ?_
  refine yP rfl ?_
  refine yL rfl ?_
  refine yO rfl ?_
  refine yO rfl ?_
  refine yO rfl ?_
  refine yO rfl ?_
  refine yO rfl ?_
  refine yO rfl ?_
  refine yP rfl ?_
  refine yL rfl ?_
  refine yO rfl ?_
  refine yO rfl ?_
  refine yO rfl ?_
  refine yO rfl ?_
  refine yO rfl ?_
  refine yO rfl ?_
  refine yP rfl ?_
  refine yR rfl ?_
  refine yN ?_
  refine run_ret_to ?_
  obtain rfl := some_t hM
  refine fin_x hG rfl rfl rfl (v' := .bool false) (by rfl) ⟨_, ⟨200, 2, true, [[.int .i64 c12, .bool c13]]⟩, rfl, rfl, (show tk ≤ tk7 by omega), ⟨_, c12, c13, rfl, rfl, rfl⟩⟩
 replace hM := ite_f hb25 hM
 refine run_skip ?_
 refine run_blk ?_
 refine run_sr ?_
 refine yR rfl ?_
 refine yN ?_
 refine run_ret_to ?_
 obtain rfl := some_t hM
 refine fin_x hG rfl rfl rfl (v' := .bool false) (by rfl) ⟨_, ⟨200, 2, true, [[.int .i64 c12, .bool c13]]⟩, rfl, rfl, (show tk ≤ tk7 by omega), ⟨_, c12, c13, rfl, rfl, rfl⟩⟩

theorem i_looker_typ_all : ∀ (n : Nat), (i_looker_typ_P n)
 | 0 => by intro X0 i2 b3 k4 n4 q4 f4 ks4 r hM; rw [i_looker_typ] at hM; cases hM
 | n + 1 => have ih := i_looker_typ_all n; i_looker_typ_st n (ih)

theorem i_looker_typ_ok (n : Nat) : i_looker_typ_P n := i_looker_typ_all n

def i_TypeOK (n : Nat) (x1 : F) : Option Bool :=
 (i_looker_typ n (150, false) x1).bind fun r2 =>
 some r2.1

set_option maxRecDepth 100000 in
theorem i_TypeOK_ok (n : Nat) : ∀ (k1 : Int) (n1 : Int) (q1 : Nat) (f1 : Bool) (ks1 : List LF) {r : Bool}, i_TypeOK n (F.mk k1 n1 (fers ks1)) = some r → ∀ (O : Heap) (tk : Nat), ACalls Go.Proofs.Try.prog 146 [.agg [.int .i64 k1, .int .i64 n1, .imm q1 3 f1 (fcellss ks1)]] O tk (RetX O tk (fun v tk' => v = .bool r)) := by
 intro k1 n1 q1 f1 ks1 r hM O tk
 unfold i_TypeOK at hM
 refine acalls_of_run Go.Proofs.Try.func146 rfl rfl [] [] (Bor.nil _) [(0, .agg [.int .i64 k1, .int .i64 n1, .imm q1 3 f1 (fcellss ks1)])] (.cons (.agg _) (.nil _)) (leb rfl) (fun _ h => by cases h) (fun S0 hO htk hfz => ?_)
 refine run_sr ?_
 refine run_op rfl (box_step (d := 1) rfl rfl rfl rfl rfl) rfl (ltb rfl) ?_
 refine yR rfl ?_
 refine yN ?_
 refine run_seq ?_
 refine run_draw [] (n := 4) mixed rfl yE ?_
 refine yTL hG 1 (by kernel_rfl) rfl ?_
 refine AAny.callBox (i := 0) (ob := ⟨200, 2, true, [[.int .i64 150, .bool false]]⟩) (by kernel_rfl) rfl rfl rfl rfl (ltb rfl) rfl rfl rfl rfl (i_fresh_box _ _) rfl (fun out O' tk' h => h) ?_
 obtain ⟨r2, hg3, hM⟩ := bind_t hM
 refine AAny.one (i := 2) (by kernel_rfl) (AOp.call rfl rfl rfl rfl (ltb rfl) rfl rfl rfl yE (by intro x hx; simp only [tch, tch0, List.nil_append, List.append_nil, List.mem_cons, List.not_mem_nil, or_false] at hx; subst hx; simp) (i_looker_typ_ok n (.loc 3) 150 false k1 n1 q1 f1 ks1 hg3 _ _ rfl) (callK_retV_loc (k := 3) rfl (fun v o' tk4 (hle5 : tk ≤ tk4) h6 => ?_)))
 obtain ⟨ra11, c9, c10, rfl, rfl, rfl⟩ := h6
 refine yTW 3 (by kernel_rfl) rfl ?_
 refine AAny.done (by kernel_rfl) ?_
 refine run_ret_to ?_
 obtain rfl := some_t hM
 refine fin_x hG rfl rfl rfl (v' := .bool ra11) (by rfl) ⟨rfl, (show tk ≤ tk4 by omega), _, rfl, rfl⟩

def s_l09TypeCount_L1 (rec_s_l09TypeCount : F → Int → Option Int) (x1 : F) : Nat → Int → Int → Option Int
 | 0, _, _ => none
 | m + 1, i3, i4 =>
  if i4 < ((x1.kids).length : Int) then
   if i3 ≥ 0 then
    (idx x1.kids i4).bind fun y7 =>
    (rec_s_l09TypeCount y7 i3).bind fun r12 =>
    s_l09TypeCount_L1 rec_s_l09TypeCount x1 m r12 (IntKind.i64.wrap (i4 + 1))
   else
    some i3
  else
   some i3

def s_l09TypeCount : Nat → F → Int → Option Int
 | 0, _, _ => none
 | n + 1, x1, i2 =>
  s_l09TypeCount_L1 (s_l09TypeCount n) x1 n (IntKind.i64.wrap (i2 - 1)) 0

def s_l09TypeCount_P (n : Nat) : Prop := ∀ (k1 : Int) (n1 : Int) (q1 : Nat) (f1 : Bool) (ks1 : List LF) (i2 : Int) {r : Int}, s_l09TypeCount n (F.mk k1 n1 (fers ks1)) i2 = some r → ∀ (O : Heap) (tk : Nat), ACalls Go.Proofs.Try.prog 142 [.agg [.int .i64 k1, .int .i64 n1, .imm q1 3 f1 (fcellss ks1)], .int .i64 i2] O tk (RetX O tk (fun v tk' => v = .int .i64 r))

set_option maxRecDepth 100000 in
theorem s_l09TypeCount_st (n : Nat) (ih_s_l09TypeCount : s_l09TypeCount_P n) : s_l09TypeCount_P (n + 1) := by
 intro k1 n1 q1 f1 ks1 i2 r hM O tk
 rw [s_l09TypeCount] at hM
 refine acalls_of_run Go.Proofs.Try.func142 rfl rfl [] [] (Bor.nil _) [(0, .agg [.int .i64 k1, .int .i64 n1, .imm q1 3 f1 (fcellss ks1)]), (1, .int .i64 i2)] (.cons (.agg _) (.cons (entS rfl) (.nil _))) (leb rfl) (fun _ h => by cases h) (fun S0 hO htk hfz => ?_)
 refine run_sr ?_
 refine run_op rfl (box_step (d := 2) rfl rfl rfl rfl rfl) rfl (ltb rfl) ?_
 refine yR rfl ?_
 refine yN ?_
 refine run_sr ?_
 refine yL rfl ?_
 refine yB rfl ?_
 refine yR rfl ?_
 refine yN ?_
 refine run_seq ?_
 refine run_sr ?_
 refine yR rfl ?_
 refine yN ?_
 refine run_block ?_
 refine run_rounds (fun m σ => ∃ (i3 : Int) (i4 : Int) (tks_l09TypeCount_L1 : Nat), tk ≤ tks_l09TypeCount_L1 ∧ s_l09TypeCount_L1 (s_l09TypeCount n) (F.mk k1 n1 (fers ks1)) m i3 i4 = some r ∧ σ = ⟨[(1, .int .i64 i3), (2, .optr (.loc 2) 0 0), (4, .int .i64 0), (5, .int .i64 i4)], [(2, ⟨42, 3, true, [[.int .i64 k1, .int .i64 n1, .imm q1 3 f1 (fcellss ks1)]]⟩)], [], O, tks_l09TypeCount_L1⟩) n (Sub.pk [1, 2, 4, 5] rfl) ⟨(IntKind.i64.wrap (i2 - 1)), 0, tk, Nat.le_refl _, hM, rfl⟩ (fun m σ hI => ?_)
 clear hM
 obtain ⟨i3, i4, tks_l09TypeCount_L1, hle19, hM, rfl⟩ := hI
 obtain _ | m := m
 ·exact absurd hM (by rw [s_l09TypeCount_L1]; exact fun h => by cases h)
 rw [s_l09TypeCount_L1] at hM
 refine run_seq ?_
 refine run_sr ?_
 refine yL rfl ?_
 refine yF hG rfl ?_
 refine yD hG rfl ?_
 refine run_pu rfl (lenImm_step hG rfl rfl rfl rfl (flen _)) rfl (ltb rfl) ?_
 refine yB rfl ?_
 refine yL rfl ?_
 refine run_splitd (i := 13) rfl (fun hb5 => ?_) (fun hb5 => ?_)
 ·replace hM := ite_t hb5 hM
  refine run_puG (on_of rfl rfl rfl rfl) (move_step (.inl rfl) rfl) rfl (ltb rfl) ?_
  refine run_puG (on_of rfl rfl rfl rfl) (abin_step rfl rfl rfl rfl (fun _ h => by cases h)) rfl (ltb rfl) ?_
  refine yP rfl ?_
  refine yN ?_
  refine run_ifd rfl rfl (fun hb6 => ?_) (fun hb6 => ?_)
  ·replace hM := ite_t hb6 hM
   refine run_skip ?_
   refine run_seq ?_
   refine run_block ?_
   refine run_region ?_
   refine yF hG rfl ?_
   refine yD hG rfl ?_
   refine yL rfl ?_
   obtain ⟨y7, hy8, hM⟩ := bind_t hM
   obtain ⟨k9, n9, q9, f9, ks9, rfl, hc10, hi11⟩ := fidx hy8
   refine run_pu rfl (indexImm_step hG rfl rfl rfl hi11 rfl rfl rfl rfl hc10) rfl (ltb rfl) ?_
   refine yD hG rfl ?_
   refine yL rfl ?_
   obtain ⟨r12, hg13, hM⟩ := bind_t hM
   refine yK rfl (ih_s_l09TypeCount k9 n9 q9 f9 ks9 i3 hg13 _ _) (callK_retX (fun v tk14 (hle15 : tks_l09TypeCount_L1 ≤ tk14) h16 => ?_))
   subst h16
   refine yR rfl ?_
   refine yN ?_
   refine run_blk ?_
   refine run_sub_code (σ' := ⟨[(1, .int .i64 r12), (2, .optr (.loc 2) 0 0), (4, .int .i64 0), (5, .int .i64 i4)], [(2, ⟨42, 3, true, [[.int .i64 k1, .int .i64 n1, .imm q1 3 f1 (fcellss ks1)]]⟩)], [], O, tk14⟩) (Sub.env _ ⟨rfl, rfl, rfl, rfl, trivial⟩) ?_
   refine run_region ?_
   refine yL rfl ?_
   refine yB rfl ?_
   refine yR rfl ?_
   refine yN ?_
   exact run_loop_end ⟨m, _, Nat.lt_succ_self _, ⟨r12, (IntKind.i64.wrap (i4 + 1)), tk14, (show tk ≤ tk14 by omega), hM, rfl⟩, Sub.pk [1, 2, 4, 5] rfl⟩
  replace hM := ite_f hb6 hM
  refine run_exit_to rfl ?_
  refine run_sr ?_
  refine yL rfl ?_
  refine yR rfl ?_
  refine yN ?_
  refine run_ret_to ?_
  obtain rfl := some_t hM
  refine fin_x hG rfl rfl rfl (v' := .int .i64 i3) (by rfl) ⟨rfl, (show tk ≤ tks_l09TypeCount_L1 by omega), _, rfl, rfl⟩
 replace hM := ite_f hb5 hM
 refine yO rfl ?_
 refine yO rfl ?_
 refine yP rfl ?_
 refine yN ?_
 refine run_if rfl rfl (fun h => by cases h) (fun _ => ?_)
 refine run_exit_to rfl ?_
 refine run_sr ?_
 refine yL rfl ?_
 refine yR rfl ?_
 refine yN ?_
 refine run_ret_to ?_
 obtain rfl := some_t hM
 refine fin_x hG rfl rfl rfl (v' := .int .i64 i3) (by rfl) ⟨rfl, (show tk ≤ tks_l09TypeCount_L1 by omega), _, rfl, rfl⟩

theorem s_l09TypeCount_all : ∀ (n : Nat), (s_l09TypeCount_P n)
 | 0 => by intro k1 n1 q1 f1 ks1 i2 r hM; rw [s_l09TypeCount] at hM; cases hM
 | n + 1 => have ih := s_l09TypeCount_all n; s_l09TypeCount_st n (ih)

theorem s_l09TypeCount_ok (n : Nat) : s_l09TypeCount_P n := s_l09TypeCount_all n

def s_l09Type : Nat → F → Option Bool
 | 0, _ => none
 | n + 1, x1 =>
  if x1.kind = 1 then
   if x1.n ≥ 0 then
    if x1.n < 6 then
     some (((x1.kids).length : Int) == 0)
    else
     some false
   else
    some false
  else
   if x1.kind = 2 then
    if x1.n = 0 then
     if ((x1.kids).length : Int) = 2 then
      (idx x1.kids 0).bind fun y8 =>
      (s_l09Type n y8).bind fun r13 =>
      if r13 = true then
       (idx x1.kids 1).bind fun y21 =>
       (s_l09Type n y21).bind fun r26 =>
       some r26
      else
       some false
     else
      some false
    else
     some false
   else
    some false

def s_l09Type_P (n : Nat) : Prop := ∀ (k1 : Int) (n1 : Int) (q1 : Nat) (f1 : Bool) (ks1 : List LF) {r : Bool}, s_l09Type n (F.mk k1 n1 (fers ks1)) = some r → ∀ (O : Heap) (tk : Nat), ACalls Go.Proofs.Try.prog 143 [.agg [.int .i64 k1, .int .i64 n1, .imm q1 3 f1 (fcellss ks1)]] O tk (RetX O tk (fun v tk' => v = .bool r))

set_option maxHeartbeats 20000000 in
set_option maxRecDepth 100000 in
theorem s_l09Type_st (n : Nat) (ih_s_l09Type : s_l09Type_P n) : s_l09Type_P (n + 1) := by
 intro k1 n1 q1 f1 ks1 r hM O tk
 rw [s_l09Type] at hM
 refine acalls_of_run Go.Proofs.Try.func143 rfl rfl [] [] (Bor.nil _) [(0, .agg [.int .i64 k1, .int .i64 n1, .imm q1 3 f1 (fcellss ks1)])] (.cons (.agg _) (.nil _)) (leb rfl) (fun _ h => by cases h) (fun S0 hO htk hfz => ?_)
 refine run_sr ?_
 refine run_op rfl (box_step (d := 1) rfl rfl rfl rfl rfl) rfl (ltb rfl) ?_
 refine yR rfl ?_
 refine yN ?_
 refine run_seq ?_
 refine run_sr ?_
 refine yF hG rfl ?_
 refine yD hG rfl ?_
 refine yN ?_
 refine run_block ?_
 refine run_sr ?_
 refine yB rfl ?_
 refine yR rfl ?_
 refine yN ?_
 refine run_ifd rfl rfl (fun hb2 => ?_) (fun hb2 => ?_)
 ·replace hM := ite_t hb2 hM
  refine run_sr ?_
  refine yF hG rfl ?_
  refine yD hG rfl ?_
  refine yB rfl ?_
  refine yL rfl ?_
  refine run_splitd (i := 10) rfl (fun hb3 => ?_) (fun hb3 => ?_)
  ·replace hM := ite_t hb3 hM
   refine run_puG (on_of rfl rfl rfl rfl) (fieldAddr_step hG rfl rfl rfl rfl rfl) rfl (ltb rfl) ?_
   refine run_rdG (on_of rfl rfl rfl rfl) (aload_rd hG rfl rfl rfl (by simp [ldok])) rfl (ltb rfl) ?_
   refine run_puG (on_of rfl rfl rfl rfl) (abin_step rfl rfl rfl rfl (fun _ h => by cases h)) rfl (ltb rfl) ?_
   refine yP rfl ?_
   refine yL rfl ?_
   refine run_splitd (i := 15) rfl (fun hb4 => ?_) (fun hb4 => ?_)
   ·replace hM := ite_t hb4 hM
    refine run_puG (on_of rfl rfl rfl rfl) (fieldAddr_step hG rfl rfl rfl rfl rfl) rfl (ltb rfl) ?_
    refine run_rdG (on_of rfl rfl rfl rfl) (aload_rd hG rfl rfl rfl (by simp [ldok])) rfl (ltb rfl) ?_
    refine run_puG (on_of rfl rfl rfl rfl) (lenImm_step hG rfl rfl rfl rfl (flen _)) rfl (ltb rfl) ?_
    refine run_puG (on_of rfl rfl rfl rfl) (abin_step rfl rfl rfl rfl (fun _ h => by cases h)) rfl (ltb rfl) ?_
    refine yP rfl ?_
    refine yR rfl ?_
    refine yN ?_
    refine run_ret_to ?_
    obtain rfl := some_t hM
    refine fin_x hG rfl rfl rfl (v' := .bool ((((fers ks1)).length : Int) == 0)) (by rfl) ⟨rfl, (show tk ≤ tk by omega), _, rfl, rfl⟩
   replace hM := ite_f hb4 hM
   refine yO rfl ?_
   refine yO rfl ?_
   refine yO rfl ?_
   refine yO rfl ?_
   refine yP rfl ?_
   refine yR rfl ?_
   refine yN ?_
   refine run_ret_to ?_
   obtain rfl := some_t hM
   refine fin_x hG rfl rfl rfl (v' := .bool false) (by rfl) ⟨rfl, (show tk ≤ tk by omega), _, rfl, rfl⟩
  replace hM := ite_f hb3 hM
  refine yO rfl ?_
  refine yO rfl ?_
  refine yO rfl ?_
  refine yP rfl ?_
  refine yL rfl ?_
  refine yO rfl ?_
  refine yO rfl ?_
  refine yO rfl ?_
  refine yO rfl ?_
  refine yP rfl ?_
  refine yR rfl ?_
  refine yN ?_
  refine run_ret_to ?_
  obtain rfl := some_t hM
  refine fin_x hG rfl rfl rfl (v' := .bool false) (by rfl) ⟨rfl, (show tk ≤ tk by omega), _, rfl, rfl⟩
 replace hM := ite_f hb2 hM
 refine run_sr ?_
 refine yB rfl ?_
 refine yR rfl ?_
 refine yN ?_
 refine run_ifd rfl rfl (fun hb5 => ?_) (fun hb5 => ?_)
 ·replace hM := ite_t hb5 hM
  refine run_sr ?_
  refine yF hG rfl ?_
  refine yD hG rfl ?_
  refine yB rfl ?_
  refine yL rfl ?_
  refine run_splitd (i := 26) rfl (fun hb6 => ?_) (fun hb6 => ?_)
  ·replace hM := ite_t hb6 hM
   refine run_puG (on_of rfl rfl rfl rfl) (fieldAddr_step hG rfl rfl rfl rfl rfl) rfl (ltb rfl) ?_
   refine run_rdG (on_of rfl rfl rfl rfl) (aload_rd hG rfl rfl rfl (by simp [ldok])) rfl (ltb rfl) ?_
   refine run_puG (on_of rfl rfl rfl rfl) (lenImm_step hG rfl rfl rfl rfl (flen _)) rfl (ltb rfl) ?_
   refine run_puG (on_of rfl rfl rfl rfl) (abin_step rfl rfl rfl rfl (fun _ h => by cases h)) rfl (ltb rfl) ?_
   refine yP rfl ?_
   refine yL rfl ?_
   refine run_splitd (i := 32) rfl (fun hb7 => ?_) (fun hb7 => ?_)
   ·replace hM := ite_t hb7 hM
    refine run_puG (on_of rfl rfl rfl rfl) (fieldAddr_step hG rfl rfl rfl rfl rfl) rfl (ltb rfl) ?_
    refine run_rdG (on_of rfl rfl rfl rfl) (aload_rd hG rfl rfl rfl (by simp [ldok])) rfl (ltb rfl) ?_
    obtain ⟨y8, hy9, hM⟩ := bind_t hM
    obtain ⟨k10, n10, q10, f10, ks10, rfl, hc11, hi12⟩ := fidx hy9
    refine run_puG (on_of rfl rfl rfl rfl) (indexImm_step hG rfl rfl rfl hi12 rfl rfl rfl rfl hc11) rfl (ltb rfl) ?_
    refine run_rdG (on_of rfl rfl rfl rfl) (aload_rd hG rfl rfl rfl (by simp [ldok])) rfl (ltb rfl) ?_
    obtain ⟨r13, hg14, hM⟩ := bind_t hM
    refine yG (on_of rfl rfl rfl rfl) rfl (ih_s_l09Type k10 n10 q10 f10 ks10 hg14 _ _) (callK_retX (fun v tk15 (hle16 : tk ≤ tk15) h17 => ?_))
    subst h17
    refine yP rfl ?_
    refine yL rfl ?_
    refine run_splitb (i := 39) rfl (fun hb20 => ?_) (fun hb20 => ?_)
    ·replace hM := ite_t hb20 hM
     refine run_puG (on_of rfl rfl rfl rfl) (fieldAddr_step hG rfl rfl rfl rfl rfl) rfl (ltb rfl) ?_
     refine run_rdG (on_of rfl rfl rfl rfl) (aload_rd hG rfl rfl rfl (by simp [ldok])) rfl (ltb rfl) ?_
     obtain ⟨y21, hy22, hM⟩ := bind_t hM
     obtain ⟨k23, n23, q23, f23, ks23, rfl, hc24, hi25⟩ := fidx hy22
     refine run_puG (on_of rfl rfl rfl rfl) (indexImm_step hG rfl rfl rfl hi25 rfl rfl rfl rfl hc24) rfl (ltb rfl) ?_
     refine run_rdG (on_of rfl rfl rfl rfl) (aload_rd hG rfl rfl rfl (by simp [ldok])) rfl (ltb rfl) ?_
     obtain ⟨r26, hg27, hM⟩ := bind_t hM
     refine yG (on_of rfl rfl rfl rfl) rfl (ih_s_l09Type k23 n23 q23 f23 ks23 hg27 _ _) (callK_retX (fun v tk28 (hle29 : tk15 ≤ tk28) h30 => ?_))
     subst h30
     refine yP rfl ?_
     refine yR rfl ?_
     refine yN ?_
     refine run_ret_to ?_
     obtain rfl := some_t hM
     refine fin_x hG rfl rfl rfl (v' := .bool r26) (by rfl) ⟨rfl, (show tk ≤ tk28 by omega), _, rfl, rfl⟩
    replace hM := ite_f hb20 hM
    refine yO rfl ?_
    refine yO rfl ?_
    refine yO rfl ?_
    refine yO rfl ?_
    refine yO rfl ?_
    refine yP rfl ?_
    refine yR rfl ?_
    refine yN ?_
    refine run_ret_to ?_
    obtain rfl := some_t hM
    refine fin_x hG rfl rfl rfl (v' := .bool false) (by rfl) ⟨rfl, (show tk ≤ tk15 by omega), _, rfl, rfl⟩
   replace hM := ite_f hb7 hM
   refine yO rfl ?_
   refine yO rfl ?_
   refine yO rfl ?_
   refine yO rfl ?_
   refine yO rfl ?_
   refine yP rfl ?_
   refine yL rfl ?_
   refine yO rfl ?_
   refine yO rfl ?_
   refine yO rfl ?_
   refine yO rfl ?_
   refine yO rfl ?_
   refine yP rfl ?_
   refine yR rfl ?_
   refine yN ?_
   refine run_ret_to ?_
   obtain rfl := some_t hM
   refine fin_x hG rfl rfl rfl (v' := .bool false) (by rfl) ⟨rfl, (show tk ≤ tk by omega), _, rfl, rfl⟩
  replace hM := ite_f hb6 hM
  refine yO rfl ?_
  refine yO rfl ?_
  refine yO rfl ?_
  refine yO rfl ?_
  refine yP rfl ?_
  refine yL rfl ?_
  refine yO rfl ?_
  refine yO rfl ?_
  refine yO rfl ?_
  refine yO rfl ?_
  refine yO rfl ?_
  refine yP rfl ?_
  refine yL rfl ?_
  refine yO rfl ?_
  refine yO rfl ?_
  refine yO rfl ?_
  refine yO rfl ?_
  refine yO rfl ?_
  refine yP rfl ?_
  refine yR rfl ?_
  refine yN ?_
  refine run_ret_to ?_
  obtain rfl := some_t hM
  refine fin_x hG rfl rfl rfl (v' := .bool false) (by rfl) ⟨rfl, (show tk ≤ tk by omega), _, rfl, rfl⟩
 replace hM := ite_f hb5 hM
 refine run_skip ?_
 refine run_blk ?_
 refine run_sr ?_
 refine yR rfl ?_
 refine yN ?_
 refine run_ret_to ?_
 obtain rfl := some_t hM
 refine fin_x hG rfl rfl rfl (v' := .bool false) (by rfl) ⟨rfl, (show tk ≤ tk by omega), _, rfl, rfl⟩

theorem s_l09Type_all : ∀ (n : Nat), (s_l09Type_P n)
 | 0 => by intro k1 n1 q1 f1 ks1 r hM; rw [s_l09Type] at hM; cases hM
 | n + 1 => have ih := s_l09Type_all n; s_l09Type_st n (ih)

theorem s_l09Type_ok (n : Nat) : s_l09Type_P n := s_l09Type_all n

def s_TypeOK (n : Nat) (x1 : F) : Option Bool :=
 (s_l09TypeCount n x1 150).bind fun r2 =>
 if r2 ≥ 0 then
  (s_l09Type n x1).bind fun r10 =>
  some r10
 else
  some false

set_option maxRecDepth 100000 in
theorem s_TypeOK_ok (n : Nat) : ∀ (k1 : Int) (n1 : Int) (q1 : Nat) (f1 : Bool) (ks1 : List LF) {r : Bool}, s_TypeOK n (F.mk k1 n1 (fers ks1)) = some r → ∀ (O : Heap) (tk : Nat), ACalls Go.Proofs.Try.prog 160 [.agg [.int .i64 k1, .int .i64 n1, .imm q1 3 f1 (fcellss ks1)]] O tk (RetX O tk (fun v tk' => v = .bool r)) := by
 intro k1 n1 q1 f1 ks1 r hM O tk
 unfold s_TypeOK at hM
 refine acalls_of_run Go.Proofs.Try.func160 rfl rfl [] [] (Bor.nil _) [(0, .agg [.int .i64 k1, .int .i64 n1, .imm q1 3 f1 (fcellss ks1)])] (.cons (.agg _) (.nil _)) (leb rfl) (fun _ h => by cases h) (fun S0 hO htk hfz => ?_)
 refine run_sr ?_
 refine run_op rfl (box_step (d := 1) rfl rfl rfl rfl rfl) rfl (ltb rfl) ?_
 refine yR rfl ?_
 refine yN ?_
 refine run_sr ?_
 refine yD hG rfl ?_
 obtain ⟨r2, hg3, hM⟩ := bind_t hM
 refine yK rfl (s_l09TypeCount_ok n k1 n1 q1 f1 ks1 150 hg3 _ _) (callK_retX (fun v tk4 (hle5 : tk ≤ tk4) h6 => ?_))
 subst h6
 refine yB rfl ?_
 refine yL rfl ?_
 refine run_splitd (i := 6) rfl (fun hb9 => ?_) (fun hb9 => ?_)
 ·replace hM := ite_t hb9 hM
  refine run_rdG (on_of rfl rfl rfl rfl) (aload_rd hG rfl rfl rfl (by simp [ldok])) rfl (ltb rfl) ?_
  obtain ⟨r10, hg11, hM⟩ := bind_t hM
  refine yG (on_of rfl rfl rfl rfl) rfl (s_l09Type_ok n k1 n1 q1 f1 ks1 hg11 _ _) (callK_retX (fun v tk12 (hle13 : tk4 ≤ tk12) h14 => ?_))
  subst h14
  refine yP rfl ?_
  refine yR rfl ?_
  refine yN ?_
  refine run_ret_to ?_
  obtain rfl := some_t hM
  refine fin_x hG rfl rfl rfl (v' := .bool r10) (by rfl) ⟨rfl, (show tk ≤ tk12 by omega), _, rfl, rfl⟩
 replace hM := ite_f hb9 hM
 refine yO rfl ?_
 refine yO rfl ?_
 refine yP rfl ?_
 refine yR rfl ?_
 refine yN ?_
 refine run_ret_to ?_
 obtain rfl := some_t hM
 refine fin_x hG rfl rfl rfl (v' := .bool false) (by rfl) ⟨rfl, (show tk ≤ tk4 by omega), _, rfl, rfl⟩

end Go.Am.Ytpkeophkdemcpaa
