/- Printed by a program of ours: Lean functions that do what the Go functions do, and the contracts. -/
import Derived.Test.YtpkeophkdemcpaaTypes
import Derived.Test.YtpkeophkdemcpaaMi4
import Derived.Test.YtpkeophkdemcpaaMc1
import Derived.Test.YtpkeophkdemcpaaMb3
import Derived.Test.YtpkeophkdemcpaaMb1
import Derived.Test.YtpkeophkdemcpaaGs0
import Derived.Test.YtpkeophkdemcpaaZsD
import Derived.Test.YtpkeophkdemcpaaMxTA
import Derived.Test.YtpkeophkdemcpaaMz
-- packed
namespace Go.Am.Ytpkeophkdemcpaa
open Go Go.Am

set_option maxRecDepth 100000 in
theorem s_l09Fun_ex (k1 : Int) (n1 : Int) (q1 : Nat) (f1 : Bool) (ks1 : List LF) (k2 : Int) (n2 : Int) (q2 : Nat) (f2 : Bool) (ks2 : List LF) (O : Heap) (tk : Nat) : ACalls Go.Proofs.Try.prog 141 [.agg [.int .i64 k1, .int .i64 n1, .imm q1 3 f1 (fcellss ks1)], .agg [.int .i64 k2, .int .i64 n2, .imm q2 3 f2 (fcellss ks2)]] O tk (RetN O (.agg [.int .i64 2, .int .i64 0, .imm tk 3 false (fcellss [LF.mk k1 n1 q1 f1 ks1, LF.mk k2 n2 q2 f2 ks2])]) (tk + 1)) := by
 refine acalls_of_run Go.Proofs.Try.func141 rfl rfl [] [] (Bor.nil _) [(0, .agg [.int .i64 k1, .int .i64 n1, .imm q1 3 f1 (fcellss ks1)]), (1, .agg [.int .i64 k2, .int .i64 n2, .imm q2 3 f2 (fcellss ks2)])] (.cons (.agg _) (.cons (.agg _) (.nil _))) (leb rfl) (fun _ h => by cases h) (fun S0 hO htk hfz => ?_)
 refine run_sr ?_
 refine run_op rfl (box_step (d := 2) rfl rfl rfl rfl rfl) rfl (ltb rfl) ?_
 refine run_op rfl (box_step (d := 3) rfl rfl rfl rfl rfl) rfl (ltb rfl) ?_
 refine run_op rfl (alloc_step (d := 4) hG rfl rfl rfl) rfl (ltb rfl) ?_
 refine yN ?_
 refine run_sr ?_
 refine yD hG rfl ?_
 refine yD hG rfl ?_
 refine run_op rfl (buildSlice_step (d := 7) hG rfl rfl rfl rfl rfl (by rfl) (by rfl) (by rfl) (by decide)) rfl (ltb rfl) ?_
 refine run_pu rfl (build_step hG rfl (by rfl) rfl (fun h => by cases h) (by rfl)) rfl (ltb rfl) ?_
 refine yS hG rfl ?_
 refine yN ?_
 refine run_ret_to ?_
 refine fin_sub (Sub.freeze (k := 7) rfl rfl) ?_
 refine fin_x hG rfl rfl rfl (v' := .agg [.int .i64 2, .int .i64 0, .imm tk 3 false (fcellss [LF.mk k1 n1 q1 f1 ks1, LF.mk k2 n2 q2 f2 ks2])]) (by rfl) ⟨rfl, rfl, rfl⟩

def s_l00Src_tyType : Nat → (List Int × Int × Int) → Int → Option (F × (List Int × Int × Int))
 | 0, _, _ => none
 | n + 1, z1, i5 =>
  if i5 > 0 then
   (s_l00Src_chance (z1.1, z1.2.1, z1.2.2) 2).bind fun r7 =>
   if r7.1 = true then
    (s_l00Src_tyType n (r7.2.1, r7.2.2.1, r7.2.2.2) (IntKind.i64.wrap (i5 - 1))).bind fun r20 =>
    (s_l00Src_tyType n (r20.2.1, r20.2.2.1, r20.2.2.2) (IntKind.i64.wrap (i5 - 1))).bind fun r32 =>
    some ((F.mk 2 0 [r20.1, r32.1]), (r32.2.1, r32.2.2.1, r32.2.2.2))
   else
    (s_l00Src_next (r7.2.1, r7.2.2.1, r7.2.2.2) 2).bind fun r44 =>
    some ((F.mk 1 r44.1 []), (r44.2.1, r44.2.2.1, r44.2.2.2))
  else
   (s_l00Src_next (z1.1, z1.2.1, z1.2.2) 2).bind fun r56 =>
   some ((F.mk 1 r56.1 []), (r56.2.1, r56.2.2.1, r56.2.2.2))

def s_l00Src_tyType_P (n : Nat) : Prop := ∀ (X0 : ID) (f2 : Bool) (l2 : List Int) (i3 : Int) (i4 : Int) (i5 : Int) {r : (F × (List Int × Int × Int))}, s_l00Src_tyType n (l2, i3, i4) i5 = some r → ∀ (O : Heap) (tk : Nat), O X0 = some ⟨156, 3, true, [[.imm 0 1 f2 ((l2 : List Int).map fun n => [AV.int .u8 n]), .int .i64 i3, .int .i64 i4]]⟩ → ACalls Go.Proofs.Try.prog 138 [.optr X0 0 0, .int .i64 i5] O tk (RetV O X0 tk (fun v o' tk' => ∃ r0', ∃ (c0f : Bool) (c0 : List Int) (c1 : Int) (c2 : Int) , r = (r0', (c0, c1, c2)) ∧ o' = ⟨156, 3, true, [[.imm 0 1 c0f ((c0 : List Int).map fun n => [AV.int .u8 n]), .int .i64 c1, .int .i64 c2]]⟩ ∧ VF true tk tk' r0' v))

set_option maxRecDepth 100000 in
theorem s_l00Src_tyType_st (n : Nat) (ih_s_l00Src_tyType : s_l00Src_tyType_P n) : s_l00Src_tyType_P (n + 1) := by
 intro X0 f2 l2 i3 i4 i5 r hM O tk hX0
 rw [s_l00Src_tyType] at hM
 refine acalls_of_run Go.Proofs.Try.func138 rfl rfl [X0] [⟨156, 3, true, [[.imm 0 1 f2 ((l2 : List Int).map fun n => [AV.int .u8 n]), .int .i64 i3, .int .i64 i4]]⟩] (Bor.one hX0 rfl) [(0, .optr (.bor 0) 0 0), (1, .int .i64 i5)] (.cons (.bor 0 _ _ _ rfl) (.cons (entS rfl) (.nil _))) (leb rfl) (by intro y h; simp only [List.mem_cons, List.not_mem_nil, or_false] at h; rcases h with rfl <;> simp [tch, tch0]) (fun S0 hO htk hfz => ?_)
 refine run_sr ?_
 refine run_op rfl (alloc_step (d := 4) hG rfl rfl rfl) rfl (ltb rfl) ?_
 refine yN ?_
 refine run_seq ?_
 refine run_sr ?_
 refine yL rfl ?_
 refine yB rfl ?_
 refine yL rfl ?_
 refine run_splitd (i := 7) rfl (fun hb6 => ?_) (fun hb6 => ?_)
 ·replace hM := ite_t hb6 hM
  refine run_puG (on_of rfl rfl rfl rfl) (move_step (.inl rfl) rfl) rfl (ltb rfl) ?_
  obtain ⟨r7, hg8, hM⟩ := bind_t hM
  refine yG (on_of rfl rfl rfl rfl) rfl (s_l00Src_chance_ok (.bor 0) f2 l2 i3 i4 2 hg8 _ _ rfl) (callK_retV_bor (k := 0) rfl (fun v o' tk' h => by obtain ⟨_, _, _, _, _, rfl, rfl, _⟩ := h; rfl) (fun v o'18 tk9 (hle10 : tk ≤ tk9) h11 => ?_))
  obtain ⟨ra17, fc14, c14, c15, c16, rfl, rfl, rfl⟩ := h11
  refine yP rfl ?_
  refine yN ?_
  refine run_ifb rfl rfl (fun hb19 => ?_) (fun hb19 => ?_)
  ·replace hM := ite_t hb19 hM
   refine run_sr ?_
   refine yL rfl ?_
   refine yL rfl ?_
   refine yB rfl ?_
   obtain ⟨r20, hg21, hM⟩ := bind_t hM
   refine yK rfl (ih_s_l00Src_tyType (.bor 0) fc14 c14 c15 c16 (IntKind.i64.wrap (i5 - 1)) hg21 _ _ rfl) (callK_retV_bor (k := 0) rfl (fun v o' tk' h => by obtain ⟨_, _, _, _, _, rfl, rfl, _⟩ := h; rfl) (fun v o'31 tk22 (hle23 : tk9 ≤ tk22) h24 => ?_))
   obtain ⟨ra30, fc27, c27, c28, c29, rfl, rfl, ⟨k25, n25, q25, f25, ks25, rfl, rfl, hf26⟩⟩ := h24
   refine yL rfl ?_
   refine yL rfl ?_
   refine yB rfl ?_
   obtain ⟨r32, hg33, hM⟩ := bind_t hM
   refine yK rfl (ih_s_l00Src_tyType (.bor 0) fc27 c27 c28 c29 (IntKind.i64.wrap (i5 - 1)) hg33 _ _ rfl) (callK_retV_bor (k := 0) rfl (fun v o' tk' h => by obtain ⟨_, _, _, _, _, rfl, rfl, _⟩ := h; rfl) (fun v o'43 tk34 (hle35 : tk22 ≤ tk34) h36 => ?_))
   obtain ⟨ra42, fc39, c39, c40, c41, rfl, rfl, ⟨k37, n37, q37, f37, ks37, rfl, rfl, hf38⟩⟩ := h36
   refine yK rfl (s_l09Fun_ex k25 n25 q25 f25 ks25 k37 n37 q37 f37 ks37 _ _) (callK_retN ?_)
   skip
   refine yS hG rfl ?_
   refine yN ?_
   refine run_ret_to ?_
   replace hM := some_t hM
   subst hM
   refine fin_x hG rfl rfl rfl (v' := .agg [.int .i64 2, .int .i64 0, .imm tk34 3 false (fcellss [LF.mk k25 n25 q25 f25 ks25, LF.mk k37 n37 q37 f37 ks37])]) (by rfl) ⟨_, ⟨156, 3, true, [[.imm 0 1 fc39 ((c39 : List Int).map fun n => [AV.int .u8 n]), .int .i64 c40, .int .i64 c41]]⟩, rfl, rfl, (show tk ≤ (tk34 + 1) by omega), ⟨_, fc39, c39, c40, c41, rfl, rfl, ⟨2, 0, tk34, false, [LF.mk k25 n25 q25 f25 ks25, LF.mk k37 n37 q37 f37 ks37], rfl, rfl, fun _ => (show Fr tk (tk34 + 1) _ from (show Fr tk9 (tk34 + 1) _ from Fr.fstop (show Fr tk9 tk34 _ from (Fr.fcons (show Fr tk9 tk22 _ from ((show Fr tk9 tk22 _ from hf26 rfl)).mono (by omega) (by omega)) (Fr.fcons ((show Fr tk22 tk34 _ from hf38 rfl)) (show Fr tk34 tk34 _ from Fr.nil _ _) (by omega) (by omega)) (by omega) (by omega)).mono (by omega) (by omega)) (by omega) (by omega)).mono (by omega) (by omega))⟩⟩⟩
  replace hM := ite_f hb19 hM
  refine run_skip ?_
  refine run_sr ?_
  refine yL rfl ?_
  obtain ⟨r44, hg45, hM⟩ := bind_t hM
  refine yK rfl (s_l00Src_next_ok (.bor 0) fc14 c14 c15 c16 2 hg45 _ _ rfl) (callK_retV_bor (k := 0) rfl (fun v o' tk' h => by obtain ⟨_, _, _, _, _, rfl, rfl, _⟩ := h; rfl) (fun v o'55 tk46 (hle47 : tk9 ≤ tk46) h48 => ?_))
  obtain ⟨ra54, fc51, c51, c52, c53, rfl, rfl, rfl⟩ := h48
  refine run_pu rfl (build_step hG rfl (by rfl) rfl (fun h => by cases h) (by rfl)) rfl (ltb rfl) ?_
  refine yS hG rfl ?_
  refine yN ?_
  refine run_ret_to ?_
  replace hM := some_t hM
  subst hM
  refine fin_x hG rfl rfl rfl (v' := .agg [.int .i64 1, .int .i64 ra54, .imm 0 3 true (fcellss [])]) (by rfl) ⟨_, ⟨156, 3, true, [[.imm 0 1 fc51 ((c51 : List Int).map fun n => [AV.int .u8 n]), .int .i64 c52, .int .i64 c53]]⟩, rfl, rfl, (show tk ≤ tk46 by omega), ⟨_, fc51, c51, c52, c53, rfl, rfl, ⟨1, ra54, 0, true, [], rfl, rfl, fun _ => Fr.nil _ _⟩⟩⟩
 replace hM := ite_f hb6 hM
 refine yO rfl ?_
 refine yO rfl ?_
 refine yP rfl ?_
 refine yN ?_
 refine run_if rfl rfl (fun h => by cases h) (fun _ => ?_)
 refine run_skip ?_
 refine run_sr ?_
 refine yL rfl ?_
 obtain ⟨r56, hg57, hM⟩ := bind_t hM
 refine yK rfl (s_l00Src_next_ok (.bor 0) f2 l2 i3 i4 2 hg57 _ _ rfl) (callK_retV_bor (k := 0) rfl (fun v o' tk' h => by obtain ⟨_, _, _, _, _, rfl, rfl, _⟩ := h; rfl) (fun v o'67 tk58 (hle59 : tk ≤ tk58) h60 => ?_))
 obtain ⟨ra66, fc63, c63, c64, c65, rfl, rfl, rfl⟩ := h60
 refine run_pu rfl (build_step hG rfl (by rfl) rfl (fun h => by cases h) (by rfl)) rfl (ltb rfl) ?_
 refine yS hG rfl ?_
 refine yN ?_
 refine run_ret_to ?_
 replace hM := some_t hM
 subst hM
 refine fin_x hG rfl rfl rfl (v' := .agg [.int .i64 1, .int .i64 ra66, .imm 0 3 true (fcellss [])]) (by rfl) ⟨_, ⟨156, 3, true, [[.imm 0 1 fc63 ((c63 : List Int).map fun n => [AV.int .u8 n]), .int .i64 c64, .int .i64 c65]]⟩, rfl, rfl, (show tk ≤ tk58 by omega), ⟨_, fc63, c63, c64, c65, rfl, rfl, ⟨1, ra66, 0, true, [], rfl, rfl, fun _ => Fr.nil _ _⟩⟩⟩

theorem s_l00Src_tyType_all : ∀ (n : Nat), (s_l00Src_tyType_P n)
 | 0 => by intro X0 f2 l2 i3 i4 i5 r hM; rw [s_l00Src_tyType] at hM; cases hM
 | n + 1 => have ih := s_l00Src_tyType_all n; s_l00Src_tyType_st n (ih)

theorem s_l00Src_tyType_ok (n : Nat) : s_l00Src_tyType_P n := s_l00Src_tyType_all n

def s_l00Src_tyCtx_L1 (n : Nat) : Nat → Int → List Int → Int → Int → List F → Option (List F × (List Int × Int × Int))
 | 0, _, _, _, _, _ => none
 | m + 1, i17, l18, i19, i20, l21 =>
  if i17 > 0 then
   (s_l00Src_tyType n (l18, i19, i20) 2).bind fun r23 =>
   chk ((l21).length + ([r23.1]).length ≤ 1099511627776) <|
   s_l00Src_tyCtx_L1 n m (IntKind.i64.wrap (i17 - 1)) r23.2.1 r23.2.2.1 r23.2.2.2 (l21 ++ [r23.1])
  else
   some (l21, (l18, i19, i20))

def s_l00Src_tyCtx (n : Nat) (z1 : (List Int × Int × Int)) : Option (List F × (List Int × Int × Int)) :=
 (s_l00Src_next (z1.1, z1.2.1, z1.2.2) 4).bind fun r5 =>
 s_l00Src_tyCtx_L1 n n r5.1 r5.2.1 r5.2.2.1 r5.2.2.2 ([])

set_option maxRecDepth 100000 in
theorem s_l00Src_tyCtx_ok (n : Nat) : ∀ (X0 : ID) (f2 : Bool) (l2 : List Int) (i3 : Int) (i4 : Int) {r : (List F × (List Int × Int × Int))}, s_l00Src_tyCtx n (l2, i3, i4) = some r → ∀ (O : Heap) (tk : Nat), O X0 = some ⟨156, 3, true, [[.imm 0 1 f2 ((l2 : List Int).map fun n => [AV.int .u8 n]), .int .i64 i3, .int .i64 i4]]⟩ → ACalls Go.Proofs.Try.prog 63 [.optr X0 0 0] O tk (RetV O X0 tk (fun v o' tk' => ∃ r0', ∃ (c0f : Bool) (c0 : List Int) (c1 : Int) (c2 : Int) , r = (r0', (c0, c1, c2)) ∧ o' = ⟨156, 3, true, [[.imm 0 1 c0f ((c0 : List Int).map fun n => [AV.int .u8 n]), .int .i64 c1, .int .i64 c2]]⟩ ∧ VFs false tk tk' r0' v)) := by
 intro X0 f2 l2 i3 i4 r hM O tk hX0
 unfold s_l00Src_tyCtx at hM
 refine acalls_of_run Go.Proofs.Try.func63 rfl rfl [X0] [⟨156, 3, true, [[.imm 0 1 f2 ((l2 : List Int).map fun n => [AV.int .u8 n]), .int .i64 i3, .int .i64 i4]]⟩] (Bor.one hX0 rfl) [(0, .optr (.bor 0) 0 0)] (.cons (.bor 0 _ _ _ rfl) (.nil _)) (leb rfl) (by intro y h; simp only [List.mem_cons, List.not_mem_nil, or_false] at h; rcases h with rfl <;> simp [tch, tch0]) (fun S0 hO htk hfz => ?_)
 refine run_sr ?_
 refine yR rfl ?_
 refine yN ?_
 refine run_sr ?_
 refine run_op rfl (buildSlice_step (d := 5) hG rfl rfl rfl rfl rfl (by rfl) (by rfl) (by rfl) (by decide)) rfl (ltb rfl) ?_
 refine yR rfl ?_
 refine yN ?_
 refine run_seq ?_
 refine run_sr ?_
 refine yL rfl ?_
 obtain ⟨r5, hg6, hM⟩ := bind_t hM
 refine yK rfl (s_l00Src_next_ok (.bor 0) f2 l2 i3 i4 4 hg6 _ _ rfl) (callK_retV_bor (k := 0) rfl (fun v o' tk' h => by obtain ⟨_, _, _, _, _, rfl, rfl, _⟩ := h; rfl) (fun v o'16 tk7 (hle8 : tk ≤ tk7) h9 => ?_))
 obtain ⟨ra15, fc12, c12, c13, c14, rfl, rfl, rfl⟩ := h9
 refine yR rfl ?_
 refine yN ?_
 refine run_block ?_
 refine run_rounds (fun m σ => ∃ (i17 : Int) (f18 : Bool) (l18 : List Int) (i19 : Int) (i20 : Int) (ks21 : List LF) (tks_l00Src_tyCtx_L1 : Nat), tk7 ≤ tks_l00Src_tyCtx_L1 ∧ s_l00Src_tyCtx_L1 n m i17 l18 i19 i20 (fers ks21) = some r ∧ σ = ⟨[(0, .optr (.bor 0) 0 0), (2, .imm 0 0 true []), (3, .osl (.loc 5)), (4, .int .i64 i17)], [(5, ⟨42, 3, false, fcellss ks21⟩)], [⟨156, 3, true, [[.imm 0 1 f18 ((l18 : List Int).map fun n => [AV.int .u8 n]), .int .i64 i19, .int .i64 i20]]⟩], O, tks_l00Src_tyCtx_L1⟩) n (Sub.pk [0, 2, 3, 4] rfl) ⟨ra15, fc12, c12, c13, c14, [], tk7, Nat.le_refl _, hM, rfl⟩ (fun m σ hI => ?_)
 clear hM
 obtain ⟨i17, f18, l18, i19, i20, ks21, tks_l00Src_tyCtx_L1, hle36, hM, rfl⟩ := hI
 obtain _ | m := m
 ·exact absurd hM (by rw [s_l00Src_tyCtx_L1]; exact fun h => by cases h)
 rw [s_l00Src_tyCtx_L1] at hM
 refine run_seq ?_
 refine run_sr ?_
 refine yL rfl ?_
 refine yB rfl ?_
 refine yN ?_
 refine run_ifd rfl rfl (fun hb22 => ?_) (fun hb22 => ?_)
 ·replace hM := ite_t hb22 hM
  refine run_skip ?_
  refine run_seq ?_
  refine run_block ?_
  refine run_region ?_
  refine yL rfl ?_
  refine yL rfl ?_
  obtain ⟨r23, hg24, hM⟩ := bind_t hM
  refine yK rfl (s_l00Src_tyType_ok n (.bor 0) f18 l18 i19 i20 2 hg24 _ _ rfl) (callK_retV_bor (k := 0) rfl (fun v o' tk' h => by obtain ⟨_, _, _, _, _, rfl, rfl, _⟩ := h; rfl) (fun v o'34 tk25 (hle26 : tks_l00Src_tyCtx_L1 ≤ tk25) h27 => ?_))
  obtain ⟨ra33, fc30, c30, c31, c32, rfl, rfl, ⟨k28, n28, q28, f28, ks28, rfl, rfl, hf29⟩⟩ := h27
  refine run_op rfl (buildSlice_step (d := 15) hG rfl rfl rfl rfl rfl (by rfl) (by rfl) (by rfl) (by decide)) rfl (ltb rfl) ?_
  obtain ⟨hc35, hM⟩ := chk_t hM
  try rw [show ((fers ks21) ++ [(F.mk k28 n28 (fers ks28))] : List F) = (fers (ks21 ++ [LF.mk k28 n28 q28 f28 ks28])) from fers_app ks21 [LF.mk k28 n28 q28 f28 ks28]] at hM
  refine run_op rfl (appendM_step hG rfl rfl rfl rfl rfl rfl rfl rfl rfl rfl rfl (fcellss_sz ([LF.mk k28 n28 q28 f28 ks28])) (flen ks21) (flen ([LF.mk k28 n28 q28 f28 ks28])) hc35 (by decide) (fcellss_app _ _)) rfl (ltb rfl) ?_
  refine yR rfl ?_
  refine yN ?_
  refine run_blk ?_
  refine run_region ?_
  refine yL rfl ?_
  refine yB rfl ?_
  refine yR rfl ?_
  refine yN ?_
  exact run_loop_end ⟨m, _, Nat.lt_succ_self _, ⟨(IntKind.i64.wrap (i17 - 1)), fc30, c30, c31, c32, (ks21 ++ [LF.mk k28 n28 q28 f28 ks28]), tk25, (show tk7 ≤ tk25 by omega), hM, rfl⟩, Sub.trans (Sub.drop (k := 15) rfl) (Sub.pk [0, 2, 3, 4] rfl)⟩
 replace hM := ite_f hb22 hM
 refine run_exit_to rfl ?_
 refine run_sr ?_
 refine yL rfl ?_
 refine yR rfl ?_
 refine yN ?_
 refine run_ret_to ?_
 refine fin_sub (Sub.freeze (k := 5) rfl rfl) ?_
 replace hM := some_t hM
 subst hM
 refine fin_x hG rfl rfl rfl (v' := .imm tks_l00Src_tyCtx_L1 3 false (fcellss ks21)) (by rfl) ⟨_, ⟨156, 3, true, [[.imm 0 1 f18 ((l18 : List Int).map fun n => [AV.int .u8 n]), .int .i64 i19, .int .i64 i20]]⟩, rfl, rfl, (show tk ≤ (tks_l00Src_tyCtx_L1 + 1) by omega), ⟨_, f18, l18, i19, i20, rfl, rfl, ⟨tks_l00Src_tyCtx_L1, false, ks21, rfl, rfl, fun h => by cases h⟩⟩⟩

def s_l00Src_expr : Nat → (List Int × Int × Int) → List F → Int → Option (Pf × F × (List Int × Int × Int))
 | 0, _, _, _ => none
 | n + 1, z1, l5, i6 =>
  jn (
   jn (fun (l28 : List Int) (i29 : Int) (i30 : Int) =>
    (s_l00Src_tyType n (l28, i29, i30) 1).bind fun r150 =>
    (s_l09More l5 r150.1).bind fun r162 =>
    (s_l00Src_expr n (r150.2.1, r150.2.2.1, r150.2.2.2) r162 (IntKind.i64.wrap (i6 - 1))).bind fun r169 =>
    some ((Pf.mk 3 0 [r150.1] [r169.1]), (F.mk 2 0 [r150.1, r169.2.1]), (r169.2.2.1, r169.2.2.2.1, r169.2.2.2.2))) fun j27 =>
   if i6 > 0 then
    (s_l00Src_chance (z1.1, z1.2.1, z1.2.2) 3).bind fun r32 =>
    if r32.1 = true then
     (s_l00Src_expr n (r32.2.1, r32.2.2.1, r32.2.2.2) l5 (IntKind.i64.wrap (i6 - 1))).bind fun r45 =>
     (s_l00Src_expr n (r45.2.2.1, r45.2.2.2.1, r45.2.2.2.2) l5 (IntKind.i64.wrap (i6 - 2))).bind fun r63 =>
     if r45.2.1.kind = 2 then
      (idx r45.2.1.kids 0).bind fun y82 =>
      (s_l09Same n y82 r63.2.1).bind fun r87 =>
      if r87 = true then
       (idx r45.2.1.kids 1).bind fun y95 =>
       some ((Pf.mk 2 0 [] [r45.1, r63.1]), y95, (r63.2.2.1, r63.2.2.2.1, r63.2.2.2.2))
      else
       (s_l09More l5 r63.2.1).bind fun r100 =>
       (s_l00Src_expr n (r63.2.2.1, r63.2.2.2.1, r63.2.2.2.2) r100 (IntKind.i64.wrap (i6 - 2))).bind fun r107 =>
       some ((Pf.mk 2 0 [] [(Pf.mk 3 0 [r63.2.1] [r107.1]), r63.1]), r107.2.1, (r107.2.2.1, r107.2.2.2.1, r107.2.2.2.2))
     else
      (s_l09More l5 r63.2.1).bind fun r125 =>
      (s_l00Src_expr n (r63.2.2.1, r63.2.2.2.1, r63.2.2.2.2) r125 (IntKind.i64.wrap (i6 - 2))).bind fun r132 =>
      some ((Pf.mk 2 0 [] [(Pf.mk 3 0 [r63.2.1] [r132.1]), r63.1]), r132.2.1, (r132.2.2.1, r132.2.2.2.1, r132.2.2.2.2))
    else
     j27 r32.2.1 r32.2.2.1 r32.2.2.2
   else
    j27 z1.1 z1.2.1 z1.2.2) fun j7 =>
  if i6 ≤ 0 then
   if ((l5).length : Int) > 0 then
    (s_l00Src_next (z1.1, z1.2.1, z1.2.2) ((l5).length : Int)).bind fun r10 =>
    (idx l5 (IntKind.i64.wrap ((IntKind.i64.wrap (((l5).length : Int) - 1)) - r10.1))).bind fun y22 =>
    some ((Pf.mk 1 r10.1 [] []), y22, (r10.2.1, r10.2.2.1, r10.2.2.2))
   else
    j7
  else
   j7

def s_l00Src_expr_P (n : Nat) : Prop := ∀ (X0 : ID) (f2 : Bool) (l2 : List Int) (i3 : Int) (i4 : Int) (q5 : Nat) (f5 : Bool) (ks5 : List LF) (i6 : Int) {r : (Pf × F × (List Int × Int × Int))}, s_l00Src_expr n (l2, i3, i4) (fers ks5) i6 = some r → ∀ (O : Heap) (tk : Nat), O X0 = some ⟨156, 3, true, [[.imm 0 1 f2 ((l2 : List Int).map fun n => [AV.int .u8 n]), .int .i64 i3, .int .i64 i4]]⟩ → ACalls Go.Proofs.Try.prog 64 [.optr X0 0 0, .imm q5 3 f5 (fcellss ks5), .int .i64 i6] O tk (RetV O X0 tk (fun v o' tk' => ∃ r0' r1' v0' v1', ∃ (c0f : Bool) (c0 : List Int) (c1 : Int) (c2 : Int), r = (r0', r1', (c0, c1, c2)) ∧ o' = ⟨156, 3, true, [[.imm 0 1 c0f ((c0 : List Int).map fun n => [AV.int .u8 n]), .int .i64 c1, .int .i64 c2]]⟩ ∧ v = .tup [v0', v1'] ∧ VP false tk tk' r0' v0' ∧ VF false tk tk' r1' v1'))

set_option maxHeartbeats 20000000 in
set_option maxHeartbeats 20000000 in
set_option maxRecDepth 100000 in
theorem s_l00Src_expr_st (n : Nat) (ih_s_l00Src_expr : s_l00Src_expr_P n) : s_l00Src_expr_P (n + 1) := by
 intro X0 f2 l2 i3 i4 q5 f5 ks5 i6 r hM O tk hX0
 rw [s_l00Src_expr] at hM
 refine acalls_of_run Go.Proofs.Try.func64 rfl rfl [X0] [⟨156, 3, true, [[.imm 0 1 f2 ((l2 : List Int).map fun n => [AV.int .u8 n]), .int .i64 i3, .int .i64 i4]]⟩] (Bor.one hX0 rfl) [(0, .optr (.bor 0) 0 0), (1, .imm q5 3 f5 (fcellss ks5)), (2, .int .i64 i6)] (.cons (.bor 0 _ _ _ rfl) (.cons (entS rfl) (.cons (entS rfl) (.nil _)))) (leb rfl) (by intro y h; simp only [List.mem_cons, List.not_mem_nil, or_false] at h; rcases h with rfl <;> simp [tch, tch0]) (fun S0 hO htk hfz => ?_)
 refine run_sr ?_
 refine run_op rfl (alloc_step (d := 6) hG rfl rfl rfl) rfl (ltb rfl) ?_
 refine run_op rfl (alloc_step (d := 7) hG rfl rfl rfl) rfl (ltb rfl) ?_
 refine yN ?_
 refine run_seq ?_
 refine run_seq ?_
 obtain ⟨j7, hj190, hM⟩ := jn_t hM
 refine run_cutL [.code _, .code _] (fun σ' => ∃ (tkj7 : Nat), tk ≤ tkj7 ∧ j7 = some r ∧ Sub ⟨Go.Proofs.Try.prog, S0, Go.Proofs.Try.f64.ntmps, [X0], fun _ => False, []⟩ σ' ⟨[(0, .optr (.bor 0) 0 0), (1, .imm q5 3 f5 (fcellss ks5)), (2, .int .i64 i6), (6, .optr (.loc 6) 0 0), (7, .optr (.loc 7) 0 0)], [(7, ⟨42, 3, true, [[.int .i64 0, .int .i64 0, .imm 0 3 true []]]⟩), (6, ⟨40, 4, true, [[.int .i64 0, .int .i64 0, .imm 0 3 true [], .imm 0 4 true []]]⟩)], [⟨156, 3, true, [[.imm 0 1 f2 ((l2 : List Int).map fun n => [AV.int .u8 n]), .int .i64 i3, .int .i64 i4]]⟩], O, tkj7⟩) rfl ?_ ?_
 ·refine run_region ?_
  refine yL rfl ?_
  refine yB rfl ?_
  refine yL rfl ?_
  refine run_splitd (i := 20) rfl (fun hb8 => ?_) (fun hb8 => ?_)
  ·replace hM := ite_t hb8 hM
   refine run_puG (on_of rfl rfl rfl rfl) (move_step (.inl rfl) rfl) rfl (ltb rfl) ?_
   refine run_puG (on_of rfl rfl rfl rfl) (lenImm_step hG rfl rfl rfl rfl (flen _)) rfl (ltb rfl) ?_
   refine run_puG (on_of rfl rfl rfl rfl) (abin_step rfl rfl rfl rfl (fun _ h => by cases h)) rfl (ltb rfl) ?_
   refine yP rfl ?_
   refine yN ?_
   refine run_ifd rfl rfl (fun hb9 => ?_) (fun hb9 => ?_)
   ·replace hM := ite_t hb9 hM
    refine run_sr ?_
    refine yL rfl ?_
    refine yL rfl ?_
    refine run_pu rfl (lenImm_step hG rfl rfl rfl rfl (flen _)) rfl (ltb rfl) ?_
    obtain ⟨r10, hg11, hM⟩ := bind_t hM
    refine yK rfl (s_l00Src_next_ok (.bor 0) f2 l2 i3 i4 (((fers ks5)).length : Int) hg11 _ _ rfl) (callK_retV_bor (k := 0) rfl (fun v o' tk' h => by obtain ⟨_, _, _, _, _, rfl, rfl, _⟩ := h; rfl) (fun v o'21 tk12 (hle13 : tk ≤ tk12) h14 => ?_))
    obtain ⟨ra20, fc17, c17, c18, c19, rfl, rfl, rfl⟩ := h14
    refine yR rfl ?_
    refine yN ?_
    refine run_sub_code (σ' := ⟨[(0, .optr (.bor 0) 0 0), (1, .imm q5 3 f5 (fcellss ks5)), (2, .int .i64 i6), (6, .optr (.loc 6) 0 0), (7, .optr (.loc 7) 0 0), (8, .int .i64 ra20)], [(7, ⟨42, 3, true, [[.int .i64 0, .int .i64 0, .imm 0 3 true []]]⟩), (6, ⟨40, 4, true, [[.int .i64 0, .int .i64 0, .imm 0 3 true [], .imm 0 4 true []]]⟩)], [⟨156, 3, true, [[.imm 0 1 fc17 ((c17 : List Int).map fun n => [AV.int .u8 n]), .int .i64 c18, .int .i64 c19]]⟩], O, tk12⟩) (Sub.env _ ⟨rfl, rfl, rfl, rfl, rfl, rfl, trivial⟩) ?_
    refine run_seq ?_
    refine run_draw [.loc 6, .loc 7] (n := 12) mixed rfl (by intro x hx; simp only [List.mem_cons, List.not_mem_nil, or_false] at hx; rcases hx with rfl | rfl <;> rfl) ?_
    refine yTV 0 (by kernel_rfl) rfl ?_
    refine yT 1 (by kernel_rfl) rfl rfl rfl (ltb rfl) ((build_step hG rfl (by rfl) rfl (fun h => by cases h) (by rfl)).rd _) ?_
    refine yTV 2 (by kernel_rfl) rfl ?_
    refine yTV 3 (by kernel_rfl) rfl ?_
    refine yT 4 (by kernel_rfl) rfl rfl rfl (ltb rfl) ((lenImm_step hG rfl rfl rfl rfl (flen _)).rd _) ?_
    refine yT 5 (by kernel_rfl) rfl rfl rfl (ltb rfl) ((abin_step rfl rfl rfl rfl (fun _ h => by cases h)).rd _) ?_
    refine yTV 6 (by kernel_rfl) rfl ?_
    refine yT 7 (by kernel_rfl) rfl rfl rfl (ltb rfl) ((abin_step rfl rfl rfl rfl (fun _ h => by cases h)).rd _) ?_
    obtain ⟨y22, hy23, hM⟩ := bind_t hM
    obtain ⟨k24, n24, q24, f24, ks24, rfl, hc25, hi26⟩ := fidx (ks := ks5) hy23
    refine yT 8 (by kernel_rfl) rfl rfl rfl (ltb rfl) ((indexImm_step hG rfl rfl rfl hi26 rfl rfl rfl rfl hc25).rd _) ?_
    refine yTL hG 9 (by kernel_rfl) rfl ?_
    refine yW hG 10 (by kernel_rfl) rfl (by kernel_rfl) rfl ?_
    refine yW hG 11 (by kernel_rfl) rfl (by kernel_rfl) rfl ?_
    refine AAny.done (by kernel_rfl) ?_
    refine run_ret_to ?_
    refine cut_ret ?_
    replace hM := some_t hM
    subst hM
    refine fin_x hG rfl rfl rfl (v' := .tup [.agg [.int .i64 1, .int .i64 ra20, .imm 0 3 true (fcellss []), .imm 0 4 true (pcellss [])], .agg [.int .i64 k24, .int .i64 n24, .imm q24 3 f24 (fcellss ks24)]]) (by rfl) ⟨_, ⟨156, 3, true, [[.imm 0 1 fc17 ((c17 : List Int).map fun n => [AV.int .u8 n]), .int .i64 c18, .int .i64 c19]]⟩, rfl, rfl, (show tk ≤ tk12 by omega), ⟨_, _, _, _, fc17, c17, c18, c19, rfl, rfl, rfl, ⟨1, ra20, 0, true, [], 0, true, [], rfl, rfl, fun h => by cases h⟩, ⟨k24, n24, q24, f24, ks24, rfl, rfl, fun h => by cases h⟩⟩⟩
   replace hM := ite_f hb9 hM
   refine run_skip ?_
   exact ⟨tk, (show tk ≤ tk by omega), hM, Sub.pk [0, 1, 2, 6, 7] rfl⟩
  replace hM := ite_f hb8 hM
  refine yO rfl ?_
  refine yO rfl ?_
  refine yO rfl ?_
  refine yP rfl ?_
  refine yN ?_
  refine run_if rfl rfl (fun h => by cases h) (fun _ => ?_)
  refine run_skip ?_
  exact ⟨tk, (show tk ≤ tk by omega), hM, Sub.pk [0, 1, 2, 6, 7] rfl⟩
 clear hM
 rintro σ' ⟨tkj7, hle189, hM, hsub⟩
 rw [hj190] at hM
 clear hj190
 refine run_sub_code hsub ?_
 refine run_seq ?_
 refine run_seq ?_
 obtain ⟨j27, hj188, hM⟩ := jn_t hM
 refine run_cutL [.code _, .code _] (fun σ' => ∃ (f28 : Bool) (l28 : List Int) (i29 : Int) (i30 : Int) (tkj27 : Nat), tkj7 ≤ tkj27 ∧ j27 l28 i29 i30 = some r ∧ Sub ⟨Go.Proofs.Try.prog, S0, Go.Proofs.Try.f64.ntmps, [X0], fun _ => False, []⟩ σ' ⟨[(0, .optr (.bor 0) 0 0), (1, .imm q5 3 f5 (fcellss ks5)), (2, .int .i64 i6), (6, .optr (.loc 6) 0 0), (7, .optr (.loc 7) 0 0)], [(7, ⟨42, 3, true, [[.int .i64 0, .int .i64 0, .imm 0 3 true []]]⟩), (6, ⟨40, 4, true, [[.int .i64 0, .int .i64 0, .imm 0 3 true [], .imm 0 4 true []]]⟩)], [⟨156, 3, true, [[.imm 0 1 f28 ((l28 : List Int).map fun n => [AV.int .u8 n]), .int .i64 i29, .int .i64 i30]]⟩], O, tkj27⟩) rfl ?_ ?_
 ·refine run_region ?_
  refine yL rfl ?_
  refine yB rfl ?_
  refine yL rfl ?_
  refine run_splitd (i := 41) rfl (fun hb31 => ?_) (fun hb31 => ?_)
  ·replace hM := ite_t hb31 hM
   refine run_puG (on_of rfl rfl rfl rfl) (move_step (.inl rfl) rfl) rfl (ltb rfl) ?_
   obtain ⟨r32, hg33, hM⟩ := bind_t hM
   refine yG (on_of rfl rfl rfl rfl) rfl (s_l00Src_chance_ok (.bor 0) f2 l2 i3 i4 3 hg33 _ _ rfl) (callK_retV_bor (k := 0) rfl (fun v o' tk' h => by obtain ⟨_, _, _, _, _, rfl, rfl, _⟩ := h; rfl) (fun v o'43 tk34 (hle35 : tkj7 ≤ tk34) h36 => ?_))
   obtain ⟨ra42, fc39, c39, c40, c41, rfl, rfl, rfl⟩ := h36
   refine yP rfl ?_
   refine yN ?_
   refine run_ifb rfl rfl (fun hb44 => ?_) (fun hb44 => ?_)
   ·replace hM := ite_t hb44 hM
    refine run_sr ?_
    refine yL rfl ?_
    refine yL rfl ?_
    refine yL rfl ?_
    refine yB rfl ?_
    obtain ⟨r45, hg46, hM⟩ := bind_t hM
    refine yK rfl (ih_s_l00Src_expr (.bor 0) fc39 c39 c40 c41 q5 f5 ks5 (IntKind.i64.wrap (i6 - 1)) hg46 _ _ rfl) (callK_retV_bor (k := 0) rfl (fun v o' tk' h => by obtain ⟨_, _, _, _, _, _, _, _, rfl, rfl, _⟩ := h; rfl) (fun v o'62 tk47 (hle48 : tk34 ≤ tk47) h49 => ?_))
    obtain ⟨ra58, ra59, va60, va61, fc54, c54, c55, c56, rfl, rfl, rfl, ⟨k50, n50, p50, e50, fs50, q50, f50, ks50, rfl, rfl, hf51⟩, ⟨k52, n52, q52, f52, ks52, rfl, rfl, hf53⟩⟩ := h49
    refine yL rfl ?_
    refine run_pu rfl (extract_step rfl rfl rfl) rfl (ltb rfl) ?_
    refine run_pu rfl (extract_step rfl rfl rfl) rfl (ltb rfl) ?_
    refine run_op rfl (alloc_step (d := 9) hG rfl rfl rfl) rfl (ltb rfl) ?_
    refine run_op rfl (alloc_step (d := 10) hG rfl rfl rfl) rfl (ltb rfl) ?_
    refine yS hG rfl ?_
    refine yS hG rfl ?_
    refine yN ?_
    refine run_sub_code (σ' := ⟨[(0, .optr (.bor 0) 0 0), (1, .imm q5 3 f5 (fcellss ks5)), (2, .int .i64 i6), (6, .optr (.loc 6) 0 0), (7, .optr (.loc 7) 0 0), (9, .optr (.loc 9) 0 0), (10, .optr (.loc 10) 0 0)], [(10, ⟨42, 3, true, [[.int .i64 k52, .int .i64 n52, .imm q52 3 f52 (fcellss ks52)]]⟩), (9, ⟨40, 4, true, [[.int .i64 k50, .int .i64 n50, .imm p50 3 e50 (fcellss fs50), .imm q50 4 f50 (pcellss ks50)]]⟩), (7, ⟨42, 3, true, [[.int .i64 0, .int .i64 0, .imm 0 3 true []]]⟩), (6, ⟨40, 4, true, [[.int .i64 0, .int .i64 0, .imm 0 3 true [], .imm 0 4 true []]]⟩)], [⟨156, 3, true, [[.imm 0 1 fc54 ((c54 : List Int).map fun n => [AV.int .u8 n]), .int .i64 c55, .int .i64 c56]]⟩], O, tk47⟩) (Sub.env _ ⟨rfl, rfl, rfl, rfl, rfl, rfl, rfl, trivial⟩) ?_
    refine run_sr ?_
    refine yL rfl ?_
    refine yL rfl ?_
    refine yL rfl ?_
    refine yB rfl ?_
    obtain ⟨r63, hg64, hM⟩ := bind_t hM
    refine yK rfl (ih_s_l00Src_expr (.bor 0) fc54 c54 c55 c56 q5 f5 ks5 (IntKind.i64.wrap (i6 - 2)) hg64 _ _ rfl) (callK_retV_bor (k := 0) rfl (fun v o' tk' h => by obtain ⟨_, _, _, _, _, _, _, _, rfl, rfl, _⟩ := h; rfl) (fun v o'80 tk65 (hle66 : tk47 ≤ tk65) h67 => ?_))
    obtain ⟨ra76, ra77, va78, va79, fc72, c72, c73, c74, rfl, rfl, rfl, ⟨k68, n68, p68, e68, fs68, q68, f68, ks68, rfl, rfl, hf69⟩, ⟨k70, n70, q70, f70, ks70, rfl, rfl, hf71⟩⟩ := h67
    refine yL rfl ?_
    refine run_pu rfl (extract_step rfl rfl rfl) rfl (ltb rfl) ?_
    refine run_pu rfl (extract_step rfl rfl rfl) rfl (ltb rfl) ?_
    refine run_op rfl (alloc_step (d := 11) hG rfl rfl rfl) rfl (ltb rfl) ?_
    refine run_op rfl (alloc_step (d := 12) hG rfl rfl rfl) rfl (ltb rfl) ?_
    refine yS hG rfl ?_
    refine yS hG rfl ?_
    refine yN ?_
    refine run_seq ?_
    refine run_seq ?_
    refine run_draw [] (n := 11) mixed rfl yE ?_
    refine yTF hG 0 (by kernel_rfl) rfl ?_
    refine yTL hG 1 (by kernel_rfl) rfl ?_
    refine yT 2 (by kernel_rfl) rfl rfl rfl (ltb rfl) ((abin_step rfl rfl rfl rfl (fun _ h => by cases h)).rd _) ?_
    refine yTV 3 (by kernel_rfl) rfl ?_
    refine AAny.splitd (i := 64) rfl yE (fun hb81 => ?_) (fun hb81 => ?_)
    ·replace hM := ite_t hb81 hM
     refine AAny.takeG (i := 4) rfl (by kernel_rfl) (by kernel_rfl) (by kernel_rfl) (on_of rfl rfl rfl rfl) rfl (ltb rfl) ((fieldAddr_step hG rfl rfl rfl rfl rfl).rd _) ?_
     refine AAny.takeG (i := 5) rfl (by kernel_rfl) (by kernel_rfl) (by kernel_rfl) (on_of rfl rfl rfl rfl) rfl (ltb rfl) (aload_rd hG rfl rfl rfl (by first | (simp [ldok]; done) | exact List.not_mem_nil | trivial)) ?_
     obtain ⟨y82, hy83, hM⟩ := bind_t hM
     obtain ⟨k84, n84, q84, f84, ks84, rfl, hc85, hi86⟩ := fidx (ks := ks52) hy83
     refine AAny.takeG (i := 6) rfl (by kernel_rfl) (by kernel_rfl) (by kernel_rfl) (on_of rfl rfl rfl rfl) rfl (ltb rfl) ((indexImm_step hG rfl rfl rfl hi86 rfl rfl rfl rfl hc85).rd _) ?_
     refine AAny.takeG (i := 7) rfl (by kernel_rfl) (by kernel_rfl) (by kernel_rfl) (on_of rfl rfl rfl rfl) rfl (ltb rfl) (aload_rd hG rfl rfl rfl (by first | (simp [ldok]; done) | exact List.not_mem_nil | trivial)) ?_
     refine AAny.takeG (i := 8) rfl (by kernel_rfl) (by kernel_rfl) (by kernel_rfl) (on_of rfl rfl rfl rfl) rfl (ltb rfl) (aload_rd hG rfl rfl rfl (by first | (simp [ldok]; done) | exact List.not_mem_nil | trivial)) ?_
     obtain ⟨r87, hg88, hM⟩ := bind_t hM
     refine AAny.one (i := 9) (by kernel_rfl) (AOp.callG rfl (on_of rfl rfl rfl rfl) rfl rfl (ltb rfl) rfl rfl rfl yE yE (s_l09Same_ok n k84 n84 q84 f84 ks84 k70 n70 q70 f70 ks70 hg88 _ _) (callK_retX (fun v tk89 (hle90 : tk65 ≤ tk89) h91 => ?_)))
     subst h91
     refine yT 10 (by kernel_rfl) rfl rfl rfl (ltb rfl) ((pick_step rfl rfl rfl).rd _) ?_
     refine AAny.done (by kernel_rfl) ?_
     refine run_sub_code (σ' := ⟨[(0, .optr (.bor 0) 0 0), (1, .imm q5 3 f5 (fcellss ks5)), (2, .int .i64 i6), (6, .optr (.loc 6) 0 0), (7, .optr (.loc 7) 0 0), (9, .optr (.loc 9) 0 0), (10, .optr (.loc 10) 0 0), (11, .optr (.loc 11) 0 0), (12, .optr (.loc 12) 0 0), (71, .bool r87)], [(12, ⟨42, 3, true, [[.int .i64 k70, .int .i64 n70, .imm q70 3 f70 (fcellss ks70)]]⟩), (11, ⟨40, 4, true, [[.int .i64 k68, .int .i64 n68, .imm p68 3 e68 (fcellss fs68), .imm q68 4 f68 (pcellss ks68)]]⟩), (10, ⟨42, 3, true, [[.int .i64 k52, .int .i64 n52, .imm q52 3 f52 (fcellss ks52)]]⟩), (9, ⟨40, 4, true, [[.int .i64 k50, .int .i64 n50, .imm p50 3 e50 (fcellss fs50), .imm q50 4 f50 (pcellss ks50)]]⟩), (7, ⟨42, 3, true, [[.int .i64 0, .int .i64 0, .imm 0 3 true []]]⟩), (6, ⟨40, 4, true, [[.int .i64 0, .int .i64 0, .imm 0 3 true [], .imm 0 4 true []]]⟩)], [⟨156, 3, true, [[.imm 0 1 fc72 ((c72 : List Int).map fun n => [AV.int .u8 n]), .int .i64 c73, .int .i64 c74]]⟩], O, tk89⟩) (Sub.env _ ⟨rfl, rfl, rfl, rfl, rfl, rfl, rfl, rfl, rfl, rfl, trivial⟩) ?_
     refine run_ifb rfl rfl (fun hb94 => ?_) (fun hb94 => ?_)
     ·replace hM := ite_t hb94 hM
      refine run_seq ?_
      refine run_draw [.loc 6, .loc 7] (n := 10) mixed rfl (by intro x hx; simp only [List.mem_cons, List.not_mem_nil, or_false] at hx; rcases hx with rfl | rfl <;> rfl) ?_
      refine yTL hG 0 (by kernel_rfl) rfl ?_
      refine yTL hG 1 (by kernel_rfl) rfl ?_
      refine yTF hG 4 (by kernel_rfl) rfl ?_
      refine yTL hG 5 (by kernel_rfl) rfl ?_
      obtain ⟨y95, hy96, hM⟩ := bind_t hM
      obtain ⟨k97, n97, q97, f97, ks97, rfl, hc98, hi99⟩ := fidx (ks := ks52) hy96
      refine yT 6 (by kernel_rfl) rfl rfl rfl (ltb rfl) ((indexImm_step hG rfl rfl rfl hi99 rfl rfl rfl rfl hc98).rd _) ?_
      refine yTL hG 7 (by kernel_rfl) rfl ?_
      refine AAny.one (i := 2) (by kernel_rfl) (AOp.step rfl rfl rfl (ltb rfl) (buildSlice_step (d := 74) hG rfl rfl rfl rfl rfl (by rfl) (by rfl) (by rfl) (by decide)) yE ?_)
      refine yT 3 (by kernel_rfl) rfl rfl rfl (ltb rfl) ((build_step hG rfl (by rfl) rfl (fun h => by cases h) (by rfl)).rd _) ?_
      refine yW hG 8 (by kernel_rfl) rfl (by kernel_rfl) rfl ?_
      refine yW hG 9 (by kernel_rfl) rfl (by kernel_rfl) rfl ?_
      refine AAny.done (by kernel_rfl) ?_
      refine run_ret_to ?_
      refine cut_ret ?_
      refine fin_sub (Sub.freeze (k := 74) rfl rfl) ?_
      replace hM := some_t hM
      subst hM
      refine fin_x hG rfl rfl rfl (v' := .tup [.agg [.int .i64 2, .int .i64 0, .imm 0 3 true (fcellss []), .imm tk89 4 false (pcellss [LP.mk k50 n50 p50 e50 fs50 q50 f50 ks50, LP.mk k68 n68 p68 e68 fs68 q68 f68 ks68])], .agg [.int .i64 k97, .int .i64 n97, .imm q97 3 f97 (fcellss ks97)]]) (by rfl) ⟨_, ⟨156, 3, true, [[.imm 0 1 fc72 ((c72 : List Int).map fun n => [AV.int .u8 n]), .int .i64 c73, .int .i64 c74]]⟩, rfl, rfl, (show tk ≤ (tk89 + 1) by omega), ⟨_, _, _, _, fc72, c72, c73, c74, rfl, rfl, rfl, ⟨2, 0, 0, true, [], tk89, false, [LP.mk k50 n50 p50 e50 fs50 q50 f50 ks50, LP.mk k68 n68 p68 e68 fs68 q68 f68 ks68], rfl, rfl, fun h => by cases h⟩, ⟨k97, n97, q97, f97, ks97, rfl, rfl, fun h => by cases h⟩⟩⟩
     replace hM := ite_f hb94 hM
     refine run_skip ?_
     refine run_sr ?_
     refine yL rfl ?_
     refine yL rfl ?_
     refine yD hG rfl ?_
     obtain ⟨r100, hg101, hM⟩ := bind_t hM
     refine yK rfl (s_l09More_ok q5 f5 ks5 k70 n70 q70 f70 ks70 hg101 _ _) (callK_retX (fun v tk102 (hle103 : tk89 ≤ tk102) h104 => ?_))
     obtain ⟨q105, f105, ks105, rfl, rfl, hf106⟩ := h104
     refine yL rfl ?_
     refine yB rfl ?_
     obtain ⟨r107, hg108, hM⟩ := bind_t hM
     refine yK rfl (ih_s_l00Src_expr (.bor 0) fc72 c72 c73 c74 q105 f105 ks105 (IntKind.i64.wrap (i6 - 2)) hg108 _ _ rfl) (callK_retV_bor (k := 0) rfl (fun v o' tk' h => by obtain ⟨_, _, _, _, _, _, _, _, rfl, rfl, _⟩ := h; rfl) (fun v o'124 tk109 (hle110 : tk102 ≤ tk109) h111 => ?_))
     obtain ⟨ra120, ra121, va122, va123, fc116, c116, c117, c118, rfl, rfl, rfl, ⟨k112, n112, p112, e112, fs112, q112, f112, ks112, rfl, rfl, hf113⟩, ⟨k114, n114, q114, f114, ks114, rfl, rfl, hf115⟩⟩ := h111
     refine yL rfl ?_
     refine run_pu rfl (extract_step rfl rfl rfl) rfl (ltb rfl) ?_
     refine run_pu rfl (extract_step rfl rfl rfl) rfl (ltb rfl) ?_
     refine run_op rfl (alloc_step (d := 13) hG rfl rfl rfl) rfl (ltb rfl) ?_
     refine run_op rfl (alloc_step (d := 14) hG rfl rfl rfl) rfl (ltb rfl) ?_
     refine yS hG rfl ?_
     refine yS hG rfl ?_
     refine yN ?_
     refine run_sub_code (σ' := ⟨[(0, .optr (.bor 0) 0 0), (1, .imm q5 3 f5 (fcellss ks5)), (2, .int .i64 i6), (6, .optr (.loc 6) 0 0), (7, .optr (.loc 7) 0 0), (11, .optr (.loc 11) 0 0), (12, .optr (.loc 12) 0 0), (13, .optr (.loc 13) 0 0), (14, .optr (.loc 14) 0 0)], [(14, ⟨42, 3, true, [[.int .i64 k114, .int .i64 n114, .imm q114 3 f114 (fcellss ks114)]]⟩), (13, ⟨40, 4, true, [[.int .i64 k112, .int .i64 n112, .imm p112 3 e112 (fcellss fs112), .imm q112 4 f112 (pcellss ks112)]]⟩), (12, ⟨42, 3, true, [[.int .i64 k70, .int .i64 n70, .imm q70 3 f70 (fcellss ks70)]]⟩), (11, ⟨40, 4, true, [[.int .i64 k68, .int .i64 n68, .imm p68 3 e68 (fcellss fs68), .imm q68 4 f68 (pcellss ks68)]]⟩), (7, ⟨42, 3, true, [[.int .i64 0, .int .i64 0, .imm 0 3 true []]]⟩), (6, ⟨40, 4, true, [[.int .i64 0, .int .i64 0, .imm 0 3 true [], .imm 0 4 true []]]⟩)], [⟨156, 3, true, [[.imm 0 1 fc116 ((c116 : List Int).map fun n => [AV.int .u8 n]), .int .i64 c117, .int .i64 c118]]⟩], O, tk109⟩) (Sub.trans (Sub.drop (k := 10) rfl) (Sub.trans (Sub.drop (k := 9) rfl) (Sub.env _ ⟨rfl, rfl, rfl, rfl, rfl, rfl, rfl, rfl, rfl, trivial⟩))) ?_
     refine run_seq ?_
     refine run_draw [.loc 6, .loc 7] (n := 11) mixed rfl (by intro x hx; simp only [List.mem_cons, List.not_mem_nil, or_false] at hx; rcases hx with rfl | rfl <;> rfl) ?_
     refine yTL hG 0 (by kernel_rfl) rfl ?_
     refine yTL hG 2 (by kernel_rfl) rfl ?_
     refine yTL hG 5 (by kernel_rfl) rfl ?_
     refine yTL hG 8 (by kernel_rfl) rfl ?_
     refine AAny.each (rs := [1, 3]) (by kernel_rfl) (fun h => by cases h) (fun i hi => ?_)
     simp only [List.mem_cons, List.not_mem_nil, or_false] at hi
     rcases hi with rfl | rfl
     ·refine AOp.step rfl rfl rfl (ltb rfl) (buildSlice_step (d := 91) hG rfl rfl rfl rfl rfl (by rfl) (by rfl) (by rfl) (by decide)) yE ?_
      refine AAny.one (i := 3) (by kernel_rfl) (AOp.step rfl rfl rfl (ltb rfl) (buildSlice_step (d := 93) hG rfl rfl rfl rfl rfl (by rfl) (by rfl) (by rfl) (by decide)) yE ?_)
      refine yT 4 (by kernel_rfl) rfl rfl rfl (ltb rfl) ((build_step hG rfl (by rfl) rfl (fun h => by cases h) (by rfl)).rd _) ?_
      refine AAny.sub (Sub.freeze (k := 91) rfl rfl) (by intro x hx; simp only [List.mem_cons, List.not_mem_nil, or_false] at hx; rcases hx with rfl | rfl <;> rfl) ?_
      refine AAny.sub (Sub.freeze (k := 93) rfl rfl) (by intro x hx; simp only [List.mem_cons, List.not_mem_nil, or_false] at hx; rcases hx with rfl | rfl <;> rfl) ?_
      refine AAny.one (i := 6) (by kernel_rfl) (AOp.step rfl rfl rfl (ltb rfl) (buildSlice_step (d := 96) hG rfl rfl rfl rfl rfl (by rfl) (by rfl) (by rfl) (by decide)) yE ?_)
      refine yT 7 (by kernel_rfl) rfl rfl rfl (ltb rfl) ((build_step hG rfl (by rfl) rfl (fun h => by cases h) (by rfl)).rd _) ?_
      refine yW hG 9 (by kernel_rfl) rfl (by kernel_rfl) rfl ?_
      refine yW hG 10 (by kernel_rfl) rfl (by kernel_rfl) rfl ?_
      refine AAny.done (by kernel_rfl) ?_
      refine run_ret_to ?_
      refine cut_ret ?_
      refine fin_sub (Sub.freeze (k := 96) rfl rfl) ?_
      replace hM := some_t hM
      subst hM
      refine fin_x hG rfl rfl rfl (v' := .tup [.agg [.int .i64 2, .int .i64 0, .imm 0 3 true (fcellss []), .imm ((tk109 + 1) + 1) 4 false (pcellss [LP.mk 3 0 tk109 false [LF.mk k70 n70 q70 f70 ks70] (tk109 + 1) false [LP.mk k112 n112 p112 e112 fs112 q112 f112 ks112], LP.mk k68 n68 p68 e68 fs68 q68 f68 ks68])], .agg [.int .i64 k114, .int .i64 n114, .imm q114 3 f114 (fcellss ks114)]]) (by rfl) ⟨_, ⟨156, 3, true, [[.imm 0 1 fc116 ((c116 : List Int).map fun n => [AV.int .u8 n]), .int .i64 c117, .int .i64 c118]]⟩, rfl, rfl, (show tk ≤ (((tk109 + 1) + 1) + 1) by omega), ⟨_, _, _, _, fc116, c116, c117, c118, rfl, rfl, rfl, ⟨2, 0, 0, true, [], ((tk109 + 1) + 1), false, [LP.mk 3 0 tk109 false [LF.mk k70 n70 q70 f70 ks70] (tk109 + 1) false [LP.mk k112 n112 p112 e112 fs112 q112 f112 ks112], LP.mk k68 n68 p68 e68 fs68 q68 f68 ks68], rfl, rfl, fun h => by cases h⟩, ⟨k114, n114, q114, f114, ks114, rfl, rfl, fun h => by cases h⟩⟩⟩
     refine AOp.step rfl rfl rfl (ltb rfl) (buildSlice_step (d := 93) hG rfl rfl rfl rfl rfl (by rfl) (by rfl) (by rfl) (by decide)) yE ?_
     refine AAny.one (i := 1) (by kernel_rfl) (AOp.step rfl rfl rfl (ltb rfl) (buildSlice_step (d := 91) hG rfl rfl rfl rfl rfl (by rfl) (by rfl) (by rfl) (by decide)) yE ?_)
     refine yT 4 (by kernel_rfl) rfl rfl rfl (ltb rfl) ((build_step hG rfl (by rfl) rfl (fun h => by cases h) (by rfl)).rd _) ?_
     refine AAny.sub (Sub.freeze (k := 91) rfl rfl) (by intro x hx; simp only [List.mem_cons, List.not_mem_nil, or_false] at hx; rcases hx with rfl | rfl <;> rfl) ?_
     refine AAny.sub (Sub.freeze (k := 93) rfl rfl) (by intro x hx; simp only [List.mem_cons, List.not_mem_nil, or_false] at hx; rcases hx with rfl | rfl <;> rfl) ?_
     refine AAny.one (i := 6) (by kernel_rfl) (AOp.step rfl rfl rfl (ltb rfl) (buildSlice_step (d := 96) hG rfl rfl rfl rfl rfl (by rfl) (by rfl) (by rfl) (by decide)) yE ?_)
     refine yT 7 (by kernel_rfl) rfl rfl rfl (ltb rfl) ((build_step hG rfl (by rfl) rfl (fun h => by cases h) (by rfl)).rd _) ?_
     refine yW hG 9 (by kernel_rfl) rfl (by kernel_rfl) rfl ?_
     refine yW hG 10 (by kernel_rfl) rfl (by kernel_rfl) rfl ?_
     refine AAny.done (by kernel_rfl) ?_
     refine run_ret_to ?_
     refine cut_ret ?_
     refine fin_sub (Sub.freeze (k := 96) rfl rfl) ?_
     replace hM := some_t hM
     subst hM
     refine fin_x hG rfl rfl rfl (v' := .tup [.agg [.int .i64 2, .int .i64 0, .imm 0 3 true (fcellss []), .imm ((tk109 + 1) + 1) 4 false (pcellss [LP.mk 3 0 tk109 false [LF.mk k70 n70 q70 f70 ks70] (tk109 + 1) false [LP.mk k112 n112 p112 e112 fs112 q112 f112 ks112], LP.mk k68 n68 p68 e68 fs68 q68 f68 ks68])], .agg [.int .i64 k114, .int .i64 n114, .imm q114 3 f114 (fcellss ks114)]]) (by rfl) ⟨_, ⟨156, 3, true, [[.imm 0 1 fc116 ((c116 : List Int).map fun n => [AV.int .u8 n]), .int .i64 c117, .int .i64 c118]]⟩, rfl, rfl, (show tk ≤ (((tk109 + 1) + 1) + 1) by omega), ⟨_, _, _, _, fc116, c116, c117, c118, rfl, rfl, rfl, ⟨2, 0, 0, true, [], ((tk109 + 1) + 1), false, [LP.mk 3 0 tk109 false [LF.mk k70 n70 q70 f70 ks70] (tk109 + 1) false [LP.mk k112 n112 p112 e112 fs112 q112 f112 ks112], LP.mk k68 n68 p68 e68 fs68 q68 f68 ks68], rfl, rfl, fun h => by cases h⟩, ⟨k114, n114, q114, f114, ks114, rfl, rfl, fun h => by cases h⟩⟩⟩
    replace hM := ite_f hb81 hM
    refine AAny.off (i := 4) rfl (by kernel_rfl) (by kernel_rfl) (by kernel_rfl) (on_of rfl rfl rfl rfl) rfl (ltb rfl) ?_
    refine AAny.off (i := 5) rfl (by kernel_rfl) (by kernel_rfl) (by kernel_rfl) (on_of rfl rfl rfl rfl) rfl (ltb rfl) ?_
    refine AAny.off (i := 6) rfl (by kernel_rfl) (by kernel_rfl) (by kernel_rfl) (on_of rfl rfl rfl rfl) rfl (ltb rfl) ?_
    refine AAny.off (i := 7) rfl (by kernel_rfl) (by kernel_rfl) (by kernel_rfl) (on_of rfl rfl rfl rfl) rfl (ltb rfl) ?_
    refine AAny.off (i := 8) rfl (by kernel_rfl) (by kernel_rfl) (by kernel_rfl) (on_of rfl rfl rfl rfl) rfl (ltb rfl) ?_
    refine AAny.off (i := 9) rfl (by kernel_rfl) (by kernel_rfl) (by kernel_rfl) (on_of rfl rfl rfl rfl) rfl (ltb rfl) ?_
    refine yT 10 (by kernel_rfl) rfl rfl rfl (ltb rfl) ((pick_step rfl rfl rfl).rd _) ?_
    refine AAny.done (by kernel_rfl) ?_
    refine run_sub_code (σ' := ⟨[(0, .optr (.bor 0) 0 0), (1, .imm q5 3 f5 (fcellss ks5)), (2, .int .i64 i6), (6, .optr (.loc 6) 0 0), (7, .optr (.loc 7) 0 0), (9, .optr (.loc 9) 0 0), (10, .optr (.loc 10) 0 0), (11, .optr (.loc 11) 0 0), (12, .optr (.loc 12) 0 0), (71, .bool false)], [(12, ⟨42, 3, true, [[.int .i64 k70, .int .i64 n70, .imm q70 3 f70 (fcellss ks70)]]⟩), (11, ⟨40, 4, true, [[.int .i64 k68, .int .i64 n68, .imm p68 3 e68 (fcellss fs68), .imm q68 4 f68 (pcellss ks68)]]⟩), (10, ⟨42, 3, true, [[.int .i64 k52, .int .i64 n52, .imm q52 3 f52 (fcellss ks52)]]⟩), (9, ⟨40, 4, true, [[.int .i64 k50, .int .i64 n50, .imm p50 3 e50 (fcellss fs50), .imm q50 4 f50 (pcellss ks50)]]⟩), (7, ⟨42, 3, true, [[.int .i64 0, .int .i64 0, .imm 0 3 true []]]⟩), (6, ⟨40, 4, true, [[.int .i64 0, .int .i64 0, .imm 0 3 true [], .imm 0 4 true []]]⟩)], [⟨156, 3, true, [[.imm 0 1 fc72 ((c72 : List Int).map fun n => [AV.int .u8 n]), .int .i64 c73, .int .i64 c74]]⟩], O, tk65⟩) (Sub.env _ ⟨rfl, rfl, rfl, rfl, rfl, rfl, rfl, rfl, rfl, rfl, trivial⟩) ?_
    refine run_if rfl rfl (fun h => by cases h) (fun _ => ?_)
    refine run_skip ?_
    refine run_sr ?_
    refine yL rfl ?_
    refine yL rfl ?_
    refine yD hG rfl ?_
    obtain ⟨r125, hg126, hM⟩ := bind_t hM
    refine yK rfl (s_l09More_ok q5 f5 ks5 k70 n70 q70 f70 ks70 hg126 _ _) (callK_retX (fun v tk127 (hle128 : tk65 ≤ tk127) h129 => ?_))
    obtain ⟨q130, f130, ks130, rfl, rfl, hf131⟩ := h129
    refine yL rfl ?_
    refine yB rfl ?_
    obtain ⟨r132, hg133, hM⟩ := bind_t hM
    refine yK rfl (ih_s_l00Src_expr (.bor 0) fc72 c72 c73 c74 q130 f130 ks130 (IntKind.i64.wrap (i6 - 2)) hg133 _ _ rfl) (callK_retV_bor (k := 0) rfl (fun v o' tk' h => by obtain ⟨_, _, _, _, _, _, _, _, rfl, rfl, _⟩ := h; rfl) (fun v o'149 tk134 (hle135 : tk127 ≤ tk134) h136 => ?_))
    obtain ⟨ra145, ra146, va147, va148, fc141, c141, c142, c143, rfl, rfl, rfl, ⟨k137, n137, p137, e137, fs137, q137, f137, ks137, rfl, rfl, hf138⟩, ⟨k139, n139, q139, f139, ks139, rfl, rfl, hf140⟩⟩ := h136
    refine yL rfl ?_
    refine run_pu rfl (extract_step rfl rfl rfl) rfl (ltb rfl) ?_
    refine run_pu rfl (extract_step rfl rfl rfl) rfl (ltb rfl) ?_
    refine run_op rfl (alloc_step (d := 13) hG rfl rfl rfl) rfl (ltb rfl) ?_
    refine run_op rfl (alloc_step (d := 14) hG rfl rfl rfl) rfl (ltb rfl) ?_
    refine yS hG rfl ?_
    refine yS hG rfl ?_
    refine yN ?_
    refine run_sub_code (σ' := ⟨[(0, .optr (.bor 0) 0 0), (1, .imm q5 3 f5 (fcellss ks5)), (2, .int .i64 i6), (6, .optr (.loc 6) 0 0), (7, .optr (.loc 7) 0 0), (11, .optr (.loc 11) 0 0), (12, .optr (.loc 12) 0 0), (13, .optr (.loc 13) 0 0), (14, .optr (.loc 14) 0 0)], [(14, ⟨42, 3, true, [[.int .i64 k139, .int .i64 n139, .imm q139 3 f139 (fcellss ks139)]]⟩), (13, ⟨40, 4, true, [[.int .i64 k137, .int .i64 n137, .imm p137 3 e137 (fcellss fs137), .imm q137 4 f137 (pcellss ks137)]]⟩), (12, ⟨42, 3, true, [[.int .i64 k70, .int .i64 n70, .imm q70 3 f70 (fcellss ks70)]]⟩), (11, ⟨40, 4, true, [[.int .i64 k68, .int .i64 n68, .imm p68 3 e68 (fcellss fs68), .imm q68 4 f68 (pcellss ks68)]]⟩), (7, ⟨42, 3, true, [[.int .i64 0, .int .i64 0, .imm 0 3 true []]]⟩), (6, ⟨40, 4, true, [[.int .i64 0, .int .i64 0, .imm 0 3 true [], .imm 0 4 true []]]⟩)], [⟨156, 3, true, [[.imm 0 1 fc141 ((c141 : List Int).map fun n => [AV.int .u8 n]), .int .i64 c142, .int .i64 c143]]⟩], O, tk134⟩) (Sub.trans (Sub.drop (k := 10) rfl) (Sub.trans (Sub.drop (k := 9) rfl) (Sub.env _ ⟨rfl, rfl, rfl, rfl, rfl, rfl, rfl, rfl, rfl, trivial⟩))) ?_
    refine run_seq ?_
    refine run_draw [.loc 6, .loc 7] (n := 11) mixed rfl (by intro x hx; simp only [List.mem_cons, List.not_mem_nil, or_false] at hx; rcases hx with rfl | rfl <;> rfl) ?_
    refine yTL hG 0 (by kernel_rfl) rfl ?_
    refine yTL hG 2 (by kernel_rfl) rfl ?_
    refine yTL hG 5 (by kernel_rfl) rfl ?_
    refine yTL hG 8 (by kernel_rfl) rfl ?_
    refine AAny.each (rs := [1, 3]) (by kernel_rfl) (fun h => by cases h) (fun i hi => ?_)
    simp only [List.mem_cons, List.not_mem_nil, or_false] at hi
    rcases hi with rfl | rfl
    ·refine AOp.step rfl rfl rfl (ltb rfl) (buildSlice_step (d := 91) hG rfl rfl rfl rfl rfl (by rfl) (by rfl) (by rfl) (by decide)) yE ?_
     refine AAny.one (i := 3) (by kernel_rfl) (AOp.step rfl rfl rfl (ltb rfl) (buildSlice_step (d := 93) hG rfl rfl rfl rfl rfl (by rfl) (by rfl) (by rfl) (by decide)) yE ?_)
     refine yT 4 (by kernel_rfl) rfl rfl rfl (ltb rfl) ((build_step hG rfl (by rfl) rfl (fun h => by cases h) (by rfl)).rd _) ?_
     refine AAny.sub (Sub.freeze (k := 91) rfl rfl) (by intro x hx; simp only [List.mem_cons, List.not_mem_nil, or_false] at hx; rcases hx with rfl | rfl <;> rfl) ?_
     refine AAny.sub (Sub.freeze (k := 93) rfl rfl) (by intro x hx; simp only [List.mem_cons, List.not_mem_nil, or_false] at hx; rcases hx with rfl | rfl <;> rfl) ?_
     refine AAny.one (i := 6) (by kernel_rfl) (AOp.step rfl rfl rfl (ltb rfl) (buildSlice_step (d := 96) hG rfl rfl rfl rfl rfl (by rfl) (by rfl) (by rfl) (by decide)) yE ?_)
     refine yT 7 (by kernel_rfl) rfl rfl rfl (ltb rfl) ((build_step hG rfl (by rfl) rfl (fun h => by cases h) (by rfl)).rd _) ?_
     refine yW hG 9 (by kernel_rfl) rfl (by kernel_rfl) rfl ?_
     refine yW hG 10 (by kernel_rfl) rfl (by kernel_rfl) rfl ?_
     refine AAny.done (by kernel_rfl) ?_
     refine run_ret_to ?_
     refine cut_ret ?_
     refine fin_sub (Sub.freeze (k := 96) rfl rfl) ?_
     replace hM := some_t hM
     subst hM
     refine fin_x hG rfl rfl rfl (v' := .tup [.agg [.int .i64 2, .int .i64 0, .imm 0 3 true (fcellss []), .imm ((tk134 + 1) + 1) 4 false (pcellss [LP.mk 3 0 tk134 false [LF.mk k70 n70 q70 f70 ks70] (tk134 + 1) false [LP.mk k137 n137 p137 e137 fs137 q137 f137 ks137], LP.mk k68 n68 p68 e68 fs68 q68 f68 ks68])], .agg [.int .i64 k139, .int .i64 n139, .imm q139 3 f139 (fcellss ks139)]]) (by rfl) ⟨_, ⟨156, 3, true, [[.imm 0 1 fc141 ((c141 : List Int).map fun n => [AV.int .u8 n]), .int .i64 c142, .int .i64 c143]]⟩, rfl, rfl, (show tk ≤ (((tk134 + 1) + 1) + 1) by omega), ⟨_, _, _, _, fc141, c141, c142, c143, rfl, rfl, rfl, ⟨2, 0, 0, true, [], ((tk134 + 1) + 1), false, [LP.mk 3 0 tk134 false [LF.mk k70 n70 q70 f70 ks70] (tk134 + 1) false [LP.mk k137 n137 p137 e137 fs137 q137 f137 ks137], LP.mk k68 n68 p68 e68 fs68 q68 f68 ks68], rfl, rfl, fun h => by cases h⟩, ⟨k139, n139, q139, f139, ks139, rfl, rfl, fun h => by cases h⟩⟩⟩
    refine AOp.step rfl rfl rfl (ltb rfl) (buildSlice_step (d := 93) hG rfl rfl rfl rfl rfl (by rfl) (by rfl) (by rfl) (by decide)) yE ?_
    refine AAny.one (i := 1) (by kernel_rfl) (AOp.step rfl rfl rfl (ltb rfl) (buildSlice_step (d := 91) hG rfl rfl rfl rfl rfl (by rfl) (by rfl) (by rfl) (by decide)) yE ?_)
    refine yT 4 (by kernel_rfl) rfl rfl rfl (ltb rfl) ((build_step hG rfl (by rfl) rfl (fun h => by cases h) (by rfl)).rd _) ?_
    refine AAny.sub (Sub.freeze (k := 91) rfl rfl) (by intro x hx; simp only [List.mem_cons, List.not_mem_nil, or_false] at hx; rcases hx with rfl | rfl <;> rfl) ?_
    refine AAny.sub (Sub.freeze (k := 93) rfl rfl) (by intro x hx; simp only [List.mem_cons, List.not_mem_nil, or_false] at hx; rcases hx with rfl | rfl <;> rfl) ?_
    refine AAny.one (i := 6) (by kernel_rfl) (AOp.step rfl rfl rfl (ltb rfl) (buildSlice_step (d := 96) hG rfl rfl rfl rfl rfl (by rfl) (by rfl) (by rfl) (by decide)) yE ?_)
    refine yT 7 (by kernel_rfl) rfl rfl rfl (ltb rfl) ((build_step hG rfl (by rfl) rfl (fun h => by cases h) (by rfl)).rd _) ?_
    refine yW hG 9 (by kernel_rfl) rfl (by kernel_rfl) rfl ?_
    refine yW hG 10 (by kernel_rfl) rfl (by kernel_rfl) rfl ?_
    refine AAny.done (by kernel_rfl) ?_
    refine run_ret_to ?_
    refine cut_ret ?_
    refine fin_sub (Sub.freeze (k := 96) rfl rfl) ?_
    replace hM := some_t hM
    subst hM
    refine fin_x hG rfl rfl rfl (v' := .tup [.agg [.int .i64 2, .int .i64 0, .imm 0 3 true (fcellss []), .imm ((tk134 + 1) + 1) 4 false (pcellss [LP.mk 3 0 tk134 false [LF.mk k70 n70 q70 f70 ks70] (tk134 + 1) false [LP.mk k137 n137 p137 e137 fs137 q137 f137 ks137], LP.mk k68 n68 p68 e68 fs68 q68 f68 ks68])], .agg [.int .i64 k139, .int .i64 n139, .imm q139 3 f139 (fcellss ks139)]]) (by rfl) ⟨_, ⟨156, 3, true, [[.imm 0 1 fc141 ((c141 : List Int).map fun n => [AV.int .u8 n]), .int .i64 c142, .int .i64 c143]]⟩, rfl, rfl, (show tk ≤ (((tk134 + 1) + 1) + 1) by omega), ⟨_, _, _, _, fc141, c141, c142, c143, rfl, rfl, rfl, ⟨2, 0, 0, true, [], ((tk134 + 1) + 1), false, [LP.mk 3 0 tk134 false [LF.mk k70 n70 q70 f70 ks70] (tk134 + 1) false [LP.mk k137 n137 p137 e137 fs137 q137 f137 ks137], LP.mk k68 n68 p68 e68 fs68 q68 f68 ks68], rfl, rfl, fun h => by cases h⟩, ⟨k139, n139, q139, f139, ks139, rfl, rfl, fun h => by cases h⟩⟩⟩
   replace hM := ite_f hb44 hM
   refine run_skip ?_
   exact ⟨fc39, c39, c40, c41, tk34, (show tkj7 ≤ tk34 by omega), hM, Sub.pk [0, 1, 2, 6, 7] rfl⟩
  replace hM := ite_f hb31 hM
  refine yO rfl ?_
  refine yO rfl ?_
  refine yP rfl ?_
  refine yN ?_
  refine run_if rfl rfl (fun h => by cases h) (fun _ => ?_)
  refine run_skip ?_
  exact ⟨f2, l2, i3, i4, tkj7, (show tkj7 ≤ tkj7 by omega), hM, Sub.pk [0, 1, 2, 6, 7] rfl⟩
 clear hM
 rintro σ' ⟨f28, l28, i29, i30, tkj27, hle187, hM, hsub⟩
 rw [hj188] at hM
 clear hj188
 refine run_sub_code hsub ?_
 refine run_sr ?_
 refine yL rfl ?_
 obtain ⟨r150, hg151, hM⟩ := bind_t hM
 refine yK rfl (s_l00Src_tyType_ok n (.bor 0) f28 l28 i29 i30 1 hg151 _ _ rfl) (callK_retV_bor (k := 0) rfl (fun v o' tk' h => by obtain ⟨_, _, _, _, _, rfl, rfl, _⟩ := h; rfl) (fun v o'161 tk152 (hle153 : tkj27 ≤ tk152) h154 => ?_))
 obtain ⟨ra160, fc157, c157, c158, c159, rfl, rfl, ⟨k155, n155, q155, f155, ks155, rfl, rfl, hf156⟩⟩ := h154
 refine run_op rfl (alloc_step (d := 15) hG rfl rfl rfl) rfl (ltb rfl) ?_
 refine yS hG rfl ?_
 refine yN ?_
 refine run_sr ?_
 refine yL rfl ?_
 refine yL rfl ?_
 refine yD hG rfl ?_
 obtain ⟨r162, hg163, hM⟩ := bind_t hM
 refine yK rfl (s_l09More_ok q5 f5 ks5 k155 n155 q155 f155 ks155 hg163 _ _) (callK_retX (fun v tk164 (hle165 : tk152 ≤ tk164) h166 => ?_))
 obtain ⟨q167, f167, ks167, rfl, rfl, hf168⟩ := h166
 refine yL rfl ?_
 refine yB rfl ?_
 obtain ⟨r169, hg170, hM⟩ := bind_t hM
 refine yK rfl (ih_s_l00Src_expr (.bor 0) fc157 c157 c158 c159 q167 f167 ks167 (IntKind.i64.wrap (i6 - 1)) hg170 _ _ rfl) (callK_retV_bor (k := 0) rfl (fun v o' tk' h => by obtain ⟨_, _, _, _, _, _, _, _, rfl, rfl, _⟩ := h; rfl) (fun v o'186 tk171 (hle172 : tk164 ≤ tk171) h173 => ?_))
 obtain ⟨ra182, ra183, va184, va185, fc178, c178, c179, c180, rfl, rfl, rfl, ⟨k174, n174, p174, e174, fs174, q174, f174, ks174, rfl, rfl, hf175⟩, ⟨k176, n176, q176, f176, ks176, rfl, rfl, hf177⟩⟩ := h173
 refine yL rfl ?_
 refine run_pu rfl (extract_step rfl rfl rfl) rfl (ltb rfl) ?_
 refine run_pu rfl (extract_step rfl rfl rfl) rfl (ltb rfl) ?_
 refine run_op rfl (alloc_step (d := 16) hG rfl rfl rfl) rfl (ltb rfl) ?_
 refine run_op rfl (alloc_step (d := 17) hG rfl rfl rfl) rfl (ltb rfl) ?_
 refine yS hG rfl ?_
 refine yS hG rfl ?_
 refine yN ?_
 refine run_sub_code (σ' := ⟨[(6, .optr (.loc 6) 0 0), (7, .optr (.loc 7) 0 0), (15, .optr (.loc 15) 0 0), (16, .optr (.loc 16) 0 0), (17, .optr (.loc 17) 0 0)], [(17, ⟨42, 3, true, [[.int .i64 k176, .int .i64 n176, .imm q176 3 f176 (fcellss ks176)]]⟩), (16, ⟨40, 4, true, [[.int .i64 k174, .int .i64 n174, .imm p174 3 e174 (fcellss fs174), .imm q174 4 f174 (pcellss ks174)]]⟩), (15, ⟨42, 3, true, [[.int .i64 k155, .int .i64 n155, .imm q155 3 f155 (fcellss ks155)]]⟩), (7, ⟨42, 3, true, [[.int .i64 0, .int .i64 0, .imm 0 3 true []]]⟩), (6, ⟨40, 4, true, [[.int .i64 0, .int .i64 0, .imm 0 3 true [], .imm 0 4 true []]]⟩)], [⟨156, 3, true, [[.imm 0 1 fc178 ((c178 : List Int).map fun n => [AV.int .u8 n]), .int .i64 c179, .int .i64 c180]]⟩], O, tk171⟩) (Sub.env _ ⟨rfl, rfl, rfl, rfl, rfl, trivial⟩) ?_
 refine run_seq ?_
 refine run_draw [.loc 6, .loc 7] (n := 10) mixed rfl (by intro x hx; simp only [List.mem_cons, List.not_mem_nil, or_false] at hx; rcases hx with rfl | rfl <;> rfl) ?_
 refine yTL hG 0 (by kernel_rfl) rfl ?_
 refine yTL hG 2 (by kernel_rfl) rfl ?_
 refine yTL hG 5 (by kernel_rfl) rfl ?_
 refine yTL hG 6 (by kernel_rfl) rfl ?_
 refine AAny.each (rs := [1, 3, 7]) (by kernel_rfl) (fun h => by cases h) (fun i hi => ?_)
 simp only [List.mem_cons, List.not_mem_nil, or_false] at hi
 rcases hi with rfl | rfl | rfl
 ·refine AOp.step rfl rfl rfl (ltb rfl) (buildSlice_step (d := 112) hG rfl rfl rfl rfl rfl (by rfl) (by rfl) (by rfl) (by decide)) yE ?_
  refine AAny.each (rs := [3, 7]) (by kernel_rfl) (fun h => by cases h) (fun i hi => ?_)
  simp only [List.mem_cons, List.not_mem_nil, or_false] at hi
  rcases hi with rfl | rfl
  ·refine AOp.step rfl rfl rfl (ltb rfl) (buildSlice_step (d := 114) hG rfl rfl rfl rfl rfl (by rfl) (by rfl) (by rfl) (by decide)) yE ?_
   refine yT 4 (by kernel_rfl) rfl rfl rfl (ltb rfl) ((build_step hG rfl (by rfl) rfl (fun h => by cases h) (by rfl)).rd _) ?_
   refine yC 7 (by kernel_rfl) rfl rfl (s_l09Fun_ex k155 n155 q155 f155 ks155 k176 n176 q176 f176 ks176 _ _) (callK_retN ?_)
   skip
   refine yW hG 8 (by kernel_rfl) rfl (by kernel_rfl) rfl ?_
   refine yW hG 9 (by kernel_rfl) rfl (by kernel_rfl) rfl ?_
   refine AAny.done (by kernel_rfl) ?_
   refine run_ret_to ?_
   refine fin_sub (Sub.freeze (k := 112) rfl rfl) ?_
   refine fin_sub (Sub.freeze (k := 114) rfl rfl) ?_
   replace hM := some_t hM
   subst hM
   refine fin_x hG rfl rfl rfl (v' := .tup [.agg [.int .i64 3, .int .i64 0, .imm (tk171 + 1) 3 false (fcellss [LF.mk k155 n155 q155 f155 ks155]), .imm ((tk171 + 1) + 1) 4 false (pcellss [LP.mk k174 n174 p174 e174 fs174 q174 f174 ks174])], .agg [.int .i64 2, .int .i64 0, .imm tk171 3 false (fcellss [LF.mk k155 n155 q155 f155 ks155, LF.mk k176 n176 q176 f176 ks176])]]) (by rfl) ⟨_, ⟨156, 3, true, [[.imm 0 1 fc178 ((c178 : List Int).map fun n => [AV.int .u8 n]), .int .i64 c179, .int .i64 c180]]⟩, rfl, rfl, (show tk ≤ (((tk171 + 1) + 1) + 1) by omega), ⟨_, _, _, _, fc178, c178, c179, c180, rfl, rfl, rfl, ⟨3, 0, (tk171 + 1), false, [LF.mk k155 n155 q155 f155 ks155], ((tk171 + 1) + 1), false, [LP.mk k174 n174 p174 e174 fs174 q174 f174 ks174], rfl, rfl, fun h => by cases h⟩, ⟨2, 0, tk171, false, [LF.mk k155 n155 q155 f155 ks155, LF.mk k176 n176 q176 f176 ks176], rfl, rfl, fun h => by cases h⟩⟩⟩
  refine yI rfl rfl (s_l09Fun_ex k155 n155 q155 f155 ks155 k176 n176 q176 f176 ks176 _ _) (callK_retN ?_)
  skip
  refine AAny.one (i := 3) (by kernel_rfl) (AOp.step rfl rfl rfl (ltb rfl) (buildSlice_step (d := 114) hG rfl rfl rfl rfl rfl (by rfl) (by rfl) (by rfl) (by decide)) yE ?_)
  refine yT 4 (by kernel_rfl) rfl rfl rfl (ltb rfl) ((build_step hG rfl (by rfl) rfl (fun h => by cases h) (by rfl)).rd _) ?_
  refine yW hG 8 (by kernel_rfl) rfl (by kernel_rfl) rfl ?_
  refine yW hG 9 (by kernel_rfl) rfl (by kernel_rfl) rfl ?_
  refine AAny.done (by kernel_rfl) ?_
  refine run_ret_to ?_
  refine fin_sub (Sub.freeze (k := 112) rfl rfl) ?_
  refine fin_sub (Sub.freeze (k := 114) rfl rfl) ?_
  replace hM := some_t hM
  subst hM
  refine fin_x hG rfl rfl rfl (v' := .tup [.agg [.int .i64 3, .int .i64 0, .imm (tk171 + 1) 3 false (fcellss [LF.mk k155 n155 q155 f155 ks155]), .imm ((tk171 + 1) + 1) 4 false (pcellss [LP.mk k174 n174 p174 e174 fs174 q174 f174 ks174])], .agg [.int .i64 2, .int .i64 0, .imm tk171 3 false (fcellss [LF.mk k155 n155 q155 f155 ks155, LF.mk k176 n176 q176 f176 ks176])]]) (by rfl) ⟨_, ⟨156, 3, true, [[.imm 0 1 fc178 ((c178 : List Int).map fun n => [AV.int .u8 n]), .int .i64 c179, .int .i64 c180]]⟩, rfl, rfl, (show tk ≤ (((tk171 + 1) + 1) + 1) by omega), ⟨_, _, _, _, fc178, c178, c179, c180, rfl, rfl, rfl, ⟨3, 0, (tk171 + 1), false, [LF.mk k155 n155 q155 f155 ks155], ((tk171 + 1) + 1), false, [LP.mk k174 n174 p174 e174 fs174 q174 f174 ks174], rfl, rfl, fun h => by cases h⟩, ⟨2, 0, tk171, false, [LF.mk k155 n155 q155 f155 ks155, LF.mk k176 n176 q176 f176 ks176], rfl, rfl, fun h => by cases h⟩⟩⟩
 ·refine AOp.step rfl rfl rfl (ltb rfl) (buildSlice_step (d := 114) hG rfl rfl rfl rfl rfl (by rfl) (by rfl) (by rfl) (by decide)) yE ?_
  refine AAny.each (rs := [1, 7]) (by kernel_rfl) (fun h => by cases h) (fun i hi => ?_)
  simp only [List.mem_cons, List.not_mem_nil, or_false] at hi
  rcases hi with rfl | rfl
  ·refine AOp.step rfl rfl rfl (ltb rfl) (buildSlice_step (d := 112) hG rfl rfl rfl rfl rfl (by rfl) (by rfl) (by rfl) (by decide)) yE ?_
   refine yT 4 (by kernel_rfl) rfl rfl rfl (ltb rfl) ((build_step hG rfl (by rfl) rfl (fun h => by cases h) (by rfl)).rd _) ?_
   refine yC 7 (by kernel_rfl) rfl rfl (s_l09Fun_ex k155 n155 q155 f155 ks155 k176 n176 q176 f176 ks176 _ _) (callK_retN ?_)
   skip
   refine yW hG 8 (by kernel_rfl) rfl (by kernel_rfl) rfl ?_
   refine yW hG 9 (by kernel_rfl) rfl (by kernel_rfl) rfl ?_
   refine AAny.done (by kernel_rfl) ?_
   refine run_ret_to ?_
   refine fin_sub (Sub.freeze (k := 112) rfl rfl) ?_
   refine fin_sub (Sub.freeze (k := 114) rfl rfl) ?_
   replace hM := some_t hM
   subst hM
   refine fin_x hG rfl rfl rfl (v' := .tup [.agg [.int .i64 3, .int .i64 0, .imm (tk171 + 1) 3 false (fcellss [LF.mk k155 n155 q155 f155 ks155]), .imm ((tk171 + 1) + 1) 4 false (pcellss [LP.mk k174 n174 p174 e174 fs174 q174 f174 ks174])], .agg [.int .i64 2, .int .i64 0, .imm tk171 3 false (fcellss [LF.mk k155 n155 q155 f155 ks155, LF.mk k176 n176 q176 f176 ks176])]]) (by rfl) ⟨_, ⟨156, 3, true, [[.imm 0 1 fc178 ((c178 : List Int).map fun n => [AV.int .u8 n]), .int .i64 c179, .int .i64 c180]]⟩, rfl, rfl, (show tk ≤ (((tk171 + 1) + 1) + 1) by omega), ⟨_, _, _, _, fc178, c178, c179, c180, rfl, rfl, rfl, ⟨3, 0, (tk171 + 1), false, [LF.mk k155 n155 q155 f155 ks155], ((tk171 + 1) + 1), false, [LP.mk k174 n174 p174 e174 fs174 q174 f174 ks174], rfl, rfl, fun h => by cases h⟩, ⟨2, 0, tk171, false, [LF.mk k155 n155 q155 f155 ks155, LF.mk k176 n176 q176 f176 ks176], rfl, rfl, fun h => by cases h⟩⟩⟩
  refine yI rfl rfl (s_l09Fun_ex k155 n155 q155 f155 ks155 k176 n176 q176 f176 ks176 _ _) (callK_retN ?_)
  skip
  refine AAny.one (i := 1) (by kernel_rfl) (AOp.step rfl rfl rfl (ltb rfl) (buildSlice_step (d := 112) hG rfl rfl rfl rfl rfl (by rfl) (by rfl) (by rfl) (by decide)) yE ?_)
  refine yT 4 (by kernel_rfl) rfl rfl rfl (ltb rfl) ((build_step hG rfl (by rfl) rfl (fun h => by cases h) (by rfl)).rd _) ?_
  refine yW hG 8 (by kernel_rfl) rfl (by kernel_rfl) rfl ?_
  refine yW hG 9 (by kernel_rfl) rfl (by kernel_rfl) rfl ?_
  refine AAny.done (by kernel_rfl) ?_
  refine run_ret_to ?_
  refine fin_sub (Sub.freeze (k := 112) rfl rfl) ?_
  refine fin_sub (Sub.freeze (k := 114) rfl rfl) ?_
  replace hM := some_t hM
  subst hM
  refine fin_x hG rfl rfl rfl (v' := .tup [.agg [.int .i64 3, .int .i64 0, .imm (tk171 + 1) 3 false (fcellss [LF.mk k155 n155 q155 f155 ks155]), .imm ((tk171 + 1) + 1) 4 false (pcellss [LP.mk k174 n174 p174 e174 fs174 q174 f174 ks174])], .agg [.int .i64 2, .int .i64 0, .imm tk171 3 false (fcellss [LF.mk k155 n155 q155 f155 ks155, LF.mk k176 n176 q176 f176 ks176])]]) (by rfl) ⟨_, ⟨156, 3, true, [[.imm 0 1 fc178 ((c178 : List Int).map fun n => [AV.int .u8 n]), .int .i64 c179, .int .i64 c180]]⟩, rfl, rfl, (show tk ≤ (((tk171 + 1) + 1) + 1) by omega), ⟨_, _, _, _, fc178, c178, c179, c180, rfl, rfl, rfl, ⟨3, 0, (tk171 + 1), false, [LF.mk k155 n155 q155 f155 ks155], ((tk171 + 1) + 1), false, [LP.mk k174 n174 p174 e174 fs174 q174 f174 ks174], rfl, rfl, fun h => by cases h⟩, ⟨2, 0, tk171, false, [LF.mk k155 n155 q155 f155 ks155, LF.mk k176 n176 q176 f176 ks176], rfl, rfl, fun h => by cases h⟩⟩⟩
 refine yI rfl rfl (s_l09Fun_ex k155 n155 q155 f155 ks155 k176 n176 q176 f176 ks176 _ _) (callK_retN ?_)
 skip
 refine AAny.each (rs := [1, 3]) (by kernel_rfl) (fun h => by cases h) (fun i hi => ?_)
 simp only [List.mem_cons, List.not_mem_nil, or_false] at hi
 rcases hi with rfl | rfl
 ·refine AOp.step rfl rfl rfl (ltb rfl) (buildSlice_step (d := 112) hG rfl rfl rfl rfl rfl (by rfl) (by rfl) (by rfl) (by decide)) yE ?_
  refine AAny.one (i := 3) (by kernel_rfl) (AOp.step rfl rfl rfl (ltb rfl) (buildSlice_step (d := 114) hG rfl rfl rfl rfl rfl (by rfl) (by rfl) (by rfl) (by decide)) yE ?_)
  refine yT 4 (by kernel_rfl) rfl rfl rfl (ltb rfl) ((build_step hG rfl (by rfl) rfl (fun h => by cases h) (by rfl)).rd _) ?_
  refine yW hG 8 (by kernel_rfl) rfl (by kernel_rfl) rfl ?_
  refine yW hG 9 (by kernel_rfl) rfl (by kernel_rfl) rfl ?_
  refine AAny.done (by kernel_rfl) ?_
  refine run_ret_to ?_
  refine fin_sub (Sub.freeze (k := 112) rfl rfl) ?_
  refine fin_sub (Sub.freeze (k := 114) rfl rfl) ?_
  replace hM := some_t hM
  subst hM
  refine fin_x hG rfl rfl rfl (v' := .tup [.agg [.int .i64 3, .int .i64 0, .imm (tk171 + 1) 3 false (fcellss [LF.mk k155 n155 q155 f155 ks155]), .imm ((tk171 + 1) + 1) 4 false (pcellss [LP.mk k174 n174 p174 e174 fs174 q174 f174 ks174])], .agg [.int .i64 2, .int .i64 0, .imm tk171 3 false (fcellss [LF.mk k155 n155 q155 f155 ks155, LF.mk k176 n176 q176 f176 ks176])]]) (by rfl) ⟨_, ⟨156, 3, true, [[.imm 0 1 fc178 ((c178 : List Int).map fun n => [AV.int .u8 n]), .int .i64 c179, .int .i64 c180]]⟩, rfl, rfl, (show tk ≤ (((tk171 + 1) + 1) + 1) by omega), ⟨_, _, _, _, fc178, c178, c179, c180, rfl, rfl, rfl, ⟨3, 0, (tk171 + 1), false, [LF.mk k155 n155 q155 f155 ks155], ((tk171 + 1) + 1), false, [LP.mk k174 n174 p174 e174 fs174 q174 f174 ks174], rfl, rfl, fun h => by cases h⟩, ⟨2, 0, tk171, false, [LF.mk k155 n155 q155 f155 ks155, LF.mk k176 n176 q176 f176 ks176], rfl, rfl, fun h => by cases h⟩⟩⟩
 refine AOp.step rfl rfl rfl (ltb rfl) (buildSlice_step (d := 114) hG rfl rfl rfl rfl rfl (by rfl) (by rfl) (by rfl) (by decide)) yE ?_
 refine AAny.one (i := 1) (by kernel_rfl) (AOp.step rfl rfl rfl (ltb rfl) (buildSlice_step (d := 112) hG rfl rfl rfl rfl rfl (by rfl) (by rfl) (by rfl) (by decide)) yE ?_)
 refine yT 4 (by kernel_rfl) rfl rfl rfl (ltb rfl) ((build_step hG rfl (by rfl) rfl (fun h => by cases h) (by rfl)).rd _) ?_
 refine yW hG 8 (by kernel_rfl) rfl (by kernel_rfl) rfl ?_
 refine yW hG 9 (by kernel_rfl) rfl (by kernel_rfl) rfl ?_
 refine AAny.done (by kernel_rfl) ?_
 refine run_ret_to ?_
 refine fin_sub (Sub.freeze (k := 112) rfl rfl) ?_
 refine fin_sub (Sub.freeze (k := 114) rfl rfl) ?_
 replace hM := some_t hM
 subst hM
 refine fin_x hG rfl rfl rfl (v' := .tup [.agg [.int .i64 3, .int .i64 0, .imm (tk171 + 1) 3 false (fcellss [LF.mk k155 n155 q155 f155 ks155]), .imm ((tk171 + 1) + 1) 4 false (pcellss [LP.mk k174 n174 p174 e174 fs174 q174 f174 ks174])], .agg [.int .i64 2, .int .i64 0, .imm tk171 3 false (fcellss [LF.mk k155 n155 q155 f155 ks155, LF.mk k176 n176 q176 f176 ks176])]]) (by rfl) ⟨_, ⟨156, 3, true, [[.imm 0 1 fc178 ((c178 : List Int).map fun n => [AV.int .u8 n]), .int .i64 c179, .int .i64 c180]]⟩, rfl, rfl, (show tk ≤ (((tk171 + 1) + 1) + 1) by omega), ⟨_, _, _, _, fc178, c178, c179, c180, rfl, rfl, rfl, ⟨3, 0, (tk171 + 1), false, [LF.mk k155 n155 q155 f155 ks155], ((tk171 + 1) + 1), false, [LP.mk k174 n174 p174 e174 fs174 q174 f174 ks174], rfl, rfl, fun h => by cases h⟩, ⟨2, 0, tk171, false, [LF.mk k155 n155 q155 f155 ks155, LF.mk k176 n176 q176 f176 ks176], rfl, rfl, fun h => by cases h⟩⟩⟩

theorem s_l00Src_expr_all : ∀ (n : Nat), (s_l00Src_expr_P n)
 | 0 => by intro X0 f2 l2 i3 i4 q5 f5 ks5 i6 r hM; rw [s_l00Src_expr] at hM; cases hM
 | n + 1 => have ih := s_l00Src_expr_all n; s_l00Src_expr_st n (ih)

theorem s_l00Src_expr_ok (n : Nat) : s_l00Src_expr_P n := s_l00Src_expr_all n

end Go.Am.Ytpkeophkdemcpaa
