/- Printed by a program of ours: Lean functions that do what the Go functions do, and the contracts. -/
import Derived.Test.YtaedacibojpfkaaTypes
import Derived.Test.YtaedacibojpfkaaMi4
import Derived.Test.YtaedacibojpfkaaMc1
import Derived.Test.YtaedacibojpfkaaMb3
import Derived.Test.YtaedacibojpfkaaMb1
import Derived.Test.YtaedacibojpfkaaGs0
import Derived.Test.YtaedacibojpfkaaGsD
import Derived.Test.YtaedacibojpfkaaMxPA
-- packed
namespace Go.Am.Ytaedacibojpfkaa
open Go Go.Am

set_option maxRecDepth 100000 in
theorem s_l08Two_ex (i1 : Int) (k2 : Int) (n2 : Int) (q2 : Nat) (f2 : Bool) (ks2 : List LF) (k3 : Int) (n3 : Int) (q3 : Nat) (f3 : Bool) (ks3 : List LF) (O : Heap) (tk : Nat) : ACalls Go.Proofs.Try.prog 120 [.int .i64 i1, .agg [.int .i64 k2, .int .i64 n2, .imm q2 3 f2 (fcellss ks2)], .agg [.int .i64 k3, .int .i64 n3, .imm q3 3 f3 (fcellss ks3)]] O tk (RetN O (.agg [.int .i64 i1, .int .i64 0, .imm tk 3 false (fcellss [LF.mk k2 n2 q2 f2 ks2, LF.mk k3 n3 q3 f3 ks3])]) (tk + 1)) := by
 refine acalls_of_run Go.Proofs.Try.func120 rfl rfl [] [] (Bor.nil _) [(0, .int .i64 i1), (1, .agg [.int .i64 k2, .int .i64 n2, .imm q2 3 f2 (fcellss ks2)]), (2, .agg [.int .i64 k3, .int .i64 n3, .imm q3 3 f3 (fcellss ks3)])] (.cons (entS rfl) (.cons (.agg _) (.cons (.agg _) (.nil _)))) (leb rfl) (fun _ h => by cases h) (fun S0 hO htk hfz => ?_)
 refine run_sr ?_
 refine run_op rfl (box_step (d := 4) rfl rfl rfl rfl rfl) rfl (ltb rfl) ?_
 refine run_op rfl (box_step (d := 5) rfl rfl rfl rfl rfl) rfl (ltb rfl) ?_
 refine run_op rfl (alloc_step (d := 6) hG rfl rfl rfl) rfl (ltb rfl) ?_
 refine run_ops_nil ?_
 refine run_sr ?_
 refine mvL rfl rfl rfl rfl (ltb rfl) ?_
 refine run_ld hG rfl rfl rfl rfl rfl (ltb rfl) ?_
 refine run_ld hG rfl rfl rfl rfl rfl (ltb rfl) ?_
 refine run_op rfl (buildSlice_step (d := 10) hG rfl rfl rfl rfl rfl (by rfl) (by rfl) (by rfl) (by decide)) rfl (ltb rfl) ?_
 refine run_pu rfl (build_step hG rfl (by rfl) rfl (fun h => by cases h) (by rfl)) rfl (ltb rfl) ?_
 refine run_op0 rfl (store_step hG rfl rfl rfl rfl rfl rfl rfl rfl) rfl ?_
 refine run_ops_nil ?_
 refine run_ret_to ?_
 refine fin_sub (Sub.freeze (k := 10) rfl rfl) ?_
 refine fin_x hG rfl rfl rfl (v' := .agg [.int .i64 i1, .int .i64 0, .imm tk 3 false (fcellss [LF.mk k2 n2 q2 f2 ks2, LF.mk k3 n3 q3 f3 ks3])]) (by rfl) ⟨rfl, rfl, rfl⟩

def s_l00Src_form : Nat → (List Int × Int × Int) → Int → Option (F × (List Int × Int × Int))
 | 0, _, _ => none
 | n + 1, z1, i5 =>
  if i5 > 0 then
   (s_l00Src_chance (z1.1, z1.2.1, z1.2.2) 3).bind fun r7 =>
   if (!r7.1) = true then
    (s_l00Src_next (r7.2.1, r7.2.2.1, r7.2.2.2) 2).bind fun r20 =>
    (s_l00Src_form n (r20.2.1, r20.2.2.1, r20.2.2.2) (IntKind.i64.wrap (i5 - 1))).bind fun r32 =>
    (s_l00Src_form n (r32.2.1, r32.2.2.1, r32.2.2.2) (IntKind.i64.wrap (i5 - 1))).bind fun r44 =>
    some ((F.mk (IntKind.i64.wrap (2 + r20.1)) 0 [r32.1, r44.1]), (r44.2.1, r44.2.2.1, r44.2.2.2))
   else
    (s_l00Src_chance (r7.2.1, r7.2.2.1, r7.2.2.2) 6).bind fun r56 =>
    if r56.1 = true then
     some ((F.mk 4 0 []), (r56.2.1, r56.2.2.1, r56.2.2.2))
    else
     (s_l00Src_next (r56.2.1, r56.2.2.1, r56.2.2.2) 3).bind fun r69 =>
     some ((F.mk 1 r69.1 []), (r69.2.1, r69.2.2.1, r69.2.2.2))
  else
   (s_l00Src_chance (z1.1, z1.2.1, z1.2.2) 6).bind fun r81 =>
   if r81.1 = true then
    some ((F.mk 4 0 []), (r81.2.1, r81.2.2.1, r81.2.2.2))
   else
    (s_l00Src_next (r81.2.1, r81.2.2.1, r81.2.2.2) 3).bind fun r94 =>
    some ((F.mk 1 r94.1 []), (r94.2.1, r94.2.2.1, r94.2.2.2))

set_option maxHeartbeats 20000000 in
set_option maxRecDepth 100000 in
theorem s_l00Src_form_st (n : Nat) (ih_s_l00Src_form : ∀ (X0 : ID) (q2 : Nat) (f2 : Bool) (l2 : List Int) (i3 : Int) (i4 : Int) (i5 : Int) {r : (F × (List Int × Int × Int))}, s_l00Src_form n (l2, i3, i4) i5 = some r → ∀ (O : Heap) (tk : Nat), O X0 = some ⟨156, 3, true, [[.imm q2 1 f2 ((l2 : List Int).map fun n => [AV.int .u8 n]), .int .i64 i3, .int .i64 i4]]⟩ → ACalls Go.Proofs.Try.prog 62 [.optr X0 0 0, .int .i64 i5] O tk (RetV O X0 tk (fun v o' tk' => ∃ r0', ∃ (c0q : Nat) (c0f : Bool) (c0 : List Int) (c1 : Int) (c2 : Int) , r = (r0', (c0, c1, c2)) ∧ o' = ⟨156, 3, true, [[.imm c0q 1 c0f ((c0 : List Int).map fun n => [AV.int .u8 n]), .int .i64 c1, .int .i64 c2]]⟩ ∧ VF false tk tk' r0' v))) : ∀ (X0 : ID) (q2 : Nat) (f2 : Bool) (l2 : List Int) (i3 : Int) (i4 : Int) (i5 : Int) {r : (F × (List Int × Int × Int))}, s_l00Src_form (n + 1) (l2, i3, i4) i5 = some r → ∀ (O : Heap) (tk : Nat), O X0 = some ⟨156, 3, true, [[.imm q2 1 f2 ((l2 : List Int).map fun n => [AV.int .u8 n]), .int .i64 i3, .int .i64 i4]]⟩ → ACalls Go.Proofs.Try.prog 62 [.optr X0 0 0, .int .i64 i5] O tk (RetV O X0 tk (fun v o' tk' => ∃ r0', ∃ (c0q : Nat) (c0f : Bool) (c0 : List Int) (c1 : Int) (c2 : Int) , r = (r0', (c0, c1, c2)) ∧ o' = ⟨156, 3, true, [[.imm c0q 1 c0f ((c0 : List Int).map fun n => [AV.int .u8 n]), .int .i64 c1, .int .i64 c2]]⟩ ∧ VF false tk tk' r0' v)) := by
 intro X0 q2 f2 l2 i3 i4 i5 r hM O tk hX0
 rw [s_l00Src_form] at hM
 refine acalls_of_run Go.Proofs.Try.func62 rfl rfl [X0] [⟨156, 3, true, [[.imm q2 1 f2 ((l2 : List Int).map fun n => [AV.int .u8 n]), .int .i64 i3, .int .i64 i4]]⟩] (Bor.one hX0 rfl) [(0, .optr (.bor 0) 0 0), (1, .int .i64 i5)] (.cons (.bor 0 _ _ _ rfl) (.cons (entS rfl) (.nil _))) (leb rfl) (by intro y h; simp only [List.mem_cons, List.not_mem_nil, or_false] at h; rcases h with rfl <;> simp [tch, tch0]) (fun S0 hO htk hfz => ?_)
 refine run_sr ?_
 refine run_op rfl (alloc_step (d := 4) hG rfl rfl rfl) rfl (ltb rfl) ?_
 refine run_ops_nil ?_
 refine run_seq ?_
 refine run_sr ?_
 refine mvL rfl rfl rfl rfl (ltb rfl) ?_
 refine run_bin rfl rfl rfl rfl rfl rfl rfl (ltb rfl) ?_
 refine mvL rfl rfl rfl rfl (ltb rfl) ?_
 refine run_splitd (i := 7) rfl (fun hb6 => ?_) (fun hb6 => ?_)
 ·replace hM := ite_t hb6 hM
  refine run_puG (on_of rfl rfl rfl rfl) (move_step (.inl rfl) rfl) rfl (ltb rfl) ?_
  obtain ⟨r7, hg8, hM⟩ := bind_t hM
  refine run_callG (on_of rfl rfl rfl rfl) rfl rfl (ltb rfl) rfl rfl rfl (fun _ h => absurd h List.not_mem_nil) (s_l00Src_chance_ok (.bor 0) q2 f2 l2 i3 i4 3 hg8 _ _ rfl) (callK_retV_bor (k := 0) rfl (fun v o' tk' h => by obtain ⟨_, _, _, _, _, _, rfl, rfl, _⟩ := h; rfl) (fun v o'18 tk9 (hle10 : tk ≤ tk9) h11 => ?_))
  obtain ⟨ra17, qc14, fc14, c14, c15, c16, rfl, rfl, rfl⟩ := h11
  refine run_puG (on_of rfl rfl rfl rfl) (aun_step rfl rfl rfl) rfl (ltb rfl) ?_
  refine run_pu rfl (pick_step rfl rfl rfl) rfl (ltb rfl) ?_
  refine run_ops_nil ?_
  refine run_ifb rfl rfl (fun hb19 => ?_) (fun hb19 => ?_)
  ·replace hM := ite_t hb19 hM
   refine run_sr ?_
   refine mvL rfl rfl rfl rfl (ltb rfl) ?_
   obtain ⟨r20, hg21, hM⟩ := bind_t hM
   refine run_call rfl rfl rfl (ltb rfl) rfl rfl rfl (fun _ h => absurd h List.not_mem_nil) (s_l00Src_next_ok (.bor 0) qc14 fc14 c14 c15 c16 2 hg21 _ _ rfl) (callK_retV_bor (k := 0) rfl (fun v o' tk' h => by obtain ⟨_, _, _, _, _, _, rfl, rfl, _⟩ := h; rfl) (fun v o'31 tk22 (hle23 : tk9 ≤ tk22) h24 => ?_))
   obtain ⟨ra30, qc27, fc27, c27, c28, c29, rfl, rfl, rfl⟩ := h24
   refine run_bin rfl rfl rfl rfl rfl rfl rfl (ltb rfl) ?_
   refine mvL rfl rfl rfl rfl (ltb rfl) ?_
   refine mvL rfl rfl rfl rfl (ltb rfl) ?_
   refine run_bin rfl rfl rfl rfl rfl rfl rfl (ltb rfl) ?_
   obtain ⟨r32, hg33, hM⟩ := bind_t hM
   refine run_call rfl rfl rfl (ltb rfl) rfl rfl rfl (fun _ h => absurd h List.not_mem_nil) (ih_s_l00Src_form (.bor 0) qc27 fc27 c27 c28 c29 (IntKind.i64.wrap (i5 - 1)) hg33 _ _ rfl) (callK_retV_bor (k := 0) rfl (fun v o' tk' h => by obtain ⟨_, _, _, _, _, _, rfl, rfl, _⟩ := h; rfl) (fun v o'43 tk34 (hle35 : tk22 ≤ tk34) h36 => ?_))
   obtain ⟨ra42, qc39, fc39, c39, c40, c41, rfl, rfl, ⟨k37, n37, q37, f37, ks37, rfl, rfl, hf38⟩⟩ := h36
   refine mvL rfl rfl rfl rfl (ltb rfl) ?_
   refine mvL rfl rfl rfl rfl (ltb rfl) ?_
   refine run_bin rfl rfl rfl rfl rfl rfl rfl (ltb rfl) ?_
   obtain ⟨r44, hg45, hM⟩ := bind_t hM
   refine run_call rfl rfl rfl (ltb rfl) rfl rfl rfl (fun _ h => absurd h List.not_mem_nil) (ih_s_l00Src_form (.bor 0) qc39 fc39 c39 c40 c41 (IntKind.i64.wrap (i5 - 1)) hg45 _ _ rfl) (callK_retV_bor (k := 0) rfl (fun v o' tk' h => by obtain ⟨_, _, _, _, _, _, rfl, rfl, _⟩ := h; rfl) (fun v o'55 tk46 (hle47 : tk34 ≤ tk46) h48 => ?_))
   obtain ⟨ra54, qc51, fc51, c51, c52, c53, rfl, rfl, ⟨k49, n49, q49, f49, ks49, rfl, rfl, hf50⟩⟩ := h48
   refine run_call rfl rfl rfl (ltb rfl) rfl rfl rfl (fun _ h => absurd h List.not_mem_nil) (s_l08Two_ex (IntKind.i64.wrap (2 + ra30)) k37 n37 q37 f37 ks37 k49 n49 q49 f49 ks49 _ _) (callK_retN ?_)
   skip
   refine run_op0 rfl (store_step hG rfl rfl rfl rfl rfl rfl rfl rfl) rfl ?_
   refine run_ops_nil ?_
   refine run_ret_to ?_
   obtain rfl := some_t hM
   refine fin_x hG rfl rfl rfl (v' := .agg [.int .i64 (IntKind.i64.wrap (2 + ra30)), .int .i64 0, .imm tk46 3 false (fcellss [LF.mk k37 n37 q37 f37 ks37, LF.mk k49 n49 q49 f49 ks49])]) (by rfl) ⟨_, ⟨156, 3, true, [[.imm qc51 1 fc51 ((c51 : List Int).map fun n => [AV.int .u8 n]), .int .i64 c52, .int .i64 c53]]⟩, rfl, rfl, (show tk ≤ (tk46 + 1) by omega), ⟨_, qc51, fc51, c51, c52, c53, rfl, rfl, ⟨(IntKind.i64.wrap (2 + ra30)), 0, tk46, false, [LF.mk k37 n37 q37 f37 ks37, LF.mk k49 n49 q49 f49 ks49], rfl, rfl, fun h => by cases h⟩⟩⟩
  ·replace hM := ite_f hb19 hM
   refine run_skip ?_
   refine run_seq ?_
   refine run_sr ?_
   refine mvL rfl rfl rfl rfl (ltb rfl) ?_
   obtain ⟨r56, hg57, hM⟩ := bind_t hM
   refine run_call rfl rfl rfl (ltb rfl) rfl rfl rfl (fun _ h => absurd h List.not_mem_nil) (s_l00Src_chance_ok (.bor 0) qc14 fc14 c14 c15 c16 6 hg57 _ _ rfl) (callK_retV_bor (k := 0) rfl (fun v o' tk' h => by obtain ⟨_, _, _, _, _, _, rfl, rfl, _⟩ := h; rfl) (fun v o'67 tk58 (hle59 : tk9 ≤ tk58) h60 => ?_))
   obtain ⟨ra66, qc63, fc63, c63, c64, c65, rfl, rfl, rfl⟩ := h60
   refine run_ops_nil ?_
   refine run_ifb rfl rfl (fun hb68 => ?_) (fun hb68 => ?_)
   ·replace hM := ite_t hb68 hM
    refine run_sr ?_
    refine run_pu rfl (build_step hG rfl (by rfl) rfl (fun h => by cases h) (by rfl)) rfl (ltb rfl) ?_
    refine run_op0 rfl (store_step hG rfl rfl rfl rfl rfl rfl rfl rfl) rfl ?_
    refine run_ops_nil ?_
    refine run_ret_to ?_
    obtain rfl := some_t hM
    refine fin_x hG rfl rfl rfl (v' := .agg [.int .i64 4, .int .i64 0, .imm 0 3 true (fcellss [])]) (by rfl) ⟨_, ⟨156, 3, true, [[.imm qc63 1 fc63 ((c63 : List Int).map fun n => [AV.int .u8 n]), .int .i64 c64, .int .i64 c65]]⟩, rfl, rfl, (show tk ≤ tk58 by omega), ⟨_, qc63, fc63, c63, c64, c65, rfl, rfl, ⟨4, 0, 0, true, [], rfl, rfl, fun h => by cases h⟩⟩⟩
   ·replace hM := ite_f hb68 hM
    refine run_skip ?_
    refine run_sr ?_
    refine mvL rfl rfl rfl rfl (ltb rfl) ?_
    obtain ⟨r69, hg70, hM⟩ := bind_t hM
    refine run_call rfl rfl rfl (ltb rfl) rfl rfl rfl (fun _ h => absurd h List.not_mem_nil) (s_l00Src_next_ok (.bor 0) qc63 fc63 c63 c64 c65 3 hg70 _ _ rfl) (callK_retV_bor (k := 0) rfl (fun v o' tk' h => by obtain ⟨_, _, _, _, _, _, rfl, rfl, _⟩ := h; rfl) (fun v o'80 tk71 (hle72 : tk58 ≤ tk71) h73 => ?_))
    obtain ⟨ra79, qc76, fc76, c76, c77, c78, rfl, rfl, rfl⟩ := h73
    refine run_pu rfl (build_step hG rfl (by rfl) rfl (fun h => by cases h) (by rfl)) rfl (ltb rfl) ?_
    refine run_op0 rfl (store_step hG rfl rfl rfl rfl rfl rfl rfl rfl) rfl ?_
    refine run_ops_nil ?_
    refine run_ret_to ?_
    obtain rfl := some_t hM
    refine fin_x hG rfl rfl rfl (v' := .agg [.int .i64 1, .int .i64 ra79, .imm 0 3 true (fcellss [])]) (by rfl) ⟨_, ⟨156, 3, true, [[.imm qc76 1 fc76 ((c76 : List Int).map fun n => [AV.int .u8 n]), .int .i64 c77, .int .i64 c78]]⟩, rfl, rfl, (show tk ≤ tk71 by omega), ⟨_, qc76, fc76, c76, c77, c78, rfl, rfl, ⟨1, ra79, 0, true, [], rfl, rfl, fun h => by cases h⟩⟩⟩
 ·replace hM := ite_f hb6 hM
  refine run_off (on_of rfl rfl rfl rfl) rfl (ltb rfl) ?_
  refine run_off (on_of rfl rfl rfl rfl) rfl (ltb rfl) ?_
  refine run_off (on_of rfl rfl rfl rfl) rfl (ltb rfl) ?_
  refine run_pu rfl (pick_step rfl rfl rfl) rfl (ltb rfl) ?_
  refine run_ops_nil ?_
  refine run_if rfl rfl (fun h => by cases h) (fun _ => ?_)
  refine run_skip ?_
  refine run_seq ?_
  refine run_sr ?_
  refine mvL rfl rfl rfl rfl (ltb rfl) ?_
  obtain ⟨r81, hg82, hM⟩ := bind_t hM
  refine run_call rfl rfl rfl (ltb rfl) rfl rfl rfl (fun _ h => absurd h List.not_mem_nil) (s_l00Src_chance_ok (.bor 0) q2 f2 l2 i3 i4 6 hg82 _ _ rfl) (callK_retV_bor (k := 0) rfl (fun v o' tk' h => by obtain ⟨_, _, _, _, _, _, rfl, rfl, _⟩ := h; rfl) (fun v o'92 tk83 (hle84 : tk ≤ tk83) h85 => ?_))
  obtain ⟨ra91, qc88, fc88, c88, c89, c90, rfl, rfl, rfl⟩ := h85
  refine run_ops_nil ?_
  refine run_ifb rfl rfl (fun hb93 => ?_) (fun hb93 => ?_)
  ·replace hM := ite_t hb93 hM
   refine run_sr ?_
   refine run_pu rfl (build_step hG rfl (by rfl) rfl (fun h => by cases h) (by rfl)) rfl (ltb rfl) ?_
   refine run_op0 rfl (store_step hG rfl rfl rfl rfl rfl rfl rfl rfl) rfl ?_
   refine run_ops_nil ?_
   refine run_ret_to ?_
   obtain rfl := some_t hM
   refine fin_x hG rfl rfl rfl (v' := .agg [.int .i64 4, .int .i64 0, .imm 0 3 true (fcellss [])]) (by rfl) ⟨_, ⟨156, 3, true, [[.imm qc88 1 fc88 ((c88 : List Int).map fun n => [AV.int .u8 n]), .int .i64 c89, .int .i64 c90]]⟩, rfl, rfl, (show tk ≤ tk83 by omega), ⟨_, qc88, fc88, c88, c89, c90, rfl, rfl, ⟨4, 0, 0, true, [], rfl, rfl, fun h => by cases h⟩⟩⟩
  ·replace hM := ite_f hb93 hM
   refine run_skip ?_
   refine run_sr ?_
   refine mvL rfl rfl rfl rfl (ltb rfl) ?_
   obtain ⟨r94, hg95, hM⟩ := bind_t hM
   refine run_call rfl rfl rfl (ltb rfl) rfl rfl rfl (fun _ h => absurd h List.not_mem_nil) (s_l00Src_next_ok (.bor 0) qc88 fc88 c88 c89 c90 3 hg95 _ _ rfl) (callK_retV_bor (k := 0) rfl (fun v o' tk' h => by obtain ⟨_, _, _, _, _, _, rfl, rfl, _⟩ := h; rfl) (fun v o'105 tk96 (hle97 : tk83 ≤ tk96) h98 => ?_))
   obtain ⟨ra104, qc101, fc101, c101, c102, c103, rfl, rfl, rfl⟩ := h98
   refine run_pu rfl (build_step hG rfl (by rfl) rfl (fun h => by cases h) (by rfl)) rfl (ltb rfl) ?_
   refine run_op0 rfl (store_step hG rfl rfl rfl rfl rfl rfl rfl rfl) rfl ?_
   refine run_ops_nil ?_
   refine run_ret_to ?_
   obtain rfl := some_t hM
   refine fin_x hG rfl rfl rfl (v' := .agg [.int .i64 1, .int .i64 ra104, .imm 0 3 true (fcellss [])]) (by rfl) ⟨_, ⟨156, 3, true, [[.imm qc101 1 fc101 ((c101 : List Int).map fun n => [AV.int .u8 n]), .int .i64 c102, .int .i64 c103]]⟩, rfl, rfl, (show tk ≤ tk96 by omega), ⟨_, qc101, fc101, c101, c102, c103, rfl, rfl, ⟨1, ra104, 0, true, [], rfl, rfl, fun h => by cases h⟩⟩⟩

theorem s_l00Src_form_all : ∀ (n : Nat), (∀ (X0 : ID) (q2 : Nat) (f2 : Bool) (l2 : List Int) (i3 : Int) (i4 : Int) (i5 : Int) {r : (F × (List Int × Int × Int))}, s_l00Src_form n (l2, i3, i4) i5 = some r → ∀ (O : Heap) (tk : Nat), O X0 = some ⟨156, 3, true, [[.imm q2 1 f2 ((l2 : List Int).map fun n => [AV.int .u8 n]), .int .i64 i3, .int .i64 i4]]⟩ → ACalls Go.Proofs.Try.prog 62 [.optr X0 0 0, .int .i64 i5] O tk (RetV O X0 tk (fun v o' tk' => ∃ r0', ∃ (c0q : Nat) (c0f : Bool) (c0 : List Int) (c1 : Int) (c2 : Int) , r = (r0', (c0, c1, c2)) ∧ o' = ⟨156, 3, true, [[.imm c0q 1 c0f ((c0 : List Int).map fun n => [AV.int .u8 n]), .int .i64 c1, .int .i64 c2]]⟩ ∧ VF false tk tk' r0' v)))
 | 0 => by intro X0 q2 f2 l2 i3 i4 i5 r hM; rw [s_l00Src_form] at hM; cases hM
 | n + 1 => have ih := s_l00Src_form_all n; s_l00Src_form_st n (ih)

theorem s_l00Src_form_ok (n : Nat) : ∀ (X0 : ID) (q2 : Nat) (f2 : Bool) (l2 : List Int) (i3 : Int) (i4 : Int) (i5 : Int) {r : (F × (List Int × Int × Int))}, s_l00Src_form n (l2, i3, i4) i5 = some r → ∀ (O : Heap) (tk : Nat), O X0 = some ⟨156, 3, true, [[.imm q2 1 f2 ((l2 : List Int).map fun n => [AV.int .u8 n]), .int .i64 i3, .int .i64 i4]]⟩ → ACalls Go.Proofs.Try.prog 62 [.optr X0 0 0, .int .i64 i5] O tk (RetV O X0 tk (fun v o' tk' => ∃ r0', ∃ (c0q : Nat) (c0f : Bool) (c0 : List Int) (c1 : Int) (c2 : Int) , r = (r0', (c0, c1, c2)) ∧ o' = ⟨156, 3, true, [[.imm c0q 1 c0f ((c0 : List Int).map fun n => [AV.int .u8 n]), .int .i64 c1, .int .i64 c2]]⟩ ∧ VF false tk tk' r0' v)) := s_l00Src_form_all n

def s_l00Src_hyps_L1 (n : Nat) : Nat → Int → List Int → Int → Int → List F → Option (List F × (List Int × Int × Int))
 | 0, _, _, _, _, _ => none
 | m + 1, i17, l18, i19, i20, l21 =>
  if i17 > 0 then
   (s_l00Src_next (l18, i19, i20) 3).bind fun r23 =>
   (s_l00Src_form n (r23.2.1, r23.2.2.1, r23.2.2.2) r23.1).bind fun r35 =>
   chk ((l21).length + ([r35.1]).length ≤ 1099511627776) <|
   s_l00Src_hyps_L1 n m (IntKind.i64.wrap (i17 - 1)) r35.2.1 r35.2.2.1 r35.2.2.2 (l21 ++ [r35.1])
  else
   some (l21, (l18, i19, i20))

def s_l00Src_hyps (n : Nat) (z1 : (List Int × Int × Int)) : Option (List F × (List Int × Int × Int)) :=
 (s_l00Src_next (z1.1, z1.2.1, z1.2.2) 4).bind fun r5 =>
 s_l00Src_hyps_L1 n n r5.1 r5.2.1 r5.2.2.1 r5.2.2.2 ([])

set_option maxRecDepth 100000 in
theorem s_l00Src_hyps_ok (n : Nat) : ∀ (X0 : ID) (q2 : Nat) (f2 : Bool) (l2 : List Int) (i3 : Int) (i4 : Int) {r : (List F × (List Int × Int × Int))}, s_l00Src_hyps n (l2, i3, i4) = some r → ∀ (O : Heap) (tk : Nat), O X0 = some ⟨156, 3, true, [[.imm q2 1 f2 ((l2 : List Int).map fun n => [AV.int .u8 n]), .int .i64 i3, .int .i64 i4]]⟩ → ACalls Go.Proofs.Try.prog 50 [.optr X0 0 0] O tk (RetV O X0 tk (fun v o' tk' => ∃ r0', ∃ (c0q : Nat) (c0f : Bool) (c0 : List Int) (c1 : Int) (c2 : Int) , r = (r0', (c0, c1, c2)) ∧ o' = ⟨156, 3, true, [[.imm c0q 1 c0f ((c0 : List Int).map fun n => [AV.int .u8 n]), .int .i64 c1, .int .i64 c2]]⟩ ∧ VFs false tk tk' r0' v)) := by
 intro X0 q2 f2 l2 i3 i4 r hM O tk hX0
 unfold s_l00Src_hyps at hM
 refine acalls_of_run Go.Proofs.Try.func50 rfl rfl [X0] [⟨156, 3, true, [[.imm q2 1 f2 ((l2 : List Int).map fun n => [AV.int .u8 n]), .int .i64 i3, .int .i64 i4]]⟩] (Bor.one hX0 rfl) [(0, .optr (.bor 0) 0 0)] (.cons (.bor 0 _ _ _ rfl) (.nil _)) (leb rfl) (by intro y h; simp only [List.mem_cons, List.not_mem_nil, or_false] at h; rcases h with rfl <;> simp [tch, tch0]) (fun S0 hO htk hfz => ?_)
 refine run_sr ?_
 refine mvR rfl rfl rfl rfl (ltb rfl) ?_
 refine run_ops_nil ?_
 refine run_sr ?_
 refine run_op rfl (buildSlice_step (d := 5) hG rfl rfl rfl rfl rfl (by rfl) (by rfl) (by rfl) (by decide)) rfl (ltb rfl) ?_
 refine mvR rfl rfl rfl rfl (ltb rfl) ?_
 refine run_ops_nil ?_
 refine run_seq ?_
 refine run_sr ?_
 refine mvL rfl rfl rfl rfl (ltb rfl) ?_
 obtain ⟨r5, hg6, hM⟩ := bind_t hM
 refine run_call rfl rfl rfl (ltb rfl) rfl rfl rfl (fun _ h => absurd h List.not_mem_nil) (s_l00Src_next_ok (.bor 0) q2 f2 l2 i3 i4 4 hg6 _ _ rfl) (callK_retV_bor (k := 0) rfl (fun v o' tk' h => by obtain ⟨_, _, _, _, _, _, rfl, rfl, _⟩ := h; rfl) (fun v o'16 tk7 (hle8 : tk ≤ tk7) h9 => ?_))
 obtain ⟨ra15, qc12, fc12, c12, c13, c14, rfl, rfl, rfl⟩ := h9
 refine mvR rfl rfl rfl rfl (ltb rfl) ?_
 refine run_ops_nil ?_
 refine run_block ?_
 refine run_rounds (fun m σ => ∃ (i17 : Int) (q18 : Nat) (f18 : Bool) (l18 : List Int) (i19 : Int) (i20 : Int) (ks21 : List LF) (tks_l00Src_hyps_L1 : Nat), tk7 ≤ tks_l00Src_hyps_L1 ∧ s_l00Src_hyps_L1 n m i17 l18 i19 i20 (fers ks21) = some r ∧ σ = ⟨[(0, .optr (.bor 0) 0 0), (2, .imm 0 0 true []), (3, .osl (.loc 5)), (4, .int .i64 i17)], [(5, ⟨28, 3, false, fcellss ks21⟩)], [⟨156, 3, true, [[.imm q18 1 f18 ((l18 : List Int).map fun n => [AV.int .u8 n]), .int .i64 i19, .int .i64 i20]]⟩], O, tks_l00Src_hyps_L1⟩) n (Sub.env [(0, .optr (.bor 0) 0 0), (2, .imm 0 0 true []), (3, .osl (.loc 5)), (4, .int .i64 ra15)] ⟨rfl, rfl, rfl, rfl, trivial⟩) ⟨ra15, qc12, fc12, c12, c13, c14, [], tk7, Nat.le_refl _, hM, rfl⟩ (fun m σ hI => ?_)
 clear hM
 obtain ⟨i17, q18, f18, l18, i19, i20, ks21, tks_l00Src_hyps_L1, hle48, hM, rfl⟩ := hI
 obtain _ | m := m
 ·exact absurd hM (by rw [s_l00Src_hyps_L1]; exact fun h => by cases h)
 rw [s_l00Src_hyps_L1] at hM
 refine run_seq ?_
 refine run_sr ?_
 refine mvL rfl rfl rfl rfl (ltb rfl) ?_
 refine run_bin rfl rfl rfl rfl rfl rfl rfl (ltb rfl) ?_
 refine run_ops_nil ?_
 refine run_ifd rfl rfl (fun hb22 => ?_) (fun hb22 => ?_)
 ·replace hM := ite_t hb22 hM
  refine run_skip ?_
  refine run_seq ?_
  refine run_block ?_
  refine run_region ?_
  refine mvL rfl rfl rfl rfl (ltb rfl) ?_
  refine mvL rfl rfl rfl rfl (ltb rfl) ?_
  refine mvL rfl rfl rfl rfl (ltb rfl) ?_
  obtain ⟨r23, hg24, hM⟩ := bind_t hM
  refine run_call rfl rfl rfl (ltb rfl) rfl rfl rfl (fun _ h => absurd h List.not_mem_nil) (s_l00Src_next_ok (.bor 0) q18 f18 l18 i19 i20 3 hg24 _ _ rfl) (callK_retV_bor (k := 0) rfl (fun v o' tk' h => by obtain ⟨_, _, _, _, _, _, rfl, rfl, _⟩ := h; rfl) (fun v o'34 tk25 (hle26 : tks_l00Src_hyps_L1 ≤ tk25) h27 => ?_))
  obtain ⟨ra33, qc30, fc30, c30, c31, c32, rfl, rfl, rfl⟩ := h27
  obtain ⟨r35, hg36, hM⟩ := bind_t hM
  refine run_call rfl rfl rfl (ltb rfl) rfl rfl rfl (fun _ h => absurd h List.not_mem_nil) (s_l00Src_form_ok n (.bor 0) qc30 fc30 c30 c31 c32 ra33 hg36 _ _ rfl) (callK_retV_bor (k := 0) rfl (fun v o' tk' h => by obtain ⟨_, _, _, _, _, _, rfl, rfl, _⟩ := h; rfl) (fun v o'46 tk37 (hle38 : tk25 ≤ tk37) h39 => ?_))
  obtain ⟨ra45, qc42, fc42, c42, c43, c44, rfl, rfl, ⟨k40, n40, q40, f40, ks40, rfl, rfl, hf41⟩⟩ := h39
  refine run_op rfl (buildSlice_step (d := 17) hG rfl rfl rfl rfl rfl (by rfl) (by rfl) (by rfl) (by decide)) rfl (ltb rfl) ?_
  obtain ⟨hc47, hM⟩ := chk_t hM
  try rw [show ((fers ks21) ++ [(F.mk k40 n40 (fers ks40))] : List F) = (fers (ks21 ++ [LF.mk k40 n40 q40 f40 ks40])) from fers_app ks21 [LF.mk k40 n40 q40 f40 ks40]] at hM
  refine run_op rfl (appendM_step hG rfl rfl rfl rfl rfl rfl rfl rfl rfl rfl rfl (fcellss_sz ([LF.mk k40 n40 q40 f40 ks40])) (flen ks21) (flen ([LF.mk k40 n40 q40 f40 ks40])) hc47 (by decide) (fcellss_app _ _)) rfl (ltb rfl) ?_
  refine mvR rfl rfl rfl rfl (ltb rfl) ?_
  refine run_ops_nil ?_
  refine run_blk ?_
  refine run_region ?_
  refine mvL rfl rfl rfl rfl (ltb rfl) ?_
  refine run_bin rfl rfl rfl rfl rfl rfl rfl (ltb rfl) ?_
  refine mvR rfl rfl rfl rfl (ltb rfl) ?_
  refine run_ops_nil ?_
  exact run_loop_end ⟨m, _, Nat.lt_succ_self _, ⟨(IntKind.i64.wrap (i17 - 1)), qc42, fc42, c42, c43, c44, (ks21 ++ [LF.mk k40 n40 q40 f40 ks40]), tk37, (show tk7 ≤ tk37 by omega), hM, rfl⟩, Sub.trans (Sub.drop (k := 17) rfl) (Sub.env [(0, .optr (.bor 0) 0 0), (2, .imm 0 0 true []), (3, .osl (.loc 5)), (4, .int .i64 (IntKind.i64.wrap (i17 - 1)))] ⟨rfl, rfl, rfl, rfl, trivial⟩)⟩
 ·replace hM := ite_f hb22 hM
  refine run_exit_to rfl ?_
  refine run_sr ?_
  refine mvL rfl rfl rfl rfl (ltb rfl) ?_
  refine mvR rfl rfl rfl rfl (ltb rfl) ?_
  refine run_ops_nil ?_
  refine run_ret_to ?_
  refine fin_sub (Sub.freeze (k := 5) rfl rfl) ?_
  obtain rfl := some_t hM
  refine fin_x hG rfl rfl rfl (v' := .imm tks_l00Src_hyps_L1 3 false (fcellss ks21)) (by rfl) ⟨_, ⟨156, 3, true, [[.imm q18 1 f18 ((l18 : List Int).map fun n => [AV.int .u8 n]), .int .i64 i19, .int .i64 i20]]⟩, rfl, rfl, (show tk ≤ (tks_l00Src_hyps_L1 + 1) by omega), ⟨_, q18, f18, l18, i19, i20, rfl, rfl, ⟨tks_l00Src_hyps_L1, false, ks21, rfl, rfl, fun h => by cases h⟩⟩⟩

def s_l00Src_proof : Nat → (List Int × Int × Int) → List F → Int → Option (Pf × F × (List Int × Int × Int))
 | 0, _, _, _ => none
 | n + 1, z1, l5, i6 =>
  jn (
   jn (fun (i28 : Int) (l29 : List Int) (i30 : Int) (i31 : Int) =>
    if i28 = 0 then
     (s_l00Src_proof n (l29, i30, i31) l5 (IntKind.i64.wrap (i6 - 1))).bind fun r46 =>
     (s_l00Src_proof n (r46.2.2.1, r46.2.2.2.1, r46.2.2.2.2) l5 (IntKind.i64.wrap (i6 - 2))).bind fun r64 =>
     some ((Pf.mk 2 0 [r46.2.1, r64.2.1] [r46.1, r64.1]), (F.mk 2 0 [r46.2.1, r64.2.1]), (r64.2.2.1, r64.2.2.2.1, r64.2.2.2.2))
    else
     if i28 = 1 then
      (s_l00Src_proof n (l29, i30, i31) l5 (IntKind.i64.wrap (i6 - 1))).bind fun r83 =>
      if r83.2.1.kind = 2 then
       (s_l00Src_next (r83.2.2.1, r83.2.2.2.1, r83.2.2.2.2) 2).bind fun r102 =>
       (idx r83.2.1.kids 0).bind fun y114 =>
       (idx r83.2.1.kids 1).bind fun y119 =>
       (idx r83.2.1.kids r102.1).bind fun y124 =>
       some ((Pf.mk (IntKind.i64.wrap (3 + r102.1)) 0 [y114, y119] [r83.1]), y124, (r102.2.1, r102.2.2.1, r102.2.2.2))
      else
       if r83.2.1.kind = 4 then
        (s_l00Src_form n (r83.2.2.1, r83.2.2.2.1, r83.2.2.2.2) 1).bind fun r130 =>
        some ((Pf.mk 7 0 [r130.1] [r83.1]), r130.1, (r130.2.1, r130.2.2.1, r130.2.2.2))
       else
        some (r83.1, r83.2.1, (r83.2.2.1, r83.2.2.2.1, r83.2.2.2.2))
     else
      if i28 = 2 then
       (s_l00Src_proof n (l29, i30, i31) l5 (IntKind.i64.wrap (i6 - 1))).bind fun r143 =>
       (s_l00Src_proof n (r143.2.2.1, r143.2.2.2.1, r143.2.2.2.2) l5 (IntKind.i64.wrap (i6 - 2))).bind fun r161 =>
       if r143.2.1.kind = 3 then
        (idx r143.2.1.kids 0).bind fun y180 =>
        (s_l08Same n y180 r161.2.1).bind fun r185 =>
        if r185 = true then
         (idx r143.2.1.kids 1).bind fun y193 =>
         (idx r143.2.1.kids 1).bind fun y198 =>
         some ((Pf.mk 6 0 [r161.2.1, y193] [r143.1, r161.1]), y198, (r161.2.2.1, r161.2.2.2.1, r161.2.2.2.2))
        else
         some (r143.1, r143.2.1, (r161.2.2.1, r161.2.2.2.1, r161.2.2.2.2))
       else
        some (r143.1, r143.2.1, (r161.2.2.1, r161.2.2.2.1, r161.2.2.2.2))
      else
       (s_l00Src_next (l29, i30, i31) 2).bind fun r203 =>
       (s_l00Src_form n (r203.2.1, r203.2.2.1, r203.2.2.2) r203.1).bind fun r215 =>
       (s_l08More l5 r215.1).bind fun r227 =>
       (s_l00Src_proof n (r215.2.1, r215.2.2.1, r215.2.2.2) r227 (IntKind.i64.wrap (i6 - 1))).bind fun r234 =>
       some ((Pf.mk 5 0 [r215.1, r234.2.1] [r234.1]), (F.mk 3 0 [r215.1, r234.2.1]), (r234.2.2.1, r234.2.2.2.1, r234.2.2.2.2))) fun j27 =>
   if i6 > 0 then
    (s_l00Src_next (z1.1, z1.2.1, z1.2.2) 5).bind fun r33 =>
    j27 r33.1 r33.2.1 r33.2.2.1 r33.2.2.2
   else
    j27 3 z1.1 z1.2.1 z1.2.2) fun j7 =>
  if i6 ≤ 0 then
   if ((l5).length : Int) > 0 then
    (s_l00Src_next (z1.1, z1.2.1, z1.2.2) ((l5).length : Int)).bind fun r10 =>
    (idx l5 (IntKind.i64.wrap ((IntKind.i64.wrap (((l5).length : Int) - 1)) - r10.1))).bind fun y22 =>
    some ((Pf.mk 1 r10.1 [] []), y22, (r10.2.1, r10.2.2.1, r10.2.2.2))
   else
    j7
  else
   j7

set_option maxHeartbeats 20000000 in
set_option maxRecDepth 100000 in
theorem s_l00Src_proof_st (n : Nat) (ih_s_l00Src_proof : ∀ (X0 : ID) (q2 : Nat) (f2 : Bool) (l2 : List Int) (i3 : Int) (i4 : Int) (q5 : Nat) (f5 : Bool) (ks5 : List LF) (i6 : Int) {r : (Pf × F × (List Int × Int × Int))}, s_l00Src_proof n (l2, i3, i4) (fers ks5) i6 = some r → ∀ (O : Heap) (tk : Nat), O X0 = some ⟨156, 3, true, [[.imm q2 1 f2 ((l2 : List Int).map fun n => [AV.int .u8 n]), .int .i64 i3, .int .i64 i4]]⟩ → ACalls Go.Proofs.Try.prog 51 [.optr X0 0 0, .imm q5 3 f5 (fcellss ks5), .int .i64 i6] O tk (RetV O X0 tk (fun v o' tk' => ∃ r0' r1' v0' v1', ∃ (c0q : Nat) (c0f : Bool) (c0 : List Int) (c1 : Int) (c2 : Int), r = (r0', r1', (c0, c1, c2)) ∧ o' = ⟨156, 3, true, [[.imm c0q 1 c0f ((c0 : List Int).map fun n => [AV.int .u8 n]), .int .i64 c1, .int .i64 c2]]⟩ ∧ v = .tup [v0', v1'] ∧ VP false tk tk' r0' v0' ∧ VF false tk tk' r1' v1'))) : ∀ (X0 : ID) (q2 : Nat) (f2 : Bool) (l2 : List Int) (i3 : Int) (i4 : Int) (q5 : Nat) (f5 : Bool) (ks5 : List LF) (i6 : Int) {r : (Pf × F × (List Int × Int × Int))}, s_l00Src_proof (n + 1) (l2, i3, i4) (fers ks5) i6 = some r → ∀ (O : Heap) (tk : Nat), O X0 = some ⟨156, 3, true, [[.imm q2 1 f2 ((l2 : List Int).map fun n => [AV.int .u8 n]), .int .i64 i3, .int .i64 i4]]⟩ → ACalls Go.Proofs.Try.prog 51 [.optr X0 0 0, .imm q5 3 f5 (fcellss ks5), .int .i64 i6] O tk (RetV O X0 tk (fun v o' tk' => ∃ r0' r1' v0' v1', ∃ (c0q : Nat) (c0f : Bool) (c0 : List Int) (c1 : Int) (c2 : Int), r = (r0', r1', (c0, c1, c2)) ∧ o' = ⟨156, 3, true, [[.imm c0q 1 c0f ((c0 : List Int).map fun n => [AV.int .u8 n]), .int .i64 c1, .int .i64 c2]]⟩ ∧ v = .tup [v0', v1'] ∧ VP false tk tk' r0' v0' ∧ VF false tk tk' r1' v1')) := by
 intro X0 q2 f2 l2 i3 i4 q5 f5 ks5 i6 r hM O tk hX0
 rw [s_l00Src_proof] at hM
 refine acalls_of_run Go.Proofs.Try.func51 rfl rfl [X0] [⟨156, 3, true, [[.imm q2 1 f2 ((l2 : List Int).map fun n => [AV.int .u8 n]), .int .i64 i3, .int .i64 i4]]⟩] (Bor.one hX0 rfl) [(0, .optr (.bor 0) 0 0), (1, .imm q5 3 f5 (fcellss ks5)), (2, .int .i64 i6)] (.cons (.bor 0 _ _ _ rfl) (.cons (entS rfl) (.cons (entS rfl) (.nil _)))) (leb rfl) (by intro y h; simp only [List.mem_cons, List.not_mem_nil, or_false] at h; rcases h with rfl <;> simp [tch, tch0]) (fun S0 hO htk hfz => ?_)
 refine run_sr ?_
 refine run_op rfl (alloc_step (d := 6) hG rfl rfl rfl) rfl (ltb rfl) ?_
 refine run_op rfl (alloc_step (d := 7) hG rfl rfl rfl) rfl (ltb rfl) ?_
 refine run_ops_nil ?_
 refine run_seq ?_
 refine run_seq ?_
 obtain ⟨j7, hj255, hM⟩ := jn_t hM
 refine run_cutL [.code _, .code _] (fun σ' => ∃ (tkj7 : Nat), tk ≤ tkj7 ∧ j7 = some r ∧ Sub ⟨Go.Proofs.Try.prog, S0, Go.Proofs.Try.f51.ntmps, [X0], fun _ => False, []⟩ σ' ⟨[(0, .optr (.bor 0) 0 0), (1, .imm q5 3 f5 (fcellss ks5)), (2, .int .i64 i6), (6, .optr (.loc 6) 0 0), (7, .optr (.loc 7) 0 0)], [(7, ⟨28, 3, true, [[.int .i64 0, .int .i64 0, .imm 0 3 true []]]⟩), (6, ⟨26, 4, true, [[.int .i64 0, .int .i64 0, .imm 0 3 true [], .imm 0 4 true []]]⟩)], [⟨156, 3, true, [[.imm q2 1 f2 ((l2 : List Int).map fun n => [AV.int .u8 n]), .int .i64 i3, .int .i64 i4]]⟩], O, tkj7⟩) rfl ?_ ?_
 ·refine run_region ?_
  refine mvL rfl rfl rfl rfl (ltb rfl) ?_
  refine run_bin rfl rfl rfl rfl rfl rfl rfl (ltb rfl) ?_
  refine mvL rfl rfl rfl rfl (ltb rfl) ?_
  refine run_splitd (i := 27) rfl (fun hb8 => ?_) (fun hb8 => ?_)
  ·replace hM := ite_t hb8 hM
   refine run_puG (on_of rfl rfl rfl rfl) (move_step (.inl rfl) rfl) rfl (ltb rfl) ?_
   refine run_puG (on_of rfl rfl rfl rfl) (lenImm_step hG rfl rfl rfl rfl (flen _)) rfl (ltb rfl) ?_
   refine run_puG (on_of rfl rfl rfl rfl) (abin_step rfl rfl rfl rfl (fun _ h => by cases h)) rfl (ltb rfl) ?_
   refine run_pu rfl (pick_step rfl rfl rfl) rfl (ltb rfl) ?_
   refine run_ops_nil ?_
   refine run_ifd rfl rfl (fun hb9 => ?_) (fun hb9 => ?_)
   ·replace hM := ite_t hb9 hM
    refine run_sr ?_
    refine mvL rfl rfl rfl rfl (ltb rfl) ?_
    refine mvL rfl rfl rfl rfl (ltb rfl) ?_
    refine run_pu rfl (lenImm_step hG rfl rfl rfl rfl (flen _)) rfl (ltb rfl) ?_
    obtain ⟨r10, hg11, hM⟩ := bind_t hM
    refine run_call rfl rfl rfl (ltb rfl) rfl rfl rfl (fun _ h => absurd h List.not_mem_nil) (s_l00Src_next_ok (.bor 0) q2 f2 l2 i3 i4 (((fers ks5)).length : Int) hg11 _ _ rfl) (callK_retV_bor (k := 0) rfl (fun v o' tk' h => by obtain ⟨_, _, _, _, _, _, rfl, rfl, _⟩ := h; rfl) (fun v o'21 tk12 (hle13 : tk ≤ tk12) h14 => ?_))
    obtain ⟨ra20, qc17, fc17, c17, c18, c19, rfl, rfl, rfl⟩ := h14
    refine mvR rfl rfl rfl rfl (ltb rfl) ?_
    refine run_ops_nil ?_
    refine run_sub_code (σ' := ⟨[(0, .optr (.bor 0) 0 0), (1, .imm q5 3 f5 (fcellss ks5)), (2, .int .i64 i6), (6, .optr (.loc 6) 0 0), (7, .optr (.loc 7) 0 0), (8, .int .i64 ra20)], [(7, ⟨28, 3, true, [[.int .i64 0, .int .i64 0, .imm 0 3 true []]]⟩), (6, ⟨26, 4, true, [[.int .i64 0, .int .i64 0, .imm 0 3 true [], .imm 0 4 true []]]⟩)], [⟨156, 3, true, [[.imm qc17 1 fc17 ((c17 : List Int).map fun n => [AV.int .u8 n]), .int .i64 c18, .int .i64 c19]]⟩], O, tk12⟩) (Sub.env _ ⟨rfl, rfl, rfl, rfl, rfl, rfl, trivial⟩) ?_
    refine run_seq ?_
    refine run_draw [.loc 6, .loc 7] (n := 12) mixed rfl (by intro x hx; simp only [List.mem_cons, List.not_mem_nil, or_false] at hx; rcases hx with rfl | rfl <;> rfl) ?_
    refine AAny.take (i := 0) rfl (by kernel_rfl) (by kernel_rfl) (by kernel_rfl) rfl rfl (ltb rfl) ((move_step (.inl rfl) rfl).rd _) ?_
    refine AAny.take (i := 1) rfl (by kernel_rfl) (by kernel_rfl) (by kernel_rfl) rfl rfl (ltb rfl) ((build_step hG rfl (by rfl) rfl (fun h => by cases h) (by rfl)).rd _) ?_
    refine AAny.take (i := 2) rfl (by kernel_rfl) (by kernel_rfl) (by kernel_rfl) rfl rfl (ltb rfl) ((move_step (.inl rfl) rfl).rd _) ?_
    refine AAny.take (i := 3) rfl (by kernel_rfl) (by kernel_rfl) (by kernel_rfl) rfl rfl (ltb rfl) ((move_step (.inl rfl) rfl).rd _) ?_
    refine AAny.take (i := 4) rfl (by kernel_rfl) (by kernel_rfl) (by kernel_rfl) rfl rfl (ltb rfl) ((lenImm_step hG rfl rfl rfl rfl (flen _)).rd _) ?_
    refine AAny.take (i := 5) rfl (by kernel_rfl) (by kernel_rfl) (by kernel_rfl) rfl rfl (ltb rfl) ((abin_step rfl rfl rfl rfl (fun _ h => by cases h)).rd _) ?_
    refine AAny.take (i := 6) rfl (by kernel_rfl) (by kernel_rfl) (by kernel_rfl) rfl rfl (ltb rfl) ((move_step (.inl rfl) rfl).rd _) ?_
    refine AAny.take (i := 7) rfl (by kernel_rfl) (by kernel_rfl) (by kernel_rfl) rfl rfl (ltb rfl) ((abin_step rfl rfl rfl rfl (fun _ h => by cases h)).rd _) ?_
    obtain ⟨y22, hy23, hM⟩ := bind_t hM
    obtain ⟨k24, n24, q24, f24, ks24, rfl, hc25, hi26⟩ := fidx (ks := ks5) hy23
    refine AAny.take (i := 8) rfl (by kernel_rfl) (by kernel_rfl) (by kernel_rfl) rfl rfl (ltb rfl) ((indexImm_step hG rfl rfl rfl hi26 rfl rfl rfl rfl hc25).rd _) ?_
    refine AAny.take (i := 9) rfl (by kernel_rfl) (by kernel_rfl) (by kernel_rfl) rfl rfl (ltb rfl) (aload_rd hG rfl rfl rfl (by first | (simp [ldok]; done) | exact List.not_mem_nil | trivial)) ?_
    refine AAny.one (i := 10) (by kernel_rfl) (AOp.step0 rfl rfl rfl (store_step hG rfl rfl rfl rfl rfl rfl rfl rfl) (by intro x hx; have hx : x ∈ [ID.loc 6] := hx; simp only [List.mem_cons, List.not_mem_nil, or_false] at hx; subst hx; simp) ?_)
    refine AAny.one (i := 11) (by kernel_rfl) (AOp.step0 rfl rfl rfl (store_step hG rfl rfl rfl rfl rfl rfl rfl rfl) (by intro x hx; have hx : x ∈ [ID.loc 7] := hx; simp only [List.mem_cons, List.not_mem_nil, or_false] at hx; subst hx; simp) ?_)
    refine AAny.done (by kernel_rfl) ?_
    refine run_ret_to ?_
    refine cut_ret ?_
    obtain rfl := some_t hM
    refine fin_x hG rfl rfl rfl (v' := .tup [.agg [.int .i64 1, .int .i64 ra20, .imm 0 3 true (fcellss []), .imm 0 4 true (pcellss [])], .agg [.int .i64 k24, .int .i64 n24, .imm q24 3 f24 (fcellss ks24)]]) (by rfl) ⟨_, ⟨156, 3, true, [[.imm qc17 1 fc17 ((c17 : List Int).map fun n => [AV.int .u8 n]), .int .i64 c18, .int .i64 c19]]⟩, rfl, rfl, (show tk ≤ tk12 by omega), ⟨_, _, _, _, qc17, fc17, c17, c18, c19, rfl, rfl, rfl, ⟨1, ra20, 0, true, [], 0, true, [], rfl, rfl, fun h => by cases h⟩, ⟨k24, n24, q24, f24, ks24, rfl, rfl, fun h => by cases h⟩⟩⟩
   ·replace hM := ite_f hb9 hM
    refine run_skip ?_
    exact ⟨tk, (show tk ≤ tk by omega), hM, Sub.env [(0, .optr (.bor 0) 0 0), (1, .imm q5 3 f5 (fcellss ks5)), (2, .int .i64 i6), (6, .optr (.loc 6) 0 0), (7, .optr (.loc 7) 0 0)] ⟨rfl, rfl, rfl, rfl, rfl, trivial⟩⟩
  ·replace hM := ite_f hb8 hM
   refine run_off (on_of rfl rfl rfl rfl) rfl (ltb rfl) ?_
   refine run_off (on_of rfl rfl rfl rfl) rfl (ltb rfl) ?_
   refine run_off (on_of rfl rfl rfl rfl) rfl (ltb rfl) ?_
   refine run_pu rfl (pick_step rfl rfl rfl) rfl (ltb rfl) ?_
   refine run_ops_nil ?_
   refine run_if rfl rfl (fun h => by cases h) (fun _ => ?_)
   refine run_skip ?_
   exact ⟨tk, (show tk ≤ tk by omega), hM, Sub.env [(0, .optr (.bor 0) 0 0), (1, .imm q5 3 f5 (fcellss ks5)), (2, .int .i64 i6), (6, .optr (.loc 6) 0 0), (7, .optr (.loc 7) 0 0)] ⟨rfl, rfl, rfl, rfl, rfl, trivial⟩⟩
 ·clear hM
  rintro σ' ⟨tkj7, hle254, hM, hsub⟩
  rw [hj255] at hM
  clear hj255
  refine run_sub_code hsub ?_
  refine run_sr ?_
  refine mvR rfl rfl rfl rfl (ltb rfl) ?_
  refine run_ops_nil ?_
  refine run_seq ?_
  refine run_sr ?_
  refine mvL rfl rfl rfl rfl (ltb rfl) ?_
  refine run_bin rfl rfl rfl rfl rfl rfl rfl (ltb rfl) ?_
  refine run_ops_nil ?_
  obtain ⟨j27, hj253, hM⟩ := jn_t hM
  refine run_cutL [.code _] (fun σ' => ∃ (i28 : Int) (q29 : Nat) (f29 : Bool) (l29 : List Int) (i30 : Int) (i31 : Int) (tkj27 : Nat), tkj7 ≤ tkj27 ∧ j27 i28 l29 i30 i31 = some r ∧ Sub ⟨Go.Proofs.Try.prog, S0, Go.Proofs.Try.f51.ntmps, [X0], fun _ => False, []⟩ σ' ⟨[(0, .optr (.bor 0) 0 0), (1, .imm q5 3 f5 (fcellss ks5)), (2, .int .i64 i6), (6, .optr (.loc 6) 0 0), (7, .optr (.loc 7) 0 0), (9, .int .i64 i28)], [(7, ⟨28, 3, true, [[.int .i64 0, .int .i64 0, .imm 0 3 true []]]⟩), (6, ⟨26, 4, true, [[.int .i64 0, .int .i64 0, .imm 0 3 true [], .imm 0 4 true []]]⟩)], [⟨156, 3, true, [[.imm q29 1 f29 ((l29 : List Int).map fun n => [AV.int .u8 n]), .int .i64 i30, .int .i64 i31]]⟩], O, tkj27⟩) rfl ?_ ?_
  ·refine run_ifd rfl rfl (fun hb32 => ?_) (fun hb32 => ?_)
   ·replace hM := ite_t hb32 hM
    refine run_region ?_
    refine mvL rfl rfl rfl rfl (ltb rfl) ?_
    obtain ⟨r33, hg34, hM⟩ := bind_t hM
    refine run_call rfl rfl rfl (ltb rfl) rfl rfl rfl (fun _ h => absurd h List.not_mem_nil) (s_l00Src_next_ok (.bor 0) q2 f2 l2 i3 i4 5 hg34 _ _ rfl) (callK_retV_bor (k := 0) rfl (fun v o' tk' h => by obtain ⟨_, _, _, _, _, _, rfl, rfl, _⟩ := h; rfl) (fun v o'44 tk35 (hle36 : tkj7 ≤ tk35) h37 => ?_))
    obtain ⟨ra43, qc40, fc40, c40, c41, c42, rfl, rfl, rfl⟩ := h37
    refine mvR rfl rfl rfl rfl (ltb rfl) ?_
    refine run_ops_nil ?_
    exact ⟨ra43, qc40, fc40, c40, c41, c42, tk35, (show tkj7 ≤ tk35 by omega), hM, Sub.env [(0, .optr (.bor 0) 0 0), (1, .imm q5 3 f5 (fcellss ks5)), (2, .int .i64 i6), (6, .optr (.loc 6) 0 0), (7, .optr (.loc 7) 0 0), (9, .int .i64 ra43)] ⟨rfl, rfl, rfl, rfl, rfl, rfl, trivial⟩⟩
   ·replace hM := ite_f hb32 hM
    refine run_skip ?_
    exact ⟨3, q2, f2, l2, i3, i4, tkj7, (show tkj7 ≤ tkj7 by omega), hM, Sub.env [(0, .optr (.bor 0) 0 0), (1, .imm q5 3 f5 (fcellss ks5)), (2, .int .i64 i6), (6, .optr (.loc 6) 0 0), (7, .optr (.loc 7) 0 0), (9, .int .i64 3)] ⟨rfl, rfl, rfl, rfl, rfl, rfl, trivial⟩⟩
  ·clear hM
   rintro σ' ⟨i28, q29, f29, l29, i30, i31, tkj27, hle252, hM, hsub⟩
   rw [hj253] at hM
   clear hj253
   refine run_sub_code hsub ?_
   refine run_seq ?_
   refine run_sr ?_
   refine mvL rfl rfl rfl rfl (ltb rfl) ?_
   refine run_ops_nil ?_
   refine run_block ?_
   refine run_sr ?_
   refine run_bin rfl rfl rfl rfl rfl rfl rfl (ltb rfl) ?_
   refine mvR rfl rfl rfl rfl (ltb rfl) ?_
   refine run_ops_nil ?_
   refine run_ifd rfl rfl (fun hb45 => ?_) (fun hb45 => ?_)
   ·replace hM := ite_t hb45 hM
    refine run_sr ?_
    refine mvL rfl rfl rfl rfl (ltb rfl) ?_
    refine mvL rfl rfl rfl rfl (ltb rfl) ?_
    refine mvL rfl rfl rfl rfl (ltb rfl) ?_
    refine run_bin rfl rfl rfl rfl rfl rfl rfl (ltb rfl) ?_
    obtain ⟨r46, hg47, hM⟩ := bind_t hM
    refine run_call rfl rfl rfl (ltb rfl) rfl rfl rfl (fun _ h => absurd h List.not_mem_nil) (ih_s_l00Src_proof (.bor 0) q29 f29 l29 i30 i31 q5 f5 ks5 (IntKind.i64.wrap (i6 - 1)) hg47 _ _ rfl) (callK_retV_bor (k := 0) rfl (fun v o' tk' h => by obtain ⟨_, _, _, _, _, _, _, _, _, rfl, rfl, _⟩ := h; rfl) (fun v o'63 tk48 (hle49 : tkj27 ≤ tk48) h50 => ?_))
    obtain ⟨ra59, ra60, va61, va62, qc55, fc55, c55, c56, c57, rfl, rfl, rfl, ⟨k51, n51, p51, e51, fs51, q51, f51, ks51, rfl, rfl, hf52⟩, ⟨k53, n53, q53, f53, ks53, rfl, rfl, hf54⟩⟩ := h50
    refine mvL rfl rfl rfl rfl (ltb rfl) ?_
    refine run_pu rfl (extract_step rfl rfl rfl) rfl (ltb rfl) ?_
    refine run_pu rfl (extract_step rfl rfl rfl) rfl (ltb rfl) ?_
    refine run_op rfl (alloc_step (d := 10) hG rfl rfl rfl) rfl (ltb rfl) ?_
    refine run_op rfl (alloc_step (d := 11) hG rfl rfl rfl) rfl (ltb rfl) ?_
    refine run_op0 rfl (store_step hG rfl rfl rfl rfl rfl rfl rfl rfl) rfl ?_
    refine run_op0 rfl (store_step hG rfl rfl rfl rfl rfl rfl rfl rfl) rfl ?_
    refine run_ops_nil ?_
    refine run_sub_code (σ' := ⟨[(0, .optr (.bor 0) 0 0), (1, .imm q5 3 f5 (fcellss ks5)), (2, .int .i64 i6), (6, .optr (.loc 6) 0 0), (7, .optr (.loc 7) 0 0), (10, .optr (.loc 10) 0 0), (11, .optr (.loc 11) 0 0)], [(11, ⟨28, 3, true, [[.int .i64 k53, .int .i64 n53, .imm q53 3 f53 (fcellss ks53)]]⟩), (10, ⟨26, 4, true, [[.int .i64 k51, .int .i64 n51, .imm p51 3 e51 (fcellss fs51), .imm q51 4 f51 (pcellss ks51)]]⟩), (7, ⟨28, 3, true, [[.int .i64 0, .int .i64 0, .imm 0 3 true []]]⟩), (6, ⟨26, 4, true, [[.int .i64 0, .int .i64 0, .imm 0 3 true [], .imm 0 4 true []]]⟩)], [⟨156, 3, true, [[.imm qc55 1 fc55 ((c55 : List Int).map fun n => [AV.int .u8 n]), .int .i64 c56, .int .i64 c57]]⟩], O, tk48⟩) (Sub.env _ ⟨rfl, rfl, rfl, rfl, rfl, rfl, rfl, trivial⟩) ?_
    refine run_sr ?_
    refine mvL rfl rfl rfl rfl (ltb rfl) ?_
    refine mvL rfl rfl rfl rfl (ltb rfl) ?_
    refine mvL rfl rfl rfl rfl (ltb rfl) ?_
    refine run_bin rfl rfl rfl rfl rfl rfl rfl (ltb rfl) ?_
    obtain ⟨r64, hg65, hM⟩ := bind_t hM
    refine run_call rfl rfl rfl (ltb rfl) rfl rfl rfl (fun _ h => absurd h List.not_mem_nil) (ih_s_l00Src_proof (.bor 0) qc55 fc55 c55 c56 c57 q5 f5 ks5 (IntKind.i64.wrap (i6 - 2)) hg65 _ _ rfl) (callK_retV_bor (k := 0) rfl (fun v o' tk' h => by obtain ⟨_, _, _, _, _, _, _, _, _, rfl, rfl, _⟩ := h; rfl) (fun v o'81 tk66 (hle67 : tk48 ≤ tk66) h68 => ?_))
    obtain ⟨ra77, ra78, va79, va80, qc73, fc73, c73, c74, c75, rfl, rfl, rfl, ⟨k69, n69, p69, e69, fs69, q69, f69, ks69, rfl, rfl, hf70⟩, ⟨k71, n71, q71, f71, ks71, rfl, rfl, hf72⟩⟩ := h68
    refine mvL rfl rfl rfl rfl (ltb rfl) ?_
    refine run_pu rfl (extract_step rfl rfl rfl) rfl (ltb rfl) ?_
    refine run_pu rfl (extract_step rfl rfl rfl) rfl (ltb rfl) ?_
    refine run_op rfl (alloc_step (d := 12) hG rfl rfl rfl) rfl (ltb rfl) ?_
    refine run_op rfl (alloc_step (d := 13) hG rfl rfl rfl) rfl (ltb rfl) ?_
    refine run_op0 rfl (store_step hG rfl rfl rfl rfl rfl rfl rfl rfl) rfl ?_
    refine run_op0 rfl (store_step hG rfl rfl rfl rfl rfl rfl rfl rfl) rfl ?_
    refine run_ops_nil ?_
    refine run_seq ?_
    refine run_draw [.loc 6, .loc 7] (n := 12) mixed rfl (by intro x hx; simp only [List.mem_cons, List.not_mem_nil, or_false] at hx; rcases hx with rfl | rfl <;> rfl) ?_
    refine AAny.take (i := 0) rfl (by kernel_rfl) (by kernel_rfl) (by kernel_rfl) rfl rfl (ltb rfl) (aload_rd hG rfl rfl rfl (by first | (simp [ldok]; done) | exact List.not_mem_nil | trivial)) ?_
    refine AAny.take (i := 1) rfl (by kernel_rfl) (by kernel_rfl) (by kernel_rfl) rfl rfl (ltb rfl) (aload_rd hG rfl rfl rfl (by first | (simp [ldok]; done) | exact List.not_mem_nil | trivial)) ?_
    refine AAny.take (i := 3) rfl (by kernel_rfl) (by kernel_rfl) (by kernel_rfl) rfl rfl (ltb rfl) (aload_rd hG rfl rfl rfl (by first | (simp [ldok]; done) | exact List.not_mem_nil | trivial)) ?_
    refine AAny.take (i := 4) rfl (by kernel_rfl) (by kernel_rfl) (by kernel_rfl) rfl rfl (ltb rfl) (aload_rd hG rfl rfl rfl (by first | (simp [ldok]; done) | exact List.not_mem_nil | trivial)) ?_
    refine AAny.take (i := 7) rfl (by kernel_rfl) (by kernel_rfl) (by kernel_rfl) rfl rfl (ltb rfl) (aload_rd hG rfl rfl rfl (by first | (simp [ldok]; done) | exact List.not_mem_nil | trivial)) ?_
    refine AAny.take (i := 8) rfl (by kernel_rfl) (by kernel_rfl) (by kernel_rfl) rfl rfl (ltb rfl) (aload_rd hG rfl rfl rfl (by first | (simp [ldok]; done) | exact List.not_mem_nil | trivial)) ?_
    refine AAny.each (rs := [2, 5, 9]) (by kernel_rfl) (fun h => by cases h) (fun i hi => ?_)
    simp only [List.mem_cons, List.not_mem_nil, or_false] at hi
    rcases hi with rfl | rfl | rfl
    ·refine AOp.step rfl rfl rfl (ltb rfl) (buildSlice_step (d := 71) hG rfl rfl rfl rfl rfl (by rfl) (by rfl) (by rfl) (by decide)) (fun _ h => absurd h List.not_mem_nil) ?_
     refine AAny.each (rs := [5, 9]) (by kernel_rfl) (fun h => by cases h) (fun i hi => ?_)
     simp only [List.mem_cons, List.not_mem_nil, or_false] at hi
     rcases hi with rfl | rfl
     ·refine AOp.step rfl rfl rfl (ltb rfl) (buildSlice_step (d := 74) hG rfl rfl rfl rfl rfl (by rfl) (by rfl) (by rfl) (by decide)) (fun _ h => absurd h List.not_mem_nil) ?_
      refine AAny.take (i := 6) rfl (by kernel_rfl) (by kernel_rfl) (by kernel_rfl) rfl rfl (ltb rfl) ((build_step hG rfl (by rfl) rfl (fun h => by cases h) (by rfl)).rd _) ?_
      refine AAny.one (i := 9) (by kernel_rfl) (AOp.call rfl rfl rfl rfl (ltb rfl) rfl rfl rfl (fun _ h => absurd h List.not_mem_nil) (fun _ h => absurd h List.not_mem_nil) (s_l08Two_ex 2 k53 n53 q53 f53 ks53 k71 n71 q71 f71 ks71 _ _) (callK_retN ?_))
      skip
      refine AAny.one (i := 10) (by kernel_rfl) (AOp.step0 rfl rfl rfl (store_step hG rfl rfl rfl rfl rfl rfl rfl rfl) (by intro x hx; have hx : x ∈ [ID.loc 6] := hx; simp only [List.mem_cons, List.not_mem_nil, or_false] at hx; subst hx; simp) ?_)
      refine AAny.one (i := 11) (by kernel_rfl) (AOp.step0 rfl rfl rfl (store_step hG rfl rfl rfl rfl rfl rfl rfl rfl) (by intro x hx; have hx : x ∈ [ID.loc 7] := hx; simp only [List.mem_cons, List.not_mem_nil, or_false] at hx; subst hx; simp) ?_)
      refine AAny.done (by kernel_rfl) ?_
      refine run_ret_to ?_
      refine fin_sub (Sub.freeze (k := 71) rfl rfl) ?_
      refine fin_sub (Sub.freeze (k := 74) rfl rfl) ?_
      obtain rfl := some_t hM
      refine fin_x hG rfl rfl rfl (v' := .tup [.agg [.int .i64 2, .int .i64 0, .imm (tk66 + 1) 3 false (fcellss [LF.mk k53 n53 q53 f53 ks53, LF.mk k71 n71 q71 f71 ks71]), .imm ((tk66 + 1) + 1) 4 false (pcellss [LP.mk k51 n51 p51 e51 fs51 q51 f51 ks51, LP.mk k69 n69 p69 e69 fs69 q69 f69 ks69])], .agg [.int .i64 2, .int .i64 0, .imm tk66 3 false (fcellss [LF.mk k53 n53 q53 f53 ks53, LF.mk k71 n71 q71 f71 ks71])]]) (by rfl) ⟨_, ⟨156, 3, true, [[.imm qc73 1 fc73 ((c73 : List Int).map fun n => [AV.int .u8 n]), .int .i64 c74, .int .i64 c75]]⟩, rfl, rfl, (show tk ≤ (((tk66 + 1) + 1) + 1) by omega), ⟨_, _, _, _, qc73, fc73, c73, c74, c75, rfl, rfl, rfl, ⟨2, 0, (tk66 + 1), false, [LF.mk k53 n53 q53 f53 ks53, LF.mk k71 n71 q71 f71 ks71], ((tk66 + 1) + 1), false, [LP.mk k51 n51 p51 e51 fs51 q51 f51 ks51, LP.mk k69 n69 p69 e69 fs69 q69 f69 ks69], rfl, rfl, fun h => by cases h⟩, ⟨2, 0, tk66, false, [LF.mk k53 n53 q53 f53 ks53, LF.mk k71 n71 q71 f71 ks71], rfl, rfl, fun h => by cases h⟩⟩⟩
     ·refine AOp.call rfl rfl rfl rfl (ltb rfl) rfl rfl rfl (fun _ h => absurd h List.not_mem_nil) (fun _ h => absurd h List.not_mem_nil) (s_l08Two_ex 2 k53 n53 q53 f53 ks53 k71 n71 q71 f71 ks71 _ _) (callK_retN ?_)
      skip
      refine AAny.one (i := 5) (by kernel_rfl) (AOp.step rfl rfl rfl (ltb rfl) (buildSlice_step (d := 74) hG rfl rfl rfl rfl rfl (by rfl) (by rfl) (by rfl) (by decide)) (fun _ h => absurd h List.not_mem_nil) ?_)
      refine AAny.take (i := 6) rfl (by kernel_rfl) (by kernel_rfl) (by kernel_rfl) rfl rfl (ltb rfl) ((build_step hG rfl (by rfl) rfl (fun h => by cases h) (by rfl)).rd _) ?_
      refine AAny.one (i := 10) (by kernel_rfl) (AOp.step0 rfl rfl rfl (store_step hG rfl rfl rfl rfl rfl rfl rfl rfl) (by intro x hx; have hx : x ∈ [ID.loc 6] := hx; simp only [List.mem_cons, List.not_mem_nil, or_false] at hx; subst hx; simp) ?_)
      refine AAny.one (i := 11) (by kernel_rfl) (AOp.step0 rfl rfl rfl (store_step hG rfl rfl rfl rfl rfl rfl rfl rfl) (by intro x hx; have hx : x ∈ [ID.loc 7] := hx; simp only [List.mem_cons, List.not_mem_nil, or_false] at hx; subst hx; simp) ?_)
      refine AAny.done (by kernel_rfl) ?_
      refine run_ret_to ?_
      refine fin_sub (Sub.freeze (k := 71) rfl rfl) ?_
      refine fin_sub (Sub.freeze (k := 74) rfl rfl) ?_
      obtain rfl := some_t hM
      refine fin_x hG rfl rfl rfl (v' := .tup [.agg [.int .i64 2, .int .i64 0, .imm (tk66 + 1) 3 false (fcellss [LF.mk k53 n53 q53 f53 ks53, LF.mk k71 n71 q71 f71 ks71]), .imm ((tk66 + 1) + 1) 4 false (pcellss [LP.mk k51 n51 p51 e51 fs51 q51 f51 ks51, LP.mk k69 n69 p69 e69 fs69 q69 f69 ks69])], .agg [.int .i64 2, .int .i64 0, .imm tk66 3 false (fcellss [LF.mk k53 n53 q53 f53 ks53, LF.mk k71 n71 q71 f71 ks71])]]) (by rfl) ⟨_, ⟨156, 3, true, [[.imm qc73 1 fc73 ((c73 : List Int).map fun n => [AV.int .u8 n]), .int .i64 c74, .int .i64 c75]]⟩, rfl, rfl, (show tk ≤ (((tk66 + 1) + 1) + 1) by omega), ⟨_, _, _, _, qc73, fc73, c73, c74, c75, rfl, rfl, rfl, ⟨2, 0, (tk66 + 1), false, [LF.mk k53 n53 q53 f53 ks53, LF.mk k71 n71 q71 f71 ks71], ((tk66 + 1) + 1), false, [LP.mk k51 n51 p51 e51 fs51 q51 f51 ks51, LP.mk k69 n69 p69 e69 fs69 q69 f69 ks69], rfl, rfl, fun h => by cases h⟩, ⟨2, 0, tk66, false, [LF.mk k53 n53 q53 f53 ks53, LF.mk k71 n71 q71 f71 ks71], rfl, rfl, fun h => by cases h⟩⟩⟩
    ·refine AOp.step rfl rfl rfl (ltb rfl) (buildSlice_step (d := 74) hG rfl rfl rfl rfl rfl (by rfl) (by rfl) (by rfl) (by decide)) (fun _ h => absurd h List.not_mem_nil) ?_
     refine AAny.each (rs := [2, 9]) (by kernel_rfl) (fun h => by cases h) (fun i hi => ?_)
     simp only [List.mem_cons, List.not_mem_nil, or_false] at hi
     rcases hi with rfl | rfl
     ·refine AOp.step rfl rfl rfl (ltb rfl) (buildSlice_step (d := 71) hG rfl rfl rfl rfl rfl (by rfl) (by rfl) (by rfl) (by decide)) (fun _ h => absurd h List.not_mem_nil) ?_
      refine AAny.take (i := 6) rfl (by kernel_rfl) (by kernel_rfl) (by kernel_rfl) rfl rfl (ltb rfl) ((build_step hG rfl (by rfl) rfl (fun h => by cases h) (by rfl)).rd _) ?_
      refine AAny.one (i := 9) (by kernel_rfl) (AOp.call rfl rfl rfl rfl (ltb rfl) rfl rfl rfl (fun _ h => absurd h List.not_mem_nil) (fun _ h => absurd h List.not_mem_nil) (s_l08Two_ex 2 k53 n53 q53 f53 ks53 k71 n71 q71 f71 ks71 _ _) (callK_retN ?_))
      skip
      refine AAny.one (i := 10) (by kernel_rfl) (AOp.step0 rfl rfl rfl (store_step hG rfl rfl rfl rfl rfl rfl rfl rfl) (by intro x hx; have hx : x ∈ [ID.loc 6] := hx; simp only [List.mem_cons, List.not_mem_nil, or_false] at hx; subst hx; simp) ?_)
      refine AAny.one (i := 11) (by kernel_rfl) (AOp.step0 rfl rfl rfl (store_step hG rfl rfl rfl rfl rfl rfl rfl rfl) (by intro x hx; have hx : x ∈ [ID.loc 7] := hx; simp only [List.mem_cons, List.not_mem_nil, or_false] at hx; subst hx; simp) ?_)
      refine AAny.done (by kernel_rfl) ?_
      refine run_ret_to ?_
      refine fin_sub (Sub.freeze (k := 71) rfl rfl) ?_
      refine fin_sub (Sub.freeze (k := 74) rfl rfl) ?_
      obtain rfl := some_t hM
      refine fin_x hG rfl rfl rfl (v' := .tup [.agg [.int .i64 2, .int .i64 0, .imm (tk66 + 1) 3 false (fcellss [LF.mk k53 n53 q53 f53 ks53, LF.mk k71 n71 q71 f71 ks71]), .imm ((tk66 + 1) + 1) 4 false (pcellss [LP.mk k51 n51 p51 e51 fs51 q51 f51 ks51, LP.mk k69 n69 p69 e69 fs69 q69 f69 ks69])], .agg [.int .i64 2, .int .i64 0, .imm tk66 3 false (fcellss [LF.mk k53 n53 q53 f53 ks53, LF.mk k71 n71 q71 f71 ks71])]]) (by rfl) ⟨_, ⟨156, 3, true, [[.imm qc73 1 fc73 ((c73 : List Int).map fun n => [AV.int .u8 n]), .int .i64 c74, .int .i64 c75]]⟩, rfl, rfl, (show tk ≤ (((tk66 + 1) + 1) + 1) by omega), ⟨_, _, _, _, qc73, fc73, c73, c74, c75, rfl, rfl, rfl, ⟨2, 0, (tk66 + 1), false, [LF.mk k53 n53 q53 f53 ks53, LF.mk k71 n71 q71 f71 ks71], ((tk66 + 1) + 1), false, [LP.mk k51 n51 p51 e51 fs51 q51 f51 ks51, LP.mk k69 n69 p69 e69 fs69 q69 f69 ks69], rfl, rfl, fun h => by cases h⟩, ⟨2, 0, tk66, false, [LF.mk k53 n53 q53 f53 ks53, LF.mk k71 n71 q71 f71 ks71], rfl, rfl, fun h => by cases h⟩⟩⟩
     ·refine AOp.call rfl rfl rfl rfl (ltb rfl) rfl rfl rfl (fun _ h => absurd h List.not_mem_nil) (fun _ h => absurd h List.not_mem_nil) (s_l08Two_ex 2 k53 n53 q53 f53 ks53 k71 n71 q71 f71 ks71 _ _) (callK_retN ?_)
      skip
      refine AAny.one (i := 2) (by kernel_rfl) (AOp.step rfl rfl rfl (ltb rfl) (buildSlice_step (d := 71) hG rfl rfl rfl rfl rfl (by rfl) (by rfl) (by rfl) (by decide)) (fun _ h => absurd h List.not_mem_nil) ?_)
      refine AAny.take (i := 6) rfl (by kernel_rfl) (by kernel_rfl) (by kernel_rfl) rfl rfl (ltb rfl) ((build_step hG rfl (by rfl) rfl (fun h => by cases h) (by rfl)).rd _) ?_
      refine AAny.one (i := 10) (by kernel_rfl) (AOp.step0 rfl rfl rfl (store_step hG rfl rfl rfl rfl rfl rfl rfl rfl) (by intro x hx; have hx : x ∈ [ID.loc 6] := hx; simp only [List.mem_cons, List.not_mem_nil, or_false] at hx; subst hx; simp) ?_)
      refine AAny.one (i := 11) (by kernel_rfl) (AOp.step0 rfl rfl rfl (store_step hG rfl rfl rfl rfl rfl rfl rfl rfl) (by intro x hx; have hx : x ∈ [ID.loc 7] := hx; simp only [List.mem_cons, List.not_mem_nil, or_false] at hx; subst hx; simp) ?_)
      refine AAny.done (by kernel_rfl) ?_
      refine run_ret_to ?_
      refine fin_sub (Sub.freeze (k := 71) rfl rfl) ?_
      refine fin_sub (Sub.freeze (k := 74) rfl rfl) ?_
      obtain rfl := some_t hM
      refine fin_x hG rfl rfl rfl (v' := .tup [.agg [.int .i64 2, .int .i64 0, .imm (tk66 + 1) 3 false (fcellss [LF.mk k53 n53 q53 f53 ks53, LF.mk k71 n71 q71 f71 ks71]), .imm ((tk66 + 1) + 1) 4 false (pcellss [LP.mk k51 n51 p51 e51 fs51 q51 f51 ks51, LP.mk k69 n69 p69 e69 fs69 q69 f69 ks69])], .agg [.int .i64 2, .int .i64 0, .imm tk66 3 false (fcellss [LF.mk k53 n53 q53 f53 ks53, LF.mk k71 n71 q71 f71 ks71])]]) (by rfl) ⟨_, ⟨156, 3, true, [[.imm qc73 1 fc73 ((c73 : List Int).map fun n => [AV.int .u8 n]), .int .i64 c74, .int .i64 c75]]⟩, rfl, rfl, (show tk ≤ (((tk66 + 1) + 1) + 1) by omega), ⟨_, _, _, _, qc73, fc73, c73, c74, c75, rfl, rfl, rfl, ⟨2, 0, (tk66 + 1), false, [LF.mk k53 n53 q53 f53 ks53, LF.mk k71 n71 q71 f71 ks71], ((tk66 + 1) + 1), false, [LP.mk k51 n51 p51 e51 fs51 q51 f51 ks51, LP.mk k69 n69 p69 e69 fs69 q69 f69 ks69], rfl, rfl, fun h => by cases h⟩, ⟨2, 0, tk66, false, [LF.mk k53 n53 q53 f53 ks53, LF.mk k71 n71 q71 f71 ks71], rfl, rfl, fun h => by cases h⟩⟩⟩
    ·refine AOp.call rfl rfl rfl rfl (ltb rfl) rfl rfl rfl (fun _ h => absurd h List.not_mem_nil) (fun _ h => absurd h List.not_mem_nil) (s_l08Two_ex 2 k53 n53 q53 f53 ks53 k71 n71 q71 f71 ks71 _ _) (callK_retN ?_)
     skip
     refine AAny.each (rs := [2, 5]) (by kernel_rfl) (fun h => by cases h) (fun i hi => ?_)
     simp only [List.mem_cons, List.not_mem_nil, or_false] at hi
     rcases hi with rfl | rfl
     ·refine AOp.step rfl rfl rfl (ltb rfl) (buildSlice_step (d := 71) hG rfl rfl rfl rfl rfl (by rfl) (by rfl) (by rfl) (by decide)) (fun _ h => absurd h List.not_mem_nil) ?_
      refine AAny.one (i := 5) (by kernel_rfl) (AOp.step rfl rfl rfl (ltb rfl) (buildSlice_step (d := 74) hG rfl rfl rfl rfl rfl (by rfl) (by rfl) (by rfl) (by decide)) (fun _ h => absurd h List.not_mem_nil) ?_)
      refine AAny.take (i := 6) rfl (by kernel_rfl) (by kernel_rfl) (by kernel_rfl) rfl rfl (ltb rfl) ((build_step hG rfl (by rfl) rfl (fun h => by cases h) (by rfl)).rd _) ?_
      refine AAny.one (i := 10) (by kernel_rfl) (AOp.step0 rfl rfl rfl (store_step hG rfl rfl rfl rfl rfl rfl rfl rfl) (by intro x hx; have hx : x ∈ [ID.loc 6] := hx; simp only [List.mem_cons, List.not_mem_nil, or_false] at hx; subst hx; simp) ?_)
      refine AAny.one (i := 11) (by kernel_rfl) (AOp.step0 rfl rfl rfl (store_step hG rfl rfl rfl rfl rfl rfl rfl rfl) (by intro x hx; have hx : x ∈ [ID.loc 7] := hx; simp only [List.mem_cons, List.not_mem_nil, or_false] at hx; subst hx; simp) ?_)
      refine AAny.done (by kernel_rfl) ?_
      refine run_ret_to ?_
      refine fin_sub (Sub.freeze (k := 71) rfl rfl) ?_
      refine fin_sub (Sub.freeze (k := 74) rfl rfl) ?_
      obtain rfl := some_t hM
      refine fin_x hG rfl rfl rfl (v' := .tup [.agg [.int .i64 2, .int .i64 0, .imm (tk66 + 1) 3 false (fcellss [LF.mk k53 n53 q53 f53 ks53, LF.mk k71 n71 q71 f71 ks71]), .imm ((tk66 + 1) + 1) 4 false (pcellss [LP.mk k51 n51 p51 e51 fs51 q51 f51 ks51, LP.mk k69 n69 p69 e69 fs69 q69 f69 ks69])], .agg [.int .i64 2, .int .i64 0, .imm tk66 3 false (fcellss [LF.mk k53 n53 q53 f53 ks53, LF.mk k71 n71 q71 f71 ks71])]]) (by rfl) ⟨_, ⟨156, 3, true, [[.imm qc73 1 fc73 ((c73 : List Int).map fun n => [AV.int .u8 n]), .int .i64 c74, .int .i64 c75]]⟩, rfl, rfl, (show tk ≤ (((tk66 + 1) + 1) + 1) by omega), ⟨_, _, _, _, qc73, fc73, c73, c74, c75, rfl, rfl, rfl, ⟨2, 0, (tk66 + 1), false, [LF.mk k53 n53 q53 f53 ks53, LF.mk k71 n71 q71 f71 ks71], ((tk66 + 1) + 1), false, [LP.mk k51 n51 p51 e51 fs51 q51 f51 ks51, LP.mk k69 n69 p69 e69 fs69 q69 f69 ks69], rfl, rfl, fun h => by cases h⟩, ⟨2, 0, tk66, false, [LF.mk k53 n53 q53 f53 ks53, LF.mk k71 n71 q71 f71 ks71], rfl, rfl, fun h => by cases h⟩⟩⟩
     ·refine AOp.step rfl rfl rfl (ltb rfl) (buildSlice_step (d := 74) hG rfl rfl rfl rfl rfl (by rfl) (by rfl) (by rfl) (by decide)) (fun _ h => absurd h List.not_mem_nil) ?_
      refine AAny.one (i := 2) (by kernel_rfl) (AOp.step rfl rfl rfl (ltb rfl) (buildSlice_step (d := 71) hG rfl rfl rfl rfl rfl (by rfl) (by rfl) (by rfl) (by decide)) (fun _ h => absurd h List.not_mem_nil) ?_)
      refine AAny.take (i := 6) rfl (by kernel_rfl) (by kernel_rfl) (by kernel_rfl) rfl rfl (ltb rfl) ((build_step hG rfl (by rfl) rfl (fun h => by cases h) (by rfl)).rd _) ?_
      refine AAny.one (i := 10) (by kernel_rfl) (AOp.step0 rfl rfl rfl (store_step hG rfl rfl rfl rfl rfl rfl rfl rfl) (by intro x hx; have hx : x ∈ [ID.loc 6] := hx; simp only [List.mem_cons, List.not_mem_nil, or_false] at hx; subst hx; simp) ?_)
      refine AAny.one (i := 11) (by kernel_rfl) (AOp.step0 rfl rfl rfl (store_step hG rfl rfl rfl rfl rfl rfl rfl rfl) (by intro x hx; have hx : x ∈ [ID.loc 7] := hx; simp only [List.mem_cons, List.not_mem_nil, or_false] at hx; subst hx; simp) ?_)
      refine AAny.done (by kernel_rfl) ?_
      refine run_ret_to ?_
      refine fin_sub (Sub.freeze (k := 71) rfl rfl) ?_
      refine fin_sub (Sub.freeze (k := 74) rfl rfl) ?_
      obtain rfl := some_t hM
      refine fin_x hG rfl rfl rfl (v' := .tup [.agg [.int .i64 2, .int .i64 0, .imm (tk66 + 1) 3 false (fcellss [LF.mk k53 n53 q53 f53 ks53, LF.mk k71 n71 q71 f71 ks71]), .imm ((tk66 + 1) + 1) 4 false (pcellss [LP.mk k51 n51 p51 e51 fs51 q51 f51 ks51, LP.mk k69 n69 p69 e69 fs69 q69 f69 ks69])], .agg [.int .i64 2, .int .i64 0, .imm tk66 3 false (fcellss [LF.mk k53 n53 q53 f53 ks53, LF.mk k71 n71 q71 f71 ks71])]]) (by rfl) ⟨_, ⟨156, 3, true, [[.imm qc73 1 fc73 ((c73 : List Int).map fun n => [AV.int .u8 n]), .int .i64 c74, .int .i64 c75]]⟩, rfl, rfl, (show tk ≤ (((tk66 + 1) + 1) + 1) by omega), ⟨_, _, _, _, qc73, fc73, c73, c74, c75, rfl, rfl, rfl, ⟨2, 0, (tk66 + 1), false, [LF.mk k53 n53 q53 f53 ks53, LF.mk k71 n71 q71 f71 ks71], ((tk66 + 1) + 1), false, [LP.mk k51 n51 p51 e51 fs51 q51 f51 ks51, LP.mk k69 n69 p69 e69 fs69 q69 f69 ks69], rfl, rfl, fun h => by cases h⟩, ⟨2, 0, tk66, false, [LF.mk k53 n53 q53 f53 ks53, LF.mk k71 n71 q71 f71 ks71], rfl, rfl, fun h => by cases h⟩⟩⟩
   ·replace hM := ite_f hb45 hM
    refine run_sr ?_
    refine run_bin rfl rfl rfl rfl rfl rfl rfl (ltb rfl) ?_
    refine mvR rfl rfl rfl rfl (ltb rfl) ?_
    refine run_ops_nil ?_
    refine run_ifd rfl rfl (fun hb82 => ?_) (fun hb82 => ?_)
    ·replace hM := ite_t hb82 hM
     refine run_sr ?_
     refine mvL rfl rfl rfl rfl (ltb rfl) ?_
     refine mvL rfl rfl rfl rfl (ltb rfl) ?_
     refine mvL rfl rfl rfl rfl (ltb rfl) ?_
     refine run_bin rfl rfl rfl rfl rfl rfl rfl (ltb rfl) ?_
     obtain ⟨r83, hg84, hM⟩ := bind_t hM
     refine run_call rfl rfl rfl (ltb rfl) rfl rfl rfl (fun _ h => absurd h List.not_mem_nil) (ih_s_l00Src_proof (.bor 0) q29 f29 l29 i30 i31 q5 f5 ks5 (IntKind.i64.wrap (i6 - 1)) hg84 _ _ rfl) (callK_retV_bor (k := 0) rfl (fun v o' tk' h => by obtain ⟨_, _, _, _, _, _, _, _, _, rfl, rfl, _⟩ := h; rfl) (fun v o'100 tk85 (hle86 : tkj27 ≤ tk85) h87 => ?_))
     obtain ⟨ra96, ra97, va98, va99, qc92, fc92, c92, c93, c94, rfl, rfl, rfl, ⟨k88, n88, p88, e88, fs88, q88, f88, ks88, rfl, rfl, hf89⟩, ⟨k90, n90, q90, f90, ks90, rfl, rfl, hf91⟩⟩ := h87
     refine mvL rfl rfl rfl rfl (ltb rfl) ?_
     refine run_pu rfl (extract_step rfl rfl rfl) rfl (ltb rfl) ?_
     refine run_pu rfl (extract_step rfl rfl rfl) rfl (ltb rfl) ?_
     refine run_op rfl (alloc_step (d := 14) hG rfl rfl rfl) rfl (ltb rfl) ?_
     refine run_op rfl (alloc_step (d := 15) hG rfl rfl rfl) rfl (ltb rfl) ?_
     refine run_op0 rfl (store_step hG rfl rfl rfl rfl rfl rfl rfl rfl) rfl ?_
     refine run_op0 rfl (store_step hG rfl rfl rfl rfl rfl rfl rfl rfl) rfl ?_
     refine run_ops_nil ?_
     refine run_sub_code (σ' := ⟨[(0, .optr (.bor 0) 0 0), (1, .imm q5 3 f5 (fcellss ks5)), (2, .int .i64 i6), (6, .optr (.loc 6) 0 0), (7, .optr (.loc 7) 0 0), (14, .optr (.loc 14) 0 0), (15, .optr (.loc 15) 0 0)], [(15, ⟨28, 3, true, [[.int .i64 k90, .int .i64 n90, .imm q90 3 f90 (fcellss ks90)]]⟩), (14, ⟨26, 4, true, [[.int .i64 k88, .int .i64 n88, .imm p88 3 e88 (fcellss fs88), .imm q88 4 f88 (pcellss ks88)]]⟩), (7, ⟨28, 3, true, [[.int .i64 0, .int .i64 0, .imm 0 3 true []]]⟩), (6, ⟨26, 4, true, [[.int .i64 0, .int .i64 0, .imm 0 3 true [], .imm 0 4 true []]]⟩)], [⟨156, 3, true, [[.imm qc92 1 fc92 ((c92 : List Int).map fun n => [AV.int .u8 n]), .int .i64 c93, .int .i64 c94]]⟩], O, tk85⟩) (Sub.env _ ⟨rfl, rfl, rfl, rfl, rfl, rfl, rfl, trivial⟩) ?_
     refine run_seq ?_
     refine run_sr ?_
     refine run_pu rfl (fieldAddr_step hG rfl rfl rfl rfl rfl) rfl (ltb rfl) ?_
     refine run_ld hG rfl rfl rfl rfl rfl (ltb rfl) ?_
     refine run_bin rfl rfl rfl rfl rfl rfl rfl (ltb rfl) ?_
     refine run_ops_nil ?_
     refine run_ifd rfl rfl (fun hb101 => ?_) (fun hb101 => ?_)
     ·replace hM := ite_t hb101 hM
      refine run_sr ?_
      refine mvL rfl rfl rfl rfl (ltb rfl) ?_
      obtain ⟨r102, hg103, hM⟩ := bind_t hM
      refine run_call rfl rfl rfl (ltb rfl) rfl rfl rfl (fun _ h => absurd h List.not_mem_nil) (s_l00Src_next_ok (.bor 0) qc92 fc92 c92 c93 c94 2 hg103 _ _ rfl) (callK_retV_bor (k := 0) rfl (fun v o' tk' h => by obtain ⟨_, _, _, _, _, _, rfl, rfl, _⟩ := h; rfl) (fun v o'113 tk104 (hle105 : tk85 ≤ tk104) h106 => ?_))
      obtain ⟨ra112, qc109, fc109, c109, c110, c111, rfl, rfl, rfl⟩ := h106
      refine mvR rfl rfl rfl rfl (ltb rfl) ?_
      refine run_ops_nil ?_
      refine run_seq ?_
      refine run_draw [.loc 6, .loc 7] (n := 21) mixed rfl (by intro x hx; simp only [List.mem_cons, List.not_mem_nil, or_false] at hx; rcases hx with rfl | rfl <;> rfl) ?_
      refine AAny.take (i := 0) rfl (by kernel_rfl) (by kernel_rfl) (by kernel_rfl) rfl rfl (ltb rfl) ((move_step (.inl rfl) rfl).rd _) ?_
      refine AAny.take (i := 1) rfl (by kernel_rfl) (by kernel_rfl) (by kernel_rfl) rfl rfl (ltb rfl) ((abin_step rfl rfl rfl rfl (fun _ h => by cases h)).rd _) ?_
      refine AAny.take (i := 2) rfl (by kernel_rfl) (by kernel_rfl) (by kernel_rfl) rfl rfl (ltb rfl) ((fieldAddr_step hG rfl rfl rfl rfl rfl).rd _) ?_
      refine AAny.take (i := 3) rfl (by kernel_rfl) (by kernel_rfl) (by kernel_rfl) rfl rfl (ltb rfl) (aload_rd hG rfl rfl rfl (by first | (simp [ldok]; done) | exact List.not_mem_nil | trivial)) ?_
      obtain ⟨y114, hy115, hM⟩ := bind_t hM
      obtain ⟨k116, n116, q116, f116, ks116, rfl, hc117, hi118⟩ := fidx (ks := ks90) hy115
      refine AAny.take (i := 4) rfl (by kernel_rfl) (by kernel_rfl) (by kernel_rfl) rfl rfl (ltb rfl) ((indexImm_step hG rfl rfl rfl hi118 rfl rfl rfl rfl hc117).rd _) ?_
      refine AAny.take (i := 5) rfl (by kernel_rfl) (by kernel_rfl) (by kernel_rfl) rfl rfl (ltb rfl) (aload_rd hG rfl rfl rfl (by first | (simp [ldok]; done) | exact List.not_mem_nil | trivial)) ?_
      refine AAny.take (i := 6) rfl (by kernel_rfl) (by kernel_rfl) (by kernel_rfl) rfl rfl (ltb rfl) ((fieldAddr_step hG rfl rfl rfl rfl rfl).rd _) ?_
      refine AAny.take (i := 7) rfl (by kernel_rfl) (by kernel_rfl) (by kernel_rfl) rfl rfl (ltb rfl) (aload_rd hG rfl rfl rfl (by first | (simp [ldok]; done) | exact List.not_mem_nil | trivial)) ?_
      obtain ⟨y119, hy120, hM⟩ := bind_t hM
      obtain ⟨k121, n121, q121, f121, ks121, rfl, hc122, hi123⟩ := fidx (ks := ks90) hy120
      refine AAny.take (i := 8) rfl (by kernel_rfl) (by kernel_rfl) (by kernel_rfl) rfl rfl (ltb rfl) ((indexImm_step hG rfl rfl rfl hi123 rfl rfl rfl rfl hc122).rd _) ?_
      refine AAny.take (i := 9) rfl (by kernel_rfl) (by kernel_rfl) (by kernel_rfl) rfl rfl (ltb rfl) (aload_rd hG rfl rfl rfl (by first | (simp [ldok]; done) | exact List.not_mem_nil | trivial)) ?_
      refine AAny.take (i := 11) rfl (by kernel_rfl) (by kernel_rfl) (by kernel_rfl) rfl rfl (ltb rfl) (aload_rd hG rfl rfl rfl (by first | (simp [ldok]; done) | exact List.not_mem_nil | trivial)) ?_
      refine AAny.take (i := 14) rfl (by kernel_rfl) (by kernel_rfl) (by kernel_rfl) rfl rfl (ltb rfl) ((fieldAddr_step hG rfl rfl rfl rfl rfl).rd _) ?_
      refine AAny.take (i := 15) rfl (by kernel_rfl) (by kernel_rfl) (by kernel_rfl) rfl rfl (ltb rfl) (aload_rd hG rfl rfl rfl (by first | (simp [ldok]; done) | exact List.not_mem_nil | trivial)) ?_
      refine AAny.take (i := 16) rfl (by kernel_rfl) (by kernel_rfl) (by kernel_rfl) rfl rfl (ltb rfl) ((move_step (.inl rfl) rfl).rd _) ?_
      obtain ⟨y124, hy125, hM⟩ := bind_t hM
      obtain ⟨k126, n126, q126, f126, ks126, rfl, hc127, hi128⟩ := fidx (ks := ks90) hy125
      refine AAny.take (i := 17) rfl (by kernel_rfl) (by kernel_rfl) (by kernel_rfl) rfl rfl (ltb rfl) ((indexImm_step hG rfl rfl rfl hi128 rfl rfl rfl rfl hc127).rd _) ?_
      refine AAny.take (i := 18) rfl (by kernel_rfl) (by kernel_rfl) (by kernel_rfl) rfl rfl (ltb rfl) (aload_rd hG rfl rfl rfl (by first | (simp [ldok]; done) | exact List.not_mem_nil | trivial)) ?_
      refine AAny.each (rs := [10, 12]) (by kernel_rfl) (fun h => by cases h) (fun i hi => ?_)
      simp only [List.mem_cons, List.not_mem_nil, or_false] at hi
      rcases hi with rfl | rfl
      ·refine AOp.step rfl rfl rfl (ltb rfl) (buildSlice_step (d := 104) hG rfl rfl rfl rfl rfl (by rfl) (by rfl) (by rfl) (by decide)) (fun _ h => absurd h List.not_mem_nil) ?_
       refine AAny.one (i := 12) (by kernel_rfl) (AOp.step rfl rfl rfl (ltb rfl) (buildSlice_step (d := 106) hG rfl rfl rfl rfl rfl (by rfl) (by rfl) (by rfl) (by decide)) (fun _ h => absurd h List.not_mem_nil) ?_)
       refine AAny.take (i := 13) rfl (by kernel_rfl) (by kernel_rfl) (by kernel_rfl) rfl rfl (ltb rfl) ((build_step hG rfl (by rfl) rfl (fun h => by cases h) (by rfl)).rd _) ?_
       refine AAny.one (i := 19) (by kernel_rfl) (AOp.step0 rfl rfl rfl (store_step hG rfl rfl rfl rfl rfl rfl rfl rfl) (by intro x hx; have hx : x ∈ [ID.loc 6] := hx; simp only [List.mem_cons, List.not_mem_nil, or_false] at hx; subst hx; simp) ?_)
       refine AAny.one (i := 20) (by kernel_rfl) (AOp.step0 rfl rfl rfl (store_step hG rfl rfl rfl rfl rfl rfl rfl rfl) (by intro x hx; have hx : x ∈ [ID.loc 7] := hx; simp only [List.mem_cons, List.not_mem_nil, or_false] at hx; subst hx; simp) ?_)
       refine AAny.done (by kernel_rfl) ?_
       refine run_ret_to ?_
       refine fin_sub (Sub.freeze (k := 104) rfl rfl) ?_
       refine fin_sub (Sub.freeze (k := 106) rfl rfl) ?_
       obtain rfl := some_t hM
       refine fin_x hG rfl rfl rfl (v' := .tup [.agg [.int .i64 (IntKind.i64.wrap (3 + ra112)), .int .i64 0, .imm tk104 3 false (fcellss [LF.mk k116 n116 q116 f116 ks116, LF.mk k121 n121 q121 f121 ks121]), .imm (tk104 + 1) 4 false (pcellss [LP.mk k88 n88 p88 e88 fs88 q88 f88 ks88])], .agg [.int .i64 k126, .int .i64 n126, .imm q126 3 f126 (fcellss ks126)]]) (by rfl) ⟨_, ⟨156, 3, true, [[.imm qc109 1 fc109 ((c109 : List Int).map fun n => [AV.int .u8 n]), .int .i64 c110, .int .i64 c111]]⟩, rfl, rfl, (show tk ≤ ((tk104 + 1) + 1) by omega), ⟨_, _, _, _, qc109, fc109, c109, c110, c111, rfl, rfl, rfl, ⟨(IntKind.i64.wrap (3 + ra112)), 0, tk104, false, [LF.mk k116 n116 q116 f116 ks116, LF.mk k121 n121 q121 f121 ks121], (tk104 + 1), false, [LP.mk k88 n88 p88 e88 fs88 q88 f88 ks88], rfl, rfl, fun h => by cases h⟩, ⟨k126, n126, q126, f126, ks126, rfl, rfl, fun h => by cases h⟩⟩⟩
      ·refine AOp.step rfl rfl rfl (ltb rfl) (buildSlice_step (d := 106) hG rfl rfl rfl rfl rfl (by rfl) (by rfl) (by rfl) (by decide)) (fun _ h => absurd h List.not_mem_nil) ?_
       refine AAny.one (i := 10) (by kernel_rfl) (AOp.step rfl rfl rfl (ltb rfl) (buildSlice_step (d := 104) hG rfl rfl rfl rfl rfl (by rfl) (by rfl) (by rfl) (by decide)) (fun _ h => absurd h List.not_mem_nil) ?_)
       refine AAny.take (i := 13) rfl (by kernel_rfl) (by kernel_rfl) (by kernel_rfl) rfl rfl (ltb rfl) ((build_step hG rfl (by rfl) rfl (fun h => by cases h) (by rfl)).rd _) ?_
       refine AAny.one (i := 19) (by kernel_rfl) (AOp.step0 rfl rfl rfl (store_step hG rfl rfl rfl rfl rfl rfl rfl rfl) (by intro x hx; have hx : x ∈ [ID.loc 6] := hx; simp only [List.mem_cons, List.not_mem_nil, or_false] at hx; subst hx; simp) ?_)
       refine AAny.one (i := 20) (by kernel_rfl) (AOp.step0 rfl rfl rfl (store_step hG rfl rfl rfl rfl rfl rfl rfl rfl) (by intro x hx; have hx : x ∈ [ID.loc 7] := hx; simp only [List.mem_cons, List.not_mem_nil, or_false] at hx; subst hx; simp) ?_)
       refine AAny.done (by kernel_rfl) ?_
       refine run_ret_to ?_
       refine fin_sub (Sub.freeze (k := 104) rfl rfl) ?_
       refine fin_sub (Sub.freeze (k := 106) rfl rfl) ?_
       obtain rfl := some_t hM
       refine fin_x hG rfl rfl rfl (v' := .tup [.agg [.int .i64 (IntKind.i64.wrap (3 + ra112)), .int .i64 0, .imm tk104 3 false (fcellss [LF.mk k116 n116 q116 f116 ks116, LF.mk k121 n121 q121 f121 ks121]), .imm (tk104 + 1) 4 false (pcellss [LP.mk k88 n88 p88 e88 fs88 q88 f88 ks88])], .agg [.int .i64 k126, .int .i64 n126, .imm q126 3 f126 (fcellss ks126)]]) (by rfl) ⟨_, ⟨156, 3, true, [[.imm qc109 1 fc109 ((c109 : List Int).map fun n => [AV.int .u8 n]), .int .i64 c110, .int .i64 c111]]⟩, rfl, rfl, (show tk ≤ ((tk104 + 1) + 1) by omega), ⟨_, _, _, _, qc109, fc109, c109, c110, c111, rfl, rfl, rfl, ⟨(IntKind.i64.wrap (3 + ra112)), 0, tk104, false, [LF.mk k116 n116 q116 f116 ks116, LF.mk k121 n121 q121 f121 ks121], (tk104 + 1), false, [LP.mk k88 n88 p88 e88 fs88 q88 f88 ks88], rfl, rfl, fun h => by cases h⟩, ⟨k126, n126, q126, f126, ks126, rfl, rfl, fun h => by cases h⟩⟩⟩
     ·replace hM := ite_f hb101 hM
      refine run_skip ?_
      refine run_seq ?_
      refine run_sr ?_
      refine run_pu rfl (fieldAddr_step hG rfl rfl rfl rfl rfl) rfl (ltb rfl) ?_
      refine run_ld hG rfl rfl rfl rfl rfl (ltb rfl) ?_
      refine run_bin rfl rfl rfl rfl rfl rfl rfl (ltb rfl) ?_
      refine run_ops_nil ?_
      refine run_ifd rfl rfl (fun hb129 => ?_) (fun hb129 => ?_)
      ·replace hM := ite_t hb129 hM
       refine run_sr ?_
       refine mvL rfl rfl rfl rfl (ltb rfl) ?_
       obtain ⟨r130, hg131, hM⟩ := bind_t hM
       refine run_call rfl rfl rfl (ltb rfl) rfl rfl rfl (fun _ h => absurd h List.not_mem_nil) (s_l00Src_form_ok n (.bor 0) qc92 fc92 c92 c93 c94 1 hg131 _ _ rfl) (callK_retV_bor (k := 0) rfl (fun v o' tk' h => by obtain ⟨_, _, _, _, _, _, rfl, rfl, _⟩ := h; rfl) (fun v o'141 tk132 (hle133 : tk85 ≤ tk132) h134 => ?_))
       obtain ⟨ra140, qc137, fc137, c137, c138, c139, rfl, rfl, ⟨k135, n135, q135, f135, ks135, rfl, rfl, hf136⟩⟩ := h134
       refine run_op rfl (alloc_step (d := 17) hG rfl rfl rfl) rfl (ltb rfl) ?_
       refine run_op0 rfl (store_step hG rfl rfl rfl rfl rfl rfl rfl rfl) rfl ?_
       refine run_ops_nil ?_
       refine run_seq ?_
       refine run_draw [.loc 6, .loc 7] (n := 8) mixed rfl (by intro x hx; simp only [List.mem_cons, List.not_mem_nil, or_false] at hx; rcases hx with rfl | rfl <;> rfl) ?_
       refine AAny.take (i := 0) rfl (by kernel_rfl) (by kernel_rfl) (by kernel_rfl) rfl rfl (ltb rfl) (aload_rd hG rfl rfl rfl (by first | (simp [ldok]; done) | exact List.not_mem_nil | trivial)) ?_
       refine AAny.take (i := 2) rfl (by kernel_rfl) (by kernel_rfl) (by kernel_rfl) rfl rfl (ltb rfl) (aload_rd hG rfl rfl rfl (by first | (simp [ldok]; done) | exact List.not_mem_nil | trivial)) ?_
       refine AAny.take (i := 5) rfl (by kernel_rfl) (by kernel_rfl) (by kernel_rfl) rfl rfl (ltb rfl) (aload_rd hG rfl rfl rfl (by first | (simp [ldok]; done) | exact List.not_mem_nil | trivial)) ?_
       refine AAny.each (rs := [1, 3]) (by kernel_rfl) (fun h => by cases h) (fun i hi => ?_)
       simp only [List.mem_cons, List.not_mem_nil, or_false] at hi
       rcases hi with rfl | rfl
       ·refine AOp.step rfl rfl rfl (ltb rfl) (buildSlice_step (d := 119) hG rfl rfl rfl rfl rfl (by rfl) (by rfl) (by rfl) (by decide)) (fun _ h => absurd h List.not_mem_nil) ?_
        refine AAny.one (i := 3) (by kernel_rfl) (AOp.step rfl rfl rfl (ltb rfl) (buildSlice_step (d := 121) hG rfl rfl rfl rfl rfl (by rfl) (by rfl) (by rfl) (by decide)) (fun _ h => absurd h List.not_mem_nil) ?_)
        refine AAny.take (i := 4) rfl (by kernel_rfl) (by kernel_rfl) (by kernel_rfl) rfl rfl (ltb rfl) ((build_step hG rfl (by rfl) rfl (fun h => by cases h) (by rfl)).rd _) ?_
        refine AAny.one (i := 6) (by kernel_rfl) (AOp.step0 rfl rfl rfl (store_step hG rfl rfl rfl rfl rfl rfl rfl rfl) (by intro x hx; have hx : x ∈ [ID.loc 6] := hx; simp only [List.mem_cons, List.not_mem_nil, or_false] at hx; subst hx; simp) ?_)
        refine AAny.one (i := 7) (by kernel_rfl) (AOp.step0 rfl rfl rfl (store_step hG rfl rfl rfl rfl rfl rfl rfl rfl) (by intro x hx; have hx : x ∈ [ID.loc 7] := hx; simp only [List.mem_cons, List.not_mem_nil, or_false] at hx; subst hx; simp) ?_)
        refine AAny.done (by kernel_rfl) ?_
        refine run_ret_to ?_
        refine fin_sub (Sub.freeze (k := 119) rfl rfl) ?_
        refine fin_sub (Sub.freeze (k := 121) rfl rfl) ?_
        obtain rfl := some_t hM
        refine fin_x hG rfl rfl rfl (v' := .tup [.agg [.int .i64 7, .int .i64 0, .imm tk132 3 false (fcellss [LF.mk k135 n135 q135 f135 ks135]), .imm (tk132 + 1) 4 false (pcellss [LP.mk k88 n88 p88 e88 fs88 q88 f88 ks88])], .agg [.int .i64 k135, .int .i64 n135, .imm q135 3 f135 (fcellss ks135)]]) (by rfl) ⟨_, ⟨156, 3, true, [[.imm qc137 1 fc137 ((c137 : List Int).map fun n => [AV.int .u8 n]), .int .i64 c138, .int .i64 c139]]⟩, rfl, rfl, (show tk ≤ ((tk132 + 1) + 1) by omega), ⟨_, _, _, _, qc137, fc137, c137, c138, c139, rfl, rfl, rfl, ⟨7, 0, tk132, false, [LF.mk k135 n135 q135 f135 ks135], (tk132 + 1), false, [LP.mk k88 n88 p88 e88 fs88 q88 f88 ks88], rfl, rfl, fun h => by cases h⟩, ⟨k135, n135, q135, f135, ks135, rfl, rfl, fun h => by cases h⟩⟩⟩
       ·refine AOp.step rfl rfl rfl (ltb rfl) (buildSlice_step (d := 121) hG rfl rfl rfl rfl rfl (by rfl) (by rfl) (by rfl) (by decide)) (fun _ h => absurd h List.not_mem_nil) ?_
        refine AAny.one (i := 1) (by kernel_rfl) (AOp.step rfl rfl rfl (ltb rfl) (buildSlice_step (d := 119) hG rfl rfl rfl rfl rfl (by rfl) (by rfl) (by rfl) (by decide)) (fun _ h => absurd h List.not_mem_nil) ?_)
        refine AAny.take (i := 4) rfl (by kernel_rfl) (by kernel_rfl) (by kernel_rfl) rfl rfl (ltb rfl) ((build_step hG rfl (by rfl) rfl (fun h => by cases h) (by rfl)).rd _) ?_
        refine AAny.one (i := 6) (by kernel_rfl) (AOp.step0 rfl rfl rfl (store_step hG rfl rfl rfl rfl rfl rfl rfl rfl) (by intro x hx; have hx : x ∈ [ID.loc 6] := hx; simp only [List.mem_cons, List.not_mem_nil, or_false] at hx; subst hx; simp) ?_)
        refine AAny.one (i := 7) (by kernel_rfl) (AOp.step0 rfl rfl rfl (store_step hG rfl rfl rfl rfl rfl rfl rfl rfl) (by intro x hx; have hx : x ∈ [ID.loc 7] := hx; simp only [List.mem_cons, List.not_mem_nil, or_false] at hx; subst hx; simp) ?_)
        refine AAny.done (by kernel_rfl) ?_
        refine run_ret_to ?_
        refine fin_sub (Sub.freeze (k := 119) rfl rfl) ?_
        refine fin_sub (Sub.freeze (k := 121) rfl rfl) ?_
        obtain rfl := some_t hM
        refine fin_x hG rfl rfl rfl (v' := .tup [.agg [.int .i64 7, .int .i64 0, .imm tk132 3 false (fcellss [LF.mk k135 n135 q135 f135 ks135]), .imm (tk132 + 1) 4 false (pcellss [LP.mk k88 n88 p88 e88 fs88 q88 f88 ks88])], .agg [.int .i64 k135, .int .i64 n135, .imm q135 3 f135 (fcellss ks135)]]) (by rfl) ⟨_, ⟨156, 3, true, [[.imm qc137 1 fc137 ((c137 : List Int).map fun n => [AV.int .u8 n]), .int .i64 c138, .int .i64 c139]]⟩, rfl, rfl, (show tk ≤ ((tk132 + 1) + 1) by omega), ⟨_, _, _, _, qc137, fc137, c137, c138, c139, rfl, rfl, rfl, ⟨7, 0, tk132, false, [LF.mk k135 n135 q135 f135 ks135], (tk132 + 1), false, [LP.mk k88 n88 p88 e88 fs88 q88 f88 ks88], rfl, rfl, fun h => by cases h⟩, ⟨k135, n135, q135, f135, ks135, rfl, rfl, fun h => by cases h⟩⟩⟩
      ·replace hM := ite_f hb129 hM
       refine run_skip ?_
       refine run_seq ?_
       refine run_draw [.loc 6, .loc 7] (n := 4) mixed rfl (by intro x hx; simp only [List.mem_cons, List.not_mem_nil, or_false] at hx; rcases hx with rfl | rfl <;> rfl) ?_
       refine AAny.take (i := 0) rfl (by kernel_rfl) (by kernel_rfl) (by kernel_rfl) rfl rfl (ltb rfl) (aload_rd hG rfl rfl rfl (by first | (simp [ldok]; done) | exact List.not_mem_nil | trivial)) ?_
       refine AAny.take (i := 1) rfl (by kernel_rfl) (by kernel_rfl) (by kernel_rfl) rfl rfl (ltb rfl) (aload_rd hG rfl rfl rfl (by first | (simp [ldok]; done) | exact List.not_mem_nil | trivial)) ?_
       refine AAny.one (i := 2) (by kernel_rfl) (AOp.step0 rfl rfl rfl (store_step hG rfl rfl rfl rfl rfl rfl rfl rfl) (by intro x hx; have hx : x ∈ [ID.loc 6] := hx; simp only [List.mem_cons, List.not_mem_nil, or_false] at hx; subst hx; simp) ?_)
       refine AAny.one (i := 3) (by kernel_rfl) (AOp.step0 rfl rfl rfl (store_step hG rfl rfl rfl rfl rfl rfl rfl rfl) (by intro x hx; have hx : x ∈ [ID.loc 7] := hx; simp only [List.mem_cons, List.not_mem_nil, or_false] at hx; subst hx; simp) ?_)
       refine AAny.done (by kernel_rfl) ?_
       refine run_ret_to ?_
       obtain rfl := some_t hM
       refine fin_x hG rfl rfl rfl (v' := .tup [.agg [.int .i64 k88, .int .i64 n88, .imm p88 3 e88 (fcellss fs88), .imm q88 4 f88 (pcellss ks88)], .agg [.int .i64 k90, .int .i64 n90, .imm q90 3 f90 (fcellss ks90)]]) (by rfl) ⟨_, ⟨156, 3, true, [[.imm qc92 1 fc92 ((c92 : List Int).map fun n => [AV.int .u8 n]), .int .i64 c93, .int .i64 c94]]⟩, rfl, rfl, (show tk ≤ tk85 by omega), ⟨_, _, _, _, qc92, fc92, c92, c93, c94, rfl, rfl, rfl, ⟨k88, n88, p88, e88, fs88, q88, f88, ks88, rfl, rfl, fun h => by cases h⟩, ⟨k90, n90, q90, f90, ks90, rfl, rfl, fun h => by cases h⟩⟩⟩
    ·replace hM := ite_f hb82 hM
     refine run_sr ?_
     refine run_bin rfl rfl rfl rfl rfl rfl rfl (ltb rfl) ?_
     refine mvR rfl rfl rfl rfl (ltb rfl) ?_
     refine run_ops_nil ?_
     refine run_ifd rfl rfl (fun hb142 => ?_) (fun hb142 => ?_)
     ·replace hM := ite_t hb142 hM
      refine run_sr ?_
      refine mvL rfl rfl rfl rfl (ltb rfl) ?_
      refine mvL rfl rfl rfl rfl (ltb rfl) ?_
      refine mvL rfl rfl rfl rfl (ltb rfl) ?_
      refine run_bin rfl rfl rfl rfl rfl rfl rfl (ltb rfl) ?_
      obtain ⟨r143, hg144, hM⟩ := bind_t hM
      refine run_call rfl rfl rfl (ltb rfl) rfl rfl rfl (fun _ h => absurd h List.not_mem_nil) (ih_s_l00Src_proof (.bor 0) q29 f29 l29 i30 i31 q5 f5 ks5 (IntKind.i64.wrap (i6 - 1)) hg144 _ _ rfl) (callK_retV_bor (k := 0) rfl (fun v o' tk' h => by obtain ⟨_, _, _, _, _, _, _, _, _, rfl, rfl, _⟩ := h; rfl) (fun v o'160 tk145 (hle146 : tkj27 ≤ tk145) h147 => ?_))
      obtain ⟨ra156, ra157, va158, va159, qc152, fc152, c152, c153, c154, rfl, rfl, rfl, ⟨k148, n148, p148, e148, fs148, q148, f148, ks148, rfl, rfl, hf149⟩, ⟨k150, n150, q150, f150, ks150, rfl, rfl, hf151⟩⟩ := h147
      refine mvL rfl rfl rfl rfl (ltb rfl) ?_
      refine run_pu rfl (extract_step rfl rfl rfl) rfl (ltb rfl) ?_
      refine run_pu rfl (extract_step rfl rfl rfl) rfl (ltb rfl) ?_
      refine run_op rfl (alloc_step (d := 18) hG rfl rfl rfl) rfl (ltb rfl) ?_
      refine run_op rfl (alloc_step (d := 19) hG rfl rfl rfl) rfl (ltb rfl) ?_
      refine run_op0 rfl (store_step hG rfl rfl rfl rfl rfl rfl rfl rfl) rfl ?_
      refine run_op0 rfl (store_step hG rfl rfl rfl rfl rfl rfl rfl rfl) rfl ?_
      refine run_ops_nil ?_
      refine run_sub_code (σ' := ⟨[(0, .optr (.bor 0) 0 0), (1, .imm q5 3 f5 (fcellss ks5)), (2, .int .i64 i6), (6, .optr (.loc 6) 0 0), (7, .optr (.loc 7) 0 0), (18, .optr (.loc 18) 0 0), (19, .optr (.loc 19) 0 0)], [(19, ⟨28, 3, true, [[.int .i64 k150, .int .i64 n150, .imm q150 3 f150 (fcellss ks150)]]⟩), (18, ⟨26, 4, true, [[.int .i64 k148, .int .i64 n148, .imm p148 3 e148 (fcellss fs148), .imm q148 4 f148 (pcellss ks148)]]⟩), (7, ⟨28, 3, true, [[.int .i64 0, .int .i64 0, .imm 0 3 true []]]⟩), (6, ⟨26, 4, true, [[.int .i64 0, .int .i64 0, .imm 0 3 true [], .imm 0 4 true []]]⟩)], [⟨156, 3, true, [[.imm qc152 1 fc152 ((c152 : List Int).map fun n => [AV.int .u8 n]), .int .i64 c153, .int .i64 c154]]⟩], O, tk145⟩) (Sub.env _ ⟨rfl, rfl, rfl, rfl, rfl, rfl, rfl, trivial⟩) ?_
      refine run_sr ?_
      refine mvL rfl rfl rfl rfl (ltb rfl) ?_
      refine mvL rfl rfl rfl rfl (ltb rfl) ?_
      refine mvL rfl rfl rfl rfl (ltb rfl) ?_
      refine run_bin rfl rfl rfl rfl rfl rfl rfl (ltb rfl) ?_
      obtain ⟨r161, hg162, hM⟩ := bind_t hM
      refine run_call rfl rfl rfl (ltb rfl) rfl rfl rfl (fun _ h => absurd h List.not_mem_nil) (ih_s_l00Src_proof (.bor 0) qc152 fc152 c152 c153 c154 q5 f5 ks5 (IntKind.i64.wrap (i6 - 2)) hg162 _ _ rfl) (callK_retV_bor (k := 0) rfl (fun v o' tk' h => by obtain ⟨_, _, _, _, _, _, _, _, _, rfl, rfl, _⟩ := h; rfl) (fun v o'178 tk163 (hle164 : tk145 ≤ tk163) h165 => ?_))
      obtain ⟨ra174, ra175, va176, va177, qc170, fc170, c170, c171, c172, rfl, rfl, rfl, ⟨k166, n166, p166, e166, fs166, q166, f166, ks166, rfl, rfl, hf167⟩, ⟨k168, n168, q168, f168, ks168, rfl, rfl, hf169⟩⟩ := h165
      refine mvL rfl rfl rfl rfl (ltb rfl) ?_
      refine run_pu rfl (extract_step rfl rfl rfl) rfl (ltb rfl) ?_
      refine run_pu rfl (extract_step rfl rfl rfl) rfl (ltb rfl) ?_
      refine run_op rfl (alloc_step (d := 20) hG rfl rfl rfl) rfl (ltb rfl) ?_
      refine run_op rfl (alloc_step (d := 21) hG rfl rfl rfl) rfl (ltb rfl) ?_
      refine run_op0 rfl (store_step hG rfl rfl rfl rfl rfl rfl rfl rfl) rfl ?_
      refine run_op0 rfl (store_step hG rfl rfl rfl rfl rfl rfl rfl rfl) rfl ?_
      refine run_ops_nil ?_
      refine run_seq ?_
      refine run_seq ?_
      refine run_draw [] (n := 11) mixed rfl (fun _ h => absurd h List.not_mem_nil) ?_
      refine AAny.take (i := 0) rfl (by kernel_rfl) (by kernel_rfl) (by kernel_rfl) rfl rfl (ltb rfl) ((fieldAddr_step hG rfl rfl rfl rfl rfl).rd _) ?_
      refine AAny.take (i := 1) rfl (by kernel_rfl) (by kernel_rfl) (by kernel_rfl) rfl rfl (ltb rfl) (aload_rd hG rfl rfl rfl (by first | (simp [ldok]; done) | exact List.not_mem_nil | trivial)) ?_
      refine AAny.take (i := 2) rfl (by kernel_rfl) (by kernel_rfl) (by kernel_rfl) rfl rfl (ltb rfl) ((abin_step rfl rfl rfl rfl (fun _ h => by cases h)).rd _) ?_
      refine AAny.take (i := 3) rfl (by kernel_rfl) (by kernel_rfl) (by kernel_rfl) rfl rfl (ltb rfl) ((move_step (.inl rfl) rfl).rd _) ?_
      refine AAny.splitd (i := 147) rfl (fun _ h => absurd h List.not_mem_nil) (fun hb179 => ?_) (fun hb179 => ?_)
      ·replace hM := ite_t hb179 hM
       refine AAny.takeG (i := 4) rfl (by kernel_rfl) (by kernel_rfl) (by kernel_rfl) (on_of rfl rfl rfl rfl) rfl (ltb rfl) ((fieldAddr_step hG rfl rfl rfl rfl rfl).rd _) ?_
       refine AAny.takeG (i := 5) rfl (by kernel_rfl) (by kernel_rfl) (by kernel_rfl) (on_of rfl rfl rfl rfl) rfl (ltb rfl) (aload_rd hG rfl rfl rfl (by first | (simp [ldok]; done) | exact List.not_mem_nil | trivial)) ?_
       obtain ⟨y180, hy181, hM⟩ := bind_t hM
       obtain ⟨k182, n182, q182, f182, ks182, rfl, hc183, hi184⟩ := fidx (ks := ks150) hy181
       refine AAny.takeG (i := 6) rfl (by kernel_rfl) (by kernel_rfl) (by kernel_rfl) (on_of rfl rfl rfl rfl) rfl (ltb rfl) ((indexImm_step hG rfl rfl rfl hi184 rfl rfl rfl rfl hc183).rd _) ?_
       refine AAny.takeG (i := 7) rfl (by kernel_rfl) (by kernel_rfl) (by kernel_rfl) (on_of rfl rfl rfl rfl) rfl (ltb rfl) (aload_rd hG rfl rfl rfl (by first | (simp [ldok]; done) | exact List.not_mem_nil | trivial)) ?_
       refine AAny.takeG (i := 8) rfl (by kernel_rfl) (by kernel_rfl) (by kernel_rfl) (on_of rfl rfl rfl rfl) rfl (ltb rfl) (aload_rd hG rfl rfl rfl (by first | (simp [ldok]; done) | exact List.not_mem_nil | trivial)) ?_
       obtain ⟨r185, hg186, hM⟩ := bind_t hM
       refine AAny.one (i := 9) (by kernel_rfl) (AOp.callG rfl (on_of rfl rfl rfl rfl) rfl rfl (ltb rfl) rfl rfl rfl (fun _ h => absurd h List.not_mem_nil) (fun _ h => absurd h List.not_mem_nil) (s_l08Same_ok n k182 n182 q182 f182 ks182 k168 n168 q168 f168 ks168 hg186 _ _) (callK_retX (fun v tk187 (hle188 : tk163 ≤ tk187) h189 => ?_)))
       subst h189
       refine AAny.take (i := 10) rfl (by kernel_rfl) (by kernel_rfl) (by kernel_rfl) rfl rfl (ltb rfl) ((pick_step rfl rfl rfl).rd _) ?_
       refine AAny.done (by kernel_rfl) ?_
       refine run_sub_code (σ' := ⟨[(0, .optr (.bor 0) 0 0), (1, .imm q5 3 f5 (fcellss ks5)), (2, .int .i64 i6), (6, .optr (.loc 6) 0 0), (7, .optr (.loc 7) 0 0), (18, .optr (.loc 18) 0 0), (19, .optr (.loc 19) 0 0), (20, .optr (.loc 20) 0 0), (21, .optr (.loc 21) 0 0), (154, .bool r185)], [(21, ⟨28, 3, true, [[.int .i64 k168, .int .i64 n168, .imm q168 3 f168 (fcellss ks168)]]⟩), (20, ⟨26, 4, true, [[.int .i64 k166, .int .i64 n166, .imm p166 3 e166 (fcellss fs166), .imm q166 4 f166 (pcellss ks166)]]⟩), (19, ⟨28, 3, true, [[.int .i64 k150, .int .i64 n150, .imm q150 3 f150 (fcellss ks150)]]⟩), (18, ⟨26, 4, true, [[.int .i64 k148, .int .i64 n148, .imm p148 3 e148 (fcellss fs148), .imm q148 4 f148 (pcellss ks148)]]⟩), (7, ⟨28, 3, true, [[.int .i64 0, .int .i64 0, .imm 0 3 true []]]⟩), (6, ⟨26, 4, true, [[.int .i64 0, .int .i64 0, .imm 0 3 true [], .imm 0 4 true []]]⟩)], [⟨156, 3, true, [[.imm qc170 1 fc170 ((c170 : List Int).map fun n => [AV.int .u8 n]), .int .i64 c171, .int .i64 c172]]⟩], O, tk187⟩) (Sub.env _ ⟨rfl, rfl, rfl, rfl, rfl, rfl, rfl, rfl, rfl, rfl, trivial⟩) ?_
       refine run_ifb rfl rfl (fun hb192 => ?_) (fun hb192 => ?_)
       ·replace hM := ite_t hb192 hM
        refine run_seq ?_
        refine run_draw [.loc 6, .loc 7] (n := 16) mixed rfl (by intro x hx; simp only [List.mem_cons, List.not_mem_nil, or_false] at hx; rcases hx with rfl | rfl <;> rfl) ?_
        refine AAny.take (i := 0) rfl (by kernel_rfl) (by kernel_rfl) (by kernel_rfl) rfl rfl (ltb rfl) (aload_rd hG rfl rfl rfl (by first | (simp [ldok]; done) | exact List.not_mem_nil | trivial)) ?_
        refine AAny.take (i := 1) rfl (by kernel_rfl) (by kernel_rfl) (by kernel_rfl) rfl rfl (ltb rfl) ((fieldAddr_step hG rfl rfl rfl rfl rfl).rd _) ?_
        refine AAny.take (i := 2) rfl (by kernel_rfl) (by kernel_rfl) (by kernel_rfl) rfl rfl (ltb rfl) (aload_rd hG rfl rfl rfl (by first | (simp [ldok]; done) | exact List.not_mem_nil | trivial)) ?_
        obtain ⟨y193, hy194, hM⟩ := bind_t hM
        obtain ⟨k195, n195, q195, f195, ks195, rfl, hc196, hi197⟩ := fidx (ks := ks150) hy194
        refine AAny.take (i := 3) rfl (by kernel_rfl) (by kernel_rfl) (by kernel_rfl) rfl rfl (ltb rfl) ((indexImm_step hG rfl rfl rfl hi197 rfl rfl rfl rfl hc196).rd _) ?_
        refine AAny.take (i := 4) rfl (by kernel_rfl) (by kernel_rfl) (by kernel_rfl) rfl rfl (ltb rfl) (aload_rd hG rfl rfl rfl (by first | (simp [ldok]; done) | exact List.not_mem_nil | trivial)) ?_
        refine AAny.take (i := 6) rfl (by kernel_rfl) (by kernel_rfl) (by kernel_rfl) rfl rfl (ltb rfl) (aload_rd hG rfl rfl rfl (by first | (simp [ldok]; done) | exact List.not_mem_nil | trivial)) ?_
        refine AAny.take (i := 7) rfl (by kernel_rfl) (by kernel_rfl) (by kernel_rfl) rfl rfl (ltb rfl) (aload_rd hG rfl rfl rfl (by first | (simp [ldok]; done) | exact List.not_mem_nil | trivial)) ?_
        refine AAny.take (i := 10) rfl (by kernel_rfl) (by kernel_rfl) (by kernel_rfl) rfl rfl (ltb rfl) ((fieldAddr_step hG rfl rfl rfl rfl rfl).rd _) ?_
        refine AAny.take (i := 11) rfl (by kernel_rfl) (by kernel_rfl) (by kernel_rfl) rfl rfl (ltb rfl) (aload_rd hG rfl rfl rfl (by first | (simp [ldok]; done) | exact List.not_mem_nil | trivial)) ?_
        obtain ⟨y198, hy199, hM⟩ := bind_t hM
        obtain ⟨k200, n200, q200, f200, ks200, rfl, hc201, hi202⟩ := fidx (ks := ks150) hy199
        refine AAny.take (i := 12) rfl (by kernel_rfl) (by kernel_rfl) (by kernel_rfl) rfl rfl (ltb rfl) ((indexImm_step hG rfl rfl rfl hi202 rfl rfl rfl rfl hc201).rd _) ?_
        refine AAny.take (i := 13) rfl (by kernel_rfl) (by kernel_rfl) (by kernel_rfl) rfl rfl (ltb rfl) (aload_rd hG rfl rfl rfl (by first | (simp [ldok]; done) | exact List.not_mem_nil | trivial)) ?_
        refine AAny.each (rs := [5, 8]) (by kernel_rfl) (fun h => by cases h) (fun i hi => ?_)
        simp only [List.mem_cons, List.not_mem_nil, or_false] at hi
        rcases hi with rfl | rfl
        ·refine AOp.step rfl rfl rfl (ltb rfl) (buildSlice_step (d := 160) hG rfl rfl rfl rfl rfl (by rfl) (by rfl) (by rfl) (by decide)) (fun _ h => absurd h List.not_mem_nil) ?_
         refine AAny.one (i := 8) (by kernel_rfl) (AOp.step rfl rfl rfl (ltb rfl) (buildSlice_step (d := 163) hG rfl rfl rfl rfl rfl (by rfl) (by rfl) (by rfl) (by decide)) (fun _ h => absurd h List.not_mem_nil) ?_)
         refine AAny.take (i := 9) rfl (by kernel_rfl) (by kernel_rfl) (by kernel_rfl) rfl rfl (ltb rfl) ((build_step hG rfl (by rfl) rfl (fun h => by cases h) (by rfl)).rd _) ?_
         refine AAny.one (i := 14) (by kernel_rfl) (AOp.step0 rfl rfl rfl (store_step hG rfl rfl rfl rfl rfl rfl rfl rfl) (by intro x hx; have hx : x ∈ [ID.loc 6] := hx; simp only [List.mem_cons, List.not_mem_nil, or_false] at hx; subst hx; simp) ?_)
         refine AAny.one (i := 15) (by kernel_rfl) (AOp.step0 rfl rfl rfl (store_step hG rfl rfl rfl rfl rfl rfl rfl rfl) (by intro x hx; have hx : x ∈ [ID.loc 7] := hx; simp only [List.mem_cons, List.not_mem_nil, or_false] at hx; subst hx; simp) ?_)
         refine AAny.done (by kernel_rfl) ?_
         refine run_ret_to ?_
         refine fin_sub (Sub.freeze (k := 160) rfl rfl) ?_
         refine fin_sub (Sub.freeze (k := 163) rfl rfl) ?_
         obtain rfl := some_t hM
         refine fin_x hG rfl rfl rfl (v' := .tup [.agg [.int .i64 6, .int .i64 0, .imm tk187 3 false (fcellss [LF.mk k168 n168 q168 f168 ks168, LF.mk k195 n195 q195 f195 ks195]), .imm (tk187 + 1) 4 false (pcellss [LP.mk k148 n148 p148 e148 fs148 q148 f148 ks148, LP.mk k166 n166 p166 e166 fs166 q166 f166 ks166])], .agg [.int .i64 k200, .int .i64 n200, .imm q200 3 f200 (fcellss ks200)]]) (by rfl) ⟨_, ⟨156, 3, true, [[.imm qc170 1 fc170 ((c170 : List Int).map fun n => [AV.int .u8 n]), .int .i64 c171, .int .i64 c172]]⟩, rfl, rfl, (show tk ≤ ((tk187 + 1) + 1) by omega), ⟨_, _, _, _, qc170, fc170, c170, c171, c172, rfl, rfl, rfl, ⟨6, 0, tk187, false, [LF.mk k168 n168 q168 f168 ks168, LF.mk k195 n195 q195 f195 ks195], (tk187 + 1), false, [LP.mk k148 n148 p148 e148 fs148 q148 f148 ks148, LP.mk k166 n166 p166 e166 fs166 q166 f166 ks166], rfl, rfl, fun h => by cases h⟩, ⟨k200, n200, q200, f200, ks200, rfl, rfl, fun h => by cases h⟩⟩⟩
        ·refine AOp.step rfl rfl rfl (ltb rfl) (buildSlice_step (d := 163) hG rfl rfl rfl rfl rfl (by rfl) (by rfl) (by rfl) (by decide)) (fun _ h => absurd h List.not_mem_nil) ?_
         refine AAny.one (i := 5) (by kernel_rfl) (AOp.step rfl rfl rfl (ltb rfl) (buildSlice_step (d := 160) hG rfl rfl rfl rfl rfl (by rfl) (by rfl) (by rfl) (by decide)) (fun _ h => absurd h List.not_mem_nil) ?_)
         refine AAny.take (i := 9) rfl (by kernel_rfl) (by kernel_rfl) (by kernel_rfl) rfl rfl (ltb rfl) ((build_step hG rfl (by rfl) rfl (fun h => by cases h) (by rfl)).rd _) ?_
         refine AAny.one (i := 14) (by kernel_rfl) (AOp.step0 rfl rfl rfl (store_step hG rfl rfl rfl rfl rfl rfl rfl rfl) (by intro x hx; have hx : x ∈ [ID.loc 6] := hx; simp only [List.mem_cons, List.not_mem_nil, or_false] at hx; subst hx; simp) ?_)
         refine AAny.one (i := 15) (by kernel_rfl) (AOp.step0 rfl rfl rfl (store_step hG rfl rfl rfl rfl rfl rfl rfl rfl) (by intro x hx; have hx : x ∈ [ID.loc 7] := hx; simp only [List.mem_cons, List.not_mem_nil, or_false] at hx; subst hx; simp) ?_)
         refine AAny.done (by kernel_rfl) ?_
         refine run_ret_to ?_
         refine fin_sub (Sub.freeze (k := 160) rfl rfl) ?_
         refine fin_sub (Sub.freeze (k := 163) rfl rfl) ?_
         obtain rfl := some_t hM
         refine fin_x hG rfl rfl rfl (v' := .tup [.agg [.int .i64 6, .int .i64 0, .imm tk187 3 false (fcellss [LF.mk k168 n168 q168 f168 ks168, LF.mk k195 n195 q195 f195 ks195]), .imm (tk187 + 1) 4 false (pcellss [LP.mk k148 n148 p148 e148 fs148 q148 f148 ks148, LP.mk k166 n166 p166 e166 fs166 q166 f166 ks166])], .agg [.int .i64 k200, .int .i64 n200, .imm q200 3 f200 (fcellss ks200)]]) (by rfl) ⟨_, ⟨156, 3, true, [[.imm qc170 1 fc170 ((c170 : List Int).map fun n => [AV.int .u8 n]), .int .i64 c171, .int .i64 c172]]⟩, rfl, rfl, (show tk ≤ ((tk187 + 1) + 1) by omega), ⟨_, _, _, _, qc170, fc170, c170, c171, c172, rfl, rfl, rfl, ⟨6, 0, tk187, false, [LF.mk k168 n168 q168 f168 ks168, LF.mk k195 n195 q195 f195 ks195], (tk187 + 1), false, [LP.mk k148 n148 p148 e148 fs148 q148 f148 ks148, LP.mk k166 n166 p166 e166 fs166 q166 f166 ks166], rfl, rfl, fun h => by cases h⟩, ⟨k200, n200, q200, f200, ks200, rfl, rfl, fun h => by cases h⟩⟩⟩
       ·replace hM := ite_f hb192 hM
        refine run_skip ?_
        refine run_seq ?_
        refine run_draw [.loc 6, .loc 7] (n := 4) mixed rfl (by intro x hx; simp only [List.mem_cons, List.not_mem_nil, or_false] at hx; rcases hx with rfl | rfl <;> rfl) ?_
        refine AAny.take (i := 0) rfl (by kernel_rfl) (by kernel_rfl) (by kernel_rfl) rfl rfl (ltb rfl) (aload_rd hG rfl rfl rfl (by first | (simp [ldok]; done) | exact List.not_mem_nil | trivial)) ?_
        refine AAny.take (i := 1) rfl (by kernel_rfl) (by kernel_rfl) (by kernel_rfl) rfl rfl (ltb rfl) (aload_rd hG rfl rfl rfl (by first | (simp [ldok]; done) | exact List.not_mem_nil | trivial)) ?_
        refine AAny.one (i := 2) (by kernel_rfl) (AOp.step0 rfl rfl rfl (store_step hG rfl rfl rfl rfl rfl rfl rfl rfl) (by intro x hx; have hx : x ∈ [ID.loc 6] := hx; simp only [List.mem_cons, List.not_mem_nil, or_false] at hx; subst hx; simp) ?_)
        refine AAny.one (i := 3) (by kernel_rfl) (AOp.step0 rfl rfl rfl (store_step hG rfl rfl rfl rfl rfl rfl rfl rfl) (by intro x hx; have hx : x ∈ [ID.loc 7] := hx; simp only [List.mem_cons, List.not_mem_nil, or_false] at hx; subst hx; simp) ?_)
        refine AAny.done (by kernel_rfl) ?_
        refine run_ret_to ?_
        obtain rfl := some_t hM
        refine fin_x hG rfl rfl rfl (v' := .tup [.agg [.int .i64 k148, .int .i64 n148, .imm p148 3 e148 (fcellss fs148), .imm q148 4 f148 (pcellss ks148)], .agg [.int .i64 k150, .int .i64 n150, .imm q150 3 f150 (fcellss ks150)]]) (by rfl) ⟨_, ⟨156, 3, true, [[.imm qc170 1 fc170 ((c170 : List Int).map fun n => [AV.int .u8 n]), .int .i64 c171, .int .i64 c172]]⟩, rfl, rfl, (show tk ≤ tk187 by omega), ⟨_, _, _, _, qc170, fc170, c170, c171, c172, rfl, rfl, rfl, ⟨k148, n148, p148, e148, fs148, q148, f148, ks148, rfl, rfl, fun h => by cases h⟩, ⟨k150, n150, q150, f150, ks150, rfl, rfl, fun h => by cases h⟩⟩⟩
      ·replace hM := ite_f hb179 hM
       refine AAny.off (i := 4) rfl (by kernel_rfl) (by kernel_rfl) (by kernel_rfl) (on_of rfl rfl rfl rfl) rfl (ltb rfl) ?_
       refine AAny.off (i := 5) rfl (by kernel_rfl) (by kernel_rfl) (by kernel_rfl) (on_of rfl rfl rfl rfl) rfl (ltb rfl) ?_
       refine AAny.off (i := 6) rfl (by kernel_rfl) (by kernel_rfl) (by kernel_rfl) (on_of rfl rfl rfl rfl) rfl (ltb rfl) ?_
       refine AAny.off (i := 7) rfl (by kernel_rfl) (by kernel_rfl) (by kernel_rfl) (on_of rfl rfl rfl rfl) rfl (ltb rfl) ?_
       refine AAny.off (i := 8) rfl (by kernel_rfl) (by kernel_rfl) (by kernel_rfl) (on_of rfl rfl rfl rfl) rfl (ltb rfl) ?_
       refine AAny.off (i := 9) rfl (by kernel_rfl) (by kernel_rfl) (by kernel_rfl) (on_of rfl rfl rfl rfl) rfl (ltb rfl) ?_
       refine AAny.take (i := 10) rfl (by kernel_rfl) (by kernel_rfl) (by kernel_rfl) rfl rfl (ltb rfl) ((pick_step rfl rfl rfl).rd _) ?_
       refine AAny.done (by kernel_rfl) ?_
       refine run_sub_code (σ' := ⟨[(0, .optr (.bor 0) 0 0), (1, .imm q5 3 f5 (fcellss ks5)), (2, .int .i64 i6), (6, .optr (.loc 6) 0 0), (7, .optr (.loc 7) 0 0), (18, .optr (.loc 18) 0 0), (19, .optr (.loc 19) 0 0), (20, .optr (.loc 20) 0 0), (21, .optr (.loc 21) 0 0), (154, .bool false)], [(21, ⟨28, 3, true, [[.int .i64 k168, .int .i64 n168, .imm q168 3 f168 (fcellss ks168)]]⟩), (20, ⟨26, 4, true, [[.int .i64 k166, .int .i64 n166, .imm p166 3 e166 (fcellss fs166), .imm q166 4 f166 (pcellss ks166)]]⟩), (19, ⟨28, 3, true, [[.int .i64 k150, .int .i64 n150, .imm q150 3 f150 (fcellss ks150)]]⟩), (18, ⟨26, 4, true, [[.int .i64 k148, .int .i64 n148, .imm p148 3 e148 (fcellss fs148), .imm q148 4 f148 (pcellss ks148)]]⟩), (7, ⟨28, 3, true, [[.int .i64 0, .int .i64 0, .imm 0 3 true []]]⟩), (6, ⟨26, 4, true, [[.int .i64 0, .int .i64 0, .imm 0 3 true [], .imm 0 4 true []]]⟩)], [⟨156, 3, true, [[.imm qc170 1 fc170 ((c170 : List Int).map fun n => [AV.int .u8 n]), .int .i64 c171, .int .i64 c172]]⟩], O, tk163⟩) (Sub.env _ ⟨rfl, rfl, rfl, rfl, rfl, rfl, rfl, rfl, rfl, rfl, trivial⟩) ?_
       refine run_if rfl rfl (fun h => by cases h) (fun _ => ?_)
       refine run_skip ?_
       refine run_seq ?_
       refine run_draw [.loc 6, .loc 7] (n := 4) mixed rfl (by intro x hx; simp only [List.mem_cons, List.not_mem_nil, or_false] at hx; rcases hx with rfl | rfl <;> rfl) ?_
       refine AAny.take (i := 0) rfl (by kernel_rfl) (by kernel_rfl) (by kernel_rfl) rfl rfl (ltb rfl) (aload_rd hG rfl rfl rfl (by first | (simp [ldok]; done) | exact List.not_mem_nil | trivial)) ?_
       refine AAny.take (i := 1) rfl (by kernel_rfl) (by kernel_rfl) (by kernel_rfl) rfl rfl (ltb rfl) (aload_rd hG rfl rfl rfl (by first | (simp [ldok]; done) | exact List.not_mem_nil | trivial)) ?_
       refine AAny.one (i := 2) (by kernel_rfl) (AOp.step0 rfl rfl rfl (store_step hG rfl rfl rfl rfl rfl rfl rfl rfl) (by intro x hx; have hx : x ∈ [ID.loc 6] := hx; simp only [List.mem_cons, List.not_mem_nil, or_false] at hx; subst hx; simp) ?_)
       refine AAny.one (i := 3) (by kernel_rfl) (AOp.step0 rfl rfl rfl (store_step hG rfl rfl rfl rfl rfl rfl rfl rfl) (by intro x hx; have hx : x ∈ [ID.loc 7] := hx; simp only [List.mem_cons, List.not_mem_nil, or_false] at hx; subst hx; simp) ?_)
       refine AAny.done (by kernel_rfl) ?_
       refine run_ret_to ?_
       obtain rfl := some_t hM
       refine fin_x hG rfl rfl rfl (v' := .tup [.agg [.int .i64 k148, .int .i64 n148, .imm p148 3 e148 (fcellss fs148), .imm q148 4 f148 (pcellss ks148)], .agg [.int .i64 k150, .int .i64 n150, .imm q150 3 f150 (fcellss ks150)]]) (by rfl) ⟨_, ⟨156, 3, true, [[.imm qc170 1 fc170 ((c170 : List Int).map fun n => [AV.int .u8 n]), .int .i64 c171, .int .i64 c172]]⟩, rfl, rfl, (show tk ≤ tk163 by omega), ⟨_, _, _, _, qc170, fc170, c170, c171, c172, rfl, rfl, rfl, ⟨k148, n148, p148, e148, fs148, q148, f148, ks148, rfl, rfl, fun h => by cases h⟩, ⟨k150, n150, q150, f150, ks150, rfl, rfl, fun h => by cases h⟩⟩⟩
     ·replace hM := ite_f hb142 hM
      refine run_skip ?_
      refine run_blk ?_
      refine run_sr ?_
      refine mvL rfl rfl rfl rfl (ltb rfl) ?_
      refine mvL rfl rfl rfl rfl (ltb rfl) ?_
      obtain ⟨r203, hg204, hM⟩ := bind_t hM
      refine run_call rfl rfl rfl (ltb rfl) rfl rfl rfl (fun _ h => absurd h List.not_mem_nil) (s_l00Src_next_ok (.bor 0) q29 f29 l29 i30 i31 2 hg204 _ _ rfl) (callK_retV_bor (k := 0) rfl (fun v o' tk' h => by obtain ⟨_, _, _, _, _, _, rfl, rfl, _⟩ := h; rfl) (fun v o'214 tk205 (hle206 : tkj27 ≤ tk205) h207 => ?_))
      obtain ⟨ra213, qc210, fc210, c210, c211, c212, rfl, rfl, rfl⟩ := h207
      obtain ⟨r215, hg216, hM⟩ := bind_t hM
      refine run_call rfl rfl rfl (ltb rfl) rfl rfl rfl (fun _ h => absurd h List.not_mem_nil) (s_l00Src_form_ok n (.bor 0) qc210 fc210 c210 c211 c212 ra213 hg216 _ _ rfl) (callK_retV_bor (k := 0) rfl (fun v o' tk' h => by obtain ⟨_, _, _, _, _, _, rfl, rfl, _⟩ := h; rfl) (fun v o'226 tk217 (hle218 : tk205 ≤ tk217) h219 => ?_))
      obtain ⟨ra225, qc222, fc222, c222, c223, c224, rfl, rfl, ⟨k220, n220, q220, f220, ks220, rfl, rfl, hf221⟩⟩ := h219
      refine run_op rfl (alloc_step (d := 22) hG rfl rfl rfl) rfl (ltb rfl) ?_
      refine run_op0 rfl (store_step hG rfl rfl rfl rfl rfl rfl rfl rfl) rfl ?_
      refine run_ops_nil ?_
      refine run_sr ?_
      refine mvL rfl rfl rfl rfl (ltb rfl) ?_
      refine mvL rfl rfl rfl rfl (ltb rfl) ?_
      refine run_ld hG rfl rfl rfl rfl rfl (ltb rfl) ?_
      obtain ⟨r227, hg228, hM⟩ := bind_t hM
      refine run_call rfl rfl rfl (ltb rfl) rfl rfl rfl (fun _ h => absurd h List.not_mem_nil) (s_l08More_ok q5 f5 ks5 k220 n220 q220 f220 ks220 hg228 _ _) (callK_retX (fun v tk229 (hle230 : tk217 ≤ tk229) h231 => ?_))
      obtain ⟨q232, f232, ks232, rfl, rfl, hf233⟩ := h231
      refine mvL rfl rfl rfl rfl (ltb rfl) ?_
      refine run_bin rfl rfl rfl rfl rfl rfl rfl (ltb rfl) ?_
      obtain ⟨r234, hg235, hM⟩ := bind_t hM
      refine run_call rfl rfl rfl (ltb rfl) rfl rfl rfl (fun _ h => absurd h List.not_mem_nil) (ih_s_l00Src_proof (.bor 0) qc222 fc222 c222 c223 c224 q232 f232 ks232 (IntKind.i64.wrap (i6 - 1)) hg235 _ _ rfl) (callK_retV_bor (k := 0) rfl (fun v o' tk' h => by obtain ⟨_, _, _, _, _, _, _, _, _, rfl, rfl, _⟩ := h; rfl) (fun v o'251 tk236 (hle237 : tk229 ≤ tk236) h238 => ?_))
      obtain ⟨ra247, ra248, va249, va250, qc243, fc243, c243, c244, c245, rfl, rfl, rfl, ⟨k239, n239, p239, e239, fs239, q239, f239, ks239, rfl, rfl, hf240⟩, ⟨k241, n241, q241, f241, ks241, rfl, rfl, hf242⟩⟩ := h238
      refine mvL rfl rfl rfl rfl (ltb rfl) ?_
      refine run_pu rfl (extract_step rfl rfl rfl) rfl (ltb rfl) ?_
      refine run_pu rfl (extract_step rfl rfl rfl) rfl (ltb rfl) ?_
      refine run_op rfl (alloc_step (d := 23) hG rfl rfl rfl) rfl (ltb rfl) ?_
      refine run_op rfl (alloc_step (d := 24) hG rfl rfl rfl) rfl (ltb rfl) ?_
      refine run_op0 rfl (store_step hG rfl rfl rfl rfl rfl rfl rfl rfl) rfl ?_
      refine run_op0 rfl (store_step hG rfl rfl rfl rfl rfl rfl rfl rfl) rfl ?_
      refine run_ops_nil ?_
      refine run_sub_code (σ' := ⟨[(6, .optr (.loc 6) 0 0), (7, .optr (.loc 7) 0 0), (22, .optr (.loc 22) 0 0), (23, .optr (.loc 23) 0 0), (24, .optr (.loc 24) 0 0)], [(24, ⟨28, 3, true, [[.int .i64 k241, .int .i64 n241, .imm q241 3 f241 (fcellss ks241)]]⟩), (23, ⟨26, 4, true, [[.int .i64 k239, .int .i64 n239, .imm p239 3 e239 (fcellss fs239), .imm q239 4 f239 (pcellss ks239)]]⟩), (22, ⟨28, 3, true, [[.int .i64 k220, .int .i64 n220, .imm q220 3 f220 (fcellss ks220)]]⟩), (7, ⟨28, 3, true, [[.int .i64 0, .int .i64 0, .imm 0 3 true []]]⟩), (6, ⟨26, 4, true, [[.int .i64 0, .int .i64 0, .imm 0 3 true [], .imm 0 4 true []]]⟩)], [⟨156, 3, true, [[.imm qc243 1 fc243 ((c243 : List Int).map fun n => [AV.int .u8 n]), .int .i64 c244, .int .i64 c245]]⟩], O, tk236⟩) (Sub.env _ ⟨rfl, rfl, rfl, rfl, rfl, trivial⟩) ?_
      refine run_seq ?_
      refine run_draw [.loc 6, .loc 7] (n := 11) mixed rfl (by intro x hx; simp only [List.mem_cons, List.not_mem_nil, or_false] at hx; rcases hx with rfl | rfl <;> rfl) ?_
      refine AAny.take (i := 0) rfl (by kernel_rfl) (by kernel_rfl) (by kernel_rfl) rfl rfl (ltb rfl) (aload_rd hG rfl rfl rfl (by first | (simp [ldok]; done) | exact List.not_mem_nil | trivial)) ?_
      refine AAny.take (i := 1) rfl (by kernel_rfl) (by kernel_rfl) (by kernel_rfl) rfl rfl (ltb rfl) (aload_rd hG rfl rfl rfl (by first | (simp [ldok]; done) | exact List.not_mem_nil | trivial)) ?_
      refine AAny.take (i := 3) rfl (by kernel_rfl) (by kernel_rfl) (by kernel_rfl) rfl rfl (ltb rfl) (aload_rd hG rfl rfl rfl (by first | (simp [ldok]; done) | exact List.not_mem_nil | trivial)) ?_
      refine AAny.take (i := 6) rfl (by kernel_rfl) (by kernel_rfl) (by kernel_rfl) rfl rfl (ltb rfl) (aload_rd hG rfl rfl rfl (by first | (simp [ldok]; done) | exact List.not_mem_nil | trivial)) ?_
      refine AAny.take (i := 7) rfl (by kernel_rfl) (by kernel_rfl) (by kernel_rfl) rfl rfl (ltb rfl) (aload_rd hG rfl rfl rfl (by first | (simp [ldok]; done) | exact List.not_mem_nil | trivial)) ?_
      refine AAny.each (rs := [2, 4, 8]) (by kernel_rfl) (fun h => by cases h) (fun i hi => ?_)
      simp only [List.mem_cons, List.not_mem_nil, or_false] at hi
      rcases hi with rfl | rfl | rfl
      ·refine AOp.step rfl rfl rfl (ltb rfl) (buildSlice_step (d := 187) hG rfl rfl rfl rfl rfl (by rfl) (by rfl) (by rfl) (by decide)) (fun _ h => absurd h List.not_mem_nil) ?_
       refine AAny.each (rs := [4, 8]) (by kernel_rfl) (fun h => by cases h) (fun i hi => ?_)
       simp only [List.mem_cons, List.not_mem_nil, or_false] at hi
       rcases hi with rfl | rfl
       ·refine AOp.step rfl rfl rfl (ltb rfl) (buildSlice_step (d := 189) hG rfl rfl rfl rfl rfl (by rfl) (by rfl) (by rfl) (by decide)) (fun _ h => absurd h List.not_mem_nil) ?_
        refine AAny.take (i := 5) rfl (by kernel_rfl) (by kernel_rfl) (by kernel_rfl) rfl rfl (ltb rfl) ((build_step hG rfl (by rfl) rfl (fun h => by cases h) (by rfl)).rd _) ?_
        refine AAny.one (i := 8) (by kernel_rfl) (AOp.call rfl rfl rfl rfl (ltb rfl) rfl rfl rfl (fun _ h => absurd h List.not_mem_nil) (fun _ h => absurd h List.not_mem_nil) (s_l08Two_ex 3 k220 n220 q220 f220 ks220 k241 n241 q241 f241 ks241 _ _) (callK_retN ?_))
        skip
        refine AAny.one (i := 9) (by kernel_rfl) (AOp.step0 rfl rfl rfl (store_step hG rfl rfl rfl rfl rfl rfl rfl rfl) (by intro x hx; have hx : x ∈ [ID.loc 6] := hx; simp only [List.mem_cons, List.not_mem_nil, or_false] at hx; subst hx; simp) ?_)
        refine AAny.one (i := 10) (by kernel_rfl) (AOp.step0 rfl rfl rfl (store_step hG rfl rfl rfl rfl rfl rfl rfl rfl) (by intro x hx; have hx : x ∈ [ID.loc 7] := hx; simp only [List.mem_cons, List.not_mem_nil, or_false] at hx; subst hx; simp) ?_)
        refine AAny.done (by kernel_rfl) ?_
        refine run_ret_to ?_
        refine fin_sub (Sub.freeze (k := 187) rfl rfl) ?_
        refine fin_sub (Sub.freeze (k := 189) rfl rfl) ?_
        obtain rfl := some_t hM
        refine fin_x hG rfl rfl rfl (v' := .tup [.agg [.int .i64 5, .int .i64 0, .imm (tk236 + 1) 3 false (fcellss [LF.mk k220 n220 q220 f220 ks220, LF.mk k241 n241 q241 f241 ks241]), .imm ((tk236 + 1) + 1) 4 false (pcellss [LP.mk k239 n239 p239 e239 fs239 q239 f239 ks239])], .agg [.int .i64 3, .int .i64 0, .imm tk236 3 false (fcellss [LF.mk k220 n220 q220 f220 ks220, LF.mk k241 n241 q241 f241 ks241])]]) (by rfl) ⟨_, ⟨156, 3, true, [[.imm qc243 1 fc243 ((c243 : List Int).map fun n => [AV.int .u8 n]), .int .i64 c244, .int .i64 c245]]⟩, rfl, rfl, (show tk ≤ (((tk236 + 1) + 1) + 1) by omega), ⟨_, _, _, _, qc243, fc243, c243, c244, c245, rfl, rfl, rfl, ⟨5, 0, (tk236 + 1), false, [LF.mk k220 n220 q220 f220 ks220, LF.mk k241 n241 q241 f241 ks241], ((tk236 + 1) + 1), false, [LP.mk k239 n239 p239 e239 fs239 q239 f239 ks239], rfl, rfl, fun h => by cases h⟩, ⟨3, 0, tk236, false, [LF.mk k220 n220 q220 f220 ks220, LF.mk k241 n241 q241 f241 ks241], rfl, rfl, fun h => by cases h⟩⟩⟩
       ·refine AOp.call rfl rfl rfl rfl (ltb rfl) rfl rfl rfl (fun _ h => absurd h List.not_mem_nil) (fun _ h => absurd h List.not_mem_nil) (s_l08Two_ex 3 k220 n220 q220 f220 ks220 k241 n241 q241 f241 ks241 _ _) (callK_retN ?_)
        skip
        refine AAny.one (i := 4) (by kernel_rfl) (AOp.step rfl rfl rfl (ltb rfl) (buildSlice_step (d := 189) hG rfl rfl rfl rfl rfl (by rfl) (by rfl) (by rfl) (by decide)) (fun _ h => absurd h List.not_mem_nil) ?_)
        refine AAny.take (i := 5) rfl (by kernel_rfl) (by kernel_rfl) (by kernel_rfl) rfl rfl (ltb rfl) ((build_step hG rfl (by rfl) rfl (fun h => by cases h) (by rfl)).rd _) ?_
        refine AAny.one (i := 9) (by kernel_rfl) (AOp.step0 rfl rfl rfl (store_step hG rfl rfl rfl rfl rfl rfl rfl rfl) (by intro x hx; have hx : x ∈ [ID.loc 6] := hx; simp only [List.mem_cons, List.not_mem_nil, or_false] at hx; subst hx; simp) ?_)
        refine AAny.one (i := 10) (by kernel_rfl) (AOp.step0 rfl rfl rfl (store_step hG rfl rfl rfl rfl rfl rfl rfl rfl) (by intro x hx; have hx : x ∈ [ID.loc 7] := hx; simp only [List.mem_cons, List.not_mem_nil, or_false] at hx; subst hx; simp) ?_)
        refine AAny.done (by kernel_rfl) ?_
        refine run_ret_to ?_
        refine fin_sub (Sub.freeze (k := 187) rfl rfl) ?_
        refine fin_sub (Sub.freeze (k := 189) rfl rfl) ?_
        obtain rfl := some_t hM
        refine fin_x hG rfl rfl rfl (v' := .tup [.agg [.int .i64 5, .int .i64 0, .imm (tk236 + 1) 3 false (fcellss [LF.mk k220 n220 q220 f220 ks220, LF.mk k241 n241 q241 f241 ks241]), .imm ((tk236 + 1) + 1) 4 false (pcellss [LP.mk k239 n239 p239 e239 fs239 q239 f239 ks239])], .agg [.int .i64 3, .int .i64 0, .imm tk236 3 false (fcellss [LF.mk k220 n220 q220 f220 ks220, LF.mk k241 n241 q241 f241 ks241])]]) (by rfl) ⟨_, ⟨156, 3, true, [[.imm qc243 1 fc243 ((c243 : List Int).map fun n => [AV.int .u8 n]), .int .i64 c244, .int .i64 c245]]⟩, rfl, rfl, (show tk ≤ (((tk236 + 1) + 1) + 1) by omega), ⟨_, _, _, _, qc243, fc243, c243, c244, c245, rfl, rfl, rfl, ⟨5, 0, (tk236 + 1), false, [LF.mk k220 n220 q220 f220 ks220, LF.mk k241 n241 q241 f241 ks241], ((tk236 + 1) + 1), false, [LP.mk k239 n239 p239 e239 fs239 q239 f239 ks239], rfl, rfl, fun h => by cases h⟩, ⟨3, 0, tk236, false, [LF.mk k220 n220 q220 f220 ks220, LF.mk k241 n241 q241 f241 ks241], rfl, rfl, fun h => by cases h⟩⟩⟩
      ·refine AOp.step rfl rfl rfl (ltb rfl) (buildSlice_step (d := 189) hG rfl rfl rfl rfl rfl (by rfl) (by rfl) (by rfl) (by decide)) (fun _ h => absurd h List.not_mem_nil) ?_
       refine AAny.each (rs := [2, 8]) (by kernel_rfl) (fun h => by cases h) (fun i hi => ?_)
       simp only [List.mem_cons, List.not_mem_nil, or_false] at hi
       rcases hi with rfl | rfl
       ·refine AOp.step rfl rfl rfl (ltb rfl) (buildSlice_step (d := 187) hG rfl rfl rfl rfl rfl (by rfl) (by rfl) (by rfl) (by decide)) (fun _ h => absurd h List.not_mem_nil) ?_
        refine AAny.take (i := 5) rfl (by kernel_rfl) (by kernel_rfl) (by kernel_rfl) rfl rfl (ltb rfl) ((build_step hG rfl (by rfl) rfl (fun h => by cases h) (by rfl)).rd _) ?_
        refine AAny.one (i := 8) (by kernel_rfl) (AOp.call rfl rfl rfl rfl (ltb rfl) rfl rfl rfl (fun _ h => absurd h List.not_mem_nil) (fun _ h => absurd h List.not_mem_nil) (s_l08Two_ex 3 k220 n220 q220 f220 ks220 k241 n241 q241 f241 ks241 _ _) (callK_retN ?_))
        skip
        refine AAny.one (i := 9) (by kernel_rfl) (AOp.step0 rfl rfl rfl (store_step hG rfl rfl rfl rfl rfl rfl rfl rfl) (by intro x hx; have hx : x ∈ [ID.loc 6] := hx; simp only [List.mem_cons, List.not_mem_nil, or_false] at hx; subst hx; simp) ?_)
        refine AAny.one (i := 10) (by kernel_rfl) (AOp.step0 rfl rfl rfl (store_step hG rfl rfl rfl rfl rfl rfl rfl rfl) (by intro x hx; have hx : x ∈ [ID.loc 7] := hx; simp only [List.mem_cons, List.not_mem_nil, or_false] at hx; subst hx; simp) ?_)
        refine AAny.done (by kernel_rfl) ?_
        refine run_ret_to ?_
        refine fin_sub (Sub.freeze (k := 187) rfl rfl) ?_
        refine fin_sub (Sub.freeze (k := 189) rfl rfl) ?_
        obtain rfl := some_t hM
        refine fin_x hG rfl rfl rfl (v' := .tup [.agg [.int .i64 5, .int .i64 0, .imm (tk236 + 1) 3 false (fcellss [LF.mk k220 n220 q220 f220 ks220, LF.mk k241 n241 q241 f241 ks241]), .imm ((tk236 + 1) + 1) 4 false (pcellss [LP.mk k239 n239 p239 e239 fs239 q239 f239 ks239])], .agg [.int .i64 3, .int .i64 0, .imm tk236 3 false (fcellss [LF.mk k220 n220 q220 f220 ks220, LF.mk k241 n241 q241 f241 ks241])]]) (by rfl) ⟨_, ⟨156, 3, true, [[.imm qc243 1 fc243 ((c243 : List Int).map fun n => [AV.int .u8 n]), .int .i64 c244, .int .i64 c245]]⟩, rfl, rfl, (show tk ≤ (((tk236 + 1) + 1) + 1) by omega), ⟨_, _, _, _, qc243, fc243, c243, c244, c245, rfl, rfl, rfl, ⟨5, 0, (tk236 + 1), false, [LF.mk k220 n220 q220 f220 ks220, LF.mk k241 n241 q241 f241 ks241], ((tk236 + 1) + 1), false, [LP.mk k239 n239 p239 e239 fs239 q239 f239 ks239], rfl, rfl, fun h => by cases h⟩, ⟨3, 0, tk236, false, [LF.mk k220 n220 q220 f220 ks220, LF.mk k241 n241 q241 f241 ks241], rfl, rfl, fun h => by cases h⟩⟩⟩
       ·refine AOp.call rfl rfl rfl rfl (ltb rfl) rfl rfl rfl (fun _ h => absurd h List.not_mem_nil) (fun _ h => absurd h List.not_mem_nil) (s_l08Two_ex 3 k220 n220 q220 f220 ks220 k241 n241 q241 f241 ks241 _ _) (callK_retN ?_)
        skip
        refine AAny.one (i := 2) (by kernel_rfl) (AOp.step rfl rfl rfl (ltb rfl) (buildSlice_step (d := 187) hG rfl rfl rfl rfl rfl (by rfl) (by rfl) (by rfl) (by decide)) (fun _ h => absurd h List.not_mem_nil) ?_)
        refine AAny.take (i := 5) rfl (by kernel_rfl) (by kernel_rfl) (by kernel_rfl) rfl rfl (ltb rfl) ((build_step hG rfl (by rfl) rfl (fun h => by cases h) (by rfl)).rd _) ?_
        refine AAny.one (i := 9) (by kernel_rfl) (AOp.step0 rfl rfl rfl (store_step hG rfl rfl rfl rfl rfl rfl rfl rfl) (by intro x hx; have hx : x ∈ [ID.loc 6] := hx; simp only [List.mem_cons, List.not_mem_nil, or_false] at hx; subst hx; simp) ?_)
        refine AAny.one (i := 10) (by kernel_rfl) (AOp.step0 rfl rfl rfl (store_step hG rfl rfl rfl rfl rfl rfl rfl rfl) (by intro x hx; have hx : x ∈ [ID.loc 7] := hx; simp only [List.mem_cons, List.not_mem_nil, or_false] at hx; subst hx; simp) ?_)
        refine AAny.done (by kernel_rfl) ?_
        refine run_ret_to ?_
        refine fin_sub (Sub.freeze (k := 187) rfl rfl) ?_
        refine fin_sub (Sub.freeze (k := 189) rfl rfl) ?_
        obtain rfl := some_t hM
        refine fin_x hG rfl rfl rfl (v' := .tup [.agg [.int .i64 5, .int .i64 0, .imm (tk236 + 1) 3 false (fcellss [LF.mk k220 n220 q220 f220 ks220, LF.mk k241 n241 q241 f241 ks241]), .imm ((tk236 + 1) + 1) 4 false (pcellss [LP.mk k239 n239 p239 e239 fs239 q239 f239 ks239])], .agg [.int .i64 3, .int .i64 0, .imm tk236 3 false (fcellss [LF.mk k220 n220 q220 f220 ks220, LF.mk k241 n241 q241 f241 ks241])]]) (by rfl) ⟨_, ⟨156, 3, true, [[.imm qc243 1 fc243 ((c243 : List Int).map fun n => [AV.int .u8 n]), .int .i64 c244, .int .i64 c245]]⟩, rfl, rfl, (show tk ≤ (((tk236 + 1) + 1) + 1) by omega), ⟨_, _, _, _, qc243, fc243, c243, c244, c245, rfl, rfl, rfl, ⟨5, 0, (tk236 + 1), false, [LF.mk k220 n220 q220 f220 ks220, LF.mk k241 n241 q241 f241 ks241], ((tk236 + 1) + 1), false, [LP.mk k239 n239 p239 e239 fs239 q239 f239 ks239], rfl, rfl, fun h => by cases h⟩, ⟨3, 0, tk236, false, [LF.mk k220 n220 q220 f220 ks220, LF.mk k241 n241 q241 f241 ks241], rfl, rfl, fun h => by cases h⟩⟩⟩
      ·refine AOp.call rfl rfl rfl rfl (ltb rfl) rfl rfl rfl (fun _ h => absurd h List.not_mem_nil) (fun _ h => absurd h List.not_mem_nil) (s_l08Two_ex 3 k220 n220 q220 f220 ks220 k241 n241 q241 f241 ks241 _ _) (callK_retN ?_)
       skip
       refine AAny.each (rs := [2, 4]) (by kernel_rfl) (fun h => by cases h) (fun i hi => ?_)
       simp only [List.mem_cons, List.not_mem_nil, or_false] at hi
       rcases hi with rfl | rfl
       ·refine AOp.step rfl rfl rfl (ltb rfl) (buildSlice_step (d := 187) hG rfl rfl rfl rfl rfl (by rfl) (by rfl) (by rfl) (by decide)) (fun _ h => absurd h List.not_mem_nil) ?_
        refine AAny.one (i := 4) (by kernel_rfl) (AOp.step rfl rfl rfl (ltb rfl) (buildSlice_step (d := 189) hG rfl rfl rfl rfl rfl (by rfl) (by rfl) (by rfl) (by decide)) (fun _ h => absurd h List.not_mem_nil) ?_)
        refine AAny.take (i := 5) rfl (by kernel_rfl) (by kernel_rfl) (by kernel_rfl) rfl rfl (ltb rfl) ((build_step hG rfl (by rfl) rfl (fun h => by cases h) (by rfl)).rd _) ?_
        refine AAny.one (i := 9) (by kernel_rfl) (AOp.step0 rfl rfl rfl (store_step hG rfl rfl rfl rfl rfl rfl rfl rfl) (by intro x hx; have hx : x ∈ [ID.loc 6] := hx; simp only [List.mem_cons, List.not_mem_nil, or_false] at hx; subst hx; simp) ?_)
        refine AAny.one (i := 10) (by kernel_rfl) (AOp.step0 rfl rfl rfl (store_step hG rfl rfl rfl rfl rfl rfl rfl rfl) (by intro x hx; have hx : x ∈ [ID.loc 7] := hx; simp only [List.mem_cons, List.not_mem_nil, or_false] at hx; subst hx; simp) ?_)
        refine AAny.done (by kernel_rfl) ?_
        refine run_ret_to ?_
        refine fin_sub (Sub.freeze (k := 187) rfl rfl) ?_
        refine fin_sub (Sub.freeze (k := 189) rfl rfl) ?_
        obtain rfl := some_t hM
        refine fin_x hG rfl rfl rfl (v' := .tup [.agg [.int .i64 5, .int .i64 0, .imm (tk236 + 1) 3 false (fcellss [LF.mk k220 n220 q220 f220 ks220, LF.mk k241 n241 q241 f241 ks241]), .imm ((tk236 + 1) + 1) 4 false (pcellss [LP.mk k239 n239 p239 e239 fs239 q239 f239 ks239])], .agg [.int .i64 3, .int .i64 0, .imm tk236 3 false (fcellss [LF.mk k220 n220 q220 f220 ks220, LF.mk k241 n241 q241 f241 ks241])]]) (by rfl) ⟨_, ⟨156, 3, true, [[.imm qc243 1 fc243 ((c243 : List Int).map fun n => [AV.int .u8 n]), .int .i64 c244, .int .i64 c245]]⟩, rfl, rfl, (show tk ≤ (((tk236 + 1) + 1) + 1) by omega), ⟨_, _, _, _, qc243, fc243, c243, c244, c245, rfl, rfl, rfl, ⟨5, 0, (tk236 + 1), false, [LF.mk k220 n220 q220 f220 ks220, LF.mk k241 n241 q241 f241 ks241], ((tk236 + 1) + 1), false, [LP.mk k239 n239 p239 e239 fs239 q239 f239 ks239], rfl, rfl, fun h => by cases h⟩, ⟨3, 0, tk236, false, [LF.mk k220 n220 q220 f220 ks220, LF.mk k241 n241 q241 f241 ks241], rfl, rfl, fun h => by cases h⟩⟩⟩
       ·refine AOp.step rfl rfl rfl (ltb rfl) (buildSlice_step (d := 189) hG rfl rfl rfl rfl rfl (by rfl) (by rfl) (by rfl) (by decide)) (fun _ h => absurd h List.not_mem_nil) ?_
        refine AAny.one (i := 2) (by kernel_rfl) (AOp.step rfl rfl rfl (ltb rfl) (buildSlice_step (d := 187) hG rfl rfl rfl rfl rfl (by rfl) (by rfl) (by rfl) (by decide)) (fun _ h => absurd h List.not_mem_nil) ?_)
        refine AAny.take (i := 5) rfl (by kernel_rfl) (by kernel_rfl) (by kernel_rfl) rfl rfl (ltb rfl) ((build_step hG rfl (by rfl) rfl (fun h => by cases h) (by rfl)).rd _) ?_
        refine AAny.one (i := 9) (by kernel_rfl) (AOp.step0 rfl rfl rfl (store_step hG rfl rfl rfl rfl rfl rfl rfl rfl) (by intro x hx; have hx : x ∈ [ID.loc 6] := hx; simp only [List.mem_cons, List.not_mem_nil, or_false] at hx; subst hx; simp) ?_)
        refine AAny.one (i := 10) (by kernel_rfl) (AOp.step0 rfl rfl rfl (store_step hG rfl rfl rfl rfl rfl rfl rfl rfl) (by intro x hx; have hx : x ∈ [ID.loc 7] := hx; simp only [List.mem_cons, List.not_mem_nil, or_false] at hx; subst hx; simp) ?_)
        refine AAny.done (by kernel_rfl) ?_
        refine run_ret_to ?_
        refine fin_sub (Sub.freeze (k := 187) rfl rfl) ?_
        refine fin_sub (Sub.freeze (k := 189) rfl rfl) ?_
        obtain rfl := some_t hM
        refine fin_x hG rfl rfl rfl (v' := .tup [.agg [.int .i64 5, .int .i64 0, .imm (tk236 + 1) 3 false (fcellss [LF.mk k220 n220 q220 f220 ks220, LF.mk k241 n241 q241 f241 ks241]), .imm ((tk236 + 1) + 1) 4 false (pcellss [LP.mk k239 n239 p239 e239 fs239 q239 f239 ks239])], .agg [.int .i64 3, .int .i64 0, .imm tk236 3 false (fcellss [LF.mk k220 n220 q220 f220 ks220, LF.mk k241 n241 q241 f241 ks241])]]) (by rfl) ⟨_, ⟨156, 3, true, [[.imm qc243 1 fc243 ((c243 : List Int).map fun n => [AV.int .u8 n]), .int .i64 c244, .int .i64 c245]]⟩, rfl, rfl, (show tk ≤ (((tk236 + 1) + 1) + 1) by omega), ⟨_, _, _, _, qc243, fc243, c243, c244, c245, rfl, rfl, rfl, ⟨5, 0, (tk236 + 1), false, [LF.mk k220 n220 q220 f220 ks220, LF.mk k241 n241 q241 f241 ks241], ((tk236 + 1) + 1), false, [LP.mk k239 n239 p239 e239 fs239 q239 f239 ks239], rfl, rfl, fun h => by cases h⟩, ⟨3, 0, tk236, false, [LF.mk k220 n220 q220 f220 ks220, LF.mk k241 n241 q241 f241 ks241], rfl, rfl, fun h => by cases h⟩⟩⟩

theorem s_l00Src_proof_all : ∀ (n : Nat), (∀ (X0 : ID) (q2 : Nat) (f2 : Bool) (l2 : List Int) (i3 : Int) (i4 : Int) (q5 : Nat) (f5 : Bool) (ks5 : List LF) (i6 : Int) {r : (Pf × F × (List Int × Int × Int))}, s_l00Src_proof n (l2, i3, i4) (fers ks5) i6 = some r → ∀ (O : Heap) (tk : Nat), O X0 = some ⟨156, 3, true, [[.imm q2 1 f2 ((l2 : List Int).map fun n => [AV.int .u8 n]), .int .i64 i3, .int .i64 i4]]⟩ → ACalls Go.Proofs.Try.prog 51 [.optr X0 0 0, .imm q5 3 f5 (fcellss ks5), .int .i64 i6] O tk (RetV O X0 tk (fun v o' tk' => ∃ r0' r1' v0' v1', ∃ (c0q : Nat) (c0f : Bool) (c0 : List Int) (c1 : Int) (c2 : Int), r = (r0', r1', (c0, c1, c2)) ∧ o' = ⟨156, 3, true, [[.imm c0q 1 c0f ((c0 : List Int).map fun n => [AV.int .u8 n]), .int .i64 c1, .int .i64 c2]]⟩ ∧ v = .tup [v0', v1'] ∧ VP false tk tk' r0' v0' ∧ VF false tk tk' r1' v1')))
 | 0 => by intro X0 q2 f2 l2 i3 i4 q5 f5 ks5 i6 r hM; rw [s_l00Src_proof] at hM; cases hM
 | n + 1 => have ih := s_l00Src_proof_all n; s_l00Src_proof_st n (ih)

theorem s_l00Src_proof_ok (n : Nat) : ∀ (X0 : ID) (q2 : Nat) (f2 : Bool) (l2 : List Int) (i3 : Int) (i4 : Int) (q5 : Nat) (f5 : Bool) (ks5 : List LF) (i6 : Int) {r : (Pf × F × (List Int × Int × Int))}, s_l00Src_proof n (l2, i3, i4) (fers ks5) i6 = some r → ∀ (O : Heap) (tk : Nat), O X0 = some ⟨156, 3, true, [[.imm q2 1 f2 ((l2 : List Int).map fun n => [AV.int .u8 n]), .int .i64 i3, .int .i64 i4]]⟩ → ACalls Go.Proofs.Try.prog 51 [.optr X0 0 0, .imm q5 3 f5 (fcellss ks5), .int .i64 i6] O tk (RetV O X0 tk (fun v o' tk' => ∃ r0' r1' v0' v1', ∃ (c0q : Nat) (c0f : Bool) (c0 : List Int) (c1 : Int) (c2 : Int), r = (r0', r1', (c0, c1, c2)) ∧ o' = ⟨156, 3, true, [[.imm c0q 1 c0f ((c0 : List Int).map fun n => [AV.int .u8 n]), .int .i64 c1, .int .i64 c2]]⟩ ∧ v = .tup [v0', v1'] ∧ VP false tk tk' r0' v0' ∧ VF false tk tk' r1' v1')) := s_l00Src_proof_all n

def s_ProofOf (n : Nat) (l1 : List Int) : Option (List F × Pf × F) :=
 (s_l00Src_hyps n (l1, 0, (Int.tmod ((l1).length : Int) 1000))).bind fun r2 =>
 (s_l00Src_next (r2.2.1, r2.2.2.1, r2.2.2.2) 5).bind fun r14 =>
 (s_l00Src_proof n (r14.2.1, r14.2.2.1, r14.2.2.2) r2.1 r14.1).bind fun r26 =>
 some (r2.1, r26.1, r26.2.1)

set_option maxRecDepth 100000 in
theorem s_ProofOf_ok (n : Nat) : ∀ (q1 : Nat) (f1 : Bool) (l1 : List Int) {r : (List F × Pf × F)}, s_ProofOf n l1 = some r → ∀ (O : Heap) (tk : Nat), ACalls Go.Proofs.Try.prog 9 [.imm q1 1 f1 ((l1 : List Int).map fun n => [AV.int .u8 n])] O tk (RetX O tk (fun v tk' => ∃ r0' r1' r2' v0' v1' v2', r = (r0', r1', r2') ∧ v = .tup [v0', v1', v2'] ∧ VFs false tk tk' r0' v0' ∧ VP false tk tk' r1' v1' ∧ VF false tk tk' r2' v2')) := by
 intro q1 f1 l1 r hM O tk
 unfold s_ProofOf at hM
 refine acalls_of_run Go.Proofs.Try.func9 rfl rfl [] [] (Bor.nil _) [(0, .imm q1 1 f1 ((l1 : List Int).map fun n => [AV.int .u8 n]))] (.cons (entS rfl) (.nil _)) (leb rfl) (fun _ h => by cases h) (fun S0 hO htk hfz => ?_)
 refine run_sr ?_
 refine mvR rfl rfl rfl rfl (ltb rfl) ?_
 refine run_op rfl (alloc_step (d := 3) hG rfl rfl rfl) rfl (ltb rfl) ?_
 refine run_op rfl (alloc_step (d := 4) hG rfl rfl rfl) rfl (ltb rfl) ?_
 refine run_ops_nil ?_
 refine run_sr ?_
 refine mvL rfl rfl rfl rfl (ltb rfl) ?_
 refine run_callBox (ob := ⟨156, 3, true, [[.imm q1 1 f1 ((l1 : List Int).map fun n => [AV.int .u8 n]), .int .i64 0, .int .i64 (Int.tmod ((l1).length : Int) 1000)]]⟩) rfl rfl rfl (ltb rfl) rfl rfl rfl rfl (s_l00Source_box q1 f1 l1 _ _) rfl (fun out O' tk' h => h) ?_
 refine mvR rfl rfl rfl rfl (ltb rfl) ?_
 refine run_ops_nil ?_
 refine run_sr ?_
 refine mvL rfl rfl rfl rfl (ltb rfl) ?_
 obtain ⟨r2, hg3, hM⟩ := bind_t hM
 refine run_call rfl rfl rfl (ltb rfl) rfl rfl rfl (fun _ h => absurd h List.not_mem_nil) (s_l00Src_hyps_ok n (.loc 10) q1 f1 l1 0 (Int.tmod ((l1).length : Int) 1000) hg3 _ _ rfl) (callK_retV_loc (k := 10) rfl (fun v o'13 tk4 (hle5 : tk ≤ tk4) h6 => ?_))
 obtain ⟨ra12, qc9, fc9, c9, c10, c11, rfl, rfl, ⟨q7, f7, ks7, rfl, rfl, hf8⟩⟩ := h6
 refine mvR rfl rfl rfl rfl (ltb rfl) ?_
 refine run_ops_nil ?_
 refine run_sr ?_
 refine mvL rfl rfl rfl rfl (ltb rfl) ?_
 refine mvL rfl rfl rfl rfl (ltb rfl) ?_
 refine mvL rfl rfl rfl rfl (ltb rfl) ?_
 obtain ⟨r14, hg15, hM⟩ := bind_t hM
 refine run_call rfl rfl rfl (ltb rfl) rfl rfl rfl (fun _ h => absurd h List.not_mem_nil) (s_l00Src_next_ok (.loc 10) qc9 fc9 c9 c10 c11 5 hg15 _ _ rfl) (callK_retV_loc (k := 10) rfl (fun v o'25 tk16 (hle17 : tk4 ≤ tk16) h18 => ?_))
 obtain ⟨ra24, qc21, fc21, c21, c22, c23, rfl, rfl, rfl⟩ := h18
 obtain ⟨r26, hg27, hM⟩ := bind_t hM
 refine run_call rfl rfl rfl (ltb rfl) rfl rfl rfl (fun _ h => absurd h List.not_mem_nil) (s_l00Src_proof_ok n (.loc 10) qc21 fc21 c21 c22 c23 q7 f7 ks7 ra24 hg27 _ _ rfl) (callK_retV_loc (k := 10) rfl (fun v o'43 tk28 (hle29 : tk16 ≤ tk28) h30 => ?_))
 obtain ⟨ra39, ra40, va41, va42, qc35, fc35, c35, c36, c37, rfl, rfl, rfl, ⟨k31, n31, p31, e31, fs31, q31, f31, ks31, rfl, rfl, hf32⟩, ⟨k33, n33, q33, f33, ks33, rfl, rfl, hf34⟩⟩ := h30
 refine mvL rfl rfl rfl rfl (ltb rfl) ?_
 refine run_pu rfl (extract_step rfl rfl rfl) rfl (ltb rfl) ?_
 refine run_pu rfl (extract_step rfl rfl rfl) rfl (ltb rfl) ?_
 refine run_op rfl (alloc_step (d := 7) hG rfl rfl rfl) rfl (ltb rfl) ?_
 refine run_op rfl (alloc_step (d := 8) hG rfl rfl rfl) rfl (ltb rfl) ?_
 refine run_op0 rfl (store_step hG rfl rfl rfl rfl rfl rfl rfl rfl) rfl ?_
 refine run_op0 rfl (store_step hG rfl rfl rfl rfl rfl rfl rfl rfl) rfl ?_
 refine run_ops_nil ?_
 refine run_sub_code (σ' := ⟨[(2, .imm 0 0 true []), (3, .optr (.loc 3) 0 0), (4, .optr (.loc 4) 0 0), (6, .imm q7 3 f7 (fcellss ks7)), (7, .optr (.loc 7) 0 0), (8, .optr (.loc 8) 0 0)], [(8, ⟨28, 3, true, [[.int .i64 k33, .int .i64 n33, .imm q33 3 f33 (fcellss ks33)]]⟩), (7, ⟨26, 4, true, [[.int .i64 k31, .int .i64 n31, .imm p31 3 e31 (fcellss fs31), .imm q31 4 f31 (pcellss ks31)]]⟩), (4, ⟨28, 3, true, [[.int .i64 0, .int .i64 0, .imm 0 3 true []]]⟩), (3, ⟨26, 4, true, [[.int .i64 0, .int .i64 0, .imm 0 3 true [], .imm 0 4 true []]]⟩)], [], O, tk28⟩) (Sub.trans (Sub.drop (k := 10) rfl) (Sub.env _ ⟨rfl, rfl, rfl, rfl, rfl, rfl, trivial⟩)) ?_
 refine run_seq ?_
 refine run_draw [.loc 3, .loc 4] (n := 6) mixed rfl (by intro x hx; simp only [List.mem_cons, List.not_mem_nil, or_false] at hx; rcases hx with rfl | rfl <;> rfl) ?_
 refine AAny.take (i := 0) rfl (by kernel_rfl) (by kernel_rfl) (by kernel_rfl) rfl rfl (ltb rfl) ((move_step (.inl rfl) rfl).rd _) ?_
 refine AAny.take (i := 1) rfl (by kernel_rfl) (by kernel_rfl) (by kernel_rfl) rfl rfl (ltb rfl) (aload_rd hG rfl rfl rfl (by first | (simp [ldok]; done) | exact List.not_mem_nil | trivial)) ?_
 refine AAny.take (i := 2) rfl (by kernel_rfl) (by kernel_rfl) (by kernel_rfl) rfl rfl (ltb rfl) (aload_rd hG rfl rfl rfl (by first | (simp [ldok]; done) | exact List.not_mem_nil | trivial)) ?_
 refine AAny.take (i := 3) rfl (by kernel_rfl) (by kernel_rfl) (by kernel_rfl) rfl rfl (ltb rfl) ((move_step (.inr rfl) rfl).rd _) ?_
 refine AAny.one (i := 4) (by kernel_rfl) (AOp.step0 rfl rfl rfl (store_step hG rfl rfl rfl rfl rfl rfl rfl rfl) (by intro x hx; have hx : x ∈ [ID.loc 3] := hx; simp only [List.mem_cons, List.not_mem_nil, or_false] at hx; subst hx; simp) ?_)
 refine AAny.one (i := 5) (by kernel_rfl) (AOp.step0 rfl rfl rfl (store_step hG rfl rfl rfl rfl rfl rfl rfl rfl) (by intro x hx; have hx : x ∈ [ID.loc 4] := hx; simp only [List.mem_cons, List.not_mem_nil, or_false] at hx; subst hx; simp) ?_)
 refine AAny.done (by kernel_rfl) ?_
 refine run_ret_to ?_
 obtain rfl := some_t hM
 refine fin_x hG rfl rfl rfl (v' := .tup [.imm q7 3 f7 (fcellss ks7), .agg [.int .i64 k31, .int .i64 n31, .imm p31 3 e31 (fcellss fs31), .imm q31 4 f31 (pcellss ks31)], .agg [.int .i64 k33, .int .i64 n33, .imm q33 3 f33 (fcellss ks33)]]) (by rfl) ⟨rfl, (show tk ≤ tk28 by omega), _, rfl, ⟨_, _, _, _, _, _, rfl, rfl, ⟨q7, f7, ks7, rfl, rfl, fun h => by cases h⟩, ⟨k31, n31, p31, e31, fs31, q31, f31, ks31, rfl, rfl, fun h => by cases h⟩, ⟨k33, n33, q33, f33, ks33, rfl, rfl, fun h => by cases h⟩⟩⟩

def s_FormOf (n : Nat) (l1 : List Int) : Option F :=
 (s_l00Src_next (l1, 0, (Int.tmod ((l1).length : Int) 1000)) 4).bind fun r2 =>
 (s_l00Src_form n (r2.2.1, r2.2.2.1, r2.2.2.2) r2.1).bind fun r14 =>
 some r14.1

set_option maxRecDepth 100000 in
theorem s_FormOf_ok (n : Nat) : ∀ (q1 : Nat) (f1 : Bool) (l1 : List Int) {r : F}, s_FormOf n l1 = some r → ∀ (O : Heap) (tk : Nat), ACalls Go.Proofs.Try.prog 12 [.imm q1 1 f1 ((l1 : List Int).map fun n => [AV.int .u8 n])] O tk (RetX O tk (fun v tk' => VF false tk tk' r v)) := by
 intro q1 f1 l1 r hM O tk
 unfold s_FormOf at hM
 refine acalls_of_run Go.Proofs.Try.func12 rfl rfl [] [] (Bor.nil _) [(0, .imm q1 1 f1 ((l1 : List Int).map fun n => [AV.int .u8 n]))] (.cons (entS rfl) (.nil _)) (leb rfl) (fun _ h => by cases h) (fun S0 hO htk hfz => ?_)
 refine run_sr ?_
 refine run_op rfl (alloc_step (d := 2) hG rfl rfl rfl) rfl (ltb rfl) ?_
 refine run_ops_nil ?_
 refine run_sr ?_
 refine mvL rfl rfl rfl rfl (ltb rfl) ?_
 refine run_callBox (ob := ⟨156, 3, true, [[.imm q1 1 f1 ((l1 : List Int).map fun n => [AV.int .u8 n]), .int .i64 0, .int .i64 (Int.tmod ((l1).length : Int) 1000)]]⟩) rfl rfl rfl (ltb rfl) rfl rfl rfl rfl (s_l00Source_box q1 f1 l1 _ _) rfl (fun out O' tk' h => h) ?_
 refine mvR rfl rfl rfl rfl (ltb rfl) ?_
 refine run_ops_nil ?_
 refine run_sr ?_
 refine mvL rfl rfl rfl rfl (ltb rfl) ?_
 refine mvL rfl rfl rfl rfl (ltb rfl) ?_
 obtain ⟨r2, hg3, hM⟩ := bind_t hM
 refine run_call rfl rfl rfl (ltb rfl) rfl rfl rfl (fun _ h => absurd h List.not_mem_nil) (s_l00Src_next_ok (.loc 5) q1 f1 l1 0 (Int.tmod ((l1).length : Int) 1000) 4 hg3 _ _ rfl) (callK_retV_loc (k := 5) rfl (fun v o'13 tk4 (hle5 : tk ≤ tk4) h6 => ?_))
 obtain ⟨ra12, qc9, fc9, c9, c10, c11, rfl, rfl, rfl⟩ := h6
 obtain ⟨r14, hg15, hM⟩ := bind_t hM
 refine run_call rfl rfl rfl (ltb rfl) rfl rfl rfl (fun _ h => absurd h List.not_mem_nil) (s_l00Src_form_ok n (.loc 5) qc9 fc9 c9 c10 c11 ra12 hg15 _ _ rfl) (callK_retV_loc (k := 5) rfl (fun v o'25 tk16 (hle17 : tk4 ≤ tk16) h18 => ?_))
 obtain ⟨ra24, qc21, fc21, c21, c22, c23, rfl, rfl, ⟨k19, n19, q19, f19, ks19, rfl, rfl, hf20⟩⟩ := h18
 refine run_op0 rfl (store_step hG rfl rfl rfl rfl rfl rfl rfl rfl) rfl ?_
 refine run_ops_nil ?_
 refine run_ret_to ?_
 obtain rfl := some_t hM
 refine fin_x hG rfl rfl rfl (v' := .agg [.int .i64 k19, .int .i64 n19, .imm q19 3 f19 (fcellss ks19)]) (by rfl) ⟨rfl, (show tk ≤ tk16 by omega), _, rfl, ⟨k19, n19, q19, f19, ks19, rfl, rfl, fun h => by cases h⟩⟩

def w_sameForm_L1 (rec_w_sameForm : F → F → Option Bool) (x1 : F) (x2 : F) : Nat → Int → Option Bool
 | 0, _ => none
 | m + 1, i6 =>
  if i6 < ((x1.kids).length : Int) then
   (idx x1.kids i6).bind fun y8 =>
   (idx x2.kids i6).bind fun y13 =>
   (rec_w_sameForm y8 y13).bind fun r18 =>
   if (!r18) = true then
    some false
   else
    w_sameForm_L1 rec_w_sameForm x1 x2 m (IntKind.i64.wrap (i6 + 1))
  else
   some true

def w_sameForm : Nat → F → F → Option Bool
 | 0, _, _ => none
 | n + 1, x1, x2 =>
  if (x1.kind != x2.kind) = true then
   some false
  else
   if (x1.n != x2.n) = true then
    some false
   else
    if (((x1.kids).length : Int) != ((x2.kids).length : Int)) = true then
     some false
    else
     w_sameForm_L1 (w_sameForm n) x1 x2 n 0

set_option maxHeartbeats 20000000 in
set_option maxRecDepth 100000 in
theorem w_sameForm_st (n : Nat) (ih_w_sameForm : ∀ (k1 : Int) (n1 : Int) (q1 : Nat) (f1 : Bool) (ks1 : List LF) (k2 : Int) (n2 : Int) (q2 : Nat) (f2 : Bool) (ks2 : List LF) {r : Bool}, w_sameForm n (F.mk k1 n1 (fers ks1)) (F.mk k2 n2 (fers ks2)) = some r → ∀ (O : Heap) (tk : Nat), ACalls Go.Proofs.Try.prog 13 [.agg [.int .i64 k1, .int .i64 n1, .imm q1 3 f1 (fcellss ks1)], .agg [.int .i64 k2, .int .i64 n2, .imm q2 3 f2 (fcellss ks2)]] O tk (RetX O tk (fun v tk' => v = .bool r))) : ∀ (k1 : Int) (n1 : Int) (q1 : Nat) (f1 : Bool) (ks1 : List LF) (k2 : Int) (n2 : Int) (q2 : Nat) (f2 : Bool) (ks2 : List LF) {r : Bool}, w_sameForm (n + 1) (F.mk k1 n1 (fers ks1)) (F.mk k2 n2 (fers ks2)) = some r → ∀ (O : Heap) (tk : Nat), ACalls Go.Proofs.Try.prog 13 [.agg [.int .i64 k1, .int .i64 n1, .imm q1 3 f1 (fcellss ks1)], .agg [.int .i64 k2, .int .i64 n2, .imm q2 3 f2 (fcellss ks2)]] O tk (RetX O tk (fun v tk' => v = .bool r)) := by
 intro k1 n1 q1 f1 ks1 k2 n2 q2 f2 ks2 r hM O tk
 rw [w_sameForm] at hM
 refine acalls_of_run Go.Proofs.Try.func13 rfl rfl [] [] (Bor.nil _) [(0, .agg [.int .i64 k1, .int .i64 n1, .imm q1 3 f1 (fcellss ks1)]), (1, .agg [.int .i64 k2, .int .i64 n2, .imm q2 3 f2 (fcellss ks2)])] (.cons (.agg _) (.cons (.agg _) (.nil _))) (leb rfl) (fun _ h => by cases h) (fun S0 hO htk hfz => ?_)
 refine run_sr ?_
 refine run_op rfl (box_step (d := 2) rfl rfl rfl rfl rfl) rfl (ltb rfl) ?_
 refine run_op rfl (box_step (d := 3) rfl rfl rfl rfl rfl) rfl (ltb rfl) ?_
 refine mvR rfl rfl rfl rfl (ltb rfl) ?_
 refine run_ops_nil ?_
 refine run_seq ?_
 refine run_sr ?_
 refine run_pu rfl (fieldAddr_step hG rfl rfl rfl rfl rfl) rfl (ltb rfl) ?_
 refine run_ld hG rfl rfl rfl rfl rfl (ltb rfl) ?_
 refine run_pu rfl (fieldAddr_step hG rfl rfl rfl rfl rfl) rfl (ltb rfl) ?_
 refine run_ld hG rfl rfl rfl rfl rfl (ltb rfl) ?_
 refine run_bin rfl rfl rfl rfl rfl rfl rfl (ltb rfl) ?_
 refine mvL rfl rfl rfl rfl (ltb rfl) ?_
 refine run_splitb (i := 11) rfl (fun hb3 => ?_) (fun hb3 => ?_)
 ·replace hM := ite_t hb3 hM
  refine run_off (on_of rfl rfl rfl rfl) rfl (ltb rfl) ?_
  refine run_off (on_of rfl rfl rfl rfl) rfl (ltb rfl) ?_
  refine run_off (on_of rfl rfl rfl rfl) rfl (ltb rfl) ?_
  refine run_off (on_of rfl rfl rfl rfl) rfl (ltb rfl) ?_
  refine run_off (on_of rfl rfl rfl rfl) rfl (ltb rfl) ?_
  refine run_pu rfl (pick_step rfl rfl rfl) rfl (ltb rfl) ?_
  refine mvL rfl rfl rfl rfl (ltb rfl) ?_
  refine run_off (on_of rfl rfl rfl rfl) rfl (ltb rfl) ?_
  refine run_off (on_of rfl rfl rfl rfl) rfl (ltb rfl) ?_
  refine run_off (on_of rfl rfl rfl rfl) rfl (ltb rfl) ?_
  refine run_off (on_of rfl rfl rfl rfl) rfl (ltb rfl) ?_
  refine run_off (on_of rfl rfl rfl rfl) rfl (ltb rfl) ?_
  refine run_off (on_of rfl rfl rfl rfl) rfl (ltb rfl) ?_
  refine run_off (on_of rfl rfl rfl rfl) rfl (ltb rfl) ?_
  refine run_pu rfl (pick_step rfl rfl rfl) rfl (ltb rfl) ?_
  refine run_ops_nil ?_
  refine run_if rfl rfl (fun _ => ?_) (fun h => by cases h)
  refine run_sr ?_
  refine mvR rfl rfl rfl rfl (ltb rfl) ?_
  refine run_ops_nil ?_
  refine run_ret_to ?_
  obtain rfl := some_t hM
  refine fin_x hG rfl rfl rfl (v' := .bool false) (by rfl) ⟨rfl, (show tk ≤ tk by omega), _, rfl, rfl⟩
 ·replace hM := ite_f hb3 hM
  refine run_puG (on_of rfl rfl rfl rfl) (fieldAddr_step hG rfl rfl rfl rfl rfl) rfl (ltb rfl) ?_
  refine run_rdG (on_of rfl rfl rfl rfl) (aload_rd hG rfl rfl rfl (by first | (simp [ldok]; done) | exact List.not_mem_nil | trivial)) rfl (ltb rfl) ?_
  refine run_puG (on_of rfl rfl rfl rfl) (fieldAddr_step hG rfl rfl rfl rfl rfl) rfl (ltb rfl) ?_
  refine run_rdG (on_of rfl rfl rfl rfl) (aload_rd hG rfl rfl rfl (by first | (simp [ldok]; done) | exact List.not_mem_nil | trivial)) rfl (ltb rfl) ?_
  refine run_puG (on_of rfl rfl rfl rfl) (abin_step rfl rfl rfl rfl (fun _ h => by cases h)) rfl (ltb rfl) ?_
  refine run_pu rfl (pick_step rfl rfl rfl) rfl (ltb rfl) ?_
  refine mvL rfl rfl rfl rfl (ltb rfl) ?_
  refine run_splitb (i := 18) rfl (fun hb4 => ?_) (fun hb4 => ?_)
  ·replace hM := ite_t hb4 hM
   refine run_off (on_of rfl rfl rfl rfl) rfl (ltb rfl) ?_
   refine run_off (on_of rfl rfl rfl rfl) rfl (ltb rfl) ?_
   refine run_off (on_of rfl rfl rfl rfl) rfl (ltb rfl) ?_
   refine run_off (on_of rfl rfl rfl rfl) rfl (ltb rfl) ?_
   refine run_off (on_of rfl rfl rfl rfl) rfl (ltb rfl) ?_
   refine run_off (on_of rfl rfl rfl rfl) rfl (ltb rfl) ?_
   refine run_off (on_of rfl rfl rfl rfl) rfl (ltb rfl) ?_
   refine run_pu rfl (pick_step rfl rfl rfl) rfl (ltb rfl) ?_
   refine run_ops_nil ?_
   refine run_sub_code (σ' := ⟨[(2, .optr (.loc 2) 0 0), (3, .optr (.loc 3) 0 0), (4, .bool false), (26, .bool true)], [(3, ⟨28, 3, true, [[.int .i64 k2, .int .i64 n2, .imm q2 3 f2 (fcellss ks2)]]⟩), (2, ⟨28, 3, true, [[.int .i64 k1, .int .i64 n1, .imm q1 3 f1 (fcellss ks1)]]⟩)], [], O, tk⟩) (Sub.env _ ⟨rfl, rfl, rfl, rfl, trivial⟩) ?_
   refine run_if rfl rfl (fun _ => ?_) (fun h => by cases h)
   refine run_sr ?_
   refine mvR rfl rfl rfl rfl (ltb rfl) ?_
   refine run_ops_nil ?_
   refine run_ret_to ?_
   obtain rfl := some_t hM
   refine fin_x hG rfl rfl rfl (v' := .bool false) (by rfl) ⟨rfl, (show tk ≤ tk by omega), _, rfl, rfl⟩
  ·replace hM := ite_f hb4 hM
   refine run_puG (on_of rfl rfl rfl rfl) (fieldAddr_step hG rfl rfl rfl rfl rfl) rfl (ltb rfl) ?_
   refine run_rdG (on_of rfl rfl rfl rfl) (aload_rd hG rfl rfl rfl (by first | (simp [ldok]; done) | exact List.not_mem_nil | trivial)) rfl (ltb rfl) ?_
   refine run_puG (on_of rfl rfl rfl rfl) (lenImm_step hG rfl rfl rfl rfl (flen _)) rfl (ltb rfl) ?_
   refine run_puG (on_of rfl rfl rfl rfl) (fieldAddr_step hG rfl rfl rfl rfl rfl) rfl (ltb rfl) ?_
   refine run_rdG (on_of rfl rfl rfl rfl) (aload_rd hG rfl rfl rfl (by first | (simp [ldok]; done) | exact List.not_mem_nil | trivial)) rfl (ltb rfl) ?_
   refine run_puG (on_of rfl rfl rfl rfl) (lenImm_step hG rfl rfl rfl rfl (flen _)) rfl (ltb rfl) ?_
   refine run_puG (on_of rfl rfl rfl rfl) (abin_step rfl rfl rfl rfl (fun _ h => by cases h)) rfl (ltb rfl) ?_
   refine run_pu rfl (pick_step rfl rfl rfl) rfl (ltb rfl) ?_
   refine run_ops_nil ?_
   refine run_sub_code (σ' := ⟨[(2, .optr (.loc 2) 0 0), (3, .optr (.loc 3) 0 0), (4, .bool false), (26, .bool ((((fers ks1)).length : Int) != (((fers ks2)).length : Int)))], [(3, ⟨28, 3, true, [[.int .i64 k2, .int .i64 n2, .imm q2 3 f2 (fcellss ks2)]]⟩), (2, ⟨28, 3, true, [[.int .i64 k1, .int .i64 n1, .imm q1 3 f1 (fcellss ks1)]]⟩)], [], O, tk⟩) (Sub.env _ ⟨rfl, rfl, rfl, rfl, trivial⟩) ?_
   refine run_ifb rfl rfl (fun hb5 => ?_) (fun hb5 => ?_)
   ·replace hM := ite_t hb5 hM
    refine run_sr ?_
    refine mvR rfl rfl rfl rfl (ltb rfl) ?_
    refine run_ops_nil ?_
    refine run_ret_to ?_
    obtain rfl := some_t hM
    refine fin_x hG rfl rfl rfl (v' := .bool false) (by rfl) ⟨rfl, (show tk ≤ tk by omega), _, rfl, rfl⟩
   ·replace hM := ite_f hb5 hM
    refine run_skip ?_
    refine run_seq ?_
    refine run_sr ?_
    refine mvR rfl rfl rfl rfl (ltb rfl) ?_
    refine run_ops_nil ?_
    refine run_block ?_
    refine run_rounds (fun m σ => ∃ (i6 : Int) (tkw_sameForm_L1 : Nat), tk ≤ tkw_sameForm_L1 ∧ w_sameForm_L1 (w_sameForm n) (F.mk k1 n1 (fers ks1)) (F.mk k2 n2 (fers ks2)) m i6 = some r ∧ σ = ⟨[(2, .optr (.loc 2) 0 0), (3, .optr (.loc 3) 0 0), (4, .bool false), (5, .int .i64 i6)], [(3, ⟨28, 3, true, [[.int .i64 k2, .int .i64 n2, .imm q2 3 f2 (fcellss ks2)]]⟩), (2, ⟨28, 3, true, [[.int .i64 k1, .int .i64 n1, .imm q1 3 f1 (fcellss ks1)]]⟩)], [], O, tkw_sameForm_L1⟩) n (Sub.env [(2, .optr (.loc 2) 0 0), (3, .optr (.loc 3) 0 0), (4, .bool false), (5, .int .i64 0)] ⟨rfl, rfl, rfl, rfl, trivial⟩) ⟨0, tk, Nat.le_refl _, hM, rfl⟩ (fun m σ hI => ?_)
    clear hM
    obtain ⟨i6, tkw_sameForm_L1, hle26, hM, rfl⟩ := hI
    obtain _ | m := m
    ·exact absurd hM (by rw [w_sameForm_L1]; exact fun h => by cases h)
    rw [w_sameForm_L1] at hM
    refine run_seq ?_
    refine run_sr ?_
    refine mvL rfl rfl rfl rfl (ltb rfl) ?_
    refine run_pu rfl (fieldAddr_step hG rfl rfl rfl rfl rfl) rfl (ltb rfl) ?_
    refine run_ld hG rfl rfl rfl rfl rfl (ltb rfl) ?_
    refine run_pu rfl (lenImm_step hG rfl rfl rfl rfl (flen _)) rfl (ltb rfl) ?_
    refine run_bin rfl rfl rfl rfl rfl rfl rfl (ltb rfl) ?_
    refine run_ops_nil ?_
    refine run_ifd rfl rfl (fun hb7 => ?_) (fun hb7 => ?_)
    ·replace hM := ite_t hb7 hM
     refine run_skip ?_
     refine run_seq ?_
     refine run_block ?_
     refine run_seq ?_
     refine run_draw [] (n := 12) mixed rfl (fun _ h => absurd h List.not_mem_nil) ?_
     refine AAny.take (i := 0) rfl (by kernel_rfl) (by kernel_rfl) (by kernel_rfl) rfl rfl (ltb rfl) ((fieldAddr_step hG rfl rfl rfl rfl rfl).rd _) ?_
     refine AAny.take (i := 1) rfl (by kernel_rfl) (by kernel_rfl) (by kernel_rfl) rfl rfl (ltb rfl) (aload_rd hG rfl rfl rfl (by first | (simp [ldok]; done) | exact List.not_mem_nil | trivial)) ?_
     refine AAny.take (i := 2) rfl (by kernel_rfl) (by kernel_rfl) (by kernel_rfl) rfl rfl (ltb rfl) ((move_step (.inl rfl) rfl).rd _) ?_
     obtain ⟨y8, hy9, hM⟩ := bind_t hM
     obtain ⟨k10, n10, q10, f10, ks10, rfl, hc11, hi12⟩ := fidx (ks := ks1) hy9
     refine AAny.take (i := 3) rfl (by kernel_rfl) (by kernel_rfl) (by kernel_rfl) rfl rfl (ltb rfl) ((indexImm_step hG rfl rfl rfl hi12 rfl rfl rfl rfl hc11).rd _) ?_
     refine AAny.take (i := 4) rfl (by kernel_rfl) (by kernel_rfl) (by kernel_rfl) rfl rfl (ltb rfl) (aload_rd hG rfl rfl rfl (by first | (simp [ldok]; done) | exact List.not_mem_nil | trivial)) ?_
     refine AAny.take (i := 5) rfl (by kernel_rfl) (by kernel_rfl) (by kernel_rfl) rfl rfl (ltb rfl) ((fieldAddr_step hG rfl rfl rfl rfl rfl).rd _) ?_
     refine AAny.take (i := 6) rfl (by kernel_rfl) (by kernel_rfl) (by kernel_rfl) rfl rfl (ltb rfl) (aload_rd hG rfl rfl rfl (by first | (simp [ldok]; done) | exact List.not_mem_nil | trivial)) ?_
     refine AAny.take (i := 7) rfl (by kernel_rfl) (by kernel_rfl) (by kernel_rfl) rfl rfl (ltb rfl) ((move_step (.inl rfl) rfl).rd _) ?_
     obtain ⟨y13, hy14, hM⟩ := bind_t hM
     obtain ⟨k15, n15, q15, f15, ks15, rfl, hc16, hi17⟩ := fidx (ks := ks2) hy14
     refine AAny.take (i := 8) rfl (by kernel_rfl) (by kernel_rfl) (by kernel_rfl) rfl rfl (ltb rfl) ((indexImm_step hG rfl rfl rfl hi17 rfl rfl rfl rfl hc16).rd _) ?_
     refine AAny.take (i := 9) rfl (by kernel_rfl) (by kernel_rfl) (by kernel_rfl) rfl rfl (ltb rfl) (aload_rd hG rfl rfl rfl (by first | (simp [ldok]; done) | exact List.not_mem_nil | trivial)) ?_
     obtain ⟨r18, hg19, hM⟩ := bind_t hM
     refine AAny.one (i := 10) (by kernel_rfl) (AOp.call rfl rfl rfl rfl (ltb rfl) rfl rfl rfl (fun _ h => absurd h List.not_mem_nil) (fun _ h => absurd h List.not_mem_nil) (ih_w_sameForm k10 n10 q10 f10 ks10 k15 n15 q15 f15 ks15 hg19 _ _) (callK_retX (fun v tk20 (hle21 : tkw_sameForm_L1 ≤ tk20) h22 => ?_)))
     subst h22
     refine AAny.take (i := 11) rfl (by kernel_rfl) (by kernel_rfl) (by kernel_rfl) rfl rfl (ltb rfl) ((aun_step rfl rfl rfl).rd _) ?_
     refine AAny.done (by kernel_rfl) ?_
     refine run_sub_code (σ' := ⟨[(2, .optr (.loc 2) 0 0), (3, .optr (.loc 3) 0 0), (4, .bool false), (5, .int .i64 i6), (45, .bool (!r18))], [(3, ⟨28, 3, true, [[.int .i64 k2, .int .i64 n2, .imm q2 3 f2 (fcellss ks2)]]⟩), (2, ⟨28, 3, true, [[.int .i64 k1, .int .i64 n1, .imm q1 3 f1 (fcellss ks1)]]⟩)], [], O, tk20⟩) (Sub.env _ ⟨rfl, rfl, rfl, rfl, rfl, trivial⟩) ?_
     refine run_ifb rfl rfl (fun hb25 => ?_) (fun hb25 => ?_)
     ·replace hM := ite_t hb25 hM
      refine run_sr ?_
      refine mvR rfl rfl rfl rfl (ltb rfl) ?_
      refine run_ops_nil ?_
      refine run_ret_to ?_
      obtain rfl := some_t hM
      refine fin_x hG rfl rfl rfl (v' := .bool false) (by rfl) ⟨rfl, (show tk ≤ tk20 by omega), _, rfl, rfl⟩
     ·replace hM := ite_f hb25 hM
      refine run_skip ?_
      refine run_blk ?_
      refine run_region ?_
      refine mvL rfl rfl rfl rfl (ltb rfl) ?_
      refine run_bin rfl rfl rfl rfl rfl rfl rfl (ltb rfl) ?_
      refine mvR rfl rfl rfl rfl (ltb rfl) ?_
      refine run_ops_nil ?_
      exact run_loop_end ⟨m, _, Nat.lt_succ_self _, ⟨(IntKind.i64.wrap (i6 + 1)), tk20, (show tk ≤ tk20 by omega), hM, rfl⟩, Sub.env [(2, .optr (.loc 2) 0 0), (3, .optr (.loc 3) 0 0), (4, .bool false), (5, .int .i64 (IntKind.i64.wrap (i6 + 1)))] ⟨rfl, rfl, rfl, rfl, trivial⟩⟩
    ·replace hM := ite_f hb7 hM
     refine run_exit_to rfl ?_
     refine run_sr ?_
     refine mvR rfl rfl rfl rfl (ltb rfl) ?_
     refine run_ops_nil ?_
     refine run_ret_to ?_
     obtain rfl := some_t hM
     refine fin_x hG rfl rfl rfl (v' := .bool true) (by rfl) ⟨rfl, (show tk ≤ tkw_sameForm_L1 by omega), _, rfl, rfl⟩

theorem w_sameForm_all : ∀ (n : Nat), (∀ (k1 : Int) (n1 : Int) (q1 : Nat) (f1 : Bool) (ks1 : List LF) (k2 : Int) (n2 : Int) (q2 : Nat) (f2 : Bool) (ks2 : List LF) {r : Bool}, w_sameForm n (F.mk k1 n1 (fers ks1)) (F.mk k2 n2 (fers ks2)) = some r → ∀ (O : Heap) (tk : Nat), ACalls Go.Proofs.Try.prog 13 [.agg [.int .i64 k1, .int .i64 n1, .imm q1 3 f1 (fcellss ks1)], .agg [.int .i64 k2, .int .i64 n2, .imm q2 3 f2 (fcellss ks2)]] O tk (RetX O tk (fun v tk' => v = .bool r)))
 | 0 => by intro k1 n1 q1 f1 ks1 k2 n2 q2 f2 ks2 r hM; rw [w_sameForm] at hM; cases hM
 | n + 1 => have ih := w_sameForm_all n; w_sameForm_st n (ih)

theorem w_sameForm_ok (n : Nat) : ∀ (k1 : Int) (n1 : Int) (q1 : Nat) (f1 : Bool) (ks1 : List LF) (k2 : Int) (n2 : Int) (q2 : Nat) (f2 : Bool) (ks2 : List LF) {r : Bool}, w_sameForm n (F.mk k1 n1 (fers ks1)) (F.mk k2 n2 (fers ks2)) = some r → ∀ (O : Heap) (tk : Nat), ACalls Go.Proofs.Try.prog 13 [.agg [.int .i64 k1, .int .i64 n1, .imm q1 3 f1 (fcellss ks1)], .agg [.int .i64 k2, .int .i64 n2, .imm q2 3 f2 (fcellss ks2)]] O tk (RetX O tk (fun v tk' => v = .bool r)) := w_sameForm_all n

end Go.Am.Ytaedacibojpfkaa
