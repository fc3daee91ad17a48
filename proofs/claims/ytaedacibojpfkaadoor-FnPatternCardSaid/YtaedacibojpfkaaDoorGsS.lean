/- Printed by a program of ours: Lean functions that do what the Go functions do, and the contracts. -/
import Derived.Test.YtaedacibojpfkaaDoorMl0
import Derived.Test.YtaedacibojpfkaaDoorMb1
import Derived.Test.YtaedacibojpfkaaDoorTypes
import Derived.Test.YtaedacibojpfkaaDoorMi4
import Derived.Test.YtaedacibojpfkaaDoorMc1
import Derived.Test.YtaedacibojpfkaaDoorMb3
import Derived.Test.YtaedacibojpfkaaDoorGs0
import Derived.Test.YtaedacibojpfkaaDoorGsT
-- packed
namespace Go.Am.YtaedacibojpfkaaDoor
open Go Go.Am

set_option maxRecDepth 100000 in
theorem s_l01Base_ex (t1 : ByteArray) (O : Heap) (tk : Nat) : ACalls Go.Proofs.Tryd.prog 59 [.str t1] O tk (RetN O (.agg [.int .i64 9, .int .i64 0, .str t1, .imm 0 4 true (cellss [])]) tk) := by
 refine acalls_of_run Go.Proofs.Tryd.func59 rfl rfl [] [] (Bor.nil _) [(0, .str t1)] (.cons (entS rfl) (.nil _)) (leb rfl) (fun _ h => by cases h) (fun S0 hO htk hfz => ?_)
 refine run_sr ?_
 refine run_op rfl (alloc_step (d := 2) hG rfl rfl rfl) rfl (ltb rfl) ?_
 refine run_ops_nil ?_
 refine run_sr ?_
 refine mvL rfl rfl rfl rfl (ltb rfl) ?_
 refine run_pu rfl (build_step hG rfl (by rfl) rfl (fun h => by cases h) (by rfl)) rfl (ltb rfl) ?_
 refine run_op0 rfl (store_step hG rfl rfl rfl rfl rfl rfl rfl rfl) rfl ?_
 refine run_ops_nil ?_
 refine run_ret_to ?_
 refine fin_x hG rfl rfl rfl (v' := .agg [.int .i64 9, .int .i64 0, .str t1, .imm 0 4 true (cellss [])]) (by rfl) ⟨rfl, rfl, rfl⟩

set_option maxRecDepth 100000 in
theorem s_l01Arrow_ex (k1 : Int) (n1 : Int) (s1 : ByteArray) (q1 : Nat) (f1 : Bool) (ks1 : List LT) (k2 : Int) (n2 : Int) (s2 : ByteArray) (q2 : Nat) (f2 : Bool) (ks2 : List LT) (O : Heap) (tk : Nat) : ACalls Go.Proofs.Tryd.prog 60 [.agg [.int .i64 k1, .int .i64 n1, .str s1, .imm q1 4 f1 (cellss ks1)], .agg [.int .i64 k2, .int .i64 n2, .str s2, .imm q2 4 f2 (cellss ks2)]] O tk (RetN O (.agg [.int .i64 10, .int .i64 0, .str ⟨#[]⟩, .imm tk 4 false (cellss [LT.mk k1 n1 s1 q1 f1 ks1, LT.mk k2 n2 s2 q2 f2 ks2])]) (tk + 1)) := by
 refine acalls_of_run Go.Proofs.Tryd.func60 rfl rfl [] [] (Bor.nil _) [(0, .agg [.int .i64 k1, .int .i64 n1, .str s1, .imm q1 4 f1 (cellss ks1)]), (1, .agg [.int .i64 k2, .int .i64 n2, .str s2, .imm q2 4 f2 (cellss ks2)])] (.cons (.agg _) (.cons (.agg _) (.nil _))) (leb rfl) (fun _ h => by cases h) (fun S0 hO htk hfz => ?_)
 refine run_sr ?_
 refine run_op rfl (box_step (d := 2) rfl rfl rfl rfl rfl) rfl (ltb rfl) ?_
 refine run_op rfl (box_step (d := 3) rfl rfl rfl rfl rfl) rfl (ltb rfl) ?_
 refine run_op rfl (alloc_step (d := 4) hG rfl rfl rfl) rfl (ltb rfl) ?_
 refine run_ops_nil ?_
 refine run_sr ?_
 refine run_ld hG rfl rfl rfl rfl rfl (ltb rfl) ?_
 refine run_ld hG rfl rfl rfl rfl rfl (ltb rfl) ?_
 refine run_op rfl (buildSlice_step (d := 7) hG rfl rfl rfl rfl rfl (by rfl) (by rfl) (by rfl) (by decide)) rfl (ltb rfl) ?_
 refine run_pu rfl (build_step hG rfl (by rfl) rfl (fun h => by cases h) (by rfl)) rfl (ltb rfl) ?_
 refine run_op0 rfl (store_step hG rfl rfl rfl rfl rfl rfl rfl rfl) rfl ?_
 refine run_ops_nil ?_
 refine run_ret_to ?_
 refine fin_sub (Sub.freeze (k := 7) rfl rfl) ?_
 refine fin_x hG rfl rfl rfl (v' := .agg [.int .i64 10, .int .i64 0, .str ⟨#[]⟩, .imm tk 4 false (cellss [LT.mk k1 n1 s1 q1 f1 ks1, LT.mk k2 n2 s2 q2 f2 ks2])]) (by rfl) ⟨rfl, rfl, rfl⟩

def s_l00Src_rawSimple : Nat → (List Int × Int × Int) → Int → Option (T × (List Int × Int × Int))
 | 0, _, _ => none
 | n + 1, z1, i5 =>
  if i5 > 0 then
   (s_l00Src_chance (z1.1, z1.2.1, z1.2.2) 3).bind fun r7 =>
   if (!r7.1) = true then
    (s_l00Src_rawSimple n (r7.2.1, r7.2.2.1, r7.2.2.2) (IntKind.i64.wrap (i5 - 1))).bind fun r20 =>
    (s_l00Src_rawSimple n (r20.2.1, r20.2.2.1, r20.2.2.2) (IntKind.i64.wrap (i5 - 1))).bind fun r32 =>
    some ((T.mk 10 0 ⟨#[]⟩ [r20.1, r32.1]), (r32.2.1, r32.2.2.1, r32.2.2.2))
   else
    (s_l00Src_pick (r7.2.1, r7.2.2.1, r7.2.2.2) ([(⟨#[110, 97, 116]⟩ : ByteArray), (⟨#[111]⟩ : ByteArray)])).bind fun r44 =>
    some ((T.mk 9 0 r44.1 []), (r44.2.1, r44.2.2.1, r44.2.2.2))
  else
   (s_l00Src_pick (z1.1, z1.2.1, z1.2.2) ([(⟨#[110, 97, 116]⟩ : ByteArray), (⟨#[111]⟩ : ByteArray)])).bind fun r56 =>
   some ((T.mk 9 0 r56.1 []), (r56.2.1, r56.2.2.1, r56.2.2.2))

set_option maxRecDepth 100000 in
theorem s_l00Src_rawSimple_st (n : Nat) (ih_s_l00Src_rawSimple : ∀ (X0 : ID) (q2 : Nat) (f2 : Bool) (l2 : List Int) (i3 : Int) (i4 : Int) (i5 : Int) {r : (T × (List Int × Int × Int))}, s_l00Src_rawSimple n (l2, i3, i4) i5 = some r → ∀ (O : Heap) (tk : Nat), O X0 = some ⟨99, 3, true, [[.imm q2 1 f2 ((l2 : List Int).map fun n => [AV.int .u8 n]), .int .i64 i3, .int .i64 i4]]⟩ → ACalls Go.Proofs.Tryd.prog 106 [.optr X0 0 0, .int .i64 i5] O tk (RetV O X0 tk (fun v o' tk' => ∃ r0', ∃ (c0q : Nat) (c0f : Bool) (c0 : List Int) (c1 : Int) (c2 : Int) , r = (r0', (c0, c1, c2)) ∧ o' = ⟨99, 3, true, [[.imm c0q 1 c0f ((c0 : List Int).map fun n => [AV.int .u8 n]), .int .i64 c1, .int .i64 c2]]⟩ ∧ VT false tk tk' r0' v))) : ∀ (X0 : ID) (q2 : Nat) (f2 : Bool) (l2 : List Int) (i3 : Int) (i4 : Int) (i5 : Int) {r : (T × (List Int × Int × Int))}, s_l00Src_rawSimple (n + 1) (l2, i3, i4) i5 = some r → ∀ (O : Heap) (tk : Nat), O X0 = some ⟨99, 3, true, [[.imm q2 1 f2 ((l2 : List Int).map fun n => [AV.int .u8 n]), .int .i64 i3, .int .i64 i4]]⟩ → ACalls Go.Proofs.Tryd.prog 106 [.optr X0 0 0, .int .i64 i5] O tk (RetV O X0 tk (fun v o' tk' => ∃ r0', ∃ (c0q : Nat) (c0f : Bool) (c0 : List Int) (c1 : Int) (c2 : Int) , r = (r0', (c0, c1, c2)) ∧ o' = ⟨99, 3, true, [[.imm c0q 1 c0f ((c0 : List Int).map fun n => [AV.int .u8 n]), .int .i64 c1, .int .i64 c2]]⟩ ∧ VT false tk tk' r0' v)) := by
 intro X0 q2 f2 l2 i3 i4 i5 r hM O tk hX0
 rw [s_l00Src_rawSimple] at hM
 refine acalls_of_run Go.Proofs.Tryd.func106 rfl rfl [X0] [⟨99, 3, true, [[.imm q2 1 f2 ((l2 : List Int).map fun n => [AV.int .u8 n]), .int .i64 i3, .int .i64 i4]]⟩] (Bor.one hX0 rfl) [(0, .optr (.bor 0) 0 0), (1, .int .i64 i5)] (.cons (.bor 0 _ _ _ rfl) (.cons (entS rfl) (.nil _))) (leb rfl) (by intro y h; simp only [List.mem_cons, List.not_mem_nil, or_false] at h; rcases h with rfl <;> simp [tch, tch0]) (fun S0 hO htk hfz => ?_)
 refine run_sr ?_
 refine run_op rfl (alloc_step (d := 4) hG rfl rfl rfl) rfl (ltb rfl) ?_
 refine run_ops_nil ?_
 refine run_seq ?_
 refine run_sr ?_
 refine mvL rfl rfl rfl rfl (ltb rfl) ?_
 refine run_bin rfl rfl rfl rfl rfl rfl rfl (ltb rfl) ?_
 refine mvL rfl rfl rfl rfl (ltb rfl) ?_
 refine run_splitd (i := 7) rfl (fun hb6 => ?_) (fun hb6 => ?_)
 ·replace hM := ite_t hb6 hM
  refine run_puG (on_of rfl rfl rfl rfl) (move_step (.inl rfl) rfl) rfl (ltb rfl) ?_
  obtain ⟨r7, hg8, hM⟩ := bind_t hM
  refine run_callG (on_of rfl rfl rfl rfl) rfl rfl (ltb rfl) rfl rfl rfl (fun _ h => absurd h List.not_mem_nil) (s_l00Src_chance_ok (.bor 0) q2 f2 l2 i3 i4 3 hg8 _ _ rfl) (callK_retV_bor (k := 0) rfl (fun v o' tk' h => by obtain ⟨_, _, _, _, _, _, rfl, rfl, _⟩ := h; rfl) (fun v o'18 tk9 (hle10 : tk ≤ tk9) h11 => ?_))
  obtain ⟨ra17, qc14, fc14, c14, c15, c16, rfl, rfl, rfl⟩ := h11
  refine run_puG (on_of rfl rfl rfl rfl) (aun_step rfl rfl rfl) rfl (ltb rfl) ?_
  refine run_pu rfl (pick_step rfl rfl rfl) rfl (ltb rfl) ?_
  refine run_ops_nil ?_
  refine run_ifb rfl rfl (fun hb19 => ?_) (fun hb19 => ?_)
  ·replace hM := ite_t hb19 hM
   refine run_sr ?_
   refine mvL rfl rfl rfl rfl (ltb rfl) ?_
   refine mvL rfl rfl rfl rfl (ltb rfl) ?_
   refine run_bin rfl rfl rfl rfl rfl rfl rfl (ltb rfl) ?_
   obtain ⟨r20, hg21, hM⟩ := bind_t hM
   refine run_call rfl rfl rfl (ltb rfl) rfl rfl rfl (fun _ h => absurd h List.not_mem_nil) (ih_s_l00Src_rawSimple (.bor 0) qc14 fc14 c14 c15 c16 (IntKind.i64.wrap (i5 - 1)) hg21 _ _ rfl) (callK_retV_bor (k := 0) rfl (fun v o' tk' h => by obtain ⟨_, _, _, _, _, _, rfl, rfl, _⟩ := h; rfl) (fun v o'31 tk22 (hle23 : tk9 ≤ tk22) h24 => ?_))
   obtain ⟨ra30, qc27, fc27, c27, c28, c29, rfl, rfl, ⟨k25, n25, s25, q25, f25, ks25, rfl, rfl, hf26⟩⟩ := h24
   refine mvL rfl rfl rfl rfl (ltb rfl) ?_
   refine mvL rfl rfl rfl rfl (ltb rfl) ?_
   refine run_bin rfl rfl rfl rfl rfl rfl rfl (ltb rfl) ?_
   obtain ⟨r32, hg33, hM⟩ := bind_t hM
   refine run_call rfl rfl rfl (ltb rfl) rfl rfl rfl (fun _ h => absurd h List.not_mem_nil) (ih_s_l00Src_rawSimple (.bor 0) qc27 fc27 c27 c28 c29 (IntKind.i64.wrap (i5 - 1)) hg33 _ _ rfl) (callK_retV_bor (k := 0) rfl (fun v o' tk' h => by obtain ⟨_, _, _, _, _, _, rfl, rfl, _⟩ := h; rfl) (fun v o'43 tk34 (hle35 : tk22 ≤ tk34) h36 => ?_))
   obtain ⟨ra42, qc39, fc39, c39, c40, c41, rfl, rfl, ⟨k37, n37, s37, q37, f37, ks37, rfl, rfl, hf38⟩⟩ := h36
   refine run_call rfl rfl rfl (ltb rfl) rfl rfl rfl (fun _ h => absurd h List.not_mem_nil) (s_l01Arrow_ex k25 n25 s25 q25 f25 ks25 k37 n37 s37 q37 f37 ks37 _ _) (callK_retN ?_)
   skip
   refine run_op0 rfl (store_step hG rfl rfl rfl rfl rfl rfl rfl rfl) rfl ?_
   refine run_ops_nil ?_
   refine run_ret_to ?_
   replace hM := some_t hM
   subst hM
   refine fin_x hG rfl rfl rfl (v' := .agg [.int .i64 10, .int .i64 0, .str ⟨#[]⟩, .imm tk34 4 false (cellss [LT.mk k25 n25 s25 q25 f25 ks25, LT.mk k37 n37 s37 q37 f37 ks37])]) (by rfl) ⟨_, ⟨99, 3, true, [[.imm qc39 1 fc39 ((c39 : List Int).map fun n => [AV.int .u8 n]), .int .i64 c40, .int .i64 c41]]⟩, rfl, rfl, (show tk ≤ (tk34 + 1) by omega), ⟨_, qc39, fc39, c39, c40, c41, rfl, rfl, ⟨10, 0, ⟨#[]⟩, tk34, false, [LT.mk k25 n25 s25 q25 f25 ks25, LT.mk k37 n37 s37 q37 f37 ks37], rfl, rfl, fun h => by cases h⟩⟩⟩
  ·replace hM := ite_f hb19 hM
   refine run_skip ?_
   refine run_sr ?_
   refine mvL rfl rfl rfl rfl (ltb rfl) ?_
   refine run_op rfl (buildSlice_step (d := 22) hG rfl rfl rfl rfl rfl (by rfl) (by rfl) (by rfl) (by decide)) rfl (ltb rfl) ?_
   refine run_sub_ops (Sub.freeze (k := 22) rfl rfl) ?_
   obtain ⟨r44, hg45, hM⟩ := bind_t hM
   refine run_call rfl rfl rfl (ltb rfl) rfl rfl rfl (fun _ h => absurd h List.not_mem_nil) (s_l00Src_pick_ok (.bor 0) qc14 fc14 c14 c15 c16 tk9 false [(⟨#[110, 97, 116]⟩ : ByteArray), (⟨#[111]⟩ : ByteArray)] hg45 _ _ rfl) (callK_retV_bor (k := 0) rfl (fun v o' tk' h => by obtain ⟨_, _, _, _, _, _, rfl, rfl, _⟩ := h; rfl) (fun v o'55 tk46 (hle47 : (tk9 + 1) ≤ tk46) h48 => ?_))
   obtain ⟨ra54, qc51, fc51, c51, c52, c53, rfl, rfl, rfl⟩ := h48
   refine run_call rfl rfl rfl (ltb rfl) rfl rfl rfl (fun _ h => absurd h List.not_mem_nil) (s_l01Base_ex ra54 _ _) (callK_retN ?_)
   skip
   refine run_op0 rfl (store_step hG rfl rfl rfl rfl rfl rfl rfl rfl) rfl ?_
   refine run_ops_nil ?_
   refine run_ret_to ?_
   replace hM := some_t hM
   subst hM
   refine fin_x hG rfl rfl rfl (v' := .agg [.int .i64 9, .int .i64 0, .str ra54, .imm 0 4 true (cellss [])]) (by rfl) ⟨_, ⟨99, 3, true, [[.imm qc51 1 fc51 ((c51 : List Int).map fun n => [AV.int .u8 n]), .int .i64 c52, .int .i64 c53]]⟩, rfl, rfl, (show tk ≤ tk46 by omega), ⟨_, qc51, fc51, c51, c52, c53, rfl, rfl, ⟨9, 0, ra54, 0, true, [], rfl, rfl, fun h => by cases h⟩⟩⟩
 ·replace hM := ite_f hb6 hM
  refine run_off (on_of rfl rfl rfl rfl) rfl (ltb rfl) ?_
  refine run_off (on_of rfl rfl rfl rfl) rfl (ltb rfl) ?_
  refine run_off (on_of rfl rfl rfl rfl) rfl (ltb rfl) ?_
  refine run_pu rfl (pick_step rfl rfl rfl) rfl (ltb rfl) ?_
  refine run_ops_nil ?_
  refine run_if rfl rfl (fun h => by cases h) (fun _ => ?_)
  refine run_skip ?_
  refine run_sr ?_
  refine mvL rfl rfl rfl rfl (ltb rfl) ?_
  refine run_op rfl (buildSlice_step (d := 22) hG rfl rfl rfl rfl rfl (by rfl) (by rfl) (by rfl) (by decide)) rfl (ltb rfl) ?_
  refine run_sub_ops (Sub.freeze (k := 22) rfl rfl) ?_
  obtain ⟨r56, hg57, hM⟩ := bind_t hM
  refine run_call rfl rfl rfl (ltb rfl) rfl rfl rfl (fun _ h => absurd h List.not_mem_nil) (s_l00Src_pick_ok (.bor 0) q2 f2 l2 i3 i4 tk false [(⟨#[110, 97, 116]⟩ : ByteArray), (⟨#[111]⟩ : ByteArray)] hg57 _ _ rfl) (callK_retV_bor (k := 0) rfl (fun v o' tk' h => by obtain ⟨_, _, _, _, _, _, rfl, rfl, _⟩ := h; rfl) (fun v o'67 tk58 (hle59 : (tk + 1) ≤ tk58) h60 => ?_))
  obtain ⟨ra66, qc63, fc63, c63, c64, c65, rfl, rfl, rfl⟩ := h60
  refine run_call rfl rfl rfl (ltb rfl) rfl rfl rfl (fun _ h => absurd h List.not_mem_nil) (s_l01Base_ex ra66 _ _) (callK_retN ?_)
  skip
  refine run_op0 rfl (store_step hG rfl rfl rfl rfl rfl rfl rfl rfl) rfl ?_
  refine run_ops_nil ?_
  refine run_ret_to ?_
  replace hM := some_t hM
  subst hM
  refine fin_x hG rfl rfl rfl (v' := .agg [.int .i64 9, .int .i64 0, .str ra66, .imm 0 4 true (cellss [])]) (by rfl) ⟨_, ⟨99, 3, true, [[.imm qc63 1 fc63 ((c63 : List Int).map fun n => [AV.int .u8 n]), .int .i64 c64, .int .i64 c65]]⟩, rfl, rfl, (show tk ≤ tk58 by omega), ⟨_, qc63, fc63, c63, c64, c65, rfl, rfl, ⟨9, 0, ra66, 0, true, [], rfl, rfl, fun h => by cases h⟩⟩⟩

theorem s_l00Src_rawSimple_all : ∀ (n : Nat), (∀ (X0 : ID) (q2 : Nat) (f2 : Bool) (l2 : List Int) (i3 : Int) (i4 : Int) (i5 : Int) {r : (T × (List Int × Int × Int))}, s_l00Src_rawSimple n (l2, i3, i4) i5 = some r → ∀ (O : Heap) (tk : Nat), O X0 = some ⟨99, 3, true, [[.imm q2 1 f2 ((l2 : List Int).map fun n => [AV.int .u8 n]), .int .i64 i3, .int .i64 i4]]⟩ → ACalls Go.Proofs.Tryd.prog 106 [.optr X0 0 0, .int .i64 i5] O tk (RetV O X0 tk (fun v o' tk' => ∃ r0', ∃ (c0q : Nat) (c0f : Bool) (c0 : List Int) (c1 : Int) (c2 : Int) , r = (r0', (c0, c1, c2)) ∧ o' = ⟨99, 3, true, [[.imm c0q 1 c0f ((c0 : List Int).map fun n => [AV.int .u8 n]), .int .i64 c1, .int .i64 c2]]⟩ ∧ VT false tk tk' r0' v)))
 | 0 => by intro X0 q2 f2 l2 i3 i4 i5 r hM; rw [s_l00Src_rawSimple] at hM; cases hM
 | n + 1 => have ih := s_l00Src_rawSimple_all n; s_l00Src_rawSimple_st n (ih)

theorem s_l00Src_rawSimple_ok (n : Nat) : ∀ (X0 : ID) (q2 : Nat) (f2 : Bool) (l2 : List Int) (i3 : Int) (i4 : Int) (i5 : Int) {r : (T × (List Int × Int × Int))}, s_l00Src_rawSimple n (l2, i3, i4) i5 = some r → ∀ (O : Heap) (tk : Nat), O X0 = some ⟨99, 3, true, [[.imm q2 1 f2 ((l2 : List Int).map fun n => [AV.int .u8 n]), .int .i64 i3, .int .i64 i4]]⟩ → ACalls Go.Proofs.Tryd.prog 106 [.optr X0 0 0, .int .i64 i5] O tk (RetV O X0 tk (fun v o' tk' => ∃ r0', ∃ (c0q : Nat) (c0f : Bool) (c0 : List Int) (c1 : Int) (c2 : Int) , r = (r0', (c0, c1, c2)) ∧ o' = ⟨99, 3, true, [[.imm c0q 1 c0f ((c0 : List Int).map fun n => [AV.int .u8 n]), .int .i64 c1, .int .i64 c2]]⟩ ∧ VT false tk tk' r0' v)) := s_l00Src_rawSimple_all n

def s_l00Src_simple (n : Nat) (z1 : (List Int × Int × Int)) (i5 : Int) : Option (T × (List Int × Int × Int)) :=
 (s_l00Src_rawSimple n (z1.1, z1.2.1, z1.2.2) i5).bind fun r6 =>
 some (r6.1, (r6.2.1, r6.2.2.1, r6.2.2.2))

set_option maxRecDepth 100000 in
theorem s_l00Src_simple_ok (n : Nat) : ∀ (X0 : ID) (q2 : Nat) (f2 : Bool) (l2 : List Int) (i3 : Int) (i4 : Int) (i5 : Int) {r : (T × (List Int × Int × Int))}, s_l00Src_simple n (l2, i3, i4) i5 = some r → ∀ (O : Heap) (tk : Nat), O X0 = some ⟨99, 3, true, [[.imm q2 1 f2 ((l2 : List Int).map fun n => [AV.int .u8 n]), .int .i64 i3, .int .i64 i4]]⟩ → ACalls Go.Proofs.Tryd.prog 51 [.optr X0 0 0, .int .i64 i5] O tk (RetV O X0 tk (fun v o' tk' => ∃ r0', ∃ (c0q : Nat) (c0f : Bool) (c0 : List Int) (c1 : Int) (c2 : Int) , r = (r0', (c0, c1, c2)) ∧ o' = ⟨99, 3, true, [[.imm c0q 1 c0f ((c0 : List Int).map fun n => [AV.int .u8 n]), .int .i64 c1, .int .i64 c2]]⟩ ∧ VT false tk tk' r0' v)) := by
 intro X0 q2 f2 l2 i3 i4 i5 r hM O tk hX0
 unfold s_l00Src_simple at hM
 refine acalls_of_run Go.Proofs.Tryd.func51 rfl rfl [X0] [⟨99, 3, true, [[.imm q2 1 f2 ((l2 : List Int).map fun n => [AV.int .u8 n]), .int .i64 i3, .int .i64 i4]]⟩] (Bor.one hX0 rfl) [(0, .optr (.bor 0) 0 0), (1, .int .i64 i5)] (.cons (.bor 0 _ _ _ rfl) (.cons (entS rfl) (.nil _))) (leb rfl) (by intro y h; simp only [List.mem_cons, List.not_mem_nil, or_false] at h; rcases h with rfl <;> simp [tch, tch0]) (fun S0 hO htk hfz => ?_)
 refine run_sr ?_
 refine run_op rfl (alloc_step (d := 4) hG rfl rfl rfl) rfl (ltb rfl) ?_
 refine run_ops_nil ?_
 refine run_sr ?_
 refine mvL rfl rfl rfl rfl (ltb rfl) ?_
 refine mvL rfl rfl rfl rfl (ltb rfl) ?_
 obtain ⟨r6, hg7, hM⟩ := bind_t hM
 refine run_call rfl rfl rfl (ltb rfl) rfl rfl rfl (fun _ h => absurd h List.not_mem_nil) (s_l00Src_rawSimple_ok n (.bor 0) q2 f2 l2 i3 i4 i5 hg7 _ _ rfl) (callK_retV_bor (k := 0) rfl (fun v o' tk' h => by obtain ⟨_, _, _, _, _, _, rfl, rfl, _⟩ := h; rfl) (fun v o'17 tk8 (hle9 : tk ≤ tk8) h10 => ?_))
 obtain ⟨ra16, qc13, fc13, c13, c14, c15, rfl, rfl, ⟨k11, n11, s11, q11, f11, ks11, rfl, rfl, hf12⟩⟩ := h10
 refine run_op0 rfl (store_step hG rfl rfl rfl rfl rfl rfl rfl rfl) rfl ?_
 refine run_ops_nil ?_
 refine run_ret_to ?_
 replace hM := some_t hM
 subst hM
 refine fin_x hG rfl rfl rfl (v' := .agg [.int .i64 k11, .int .i64 n11, .str s11, .imm q11 4 f11 (cellss ks11)]) (by rfl) ⟨_, ⟨99, 3, true, [[.imm qc13 1 fc13 ((c13 : List Int).map fun n => [AV.int .u8 n]), .int .i64 c14, .int .i64 c15]]⟩, rfl, rfl, (show tk ≤ tk8 by omega), ⟨_, qc13, fc13, c13, c14, c15, rfl, rfl, ⟨k11, n11, s11, q11, f11, ks11, rfl, rfl, fun h => by cases h⟩⟩⟩

def s_SimpleOf (n : Nat) (l1 : List Int) : Option T :=
 (s_l00Src_next (l1, 0, (Int.tmod ((l1).length : Int) 1000)) 3).bind fun r2 =>
 (s_l00Src_simple n (r2.2.1, r2.2.2.1, r2.2.2.2) (IntKind.i64.wrap (1 + r2.1))).bind fun r14 =>
 some r14.1

set_option maxRecDepth 100000 in
theorem s_SimpleOf_ok (n : Nat) : ∀ (q1 : Nat) (f1 : Bool) (l1 : List Int) {r : T}, s_SimpleOf n l1 = some r → ∀ (O : Heap) (tk : Nat), ACalls Go.Proofs.Tryd.prog 20 [.imm q1 1 f1 ((l1 : List Int).map fun n => [AV.int .u8 n])] O tk (RetX O tk (fun v tk' => VT false tk tk' r v)) := by
 intro q1 f1 l1 r hM O tk
 unfold s_SimpleOf at hM
 refine acalls_of_run Go.Proofs.Tryd.func20 rfl rfl [] [] (Bor.nil _) [(0, .imm q1 1 f1 ((l1 : List Int).map fun n => [AV.int .u8 n]))] (.cons (entS rfl) (.nil _)) (leb rfl) (fun _ h => by cases h) (fun S0 hO htk hfz => ?_)
 refine run_sr ?_
 refine run_op rfl (alloc_step (d := 2) hG rfl rfl rfl) rfl (ltb rfl) ?_
 refine run_ops_nil ?_
 refine run_sr ?_
 refine mvL rfl rfl rfl rfl (ltb rfl) ?_
 refine run_callBox (ob := ⟨99, 3, true, [[.imm q1 1 f1 ((l1 : List Int).map fun n => [AV.int .u8 n]), .int .i64 0, .int .i64 (Int.tmod ((l1).length : Int) 1000)]]⟩) rfl rfl rfl (ltb rfl) rfl rfl rfl rfl (s_l00Source_box q1 f1 l1 _ _) rfl (fun out O' tk' h => h) ?_
 refine mvR rfl rfl rfl rfl (ltb rfl) ?_
 refine run_ops_nil ?_
 refine run_sr ?_
 refine mvL rfl rfl rfl rfl (ltb rfl) ?_
 refine mvL rfl rfl rfl rfl (ltb rfl) ?_
 obtain ⟨r2, hg3, hM⟩ := bind_t hM
 refine run_call rfl rfl rfl (ltb rfl) rfl rfl rfl (fun _ h => absurd h List.not_mem_nil) (s_l00Src_next_ok (.loc 5) q1 f1 l1 0 (Int.tmod ((l1).length : Int) 1000) 3 hg3 _ _ rfl) (callK_retV_loc (k := 5) rfl (fun v o'13 tk4 (hle5 : tk ≤ tk4) h6 => ?_))
 obtain ⟨ra12, qc9, fc9, c9, c10, c11, rfl, rfl, rfl⟩ := h6
 refine run_bin rfl rfl rfl rfl rfl rfl rfl (ltb rfl) ?_
 obtain ⟨r14, hg15, hM⟩ := bind_t hM
 refine run_call rfl rfl rfl (ltb rfl) rfl rfl rfl (fun _ h => absurd h List.not_mem_nil) (s_l00Src_simple_ok n (.loc 5) qc9 fc9 c9 c10 c11 (IntKind.i64.wrap (1 + ra12)) hg15 _ _ rfl) (callK_retV_loc (k := 5) rfl (fun v o'25 tk16 (hle17 : tk4 ≤ tk16) h18 => ?_))
 obtain ⟨ra24, qc21, fc21, c21, c22, c23, rfl, rfl, ⟨k19, n19, s19, q19, f19, ks19, rfl, rfl, hf20⟩⟩ := h18
 refine run_op0 rfl (store_step hG rfl rfl rfl rfl rfl rfl rfl rfl) rfl ?_
 refine run_ops_nil ?_
 refine run_ret_to ?_
 replace hM := some_t hM
 subst hM
 refine fin_x hG rfl rfl rfl (v' := .agg [.int .i64 k19, .int .i64 n19, .str s19, .imm q19 4 f19 (cellss ks19)]) (by rfl) ⟨rfl, (show tk ≤ tk16 by omega), _, rfl, ⟨k19, n19, s19, q19, f19, ks19, rfl, rfl, fun h => by cases h⟩⟩

end Go.Am.YtaedacibojpfkaaDoor
