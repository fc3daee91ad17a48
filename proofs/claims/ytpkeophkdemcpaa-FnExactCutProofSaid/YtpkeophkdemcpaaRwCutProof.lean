/- The law FnExactCutProof answers true, whatever its arguments: the row. -/
import Derived.Test.YtpkeophkdemcpaaRows
import Derived.WalkKit
import Derived.ProofKit
import Derived.OpenShut
import Derived.Carry
import Derived.Test.YtpkeophkdemcpaaPvCut
namespace Go.Proofs.Ytpkeophkdemcpaa.fnExactCutProof
open Go.ChangeShapes Go.WideShapes Go.ChangeAt Go.RowKit

theorem own : ownKnob Try.prog.godebug = none := by kernel_rfl
theorem laidOut : laidOutB Try.prog = true := by kernel_rfl

theorem walk (W : World) (l0 : List Go.Am.LF) (hl0 : l0.length ≤ 9223372036854775807) (hok0 : ∀ t ∈ l0, t.er.ok) (hold0 : ∀ t ∈ l0, Go.Am.old t.toks) (c0 : Value) (hr0 : Go.Am.RepC (Go.Am.start W) (.imm 0 3 false (Go.Am.fcellss l0)) c0) (t1 : Go.Am.LP) (hok1 : t1.er.ok) (hold1 : Go.Am.old t1.toks) (cs1 : Array Value) (hl1 : cs1.size = 4) (hr1 : ∀ j v, t1.cells[j]? = some v → Go.Am.RepC (Go.Am.start W) v (cs1.getD j undef)) (t2 : Go.Am.LP) (hok2 : t2.er.ok) (hold2 : Go.Am.old t2.toks) (cs2 : Array Value) (hl2 : cs2.size = 4) (hr2 : ∀ j v, t2.cells[j]? = some v → Go.Am.RepC (Go.Am.start W) v (cs2.getD j undef)) :
  Calls Try.prog 7 #[c0, .agg cs1, .agg cs2] W fun e w' => e = .returned (.bool true) ∧ Below W.heap.size W w' := by
 refine Go.Am.calls_of_law (args := [.imm 0 3 false (Go.Am.fcellss l0), .agg t1.cells, .agg t2.cells]) (Go.Am.Ytpkeophkdemcpaa.lawCutProof_ok l0 hl0 hok0 hold0 t1 hok1 hold1 t2 hok2 hold2) rfl (fun j v hj => ?_) (by cases t1; cases t2; rfl) (Go.Am.Inv.any _ _)
 match j, hj with
 | 0, hj =>
  cases hj
  exact hr0
 | 1, hj =>
  cases hj
  exact .agg _ _ (by rw [Go.Am.pcells_len]; exact hl1) (fun j x hj => Go.Am.alld1_at (Go.Am.pcells_d1 t1) j x hj) hr1
 | 2, hj =>
  cases hj
  exact .agg _ _ (by rw [Go.Am.pcells_len]; exact hl2) (fun j x hj => Go.Am.alld1_at (Go.Am.pcells_d1 t2) j x hj) hr2
 | j + 3, hj => simp at hj

set_option maxRecDepth 100000 in
theorem lifted (os : Os) (started : os.Started) (H : Type) (enc : TypeId × Value → H) :
  ReturnsInHanded {} Try.checked os 7 .any (Rows.fnExactCutProofSpec.pre6 enc Try.prog Try.f7 Rows.fnExactCutProofRow.domain false) (Rows.fnExactCutProofSpec.post enc Try.prog Try.f7 false true false false) := by
 refine returnsInHanded_of_change (C := Try.checked) own started (by kernel_rfl) Try.func7
  (ChangeSpec.witness6 (enc := enc) (C := Try.checked) false ⟨#[], #[.slice none 0 0, .agg #[.int .i64 0, .int .i64 0, .slice none 0 0, .slice none 0 0], .agg #[.int .i64 0, .int .i64 0, .slice none 0 0, .slice none 0 0]], []⟩ 8 (by kernel_rfl) (by kernel_rfl) (by kernel_rfl) (by kernel_rfl)) ?_
 intro W base args ds gs before hval0 hW hcnd _
 have hval : ∀ (j : Nat) t v, Try.f7.params[j]? = some t → args[j]? = some v → Value.okWide Try.prog W .any base t v := hval0
 have hW' := hW
 obtain ⟨p, q, hA0, hV, rfl, hfz, hnd⟩ := hW
 have hA : DataW.TrodAll enc Try.prog W 0 (fun _ => true) true Try.f7.params.toList args.toList ds p := hA0
 rw [Try.params7] at hA hval
 obtain ⟨v0, v1, v2, d0, d1, d2, p0, p1, p2, rfl, rfl, rfl, h0, h1, h2⟩ := trodAll_three hA
 obtain ⟨rfl, rfl⟩ := trodVars_none hV
 clear hA0
 simp only [List.append_nil] at hW'
 have h0k := h0
 have h1k := h1
 have h2k := h2
 obtain ⟨a0, len0, cap0, rfl⟩ := okWide_slice Try.underlying70 (hval 0 70 v0 rfl rfl)
 obtain ⟨fuel0, hf0⟩ := h0
 obtain ⟨c0, hc0, ks0, hks0, hkl0, hr0⟩ := Go.Am.read_slice (cells := Go.Am.LF.cells) Try.underlying70 (sz := 3) rfl (by decide) (fun t => by cases t; rfl) Go.Am.fcells_d1 hf0 (fun m _ => Go.Am.read_f Try.underlying131 rfl ⟨Try.underlying3, rfl, rfl⟩ ⟨Try.underlying3, rfl, rfl⟩ ⟨Try.underlying70, rfl, rfl⟩ m)
 rw [← Go.Am.fcellss_map] at hr0
 have hcc0 : Value.slice a0 len0 cap0 = c0 := by simpa [Value.cells] using hc0
 subst hcc0
 obtain ⟨cs1, rfl, _⟩ := okWide_struct Try.underlying73 (hval 1 73 v1 rfl rfl)
 obtain ⟨fuel1, hf1⟩ := h1
 obtain ⟨t1, ⟨hok1, hold1⟩, hl1, hr1⟩ := Go.Am.read_p Try.underlying73 rfl ⟨Try.underlying3, rfl, rfl⟩ ⟨Try.underlying3, rfl, rfl⟩ ⟨Try.underlying70, rfl, rfl⟩ ⟨Try.underlying71, rfl, rfl⟩ rfl (Go.Am.read_f Try.underlying131 rfl ⟨Try.underlying3, rfl, rfl⟩ ⟨Try.underlying3, rfl, rfl⟩ ⟨Try.underlying70, rfl, rfl⟩) fuel1 _ _ hf1
 have hcells1 : (Value.agg cs1).cells.toList = cs1.toList := rfl
 rw [hcells1] at hl1 hr1
 obtain ⟨cs2, rfl, _⟩ := okWide_struct Try.underlying73 (hval 2 73 v2 rfl rfl)
 obtain ⟨fuel2, hf2⟩ := h2
 obtain ⟨t2, ⟨hok2, hold2⟩, hl2, hr2⟩ := Go.Am.read_p Try.underlying73 rfl ⟨Try.underlying3, rfl, rfl⟩ ⟨Try.underlying3, rfl, rfl⟩ ⟨Try.underlying70, rfl, rfl⟩ ⟨Try.underlying71, rfl, rfl⟩ rfl (Go.Am.read_f Try.underlying131 rfl ⟨Try.underlying3, rfl, rfl⟩ ⟨Try.underlying3, rfl, rfl⟩ ⟨Try.underlying70, rfl, rfl⟩) fuel2 _ _ hf2
 have hcells2 : (Value.agg cs2).cells.toList = cs2.toList := rfl
 rw [hcells2] at hl2 hr2
 refine (walk W ks0 hkl0 (fun t ht => (hks0 t ht).1) (fun t ht => (hks0 t ht).2) _ hr0 t1 hok1 hold1 cs1 (by simpa using hl1) (fun j x hj => by have := hr1 j x hj; simpa [Array.getD_eq_getD_getElem?, List.getD_eq_getElem?_getD] using this) t2 hok2 hold2 cs2 (by simpa using hl2) (fun j x hj => by have := hr2 j x hj; simpa [Array.getD_eq_getD_getElem?, List.getD_eq_getElem?_getD] using this)).mono fun e W' ⟨he, hb⟩ => ?_
 subst he
 have hlt : ∀ x ∈ (p0 ++ p1 ++ p2), x.block < W.heap.size := fun x hx => by simpa using hW'.lt x hx
 refine ⟨_, rfl, _, _, _, [], (p0 ++ p1 ++ p2), [], hW', trodAll_mk1 (shut_bool Try.underlying4 _), ?_, rfl, hb.frame _, fun h => by cases h⟩
 have e0 := Below.trod laidOut (by kernel_rfl) (of_decide_eq_true (by kernel_rfl)) h0k hb (fun x hx => hlt x (by simp [hx]))
 have e1 := Below.trod laidOut (by kernel_rfl) (of_decide_eq_true (by kernel_rfl)) h1k hb (fun x hx => hlt x (by simp [hx]))
 have e2 := Below.trod laidOut (by kernel_rfl) (of_decide_eq_true (by kernel_rfl)) h2k hb (fun x hx => hlt x (by simp [hx]))
 simp only [List.append_assoc]
 exact trodAll_mk3 e0 e1 e2

theorem over : Rows.fnExactCutProofRow.holds Try.pinned (OpenSpec.ofChange Rows.fnExactCutProofSpec) :=
 OpenClaim.holds_of_wide 7 Try.f7 rfl rfl rfl rfl rfl rfl rfl ⟨rfl, rfl, rfl, rfl, rfl⟩ rfl rfl rfl rfl rfl (by kernel_rfl) Try.func7 (by kernel_rfl)
  (of_decide_eq_true (by kernel_rfl)) (by unfold Func.isWrapper; first | (rw [if_pos (by decide +kernel)]; kernel_rfl) | (rw [if_neg (by decide +kernel)]; exact ⟨rfl, rfl⟩))
  (fun os started H enc _ => lifted os started H enc)

theorem proved : Rows.FnExactCutProofSaid :=
 over
#print axioms proved
end Go.Proofs.Ytpkeophkdemcpaa.fnExactCutProof
