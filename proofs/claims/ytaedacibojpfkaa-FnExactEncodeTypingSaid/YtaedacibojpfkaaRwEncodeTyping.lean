/- The law FnExactEncodeTyping answers true, whatever its arguments: the row. -/
import Derived.Test.YtaedacibojpfkaaRows
import Derived.WalkKit
import Derived.ProofKit
import Derived.OpenShut
import Derived.Carry
import Derived.Test.YtaedacibojpfkaaPvEncLaw
namespace Go.Proofs.Ytaedacibojpfkaa.fnExactEncodeTyping
open Go.ChangeShapes Go.WideShapes Go.ChangeAt Go.RowKit

theorem own : ownKnob Try.prog.godebug = none := by kernel_rfl
theorem laidOut : laidOutB Try.prog = true := by kernel_rfl

theorem walk (W : World) (l0 : List Go.Am.LF) (hl0 : l0.length ≤ 9223372036854775807) (hok0 : ∀ t ∈ l0, t.er.ok) (hold0 : ∀ t ∈ l0, Go.Am.old t.toks) (c0 : Value) (hr0 : Go.Am.RepC (Go.Am.start W) (.imm 0 3 false (Go.Am.fcellss l0)) c0) (t1 : Go.Am.LP) (hok1 : t1.er.ok) (hold1 : Go.Am.old t1.toks) (cs1 : Array Value) (hl1 : cs1.size = 4) (hr1 : ∀ j v, t1.cells[j]? = some v → Go.Am.RepC (Go.Am.start W) v (cs1.getD j undef)) :
  Calls Try.prog 8 #[c0, .agg cs1] W fun e w' => e = .returned (.bool true) ∧ Below W.heap.size W w' := by
 refine Go.Am.calls_of_law (args := [.imm 0 3 false (Go.Am.fcellss l0), .agg t1.cells]) (Go.Am.Ytaedacibojpfkaa.lawEncodeTyping_ok l0 hl0 hok0 hold0 t1 hok1 hold1) rfl (fun j v hj => ?_) (by cases t1; rfl) (Go.Am.Inv.any _ _)
 match j, hj with
 | 0, hj =>
  cases hj
  exact hr0
 | 1, hj =>
  cases hj
  exact .agg _ _ (by rw [Go.Am.pcells_len]; exact hl1) (fun j x hj => Go.Am.alld1_at (Go.Am.pcells_d1 t1) j x hj) hr1
 | j + 2, hj => simp at hj

set_option maxRecDepth 100000 in
theorem lifted (os : Os) (started : os.Started) (H : Type) (enc : TypeId × Value → H) :
  ReturnsInHanded {} Try.checked os 8 .any (Rows.fnExactEncodeTypingSpec.pre6 enc Try.prog Try.f8 Rows.fnExactEncodeTypingRow.domain false) (Rows.fnExactEncodeTypingSpec.post enc Try.prog Try.f8 false true false false) := by
 refine returnsInHanded_of_change (C := Try.checked) own started (by kernel_rfl) Try.func8
  (ChangeSpec.witness6 (enc := enc) (C := Try.checked) false ⟨#[], #[.slice none 0 0, .agg #[.int .i64 0, .int .i64 0, .slice none 0 0, .slice none 0 0]], []⟩ 8 (by kernel_rfl) (by kernel_rfl) (by kernel_rfl) (by kernel_rfl)) ?_
 intro W base args ds gs before hval0 hW hcnd _
 have hval : ∀ (j : Nat) t v, Try.f8.params[j]? = some t → args[j]? = some v → Value.okWide Try.prog W .any base t v := hval0
 have hW' := hW
 obtain ⟨p, q, hA0, hV, rfl, hfz, hnd⟩ := hW
 have hA : DataW.TrodAll enc Try.prog W 0 (fun _ => true) true Try.f8.params.toList args.toList ds p := hA0
 rw [Try.params8] at hA hval
 obtain ⟨v0, v1, d0, d1, p0, p1, rfl, rfl, rfl, h0, h1⟩ := trodAll_two hA
 obtain ⟨rfl, rfl⟩ := trodVars_none hV
 clear hA0
 simp only [List.append_nil] at hW'
 have h0k := h0
 have h1k := h1
 obtain ⟨a0, len0, cap0, rfl⟩ := okWide_slice Try.underlying59 (hval 0 59 v0 rfl rfl)
 obtain ⟨fuel0, hf0⟩ := h0
 obtain ⟨c0, hc0, ks0, hks0, hkl0, hr0⟩ := Go.Am.read_slice (cells := Go.Am.LF.cells) Try.underlying59 (sz := 3) rfl (by decide) (fun t => by cases t; rfl) Go.Am.fcells_d1 hf0 (fun m _ => Go.Am.read_f Try.underlying146 rfl ⟨Try.underlying3, rfl, rfl⟩ ⟨Try.underlying3, rfl, rfl⟩ ⟨Try.underlying59, rfl, rfl⟩ m)
 rw [← Go.Am.fcellss_map] at hr0
 have hcc0 : Value.slice a0 len0 cap0 = c0 := by simpa [Value.cells] using hc0
 subst hcc0
 obtain ⟨cs1, rfl, _⟩ := okWide_struct Try.underlying62 (hval 1 62 v1 rfl rfl)
 obtain ⟨fuel1, hf1⟩ := h1
 obtain ⟨t1, ⟨hok1, hold1⟩, hl1, hr1⟩ := Go.Am.read_p Try.underlying62 rfl ⟨Try.underlying3, rfl, rfl⟩ ⟨Try.underlying3, rfl, rfl⟩ ⟨Try.underlying59, rfl, rfl⟩ ⟨Try.underlying60, rfl, rfl⟩ rfl (Go.Am.read_f Try.underlying146 rfl ⟨Try.underlying3, rfl, rfl⟩ ⟨Try.underlying3, rfl, rfl⟩ ⟨Try.underlying59, rfl, rfl⟩) fuel1 _ _ hf1
 have hcells1 : (Value.agg cs1).cells.toList = cs1.toList := rfl
 rw [hcells1] at hl1 hr1
 refine (walk W ks0 hkl0 (fun t ht => (hks0 t ht).1) (fun t ht => (hks0 t ht).2) _ hr0 t1 hok1 hold1 cs1 (by simpa using hl1) (fun j x hj => by have := hr1 j x hj; simpa [Array.getD_eq_getD_getElem?, List.getD_eq_getElem?_getD] using this)).mono fun e W' ⟨he, hb⟩ => ?_
 subst he
 have hlt : ∀ x ∈ (p0 ++ p1), x.block < W.heap.size := fun x hx => by simpa using hW'.lt x hx
 refine ⟨_, rfl, _, _, _, [], (p0 ++ p1), [], hW', trodAll_mk1 (shut_bool Try.underlying4 _), ?_, rfl, hb.frame _, fun h => by cases h⟩
 have e0 := Below.trod laidOut (by kernel_rfl) (of_decide_eq_true (by kernel_rfl)) h0k hb (fun x hx => hlt x (by simp [hx]))
 have e1 := Below.trod laidOut (by kernel_rfl) (of_decide_eq_true (by kernel_rfl)) h1k hb (fun x hx => hlt x (by simp [hx]))
 exact trodAll_mk2 e0 e1

theorem over : Rows.fnExactEncodeTypingRow.holds Try.pinned (OpenSpec.ofChange Rows.fnExactEncodeTypingSpec) :=
 OpenClaim.holds_of_wide 8 Try.f8 rfl rfl rfl rfl rfl rfl rfl ⟨rfl, rfl, rfl, rfl, rfl⟩ rfl rfl rfl rfl rfl (by kernel_rfl) Try.func8 (by kernel_rfl)
  (of_decide_eq_true (by kernel_rfl)) (by unfold Func.isWrapper; first | (rw [if_pos (by decide +kernel)]; kernel_rfl) | (rw [if_neg (by decide +kernel)]; exact ⟨rfl, rfl⟩))
  (fun os started H enc _ => lifted os started H enc)

/-- ████ THE STATEMENT ████ -/
theorem proved : Rows.FnExactEncodeTypingSaid :=
 over
#print axioms proved
end Go.Proofs.Ytaedacibojpfkaa.fnExactEncodeTyping
