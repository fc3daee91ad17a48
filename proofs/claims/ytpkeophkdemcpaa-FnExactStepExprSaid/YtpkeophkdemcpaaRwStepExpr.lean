/- The law FnExactStepExpr answers true, whatever its arguments: the row. -/
import Derived.Test.YtpkeophkdemcpaaRows
import Derived.WalkKit
import Derived.ProofKit
import Derived.OpenShut
import Derived.Carry
import Derived.Test.YtpkeophkdemcpaaPvStep
namespace Go.Proofs.Ytpkeophkdemcpaa.fnExactStepExpr
open Go.ChangeShapes Go.WideShapes Go.ChangeAt Go.RowKit

theorem own : ownKnob Try.prog.godebug = none := by kernel_rfl
theorem laidOut : laidOutB Try.prog = true := by kernel_rfl

theorem walk (W : World) (t0 : Go.Am.LP) (hok0 : t0.er.ok) (hold0 : Go.Am.old t0.toks) (cs0 : Array Value) (hl0 : cs0.size = 4) (hr0 : ∀ j v, t0.cells[j]? = some v → Go.Am.RepC (Go.Am.start W) v (cs0.getD j undef)) :
  Calls Try.prog 6 #[.agg cs0] W fun e w' => e = .returned (.bool true) ∧ Below W.heap.size W w' := by
 refine Go.Am.calls_of_law (args := [.agg t0.cells]) (Go.Am.Ytpkeophkdemcpaa.lawStepExpr_ok t0 hok0 hold0) rfl (fun j v hj => ?_) (by cases t0; rfl) (Go.Am.Inv.any _ _)
 match j, hj with
 | 0, hj =>
  cases hj
  exact .agg _ _ (by rw [Go.Am.pcells_len]; exact hl0) (fun j x hj => Go.Am.alld1_at (Go.Am.pcells_d1 t0) j x hj) hr0
 | j + 1, hj => simp at hj

set_option maxRecDepth 100000 in
theorem lifted (os : Os) (started : os.Started) (H : Type) (enc : TypeId × Value → H) :
  ReturnsInHanded {} Try.checked os 6 .any (Rows.fnExactStepExprSpec.pre6 enc Try.prog Try.f6 Rows.fnExactStepExprRow.domain false) (Rows.fnExactStepExprSpec.post enc Try.prog Try.f6 false true false false) := by
 refine returnsInHanded_of_change (C := Try.checked) own started (by kernel_rfl) Try.func6
  (ChangeSpec.witness6 (enc := enc) (C := Try.checked) false ⟨#[], #[.agg #[.int .i64 0, .int .i64 0, .slice none 0 0, .slice none 0 0]], []⟩ 8 (by kernel_rfl) (by kernel_rfl) (by kernel_rfl) (by kernel_rfl)) ?_
 intro W base args ds gs before hval0 hW hcnd _
 have hval : ∀ (j : Nat) t v, Try.f6.params[j]? = some t → args[j]? = some v → Value.okWide Try.prog W .any base t v := hval0
 have hW' := hW
 obtain ⟨p, q, hA0, hV, rfl, hfz, hnd⟩ := hW
 have hA : DataW.TrodAll enc Try.prog W 0 (fun _ => true) true Try.f6.params.toList args.toList ds p := hA0
 rw [Try.params6] at hA hval
 obtain ⟨v0, d0, rfl, rfl, h0⟩ := trodAll_one hA
 obtain ⟨rfl, rfl⟩ := trodVars_none hV
 clear hA0
 simp only [List.append_nil] at hW'
 have h0k := h0
 obtain ⟨cs0, rfl, _⟩ := okWide_struct Try.underlying62 (hval 0 62 v0 rfl rfl)
 obtain ⟨fuel0, hf0⟩ := h0
 obtain ⟨t0, ⟨hok0, hold0⟩, hl0, hr0⟩ := Go.Am.read_p Try.underlying62 rfl ⟨Try.underlying3, rfl, rfl⟩ ⟨Try.underlying3, rfl, rfl⟩ ⟨Try.underlying59, rfl, rfl⟩ ⟨Try.underlying60, rfl, rfl⟩ rfl (Go.Am.read_f Try.underlying146 rfl ⟨Try.underlying3, rfl, rfl⟩ ⟨Try.underlying3, rfl, rfl⟩ ⟨Try.underlying59, rfl, rfl⟩) fuel0 _ _ hf0
 have hcells0 : (Value.agg cs0).cells.toList = cs0.toList := rfl
 rw [hcells0] at hl0 hr0
 refine (walk W t0 hok0 hold0 cs0 (by simpa using hl0) (fun j x hj => by have := hr0 j x hj; simpa [Array.getD_eq_getD_getElem?, List.getD_eq_getElem?_getD] using this)).mono fun e W' ⟨he, hb⟩ => ?_
 subst he
 have hlt : ∀ x ∈ p, x.block < W.heap.size := fun x hx => by simpa using hW'.lt x hx
 refine ⟨_, rfl, _, _, _, [], p, [], hW', trodAll_mk1 (shut_bool Try.underlying4 _), ?_, rfl, hb.frame _, fun h => by cases h⟩
 exact trodAll_mk1 (Below.trod laidOut (by kernel_rfl) (of_decide_eq_true (by kernel_rfl)) h0k hb hlt)

theorem over : Rows.fnExactStepExprRow.holds Try.pinned (OpenSpec.ofChange Rows.fnExactStepExprSpec) :=
 OpenClaim.holds_of_wide 6 Try.f6 rfl rfl rfl rfl rfl rfl rfl ⟨rfl, rfl, rfl, rfl, rfl⟩ rfl rfl rfl rfl rfl (by kernel_rfl) Try.func6 (by kernel_rfl)
  (of_decide_eq_true (by kernel_rfl)) (by unfold Func.isWrapper; first | (rw [if_pos (by decide +kernel)]; kernel_rfl) | (rw [if_neg (by decide +kernel)]; exact ⟨rfl, rfl⟩))
  (fun os started H enc _ => lifted os started H enc)

/-- ████ THE STATEMENT ████ -/
theorem proved : Rows.FnExactStepExprSaid :=
 over
#print axioms proved
end Go.Proofs.Ytpkeophkdemcpaa.fnExactStepExpr
