/- The law FnExactJudgement answers true, whatever the form: the row. -/
import Derived.Test.YtgbmcnmepfpjiaaRows
import Derived.WalkKit
import Derived.ProofKit
import Derived.OpenShut
import Derived.Carry
import Derived.Test.YtgbmcnmepfpjiaaPvJud
namespace Go.Proofs.Ytgbmcnmepfpjiaa.fnExactJudgement
open Go.ChangeShapes Go.WideShapes Go.ChangeAt Go.RowKit

theorem own : ownKnob Try.prog.godebug = none := by kernel_rfl
theorem laidOut : laidOutB Try.prog = true := by kernel_rfl

theorem walk (W : World) (t : Go.Am.LF) (hok : t.er.ok) (hold : Go.Am.old t.toks) (cs : Array Value) (hl : cs.size = 3) (hr : ∀ j v, t.cells[j]? = some v → Go.Am.RepC (Go.Am.start W) v (cs.getD j undef)) :
    Calls Try.prog 5 #[.agg cs] W fun e w' => e = .returned (.bool true) ∧ Below W.heap.size W w' := by
  refine Go.Am.calls_of_law (args := [.agg t.cells]) (Go.Am.Ytgbmcnmepfpjiaa.lawJudgement_ok t hok hold) rfl (fun j v hj => ?_) (by cases t; rfl)
  · match j, hj with
    | 0, hj =>
      cases hj
      exact .agg _ _ (by rw [Go.Am.fcells_length]; exact hl) (fun j x hj => Go.Am.alld1_at (Go.Am.fcells_d1 t) j x hj) hr
    | j + 1, hj => simp at hj

set_option maxRecDepth 100000 in
theorem lifted (os : Os) (started : os.Started) (H : Type) (enc : TypeId × Value → H) :
    ReturnsInHanded {} Try.checked os 5 .any (Rows.fnExactJudgementSpec.pre6 enc Try.prog Try.f5 Rows.fnExactJudgementRow.domain false) (Rows.fnExactJudgementSpec.post enc Try.prog Try.f5 false true false false) := by
  refine returnsInHanded_of_change (C := Try.checked) own started (by kernel_rfl) Try.func5
    (ChangeSpec.witness6 (enc := enc) (C := Try.checked) false ⟨#[], #[.agg #[.int .i64 0, .int .i64 0, .slice none 0 0]], []⟩ 8 (by kernel_rfl) (by kernel_rfl) (by kernel_rfl) (by kernel_rfl)) ?_
  intro W base args ds gs before hval0 hW hcnd _
  have hval : ∀ (j : Nat) t v, Try.f5.params[j]? = some t → args[j]? = some v → Value.okWide Try.prog W .any base t v := hval0
  have hW' := hW
  obtain ⟨p, q, hA0, hV, rfl, hfz, hnd⟩ := hW
  have hA : DataW.TrodAll enc Try.prog W 0 (fun _ => true) true Try.f5.params.toList args.toList ds p := hA0
  rw [Try.params5] at hA hval
  obtain ⟨v0, d0, rfl, rfl, h0⟩ := trodAll_one hA
  obtain ⟨rfl, rfl⟩ := trodVars_none hV
  clear hA0
  simp only [List.append_nil] at hW'
  have h0k := h0
  obtain ⟨cs, rfl, _⟩ := okWide_struct Try.underlying42 (hval 0 42 v0 rfl rfl)
  obtain ⟨fuel, hf⟩ := h0
  obtain ⟨t, ⟨hok, hold⟩, hl, hr⟩ := Go.Am.read_f Try.underlying42 rfl ⟨Try.underlying3, rfl, rfl⟩ ⟨Try.underlying3, rfl, rfl⟩ ⟨Try.underlying40, rfl, rfl⟩ fuel _ _ hf
  have hcells : (Value.agg cs).cells.toList = cs.toList := rfl
  rw [hcells] at hl hr
  refine (walk W t hok hold cs (by simpa using hl) (fun j x hj => by have := hr j x hj; simpa [Array.getD_eq_getD_getElem?, List.getD_eq_getElem?_getD] using this)).mono fun e W' ⟨he, hb⟩ => ?_
  · subst he
    have hlt : ∀ x ∈ p, x.block < W.heap.size := fun x hx => by simpa using hW'.lt x hx
    refine ⟨_, rfl, _, _, _, [], p, [], hW', trodAll_mk1 (shut_bool Try.underlying4 _), ?_, rfl, hb.frame _, fun h => by cases h⟩
    have := Below.trod laidOut (by kernel_rfl) (of_decide_eq_true (by kernel_rfl)) h0k hb hlt
    exact trodAll_mk1 this

theorem over : Rows.fnExactJudgementRow.holds Try.pinned (OpenSpec.ofChange Rows.fnExactJudgementSpec) :=
  OpenClaim.holds_of_wide 5 Try.f5 rfl rfl rfl rfl rfl rfl rfl ⟨rfl, rfl, rfl, rfl, rfl⟩ rfl rfl rfl rfl rfl (by kernel_rfl) Try.func5 (by kernel_rfl)
    (of_decide_eq_true (by kernel_rfl)) (by unfold Func.isWrapper; first | (rw [if_pos (by decide +kernel)]; kernel_rfl) | (rw [if_neg (by decide +kernel)]; exact ⟨rfl, rfl⟩))
    (fun os started H enc _ => lifted os started H enc)

/-- ████ THE STATEMENT ████ -/
theorem proved : Rows.FnExactJudgementSaid :=
  over
#print axioms proved
end Go.Proofs.Ytgbmcnmepfpjiaa.fnExactJudgement
