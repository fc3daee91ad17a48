/- The law FnExactEncodeVars answers true, whatever the list: the row. -/
import Derived.Test.YtgbmcnmepfpjiaaRows
import Derived.WalkKit
import Derived.ProofKit
import Derived.OpenShut
import Derived.Carry
import Derived.Test.YtgbmcnmepfpjiaaPvVars
namespace Go.Proofs.Ytgbmcnmepfpjiaa.fnExactEncodeVars
open Go.ChangeShapes Go.WideShapes Go.ChangeAt Go.RowKit

theorem own : ownKnob Try.prog.godebug = none := by kernel_rfl
theorem laidOut : laidOutB Try.prog = true := by kernel_rfl

theorem walk (W : World) (l : List Go.Am.LF) (hl : l.length ≤ 9223372036854775807) (hok : ∀ t ∈ l, t.er.ok) (hold : ∀ t ∈ l, Go.Am.old t.toks) (c : Value) (hr : Go.Am.RepC (Go.Am.start W) (.imm 0 3 false (Go.Am.fcellss l)) c) :
    Calls Try.prog 6 #[c] W fun e w' => e = .returned (.bool true) ∧ Below W.heap.size W w' := by
  refine Go.Am.calls_of_law (args := [.imm 0 3 false (Go.Am.fcellss l)]) (Go.Am.Ytgbmcnmepfpjiaa.lawEncodeVars_ok l hl hok hold) rfl (fun j v hj => ?_) rfl
  match j, hj with
  | 0, hj => cases hj; exact hr
  | j + 1, hj => simp at hj

set_option maxRecDepth 100000 in
theorem lifted (os : Os) (started : os.Started) (H : Type) (enc : TypeId × Value → H) :
    ReturnsInHanded {} Try.checked os 6 .any (Rows.fnExactEncodeVarsSpec.pre6 enc Try.prog Try.f6 Rows.fnExactEncodeVarsRow.domain false) (Rows.fnExactEncodeVarsSpec.post enc Try.prog Try.f6 false true false false) := by
  refine returnsInHanded_of_change (C := Try.checked) own started (by kernel_rfl) Try.func6
    (ChangeSpec.witness6 (enc := enc) (C := Try.checked) false ⟨#[], #[.slice none 0 0], []⟩ 8 (by kernel_rfl) (by kernel_rfl) (by kernel_rfl) (by kernel_rfl)) ?_
  intro W base args ds gs before hval0 hW hcnd _
  have hval : ∀ (j : Nat) t v, Try.f6.params[j]? = some t → args[j]? = some v → Value.okWide Try.prog W .any base t v := hval0
  have hW' := hW
  obtain ⟨p, q, hA0, hV, rfl, hfz, hnd⟩ := hW
  have hA : DataW.TrodAll enc Try.prog W 0 (fun _ => true) true Try.f6.params.toList args.toList ds p := hA0
  rw [Try.params6] at hA hval
  obtain ⟨v0, d0, rfl, rfl, h0⟩ := trodAll_one hA
  obtain ⟨rfl, rfl⟩ := trodVars_none hV
  clear hA0
  simp only [List.append_nil] at hW'
  have h0k := h0
  obtain ⟨a0, len, cap, rfl⟩ := okWide_slice Try.underlying22 (hval 0 22 v0 rfl rfl)
  obtain ⟨fuel, hf⟩ := h0
  obtain ⟨c, hc, ks, hks, hkl, hr⟩ := Go.Am.read_slice (cells := Go.Am.LF.cells) Try.underlying22 (sz := 3) rfl (by decide) (fun t => by cases t; rfl) Go.Am.fcells_d1 hf (fun m _ => Go.Am.read_f Try.underlying24 rfl ⟨Try.underlying3, rfl, rfl⟩ ⟨Try.underlying3, rfl, rfl⟩ ⟨Try.underlying22, rfl, rfl⟩ m)
  rw [← Go.Am.fcellss_map] at hr
  have hcc : Value.slice a0 len cap = c := by simpa [Value.cells] using hc
  subst hcc
  refine (walk W ks hkl (fun t ht => (hks t ht).1) (fun t ht => (hks t ht).2) _ hr).mono fun e W' ⟨he, hb⟩ => ?_
  · subst he
    have hlt : ∀ x ∈ p, x.block < W.heap.size := fun x hx => by simpa using hW'.lt x hx
    refine ⟨_, rfl, _, _, _, [], p, [], hW', trodAll_mk1 (shut_bool Try.underlying4 _), ?_, rfl, hb.frame _, fun h => by cases h⟩
    have := Below.trod laidOut (by kernel_rfl) (of_decide_eq_true (by kernel_rfl)) h0k hb hlt
    exact trodAll_mk1 this

theorem over : Rows.fnExactEncodeVarsRow.holds Try.pinned (OpenSpec.ofChange Rows.fnExactEncodeVarsSpec) :=
  OpenClaim.holds_of_wide 6 Try.f6 rfl rfl rfl rfl rfl rfl rfl ⟨rfl, rfl, rfl, rfl, rfl⟩ rfl rfl rfl rfl rfl (by kernel_rfl) Try.func6 (by kernel_rfl)
    (of_decide_eq_true (by kernel_rfl)) (by unfold Func.isWrapper; first | (rw [if_pos (by decide +kernel)]; kernel_rfl) | (rw [if_neg (by decide +kernel)]; exact ⟨rfl, rfl⟩))
    (fun os started H enc _ => lifted os started H enc)

/-- ████ THE STATEMENT ████ -/
theorem proved : Rows.FnExactEncodeVarsSaid :=
  over
#print axioms proved
end Go.Proofs.Ytgbmcnmepfpjiaa.fnExactEncodeVars
