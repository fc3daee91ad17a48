/- The law FnExactEncodeExpr answers true, whatever its arguments: the row. -/
import Derived.Test.YtiobknkpdkkikaaRows
import Derived.WalkKit
import Derived.ProofKit
import Derived.OpenShut
import Derived.Carry
import Derived.Test.YtiobknkpdkkikaaEvEExpr
namespace Go.Proofs.Ytiobknkpdkkikaa.fnExactEncodeExpr
open Go.ChangeShapes Go.WideShapes Go.ChangeAt Go.RowKit

theorem own : ownKnob Try.prog.godebug = none := by kernel_rfl
theorem laidOut : laidOutB Try.prog = true := by kernel_rfl

theorem walk (W : World) (t0 : Go.Am.LP) (hok0 : t0.er.ok) (hold0 : Go.Am.old t0.toks) (cs0 : Array Value) (hl0 : cs0.size = 4) (hr0 : ∀ j v, t0.cells[j]? = some v → Go.Am.RepC (Go.Am.start W) v (cs0.getD j undef)) (n1 : Int) (hn1 : -9223372036854775808 ≤ n1 ∧ n1 ≤ 9223372036854775807) :
    Calls Try.prog 4 #[.agg cs0, .int .i64 n1] W fun e w' => e = .returned (.bool true) ∧ Below W.heap.size W w' := by
  refine Go.Am.calls_of_law (args := [.agg t0.cells, .int .i64 n1]) (Go.Am.Ytiobknkpdkkikaa.lawEncodeExpr_ok t0 hok0 hold0 n1 hn1) rfl (fun j v hj => ?_) (by cases t0; rfl)
  match j, hj with
  | 0, hj =>
    cases hj
    exact .agg _ _ (by rw [Go.Am.pcells_len]; exact hl0) (fun j x hj => Go.Am.alld1_at (Go.Am.pcells_d1 t0) j x hj) hr0
  | 1, hj =>
    cases hj
    exact .int _ _
  | j + 2, hj => simp at hj

set_option maxRecDepth 100000 in
theorem lifted (os : Os) (started : os.Started) (H : Type) (enc : TypeId × Value → H) :
    ReturnsInHanded {} Try.checked os 4 .any (Rows.fnExactEncodeExprSpec.pre6 enc Try.prog Try.f4 Rows.fnExactEncodeExprRow.domain false) (Rows.fnExactEncodeExprSpec.post enc Try.prog Try.f4 false true false false) := by
  refine returnsInHanded_of_change (C := Try.checked) own started (by kernel_rfl) Try.func4
    (ChangeSpec.witness6 (enc := enc) (C := Try.checked) false ⟨#[], #[.agg #[.int .i64 0, .int .i64 0, .slice none 0 0, .slice none 0 0], .int .i64 0], []⟩ 8 (by kernel_rfl) (by kernel_rfl) (by kernel_rfl) (by kernel_rfl)) ?_
  intro W base args ds gs before hval0 hW hcnd _
  have hval : ∀ (j : Nat) t v, Try.f4.params[j]? = some t → args[j]? = some v → Value.okWide Try.prog W .any base t v := hval0
  have hW' := hW
  obtain ⟨p, q, hA0, hV, rfl, hfz, hnd⟩ := hW
  have hA : DataW.TrodAll enc Try.prog W 0 (fun _ => true) true Try.f4.params.toList args.toList ds p := hA0
  rw [Try.params4] at hA hval
  obtain ⟨v0, v1, d0, d1, p0, p1, rfl, rfl, rfl, h0, h1⟩ := trodAll_two hA
  obtain ⟨rfl, rfl⟩ := trodVars_none hV
  clear hA0
  simp only [List.append_nil] at hW'
  have h0k := h0
  have h1k := h1
  obtain ⟨cs0, rfl, _⟩ := okWide_struct Try.underlying25 (hval 0 25 v0 rfl rfl)
  obtain ⟨fuel0, hf0⟩ := h0
  obtain ⟨t0, ⟨hok0, hold0⟩, hl0, hr0⟩ := Go.Am.read_p Try.underlying25 rfl ⟨Try.underlying3, rfl, rfl⟩ ⟨Try.underlying3, rfl, rfl⟩ ⟨Try.underlying22, rfl, rfl⟩ ⟨Try.underlying23, rfl, rfl⟩ rfl (Go.Am.read_f Try.underlying120 rfl ⟨Try.underlying3, rfl, rfl⟩ ⟨Try.underlying3, rfl, rfl⟩ ⟨Try.underlying22, rfl, rfl⟩) fuel0 _ _ hf0
  have hcells0 : (Value.agg cs0).cells.toList = cs0.toList := rfl
  rw [hcells0] at hl0 hr0
  obtain ⟨n1, rfl⟩ := okWide_int Try.underlying3 (hval 1 3 v1 rfl rfl)
  obtain ⟨fuel1, hf1⟩ := h1
  obtain ⟨m1, hm1, _, wm1⟩ := DataW.trod_int Try.underlying3 hf1
  have hmm1 : n1 = m1 := by simpa [Value.cells] using hm1
  subst hmm1
  refine (walk W t0 hok0 hold0 cs0 (by simpa using hl0) (fun j x hj => by have := hr0 j x hj; simpa [Array.getD_eq_getD_getElem?, List.getD_eq_getElem?_getD] using this) n1 (Go.Am.wf_range wm1)).mono fun e W' ⟨he, hb⟩ => ?_
  subst he
  have hlt : ∀ x ∈ (p0 ++ p1), x.block < W.heap.size := fun x hx => by simpa using hW'.lt x hx
  refine ⟨_, rfl, _, _, _, [], (p0 ++ p1), [], hW', trodAll_mk1 (shut_bool Try.underlying4 _), ?_, rfl, hb.frame _, fun h => by cases h⟩
  have e0 := Below.trod laidOut (by kernel_rfl) (of_decide_eq_true (by kernel_rfl)) h0k hb (fun x hx => hlt x (by simp [hx]))
  have e1 := Below.trod laidOut (by kernel_rfl) (of_decide_eq_true (by kernel_rfl)) h1k hb (fun x hx => hlt x (by simp [hx]))
  exact trodAll_mk2 e0 e1

theorem over : Rows.fnExactEncodeExprRow.holds Try.pinned (OpenSpec.ofChange Rows.fnExactEncodeExprSpec) :=
  OpenClaim.holds_of_wide 4 Try.f4 rfl rfl rfl rfl rfl rfl rfl ⟨rfl, rfl, rfl, rfl, rfl⟩ rfl rfl rfl rfl rfl (by kernel_rfl) Try.func4 (by kernel_rfl)
    (of_decide_eq_true (by kernel_rfl)) (by unfold Func.isWrapper; first | (rw [if_pos (by decide +kernel)]; kernel_rfl) | (rw [if_neg (by decide +kernel)]; exact ⟨rfl, rfl⟩))
    (fun os started H enc _ => lifted os started H enc)

/-- ████ THE STATEMENT ████ -/
theorem proved : Rows.FnExactEncodeExprSaid :=
  over
#print axioms proved
end Go.Proofs.Ytiobknkpdkkikaa.fnExactEncodeExpr
