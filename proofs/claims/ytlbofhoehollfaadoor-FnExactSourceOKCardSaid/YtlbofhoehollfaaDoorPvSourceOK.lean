/- Plain laws: the law of SourceOK. -/
import Derived.Test.YtlbofhoehollfaaDoorPsSource
import Derived.Test.YtlbofhoehollfaaDoorDwSourceOK
namespace Go.Am.YtlbofhoehollfaaDoor
open Go Go.Am

def srcOK (t : T) : Bool := decide (t.size ≤ 150) && (t.tso && !(holes t))
theorem specSourceOK_ev (t : T) (hsm : t.sm) : Ev fun n => s_SourceOK n t = some (srcOK t) := by
  cases ht : t.tso with
  | false =>
    refine ((small_ev t hsm).and (specSrc_ev t hsm)).mp fun n ⟨h1, h2⟩ => ?_
    unfold s_SourceOK srcOK
    rw [h1, bind_some', h2, ht]
    cases decide (t.size ≤ 150) <;> rfl
  | true =>
    refine ((small_ev t hsm).and ((specSrc_ev t hsm).and (known_ev t hsm (tso_nonneg t ht)))).mp fun n ⟨h1, h2, h3⟩ => ?_
    unfold s_SourceOK srcOK
    rw [h1, bind_some', h2, h3, ht]
    cases decide (t.size ≤ 150) <;> rfl
theorem implSourceOK_ev (t : T) (hsm : t.sm) : Ev fun n => i_SourceOK n t = some (srcOK t) := by
  refine ((implSrc_ev t hsm).and (each_ev t hsm)).mp fun n ⟨h, h2⟩ => ?_
  obtain ⟨l', e, _⟩ := h 150 (by omega) (by omega)
  have e : i_looker_term n (150, true) t = _ := e
  unfold i_SourceOK i_sourceTerm srcOK
  rw [e, bind_some', bind_some', h2, bind_some', show decide (t.size ≤ 150) = decide ((t.size : Int) ≤ 150) from decide_eq_decide.2 (by omega)]
  cases decide ((t.size : Int) ≤ 150) <;> cases t.tso <;> rfl

theorem lawSourceOK_ev (t : T) (hok : t.ok) : Ev fun n => w_FnExactSourceOK n t = some true := by
  by_cases hb : t.sz 1048576 < 0
  · refine (szTree_ev t hok).mp fun n h => ?_
    unfold w_FnExactSourceOK
    rw [h 1048576 (by omega) (by omega), bind_some', if_pos hb]
  · have hsm := sz_sm t 1048576 (by omega) (by omega) (by omega)
    refine ((szTree_ev t hok).and ((toTree_ev t hsm).and ((specSourceOK_ev t hsm).and ((implSourceOK_ev t hsm).and (eqTs_ev t hsm))))).mp fun n h => ?_
    obtain ⟨h1, h2, h3, h4, h5⟩ := h
    unfold w_FnExactSourceOK
    rw [h1 1048576 (by omega) (by omega), bind_some', if_neg hb]
    simp only [h2, h3, h4, h5, bind_some', beq_self_eq_true, Bool.not_true, Bool.false_eq_true, if_false]

theorem lawSourceOK_ok (t : LT) (hok : t.er.ok) (_ : old t.toks) : ∀ tk, 2 ≤ tk → ACalls Go.Proofs.Tryd.prog 10 [.agg t.cells] (fun _ => none) tk (RetX (fun _ => none) tk (fun v _ => v = .bool true)) := by
  intro tk _
  obtain ⟨n, hn⟩ := (lawSourceOK_ev t.er hok).get
  obtain ⟨k, m, s, q, f, ks⟩ := t
  exact w_FnExactSourceOK_ok n k m s q f ks hn _ tk

end Go.Am.YtlbofhoehollfaaDoor
