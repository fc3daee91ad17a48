/- Plain laws: the law of FamilyOK. -/
import Derived.Test.YtlbofhoehollfaaDoorPsFam
import Derived.Test.YtlbofhoehollfaaDoorDwFamilyOK
namespace Go.Am.YtlbofhoehollfaaDoor
open Go Go.Am

theorem specFamilyOK_ev (t : T) (hsm : t.sm) : Ev fun n => s_FamilyOK n t = some (decide (t.size ≤ 150) && t.faok false) := by
  refine ((small_ev t hsm).and (specFam_ev t hsm)).mp fun n ⟨h1, h2⟩ => ?_
  unfold s_FamilyOK
  rw [h1, bind_some', h2]
  cases decide (t.size ≤ 150) <;> rfl
theorem implFamilyOK_ev (t : T) (hsm : t.sm) : Ev fun n => i_FamilyOK n t = some (decide (t.size ≤ 150) && t.faok false) := by
  refine (implFamA_ev t hsm).mp fun n h => ?_
  obtain ⟨l', e, _⟩ := h 150 (by omega) (by omega)
  have e : i_looker_family n (150, false) t false = _ := e
  unfold i_FamilyOK
  rw [e, bind_some', show decide (t.size ≤ 150) = decide ((t.size : Int) ≤ 150) from decide_eq_decide.2 (by omega)]

theorem lawFamilyOK_ev (t : T) (hok : t.ok) : Ev fun n => w_FnExactFamilyOK n t = some true := by
  by_cases hb : t.sz 1048576 < 0
  · refine (szTree_ev t hok).mp fun n h => ?_
    unfold w_FnExactFamilyOK
    rw [h 1048576 (by omega) (by omega), bind_some', if_pos hb]
  · have hsm := sz_sm t 1048576 (by omega) (by omega) (by omega)
    refine ((szTree_ev t hok).and ((toTree_ev t hsm).and ((specFamilyOK_ev t hsm).and ((implFamilyOK_ev t hsm).and (eqTs_ev t hsm))))).mp fun n h => ?_
    obtain ⟨h1, h2, h3, h4, h5⟩ := h
    unfold w_FnExactFamilyOK
    rw [h1 1048576 (by omega) (by omega), bind_some', if_neg hb]
    simp only [h2, h3, h4, h5, bind_some', beq_self_eq_true, Bool.not_true, Bool.false_eq_true, if_false]

theorem lawFamilyOK_ok (t : LT) (hok : t.er.ok) (_ : old t.toks) : ∀ tk, 2 ≤ tk → ACalls Go.Proofs.Tryd.prog 8 [.agg t.cells] (fun _ => none) tk (RetX (fun _ => none) tk (fun v _ => v = .bool true)) := by
  intro tk _
  obtain ⟨n, hn⟩ := (lawFamilyOK_ev t.er hok).get
  obtain ⟨k, m, s, q, f, ks⟩ := t
  exact w_FnExactFamilyOK_ok n k m s q f ks hn _ tk

end Go.Am.YtlbofhoehollfaaDoor
