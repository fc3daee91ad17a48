/- Plain laws: what is right. -/
import Derived.Test.YtiobknkpdkkikaaDoorPsTerm
namespace Go.Am.YtiobknkpdkkikaaDoor
open Go Go.Am

theorem specTermOK_ev (t : T) (hsm : t.sm) : Ev fun n => s_TermOK n t = some (decide (t.size ≤ 150) && t.tmok) := by
  refine ((small_ev t hsm).and (specTerm_ev t hsm)).mp fun n ⟨h1, h2⟩ => ?_
  unfold s_TermOK
  rw [h1, bind_some', h2]
  cases decide (t.size ≤ 150) <;> rfl
theorem implTermOK_ev (t : T) (hsm : t.sm) : Ev fun n => i_TermOK n t = some (decide (t.size ≤ 150) && t.tmok) := by
  refine (implTerm_ev t hsm).mp fun n h => ?_
  obtain ⟨l', e, _⟩ := h 150 (by omega) (by omega)
  have e : i_looker_term n (150, false) t = _ := e
  unfold i_TermOK
  rw [e, bind_some', show decide (t.size ≤ 150) = decide ((t.size : Int) ≤ 150) from decide_eq_decide.2 (by omega)]


end Go.Am.YtiobknkpdkkikaaDoor
