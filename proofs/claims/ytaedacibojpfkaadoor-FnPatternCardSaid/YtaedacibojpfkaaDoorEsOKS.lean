/- Plain laws: what is right. -/
import Derived.Test.YtaedacibojpfkaaDoorPsSimple
namespace Go.Am.YtaedacibojpfkaaDoor
open Go Go.Am

theorem specSimpleOK_ev (t : T) (hsm : t.sm) : Ev fun n => s_SimpleOK n t = some (decide (t.size ≤ 150) && t.simok) := by
  refine ((small_ev t hsm).and (specSimple_ev t hsm)).mp fun n ⟨h1, h2⟩ => ?_
  unfold s_SimpleOK
  rw [h1, bind_some', h2]
  cases decide (t.size ≤ 150) <;> rfl
theorem implSimpleOK_ev (t : T) (hsm : t.sm) : Ev fun n => i_SimpleOK n t = some (decide (t.size ≤ 150) && t.simok) := by
  refine (implSimple_ev t hsm).mp fun n h => ?_
  obtain ⟨l', e, _⟩ := h 150 (by omega) (by omega)
  have e : i_looker_simple n (150, false) t = _ := e
  unfold i_SimpleOK
  rw [e, bind_some', show decide (t.size ≤ 150) = decide ((t.size : Int) ≤ 150) from decide_eq_decide.2 (by omega)]



end Go.Am.YtaedacibojpfkaaDoor
