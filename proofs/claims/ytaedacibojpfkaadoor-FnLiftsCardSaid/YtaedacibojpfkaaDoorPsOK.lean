/- Plain laws: what is a right term, family, kind, simple type. -/
import Derived.Test.YtaedacibojpfkaaDoorPsFam
import Derived.Test.YtaedacibojpfkaaDoorPsSimple
namespace Go.Am.YtaedacibojpfkaaDoor
open Go Go.Am

theorem implTermOK_ev (t : T) (hsm : t.sm) : Ev fun n => i_TermOK n t = some (decide (t.size ≤ 150) && t.tmok) := by
  refine (implTerm_ev t hsm).mp fun n h => ?_
  obtain ⟨l', e, _⟩ := h 150 (by omega) (by omega)
  have e : i_looker_term n (150, false) t = _ := e
  unfold i_TermOK
  rw [e, bind_some', show decide (t.size ≤ 150) = decide ((t.size : Int) ≤ 150) from decide_eq_decide.2 (by omega)]

theorem implFamilyOK_ev (t : T) (hsm : t.sm) : Ev fun n => i_FamilyOK n t = some (decide (t.size ≤ 150) && t.faok false) := by
  refine (implFamA_ev t hsm).mp fun n h => ?_
  obtain ⟨l', e, _⟩ := h 150 (by omega) (by omega)
  have e : i_looker_family n (150, false) t false = _ := e
  unfold i_FamilyOK
  rw [e, bind_some', show decide (t.size ≤ 150) = decide ((t.size : Int) ≤ 150) from decide_eq_decide.2 (by omega)]

theorem implKindOK_ev (t : T) (hsm : t.sm) : Ev fun n => i_KindOK n t = some (decide (t.size ≤ 150) && t.faok true) := by
  refine (implKindA_ev t hsm).mp fun n h => ?_
  obtain ⟨l', e, _⟩ := h 150 (by omega) (by omega)
  have e : i_looker_family n (150, false) t true = _ := e
  unfold i_KindOK
  rw [e, bind_some', show decide (t.size ≤ 150) = decide ((t.size : Int) ≤ 150) from decide_eq_decide.2 (by omega)]

end Go.Am.YtaedacibojpfkaaDoor
