/- Plain laws: what is right. -/
import Derived.Test.YtoajlhhalpldfaaGreatDoorPsFam
namespace Go.Am.YtoajlhhalpldfaaGreatDoor
open Go Go.Am

theorem specFamilyOK_ev (t : T) (hsm : t.sm) : Ev fun n => s_FamilyOK n t = some (decide (t.size ≤ 150) && t.faok false) := by
 refine ((small_ev t hsm).and (specFam_ev t hsm)).mp fun n ⟨h1, h2⟩ => ?_
 unfold s_FamilyOK
 rw [h1, bind_some', h2]
 cases decide (t.size ≤ 150) <;> rfl
theorem implFamilyOK_ev (t : T) (hsm : t.sm) : Ev fun n => i_FamilyOK n t = some (decide (t.size ≤ 150) && t.faok false) := by
 refine (implFamA_ev t hsm).mp fun n h => ?_
 obtain ⟨l', e, _⟩ := h 150 (by omega) (by omega)
 have e : i_looker_family n (150, false) t false = _ := e
 unfold i_FamilyOK
 rw [e, bind_some', show decide (t.size ≤ 150) = decide ((t.size : Int) ≤ 150) from decide_eq_decide.2 (by omega)]

theorem specKindOK_ev (t : T) (hsm : t.sm) : Ev fun n => s_KindOK n t = some (decide (t.size ≤ 150) && t.faok true) := by
 refine ((small_ev t hsm).and (specKind_ev t hsm)).mp fun n ⟨h1, h2⟩ => ?_
 unfold s_KindOK
 rw [h1, bind_some', h2]
 cases decide (t.size ≤ 150) <;> rfl
theorem implKindOK_ev (t : T) (hsm : t.sm) : Ev fun n => i_KindOK n t = some (decide (t.size ≤ 150) && t.faok true) := by
 refine (implKindA_ev t hsm).mp fun n h => ?_
 obtain ⟨l', e, _⟩ := h 150 (by omega) (by omega)
 have e : i_looker_family n (150, false) t true = _ := e
 unfold i_KindOK
 rw [e, bind_some', show decide (t.size ≤ 150) = decide ((t.size : Int) ≤ 150) from decide_eq_decide.2 (by omega)]


end Go.Am.YtoajlhhalpldfaaGreatDoor
