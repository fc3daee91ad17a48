/- Plain laws: the law of Occurs. -/
import Derived.Test.YtlbofhoehollfaaDoorPsOcc
import Derived.Test.YtlbofhoehollfaaDoorDwOccurs
namespace Go.Am.YtlbofhoehollfaaDoor
open Go Go.Am

/-- What Occurs answers. -/
def occV (t : T) (v : Int) : Bool × Int := if rightB t = false then (false, 1) else if inB v = true then (t.occ v, 0) else (false, 16)
theorem occBoth_ev (t : T) (v : Int) (hsm : t.sm) : Ev fun n => s_Occurs n t v = some (occV t v) ∧ i_Occurs n t v = some (occV t v) := by
  have hF := fault_ev t hsm [v] (by simp)
  by_cases hr : rightB t = false
  · refine ((specRight_ev t hsm).and hF).mp fun n ⟨h1, h2⟩ => ?_
    unfold occV s_Occurs i_Occurs
    rw [h1, h2, bind_some', bind_some', hr]
    unfold faultV
    rw [hr]
    exact ⟨rfl, rfl⟩
  · have hr : rightB t = true := by simpa using hr
    obtain ⟨_, hs⟩ := right_n100 hr
    refine ((specRight_ev t hsm).and (hF.and (occurs_ev t hsm (by omega)))).mp fun n ⟨h1, h2, h3⟩ => ?_
    unfold occV s_Occurs i_Occurs
    rw [h1, h2, bind_some', bind_some', hr]
    unfold faultV
    rw [hr, List.all_cons, List.all_nil, Bool.and_true]
    by_cases h0 : v < 0
    · have : inB v = false := by unfold inB; rw [decide_eq_false (by omega)]; rfl
      rw [this, if_pos h0]; exact ⟨rfl, rfl⟩
    · by_cases h100 : v > 100
      · have : inB v = false := by unfold inB; rw [decide_eq_false (show ¬ v ≤ 100 by omega), Bool.and_false]
        rw [this, if_neg h0, if_pos h100]; exact ⟨rfl, rfl⟩
      · have : inB v = true := by unfold inB; rw [decide_eq_true (show 0 ≤ v by omega), decide_eq_true (show v ≤ 100 by omega)]; rfl
        obtain ⟨h4, h5⟩ := h3 v (by omega) (by omega)
        rw [this, if_neg h0, if_neg h100, h4, h5]; exact ⟨rfl, rfl⟩

theorem lawOccurs_ev (t : T) (v : Int) (hok : t.ok) : Ev fun n => w_FnExactOccurs n t v = some true := by
  by_cases hb : t.sz 1048576 < 0
  · refine (szTree_ev t hok).mp fun n h => ?_
    unfold w_FnExactOccurs
    rw [h 1048576 (by omega) (by omega), bind_some', if_pos hb]
  · have hsm := sz_sm t 1048576 (by omega) (by omega) (by omega)
    refine ((szTree_ev t hok).and ((toTree_ev t hsm).and ((occBoth_ev t v hsm).and (eqTs_ev t hsm)))).mp fun n h => ?_
    obtain ⟨h1, h2, ⟨h3, h4⟩, h5⟩ := h
    unfold w_FnExactOccurs
    rw [h1 1048576 (by omega) (by omega), bind_some', if_neg hb]
    simp only [h2, h3, h4, h5, bind_some', beq_self_eq_true, bne_self_eq_false, Bool.not_true, Bool.false_eq_true, if_false]

theorem lawOccurs_ok (t : LT) (hok : t.er.ok) (_ : old t.toks) (v : Int) (_ : -9223372036854775808 ≤ v ∧ v ≤ 9223372036854775807) : ∀ tk, 2 ≤ tk → ACalls Go.Proofs.Tryd.prog 11 [.agg t.cells, .int .i64 v] (fun _ => none) tk (RetX (fun _ => none) tk (fun v _ => v = .bool true)) := by
  intro tk _
  obtain ⟨n, hn⟩ := (lawOccurs_ev t.er v hok).get
  obtain ⟨k, m, s, q, f, ks⟩ := t
  exact w_FnExactOccurs_ok n k m s q f ks v hn _ tk

end Go.Am.YtlbofhoehollfaaDoor
