/- The law FnExactExprOK answers true: what its mirror computes, and its contract. -/
import Derived.Test.YtklchmkanhpeeaaMwExpr
import Derived.Test.YtklchmkanhpeeaaPvExpr
import Derived.Test.YtklchmkanhpeeaaRdA
namespace Go.Am.Ytklchmkanhpeeaa
open Go Go.Am

theorem lawExprOK_ev (t : Pf) (hok : t.ok) : Ev fun n => w_FnExactExprOK n t = some true := by
  have hr := (psz_range t 1048576 (by omega)).1
  by_cases hb : t.sz 1048576 < 0
  · refine (szExpr_ev t hok).mp fun n h => ?_
    unfold w_FnExactExprOK
    rw [h 1048576 (by omega) (by omega), bind_some', if_pos hb]
  · have hsm := psz_sm t 1048576 (by omega) (by omega) (by omega)
    refine ((szExpr_ev t hok).and ((toExpr_ev t hsm).and ((specExprOK_ev t hsm).and ((implExprOK_ev t).and (eqExpr_ev t hsm))))).mp fun n h => ?_
    obtain ⟨h1, h2, h3, h4, h5⟩ := h
    unfold w_FnExactExprOK
    rw [h1 1048576 (by omega) (by omega), bind_some', if_neg hb]
    simp only [h2, h3, h4, h5, bind_some', beq_self_eq_true, Bool.not_true, Bool.false_eq_true, if_false]

theorem lawExprOK_ok (t : LP) (hok : t.er.ok) : ∀ O tk, ACalls Go.Proofs.Try.prog 7 [.agg t.cells] O tk (RetX O tk (fun v _ => v = .bool true)) := by
  intro O tk
  obtain ⟨n, hn⟩ := (lawExprOK_ev t.er hok).get
  obtain ⟨k, m, p, e, fs, q, f, ks⟩ := t
  exact w_FnExactExprOK_ok n k m p e fs q f ks hn O tk

end Go.Am.Ytklchmkanhpeeaa
