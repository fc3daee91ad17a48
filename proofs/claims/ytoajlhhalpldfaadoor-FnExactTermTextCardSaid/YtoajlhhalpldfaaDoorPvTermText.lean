/- Plain laws: the law of TermText. -/
import Derived.Test.YtoajlhhalpldfaaDoorPtText
import Derived.Test.YtoajlhhalpldfaaDoorTqL
namespace Go.Am.YtoajlhhalpldfaaDoor
open Go Go.Am

def txOut (t : T) (d : Int) : ByteArray × Int :=
 if !(decide (t.size ≤ 150) && t.tso) then (⟨#[]⟩, 1) else if d < 0 ∨ d > 100 then (⟨#[]⟩, 16) else if t.clo d then (t.tx d, 0) else (⟨#[]⟩, 7)
theorem specText_ev (t : T) (d : Int) (hsm : t.sm) : Ev fun n => s_TermText n t d = some (txOut t d) := by
 by_cases hs : t.size ≤ 150
 ·cases ht : t.tso with
  | false =>
   refine ((small_ev t hsm).and (specSrc_ev t hsm)).mp fun n ⟨h1, h2⟩ => ?_
   unfold s_TermText txOut
   rw [h1, bind_some', h2, ht, decide_eq_true hs]; rfl
  | true =>
   by_cases h0 : d < 0
   ·refine ((small_ev t hsm).and (specSrc_ev t hsm)).mp fun n ⟨h1, h2⟩ => ?_
    unfold s_TermText txOut
    rw [h1, bind_some', h2, ht, decide_eq_true hs, if_pos (show d < 0 ∨ d > 100 from .inl h0)]
    show (if d < 0 then _ else _) = _
    rw [if_pos h0]; rfl
   by_cases h1 : d > 100
   ·refine ((small_ev t hsm).and (specSrc_ev t hsm)).mp fun n ⟨h1', h2⟩ => ?_
    unfold s_TermText txOut
    rw [h1', bind_some', h2, ht, decide_eq_true hs, if_pos (show d < 0 ∨ d > 100 from .inr h1)]
    show (if d < 0 then _ else _) = _
    rw [if_neg h0, if_pos h1]; rfl
   have hc := clo_ev t hsm d (by omega) (by omega)
   cases hcl : t.clo d with
   | false =>
    refine ((small_ev t hsm).and ((specSrc_ev t hsm).and hc)).mp fun n ⟨h1', h2, h3⟩ => ?_
    unfold s_TermText txOut
    rw [h1', bind_some', h2, ht, decide_eq_true hs, if_neg (show ¬ (d < 0 ∨ d > 100) by omega), h3, hcl]
    show (if d < 0 then _ else _) = _
    rw [if_neg h0, if_neg h1]; rfl
   | true =>
    refine ((small_ev t hsm).and ((specSrc_ev t hsm).and (hc.and (sterm_ev t hsm (srcB_of t ht) d (by omega) (by omega) hcl)))).mp fun n ⟨h1', h2, h3, h4⟩ => ?_
    unfold s_TermText txOut
    rw [h1', bind_some', h2, ht, decide_eq_true hs, if_neg (show ¬ (d < 0 ∨ d > 100) by omega), h3, hcl, h4]
    show (if d < 0 then _ else _) = _
    rw [if_neg h0, if_neg h1]; rfl
 refine (small_ev t hsm).mp fun n h1 => ?_
 unfold s_TermText txOut
 rw [h1, bind_some', decide_eq_false hs]; rfl

theorem implText_ev (t : T) (d : Int) (hsm : t.sm) : Ev fun n => i_TermText n t d = some (txOut t d) := by
 have hS : Ev fun n => i_sourceTerm n t = some (decide (t.size ≤ 150) && t.tso) := by
  refine (implSrc_ev t hsm).mp fun n h => ?_
  obtain ⟨l', e, _⟩ := h 150 (by omega) (by omega)
  have e : i_looker_term n (150, true) t = _ := e
  unfold i_sourceTerm
  rw [e, bind_some', show decide (t.size ≤ 150) = decide ((t.size : Int) ≤ 150) from decide_eq_decide.2 (by omega)]
 cases hb : (decide (t.size ≤ 150) && t.tso) with
 | false =>
  refine hS.mp fun n h => ?_
  unfold i_TermText txOut
  rw [h, hb, bind_some']; rfl
 | true =>
  have hp : t.size ≤ 150 ∧ t.tso = true := by simpa using hb
  by_cases hd : d < 0 ∨ d > 100
  ·refine hS.mp fun n h => ?_
   unfold i_TermText i_told__fn_i_TermText_c1kk txOut
   rw [h, hb, bind_some', in_eq, if_pos hd]
   have : (decide (0 ≤ d) && decide (d ≤ 100)) = false := by
    rcases hd with q | q
    ·rw [decide_eq_false (by omega)]; rfl
    rw [decide_eq_false (show ¬ d ≤ 100 by omega), Bool.and_false]
   rw [this]; rfl
  refine (hS.and (iterm_ev t hsm (srcB_of t hp.2) d (by omega) (by omega))).mp fun n ⟨h, h2⟩ => ?_
  unfold i_TermText i_told__fn_i_TermText_c1kk i_told_c1__of_i_TermText_c1_kv i_TermText_c1__kk txOut
  rw [h, hb, bind_some', in_eq, if_neg hd]
  have : (decide (0 ≤ d) && decide (d ≤ 100)) = true := by rw [decide_eq_true (by omega), decide_eq_true (by omega)]; rfl
  rw [this, h2]
  cases t.clo d <;> rfl

theorem lawTermText_ev (t : T) (d : Int) (hok : t.ok) : Ev fun n => w_FnExactTermText n t d = some true := by
 by_cases hb : t.sz 1048576 < 0
 ·refine (szTree_ev t hok).mp fun n h => ?_
  unfold w_FnExactTermText
  rw [h 1048576 (by omega) (by omega), bind_some', if_pos hb]
 have hsm := sz_sm t 1048576 (by omega) (by omega) (by omega)
 refine ((szTree_ev t hok).and ((toTree_ev t hsm).and ((specText_ev t d hsm).and ((implText_ev t d hsm).and (eqTs_ev t hsm))))).mp fun n h => ?_
 obtain ⟨h1, h2, h3, h4, h5⟩ := h
 unfold w_FnExactTermText
 rw [h1 1048576 (by omega) (by omega), bind_some', if_neg hb]
 simp only [h2, h3, h4, h5, bind_some', beq_self_eq_true, bne_self_eq_false, Bool.not_true, Bool.false_eq_true, if_false]

theorem lawTermText_ok (t : LT) (hok : t.er.ok) (_ : old t.toks) (d : Int) (_ : -9223372036854775808 ≤ d ∧ d ≤ 9223372036854775807) : ∀ tk, 2 ≤ tk → ACalls Go.Proofs.Tryd.prog 3 [.agg t.cells, .int .i64 d] (fun _ => none) tk (RetX (fun _ => none) tk (fun v _ => v = .bool true)) := by
 intro tk _
 obtain ⟨n, hn⟩ := (lawTermText_ev t.er d hok).get
 obtain ⟨k, m, s, q, f, ks⟩ := t
 exact w_FnExactTermText_ok n k m s q f ks d hn _ tk

end Go.Am.YtoajlhhalpldfaaDoor
