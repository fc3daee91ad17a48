/- Plain laws: the law of DecodeForm. -/
import Derived.Test.YtiobknkpdkkikaaDoorEsDForm
import Derived.Test.YtiobknkpdkkikaaDoorEsOKT
import Derived.Test.YtiobknkpdkkikaaDoorPsNod
import Derived.Test.YtiobknkpdkkikaaDoorEsHfForm
import Derived.Test.YtiobknkpdkkikaaDoorEwDForm
namespace Go.Am.YtiobknkpdkkikaaDoor
open Go Go.Am

/-- What DecodeForm answers. -/
def dformV (t : T) : F × Int := if (decide (t.size ≤ 150) && t.tmok) = false then (F.mk 0 0 [], 1) else match t.fmd with | some f => (f, 0) | none => (F.mk 0 0 [], 3)
theorem dformV_size (t : T) : (dformV t).1.size ≤ 150 ∧ (dformV t).1.sm := by
  have h0 : (F.mk 0 0 []).size ≤ 150 ∧ (F.mk 0 0 []).sm := ⟨by decide, by unfold F.sm; exact ⟨by decide, fun t ht => by cases ht⟩⟩
  unfold dformV
  split
  · exact h0
  · rename_i h
    have hs : t.size ≤ 150 := by
      have : (decide (t.size ≤ 150) && t.tmok) = true := by simpa using h
      simp only [Bool.and_eq_true, decide_eq_true_eq] at this
      exact this.1
    cases ht : t.fmd with
    | none => exact h0
    | some f =>
      have := fmd_size t f ht
      exact ⟨by show f.size ≤ 150; omega, this.2⟩
theorem dformBoth_ev (t : T) (hsm : t.sm) : Ev fun n => s_DecodeForm n t = some (dformV t) ∧ i_DecodeForm n t = some (dformV t) := by
  refine ((specTermOK_ev t hsm).and ((implTermOK_ev t hsm).and (fback_ev t))).mp fun n ⟨h1, h2, h3, r, h4, h5⟩ => ?_
  have hi : i_DecodeForm_c1__kv n t (F.mk 0 0 []) = some (match t.fmd with | some f => .ok f | none => .stop 3 0) := by
    unfold i_DecodeForm_c1__kv
    rw [h3]
    cases t.fmd <;> rfl
  unfold dformV s_DecodeForm i_DecodeForm i_badTerm
  rw [h1, h2, bind_some', bind_some', hi, h4]
  cases (decide (t.size ≤ 150) && t.tmok) with
  | false => exact ⟨rfl, rfl⟩
  | true =>
    cases ht : t.fmd with
    | none => exact ⟨rfl, rfl⟩
    | some f => rw [h5 f ht]; exact ⟨rfl, rfl⟩

theorem lawDecodeForm_ev (t : T) (hok : t.ok) : Ev fun n => w_FnExactDecodeForm n t = some true := by
  by_cases hb : t.sz 1048576 < 0
  · refine (szTree_ev t hok).mp fun n h => ?_
    unfold w_FnExactDecodeForm
    rw [h 1048576 (by omega) (by omega), bind_some', if_pos hb]
  · have hsm := sz_sm t 1048576 (by omega) (by omega) (by omega)
    have hsz := sz_size t 1048576 (by omega) (by omega)
    have hr := sz_range t 1048576 (by omega)
    have hns := nodes_size t
    obtain ⟨hn, hfsm⟩ := dformV_size t
    have hk : tnodes t.kids ≤ T.nodes t := by obtain ⟨k, m, s, ks⟩ := t; simp only [T.nodes, T.kids]; omega
    refine ((szTree_ev t hok).and ((toTree_ev t hsm).and ((dformBoth_ev t hsm).and ((eqTs_ev t hsm).and ((heldTree_ev t (by omega)).and ((eqForm_ev (dformV t).1 hfsm).and (heldForm_ev (dformV t).1 (by omega)))))))).mp fun n h => ?_
    obtain ⟨h1, h2, ⟨h3, h4⟩, h5, ⟨h6, _⟩, h7, h8, h9⟩ := h
    unfold w_FnExactDecodeForm
    rw [h1 1048576 (by omega) (by omega), bind_some', if_neg hb]
    have hneg1 : ¬ (1 + 3 * (tnodes t.kids : Int)) < 0 := by omega
    have hneg : ¬ (1 + 2 * (fsizes (dformV t).1.kids : Int)) < 0 := by omega
    simp only [h2, h3, h4, h5, h6, h7, h8, h9, bind_some', Bool.not_true, Bool.false_eq_true, if_false, bne_self_eq_false, if_neg hneg1, if_neg hneg]

theorem lawDecodeForm_ok (t : LT) (hok : t.er.ok) (hold : old t.toks) : ∀ tk, 2 ≤ tk → ACalls Go.Proofs.Tryd.prog 5 [.agg t.cells] (fun _ => none) tk (RetX (fun _ => none) tk (fun v _ => v = .bool true)) := by
  intro tk h2
  obtain ⟨n, hn⟩ := (lawDecodeForm_ev t.er hok).get
  obtain ⟨k, m, s, q, f', ks⟩ := t
  rw [LT.toks_eq] at hold
  exact w_FnExactDecodeForm_ok n k m s q f' ks hn (fun x hx => hold x hx) _ tk rfl h2

end Go.Am.YtiobknkpdkkikaaDoor
