/- Plain laws: the law of DecodeProof. -/
import Derived.Test.YtiobknkpdkkikaaDoorEsDProof
import Derived.Test.YtiobknkpdkkikaaDoorEsOKT
import Derived.Test.YtiobknkpdkkikaaDoorPsNod
import Derived.Test.YtiobknkpdkkikaaDoorEsHfP
namespace Go.Am.YtiobknkpdkkikaaDoor
open Go Go.Am

theorem in12_eq (i : Int) : i_in i 0 12 = some (decide (0 ≤ i) && decide (i ≤ 12)) := by
  unfold i_in
  by_cases h1 : 0 ≤ i <;> by_cases h2 : i ≤ 12 <;> simp [h1, h2]
theorem dproofBoth (t : T) (hsm : t.sm) (i : Int) : ∃ v : Pf × Int, (v.1.size ≤ 150 ∧ v.1.sm) ∧ Ev fun n => s_DecodeProof n t i = some v ∧ i_DecodeProof n t i = some v := by
  have h0 : (Pf.mk 0 0 [] []).size ≤ 150 ∧ (Pf.mk 0 0 [] []).sm := ⟨by decide, by unfold Pf.sm; exact ⟨⟨by decide, fun t ht => by cases ht⟩, by decide, fun t ht => by cases ht⟩⟩
  by_cases hok : (decide (t.size ≤ 150) && t.tmok) = true
  · have hk := hok
    simp only [Bool.and_eq_true, decide_eq_true_eq] at hk
    obtain ⟨o, so, e1, e2⟩ := dproof_ev t.size t (Nat.le_refl _) hk.2 i
    have eo := e1.and e2
    by_cases hi : 0 ≤ i ∧ i ≤ 12
    · refine ⟨match o with | some f => (f, 0) | none => (Pf.mk 0 0 [] [], 3), ?_, ((specTermOK_ev t hsm).and ((implTermOK_ev t hsm).and eo)).mp fun n ⟨h1, h2, h3, r, h4, h5⟩ => ?_⟩
      · cases o with
        | none => exact h0
        | some f => have := so f rfl; exact ⟨by show f.size ≤ 150; omega, this.2⟩
      · have hc : i_DecodeProof_c1__kkv n t i (Pf.mk 0 0 [] []) = some (rbk o) := by
          unfold i_DecodeProof_c1__kkv
          rw [h3]
          cases o <;> rfl
        unfold s_DecodeProof i_DecodeProof i_badTerm
        rw [h1, h2, bind_some', bind_some', in12_eq, decide_eq_true hi.1, decide_eq_true hi.2, hc, h4, if_neg (show ¬ i < 0 by omega), if_neg (show ¬ i > 12 by omega), hok]
        cases o with
        | none => exact ⟨rfl, rfl⟩
        | some f => rw [h5 f rfl]; exact ⟨rfl, rfl⟩
    · refine ⟨(Pf.mk 0 0 [] [], 16), h0, ((specTermOK_ev t hsm).and (implTermOK_ev t hsm)).mp fun n ⟨h1, h2⟩ => ?_⟩
      unfold s_DecodeProof i_DecodeProof i_badTerm
      rw [h1, h2, bind_some', bind_some', in12_eq, hok]
      by_cases h : i < 0
      · rw [if_pos h, decide_eq_false (show ¬ 0 ≤ i by omega)]; exact ⟨rfl, rfl⟩
      · rw [if_neg h, if_pos (show i > 12 by omega), decide_eq_false (show ¬ i ≤ 12 by omega), Bool.and_false]; exact ⟨rfl, rfl⟩
  · refine ⟨(Pf.mk 0 0 [] [], 1), h0, ((specTermOK_ev t hsm).and (implTermOK_ev t hsm)).mp fun n ⟨h1, h2⟩ => ?_⟩
    have hok' : (decide (t.size ≤ 150) && t.tmok) = false := by simpa using hok
    unfold s_DecodeProof i_DecodeProof i_badTerm
    rw [h1, h2, bind_some', bind_some', hok']
    exact ⟨rfl, rfl⟩

theorem lawDecodeProof_ev (t : T) (i : Int) (hok : t.ok) : Ev fun n => w_FnExactDecodeProof n t i = some true := by
  by_cases hb : t.sz 1048576 < 0
  · refine (szTree_ev t hok).mp fun n h => ?_
    unfold w_FnExactDecodeProof
    rw [h 1048576 (by omega) (by omega), bind_some', if_pos hb]
  · have hsm := sz_sm t 1048576 (by omega) (by omega) (by omega)
    have hsz := sz_size t 1048576 (by omega) (by omega)
    have hr := sz_range t 1048576 (by omega)
    have hns := nodes_size t
    obtain ⟨v, ⟨hn, hfsm⟩, ev⟩ := dproofBoth t hsm i
    have hk : tnodes t.kids ≤ T.nodes t := by obtain ⟨k, m, s, ks⟩ := t; simp only [T.nodes, T.kids]; omega
    have hp := psize_pos v.1
    refine ((szTree_ev t hok).and ((toTree_ev t hsm).and (ev.and ((eqTs_ev t hsm).and ((heldTree_ev t (by omega)).and ((eqProof_ev v.1 hfsm).and (heldProof_ev v.1 (by omega)))))))).mp fun n h => ?_
    obtain ⟨h1, h2, ⟨h3, h4⟩, h5, ⟨h6, _⟩, h7, h8, h9⟩ := h
    unfold w_FnExactDecodeProof
    rw [h1 1048576 (by omega) (by omega), bind_some', if_neg hb]
    have hneg1 : ¬ (1 + 3 * (tnodes t.kids : Int)) < 0 := by omega
    have hneg : ¬ (1 + 2 * ((v.1.size : Int) - 1)) < 0 := by omega
    simp only [h2, h3, h4, h5, h6, h7, h8, h9, bind_some', Bool.not_true, Bool.false_eq_true, if_false, bne_self_eq_false, if_neg hneg1, if_neg hneg]

theorem lawDecodeProof_ok (t : LT) (hok : t.er.ok) (hold : old t.toks) (i : Int) (_ : -9223372036854775808 ≤ i ∧ i ≤ 9223372036854775807) : ∀ tk, 2 ≤ tk → ACalls Go.Proofs.Tryd.prog 3 [.agg t.cells, .int .i64 i] (fun _ => none) tk (RetX (fun _ => none) tk (fun v _ => v = .bool true)) := by
  intro tk h2
  obtain ⟨n, hn⟩ := (lawDecodeProof_ev t.er i hok).get
  obtain ⟨k, m, s, q, f', ks⟩ := t
  rw [LT.toks_eq] at hold
  exact w_FnExactDecodeProof_ok n k m s q f' ks i hn (fun x hx => hold x hx) _ tk rfl h2

end Go.Am.YtiobknkpdkkikaaDoor
