/- Plain laws: the law of EncodeForm. -/
import Derived.Test.YtgbmcnmepfpjiaaPvFTree
import Derived.Test.YtgbmcnmepfpjiaaMwEForm
namespace Go.Am.Ytgbmcnmepfpjiaa
open Go Go.Am

/-- What EncodeForm answers. -/
def eform (t : F) : T × Int := if decide (t.size ≤ 150) && t.fmok then (F.ftree t, 0) else (T.mk 0 0 ⟨#[]⟩ [], 1)

theorem encodeForm_ev (t : F) (hsm : t.sm) : Ev fun n => s_EncodeForm n t = some (eform t) ∧ i_EncodeForm n t = some (eform t) := by
  by_cases hok : (decide (t.size ≤ 150) && t.fmok) = true
  · have hok' := hok
    simp only [Bool.and_eq_true, decide_eq_true_eq] at hok
    have hn := ftree_nodes t
    refine ((specFormOK_ev t hsm).and ((implFormOK_ev t).and ((formTree_ev t hok.2).and (tooBig_ev (F.ftree t) (ftree_vok t) (nodes_fits _ (by omega)))))).mp fun n h => ?_
    obtain ⟨h1, h2, ⟨h3, h4⟩, h5⟩ := h
    rw [hok'] at h1 h2
    have he : eform t = (F.ftree t, 0) := if_pos hok'
    rw [he]
    constructor
    · unfold s_EncodeForm
      rw [h1, bind_some', if_neg (by decide), h3, bind_some']
    · unfold i_EncodeForm i_encoded__fn_i_EncodeForm_c1v i_EncodeForm_c1
      rw [h2, bind_some', if_neg (by decide), h4, bind_some', bind_some', h5, bind_some', if_neg (by simp; omega), bind_some']
  · refine ((specFormOK_ev t hsm).and (implFormOK_ev t)).mp fun n h => ?_
    have hok' : (decide (t.size ≤ 150) && t.fmok) = false := by simpa using hok
    rw [hok'] at h
    have he : eform t = (T.mk 0 0 ⟨#[]⟩ [], 1) := if_neg hok
    rw [he]
    constructor
    · unfold s_EncodeForm
      rw [h.1, bind_some', if_pos (by decide)]
    · unfold i_EncodeForm i_encoded__fn_i_EncodeForm_c1v
      rw [h.2, bind_some', if_pos (by decide), bind_some']

theorem eform_nodes (t : F) : T.nodes (eform t).1 ≤ 150 := by
  unfold eform
  split
  · rename_i h
    simp only [Bool.and_eq_true, decide_eq_true_eq] at h
    have := ftree_nodes t
    show T.nodes (F.ftree t) ≤ 150
    omega
  · decide

theorem lawEncodeForm_ev (t : F) (hok : t.ok) : Ev fun n => w_FnExactEncodeForm n t = some true := by
  by_cases hb : t.sz 1048576 < 0
  · refine (szForm_ev t hok).mp fun n h => ?_
    unfold w_FnExactEncodeForm
    rw [h 1048576 (by omega) (by omega), bind_some', if_pos hb]
  · have hsm := fsz_sm t 1048576 (by omega) (by omega) (by omega)
    have hn := eform_nodes t
    refine ((szForm_ev t hok).and ((toForm_ev t hsm).and ((encodeForm_ev t hsm).and ((eqForm_ev t hsm).and ((eqTree_ev (eform t).1 (nodes_fits _ (by omega))).and (heldTree_ev (eform t).1 (by omega))))))).mp fun n h => ?_
    obtain ⟨h1, h2, ⟨h3, h4⟩, h5, h6, h7, h8⟩ := h
    unfold w_FnExactEncodeForm
    rw [h1 1048576 (by omega) (by omega), bind_some', if_neg hb]
    have hm : ∃ p, w_markForm t 1 = some p ∧ ¬ p.2 < 0 := ⟨_, rfl, fmark_pos t (by omega)⟩
    obtain ⟨p, hp1, hp2⟩ := hm
    have hneg : ¬ (1 + 3 * (tnodes (eform t).1.kids : Int)) < 0 := by omega
    simp only [h2, h3, h4, h5, h6, h7, h8, hp1, bind_some', Bool.not_true, Bool.false_eq_true, if_false, bne_self_eq_false, if_neg hp2, if_neg hneg]

theorem lawEncodeForm_ok (t : LF) (hok : t.er.ok) (hold : old t.toks) : ∀ tk, 2 ≤ tk → ACalls Go.Proofs.Try.prog 4 [.agg t.cells] (fun _ => none) tk (RetX (fun _ => none) tk (fun v _ => v = .bool true)) := by
  intro tk h2
  obtain ⟨n, hn⟩ := (lawEncodeForm_ev t.er hok).get
  obtain ⟨k, m, q, f, ks⟩ := t
  rw [LF.toks_eq] at hold
  exact w_FnExactEncodeForm_ok n k m q f ks hn hold _ tk rfl h2

end Go.Am.Ytgbmcnmepfpjiaa
