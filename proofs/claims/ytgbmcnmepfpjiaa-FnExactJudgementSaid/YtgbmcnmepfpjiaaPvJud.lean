/- Plain laws: the law of Judgement. -/
import Derived.Test.YtgbmcnmepfpjiaaPvFTree
import Derived.Test.YtgbmcnmepfpjiaaMwJud
namespace Go.Am.Ytgbmcnmepfpjiaa
open Go Go.Am

/-- The family that says that a form has a proof. -/
def pf (t : T) : T := T.mk 3 0 ⟨#[112, 102]⟩ [t]
theorem pf_nodes (t : T) : T.nodes (pf t) = 1 + T.nodes t := by unfold pf; simp only [T.nodes, tnodes, Nat.add_zero]
theorem pf_vok {t : T} (h : T.vok t = true) : T.vok (pf t) = true := by unfold pf; simp only [T.vok, tvoks, h]; rfl

/-- What Judgement answers. -/
def jtree (t : F) : T × Int := if decide (t.size ≤ 150) && t.fmok then (if T.nodes (pf (F.ftree t)) ≤ 150 then (pf (F.ftree t), 0) else (T.mk 0 0 ⟨#[]⟩ [], 11)) else (T.mk 0 0 ⟨#[]⟩ [], 1)

theorem judgement_ev (t : F) (hsm : t.sm) : Ev fun n => s_Judgement n t = some (jtree t) ∧ i_Judgement n t = some (jtree t) := by
  by_cases hok : (decide (t.size ≤ 150) && t.fmok) = true
  · have hok' := hok
    simp only [Bool.and_eq_true, decide_eq_true_eq] at hok
    have hn := ftree_nodes t
    have hpn := pf_nodes (F.ftree t)
    have hpv := pf_vok (ftree_vok t)
    have hpf : T.fits (pf (F.ftree t)) := nodes_fits _ (by omega)
    refine ((specFormOK_ev t hsm).and ((implFormOK_ev t).and ((formTree_ev t hok.2).and ((tooBig_ev _ hpv hpf).and (bigS_ev _ hpv hpf))))).mp fun n h => ?_
    obtain ⟨h1, h2, ⟨h3, h4⟩, h5, h6⟩ := h
    rw [hok'] at h1 h2
    have he : jtree t = if T.nodes (pf (F.ftree t)) ≤ 150 then (pf (F.ftree t), 0) else (T.mk 0 0 ⟨#[]⟩ [], 11) := if_pos hok'
    rw [he]
    constructor
    · unfold s_Judgement
      rw [h1, bind_some', if_neg (by decide), h3, bind_some']
      have h6' : s_l03Big n (T.mk 3 0 ⟨#[112, 102]⟩ [F.ftree t]) = some (decide (¬ T.nodes (pf (F.ftree t)) ≤ 150)) := h6
      rw [h6', bind_some']
      by_cases hb : T.nodes (pf (F.ftree t)) ≤ 150
      · rw [if_neg (by simp [hb]), if_pos hb]; rfl
      · rw [if_pos (by simp [hb]), if_neg hb]
    · unfold i_Judgement i_encoded__fn_i_Judgement_c1v i_Judgement_c1 i_judgement
      rw [h2, bind_some', if_neg (by decide), h4, bind_some', bind_some', bind_some']
      have h5' : i_tooBig n (T.mk 3 0 ⟨#[112, 102]⟩ [F.ftree t]) = some (decide (¬ T.nodes (pf (F.ftree t)) ≤ 150)) := h5
      rw [h5', bind_some']
      by_cases hb : T.nodes (pf (F.ftree t)) ≤ 150
      · rw [if_neg (by simp [hb]), if_pos hb, bind_some']; rfl
      · rw [if_pos (by simp [hb]), if_neg hb, bind_some']
  · refine ((specFormOK_ev t hsm).and (implFormOK_ev t)).mp fun n h => ?_
    have hok' : (decide (t.size ≤ 150) && t.fmok) = false := by simpa using hok
    rw [hok'] at h
    have he : jtree t = (T.mk 0 0 ⟨#[]⟩ [], 1) := if_neg hok
    rw [he]
    constructor
    · unfold s_Judgement
      rw [h.1, bind_some', if_pos (by decide)]
    · unfold i_Judgement i_encoded__fn_i_Judgement_c1v
      rw [h.2, bind_some', if_pos (by decide), bind_some']

theorem jtree_nodes (t : F) : T.nodes (jtree t).1 ≤ 150 := by
  unfold jtree
  split
  · split
    · rename_i h; exact h
    · decide
  · decide

theorem lawJudgement_ev (t : F) (hok : t.ok) : Ev fun n => w_FnExactJudgement n t = some true := by
  by_cases hb : t.sz 1048576 < 0
  · refine (szForm_ev t hok).mp fun n h => ?_
    unfold w_FnExactJudgement
    rw [h 1048576 (by omega) (by omega), bind_some', if_pos hb]
  · have hsm := fsz_sm t 1048576 (by omega) (by omega) (by omega)
    have hn := jtree_nodes t
    refine ((szForm_ev t hok).and ((toForm_ev t hsm).and ((judgement_ev t hsm).and ((eqForm_ev t hsm).and ((eqTree_ev (jtree t).1 (nodes_fits _ (by omega))).and (heldTree_ev (jtree t).1 (by omega))))))).mp fun n h => ?_
    obtain ⟨h1, h2, ⟨h3, h4⟩, h5, h6, h7, h8⟩ := h
    unfold w_FnExactJudgement
    rw [h1 1048576 (by omega) (by omega), bind_some', if_neg hb]
    have hm : ∃ p, w_markForm t 1 = some p ∧ ¬ p.2 < 0 := ⟨_, rfl, fmark_pos t (by omega)⟩
    obtain ⟨p, hp1, hp2⟩ := hm
    have hneg : ¬ (1 + 3 * (tnodes (jtree t).1.kids : Int)) < 0 := by omega
    simp only [h2, h3, h4, h5, h6, h7, h8, hp1, bind_some', Bool.not_true, Bool.false_eq_true, if_false, bne_self_eq_false, if_neg hp2, if_neg hneg]

theorem lawJudgement_ok (t : LF) (hok : t.er.ok) (hold : old t.toks) : ∀ tk, 2 ≤ tk → ACalls Go.Proofs.Try.prog 5 [.agg t.cells] (fun _ => none) tk (RetX (fun _ => none) tk (fun v _ => v = .bool true)) := by
  intro tk h2
  obtain ⟨n, hn⟩ := (lawJudgement_ev t.er hok).get
  obtain ⟨k, m, q, f, ks⟩ := t
  rw [LF.toks_eq] at hold
  exact w_FnExactJudgement_ok n k m q f ks hn hold _ tk rfl h2

end Go.Am.Ytgbmcnmepfpjiaa
