/- Plain laws: the law of EncodeProof. -/
import Derived.Test.YtfjmdfipnmmboaaPvPTree
import Derived.Test.YtfjmdfipnmmboaaPuMarkP
import Derived.Test.YtfjmdfipnmmboaaPuProof
import Derived.Test.YtfjmdfipnmmboaaMwEProof
namespace Go.Am.Ytfjmdfipnmmboaa
open Go Go.Am

theorem fftrees_nodes : ∀ fs : List F, tnodes (fftrees fs) ≤ fsizes fs
  | [] => Nat.le_refl _
  | f :: fs => by have := ftree_nodes f; have := fftrees_nodes fs; simp only [fftrees, tnodes, fsizes]; omega
theorem lamk_nodes (k : Int) (t : T) : T.nodes (lamk k t) ≤ 1 + T.nodes t := by
  unfold lamk
  split
  · simp only [T.nodes, tnodes]; omega
  · omega
mutual
theorem ptree_nodes : ∀ t : Pf, T.nodes (Pf.ptree t) + 1 ≤ 2 * t.size
  | .mk k n fs ks => by
    have h1 := fftrees_nodes fs
    have h2 := pptrees_nodes k ks
    unfold Pf.ptree Pf.size
    split
    · simp only [T.nodes, tnodes]; omega
    · simp only [T.nodes, tnodes_app]; omega
theorem pptrees_nodes (k : Int) : ∀ ks : List Pf, tnodes (pptrees k ks) ≤ 2 * psizes ks
  | [] => Nat.zero_le _
  | t :: r => by
    have h1 := ptree_nodes t
    have h2 := pptrees_nodes k r
    have h3 := lamk_nodes k (Pf.ptree t)
    have h4 := psize_pos t
    simp only [pptrees, tnodes, psizes]; omega
end

theorem fftrees_vok : ∀ fs : List F, tvoks (fftrees fs) = true
  | [] => rfl
  | f :: fs => by simp only [fftrees, tvoks, ftree_vok f, fftrees_vok fs]; rfl
theorem tvoks_app : ∀ a b : List T, tvoks (a ++ b) = (tvoks a && tvoks b)
  | [], b => rfl
  | x :: a, b => by simp only [List.cons_append, tvoks, tvoks_app a b, Bool.and_assoc]
theorem lamk_vok (k : Int) {t : T} (h : T.vok t = true) : T.vok (lamk k t) = true := by
  unfold lamk
  split
  · simp only [T.vok, tvoks, h]; rfl
  · exact h

theorem ptree_vok (t : Pf) (h : t.prok = true) : T.vok (Pf.ptree t) = true := by
  induction t using Pf.ind with
  | _ k n fs ks ih =>
    rcases prok_parts h with ⟨rfl, h0, h1, rfl, rfl⟩ | ⟨k2, k7, rfl, hF, hP⟩
    · rw [Pf.ptree, if_pos rfl]
      have : decide (n > 100) = false := decide_eq_false (by omega)
      simp only [T.vok, tvoks, this]; rfl
    · have key : ∀ l : List Pf, (∀ t ∈ l, T.vok (Pf.ptree t) = true) → tvoks (pptrees k l) = true := by
        intro l
        induction l with
        | nil => intro _; rfl
        | cons a r ih2 => intro h; simp only [pptrees, tvoks, Bool.and_eq_true]; exact ⟨lamk_vok k (h a (List.mem_cons_self ..)), ih2 fun t ht => h t (List.mem_cons_of_mem _ ht)⟩
      rw [Pf.ptree, if_neg (by omega)]
      simp only [T.vok, tvoks_app, fftrees_vok, key ks fun t ht => ih t ht (hP t ht)]
      rfl

/-- What EncodeProof answers. -/
def eproof (t : Pf) : T × Int := if decide (t.size ≤ 150) && t.prok then (if T.nodes (Pf.ptree t) ≤ 150 then (Pf.ptree t, 0) else (T.mk 0 0 ⟨#[]⟩ [], 11)) else (T.mk 0 0 ⟨#[]⟩ [], 1)

theorem encodeProof_ev (t : Pf) (hsm : t.sm) : Ev fun n => s_EncodeProof n t = some (eproof t) ∧ i_EncodeProof n t = some (eproof t) := by
  by_cases hok : (decide (t.size ≤ 150) && t.prok) = true
  · have hok' := hok
    simp only [Bool.and_eq_true, decide_eq_true_eq] at hok
    have hn := ptree_nodes t
    have hpv := ptree_vok t hok.2
    have hpf : T.fits (Pf.ptree t) := nodes_fits _ (by omega)
    refine ((specProofOK_ev t hsm).and ((implProofOK_ev t hsm).and ((proofTree_ev t hok.2 hsm).and ((tooBig_ev _ hpv hpf).and (bigS_ev _ hpv hpf))))).mp fun n h => ?_
    obtain ⟨h1, h2, ⟨h3, h4⟩, h5, h6⟩ := h
    rw [hok'] at h1 h2
    have he : eproof t = if T.nodes (Pf.ptree t) ≤ 150 then (Pf.ptree t, 0) else (T.mk 0 0 ⟨#[]⟩ [], 11) := if_pos hok'
    rw [he]
    constructor
    · unfold s_EncodeProof
      rw [h1, bind_some', if_neg (by decide), h3, bind_some', h6, bind_some']
      by_cases hb : T.nodes (Pf.ptree t) ≤ 150
      · rw [if_neg (by simp [hb]), if_pos hb]
      · rw [if_pos (by simp [hb]), if_neg hb]
    · unfold i_EncodeProof i_encoded__fn_i_EncodeProof_c1v i_EncodeProof_c1
      rw [h2, bind_some', if_neg (by decide), h4, bind_some', bind_some', h5, bind_some']
      by_cases hb : T.nodes (Pf.ptree t) ≤ 150
      · rw [if_neg (by simp [hb]), if_pos hb, bind_some']
      · rw [if_pos (by simp [hb]), if_neg hb, bind_some']
  · refine ((specProofOK_ev t hsm).and (implProofOK_ev t hsm)).mp fun n h => ?_
    have hok' : (decide (t.size ≤ 150) && t.prok) = false := by simpa using hok
    rw [hok'] at h
    have he : eproof t = (T.mk 0 0 ⟨#[]⟩ [], 1) := if_neg hok
    rw [he]
    constructor
    · unfold s_EncodeProof
      rw [h.1, bind_some', if_pos (by decide)]
    · unfold i_EncodeProof i_encoded__fn_i_EncodeProof_c1v
      rw [h.2, bind_some', if_pos (by decide), bind_some']

theorem eproof_nodes (t : Pf) : T.nodes (eproof t).1 ≤ 150 := by
  unfold eproof
  split
  · split
    · rename_i h; exact h
    · decide
  · decide

theorem lawEncodeProof_ev (t : Pf) (hok : t.ok) : Ev fun n => w_FnExactEncodeProof n t = some true := by
  by_cases hb : t.sz 1048576 < 0
  · refine (szProof_ev t hok).mp fun n h => ?_
    unfold w_FnExactEncodeProof
    rw [h 1048576 (by omega) (by omega), bind_some', if_pos hb]
  · have hsm := psz_sm t 1048576 (by omega) (by omega) (by omega)
    have hn := eproof_nodes t
    refine ((szProof_ev t hok).and ((toProof_ev t hsm).and ((encodeProof_ev t hsm).and ((eqProof_ev t hsm).and ((eqTree_ev (eproof t).1 (nodes_fits _ (by omega))).and (heldTree_ev (eproof t).1 (by omega))))))).mp fun n h => ?_
    obtain ⟨h1, h2, ⟨h3, h4⟩, h5, h6, h7, h8⟩ := h
    unfold w_FnExactEncodeProof
    rw [h1 1048576 (by omega) (by omega), bind_some', if_neg hb]
    have hm : ∃ p, w_markProof t 1 = some p ∧ ¬ p.2 < 0 := ⟨_, rfl, pmark_pos t (by omega)⟩
    obtain ⟨p, hp1, hp2⟩ := hm
    have hneg : ¬ (1 + 3 * (tnodes (eproof t).1.kids : Int)) < 0 := by omega
    simp only [h2, h3, h4, h5, h6, h7, h8, hp1, bind_some', Bool.not_true, Bool.false_eq_true, if_false, bne_self_eq_false, if_neg hp2, if_neg hneg]

theorem lawEncodeProof_ok (t : LP) (hok : t.er.ok) (hold : old t.toks) : ∀ tk, 2 ≤ tk → ACalls Go.Proofs.Try.prog 5 [.agg t.cells] (fun _ => none) tk (RetX (fun _ => none) tk (fun v _ => v = .bool true)) := by
  intro tk h2
  obtain ⟨n, hn⟩ := (lawEncodeProof_ev t.er hok).get
  obtain ⟨k, m, p, e, fs, q, f, ks⟩ := t
  rw [LP.toks_eq] at hold
  exact w_FnExactEncodeProof_ok n k m p e fs q f ks hn (fun x hx => hold x (List.mem_append.2 (.inl hx))) (fun x hx => hold x (List.mem_append.2 (.inr hx))) _ tk rfl h2

end Go.Am.Ytfjmdfipnmmboaa
