/- Plain laws: the law EncodeTyping, as a whole. -/
import Derived.Test.YtaedacibojpfkaaPuMark
import Derived.Test.YtaedacibojpfkaaPuB
import Derived.Test.YtaedacibojpfkaaMi4
import Derived.Test.YtaedacibojpfkaaPvEncT
import Derived.Test.YtaedacibojpfkaaPuExpr
import Derived.Test.YtaedacibojpfkaaEqwEncT
namespace Go.Am
open Go

mutual
theorem pmark_snd : ∀ (t : Pf) (k : Int), 0 ≤ k → k + 2 * (t.size : Int) ≤ 9223372036854775807 → (t.mark k).2 = k + 2 * (t.size : Int)
 | .mk a b fs ks, k, h0, h => by
  unfold Pf.size at h ⊢
  rw [show ((Pf.mk a b fs ks).mark k).2 = (pmarks ks (fmarks fs (nx (nx k))).2).2 by simp only [Pf.mark]]
  push_cast at h ⊢
  rw [nx_in' (k := k) (by omega) (by omega), nx_in' (k := k + 1) (by omega) (by omega), fmarks_snd fs _ (by omega) (by omega), pmarks_snd ks _ (by omega) (by omega)]
  omega
theorem pmarks_snd : ∀ (ks : List Pf) (k : Int), 0 ≤ k → k + 2 * (psizes ks : Int) ≤ 9223372036854775807 → (pmarks ks k).2 = k + 2 * (psizes ks : Int)
 | [], k, _, _ => by simp [pmarks, psizes]
 | t :: r, k, h0, h => by
  simp only [psizes] at h ⊢
  push_cast at h ⊢
  simp only [pmarks]
  rw [pmark_snd t k h0 (by omega), pmarks_snd r _ (by omega) (by omega)]
  omega
end

theorem fszS_cnt (fs : List F) (left : Int) (h : 0 ≤ fszS fs left) : (fsizes fs : Int) ≤ left - fszS fs left := by
 unfold fszS at h ⊢
 by_cases hb : left - (fs.length : Int) < 0
 ·rw [if_pos hb] at h; omega
 rw [if_neg hb] at h ⊢
 have := fszs_cnt fs _ h
 omega

mutual
theorem psz_cnt : ∀ (t : Pf) (left : Int), 0 ≤ t.sz left → (t.size : Int) - 1 ≤ left - t.sz left
 | .mk k n fs ks, left, h => by
  rw [psz_eq] at h ⊢
  by_cases hf : fszS fs left < 0
  ·rw [if_pos hf] at h; omega
  rw [if_neg hf] at h ⊢
  unfold pszS at h ⊢
  have h1 := fszS_cnt fs left (by omega)
  by_cases hb : fszS fs left - (ks.length : Int) < 0
  ·rw [if_pos hb] at h; omega
  rw [if_neg hb] at h ⊢
  have := pszs_cnt ks _ h
  simp only [Pf.size]
  push_cast
  omega
theorem pszs_cnt : ∀ (ks : List Pf) (left : Int), 0 ≤ pszs ks left → (psizes ks : Int) - (ks.length : Int) ≤ left - pszs ks left
 | [], left, h => by simp [psizes, pszs]
 | t :: r, left, h => by
  simp only [pszs] at h ⊢
  by_cases hb : t.sz left < 0
  ·rw [if_pos hb] at h; omega
  rw [if_neg hb] at h ⊢
  have h1 := psz_cnt t left (by omega)
  have h2 := pszs_cnt r _ h
  simp only [psizes, List.length_cons]
  push_cast
  omega
end

end Go.Am
namespace Go.Am.Ytaedacibojpfkaa
open Go Go.Am

theorem pmarks_at2 (t : Pf) (k : Int) (h0 : 0 ≤ k) (h : k + 2 * (t.size : Int) ≤ 9223372036854775807) : (Pf.marks t k).2 = k + 2 * ((t.size : Int) - 1) := by
 obtain ⟨a, n, fs, ks⟩ := t
 simp only [Pf.size] at h ⊢
 push_cast at h ⊢
 unfold Pf.marks
 simp only [Pf.forms, Pf.kids]
 rw [fmarks_snd fs k h0 (by omega), pmarks_snd ks _ (by omega) (by omega)]
 omega

theorem heldAt_ev (t : T) (hb : T.nodes t ≤ 1000) : Ev fun n => ∀ k : Int, 0 ≤ k → k ≤ 1000000 → w_markTree t k = some ((tmarks mtx t.kids k).1, k + 3 * (tnodes t.kids : Int)) ∧
  w_heldTree n (T.mk t.kind t.n t.name (tmarks mtx t.kids k).1) k = some (k + 3 * (tnodes t.kids : Int)) := by
 obtain ⟨k0, n0, s, ks⟩ := t
 unfold T.nodes at hb
 refine (heldTrees_ev ks).mp fun m h k h0 h1 => ⟨?_, ?_⟩
 ·unfold w_markTree
  refine congrArg some (Prod.ext rfl ?_)
  exact tmarks_snd mtx ks k h0 (by omega)
 unfold w_heldTree
 have := h k h0 (by omega)
 rw [show (T.mk _ _ _ (tmarks mtx (T.mk k0 n0 s ks).kids k).1).kids = (tmarks mtx ks k).1 from rfl, this, bind_some', if_neg (by omega)]
 rfl

theorem lawEncodeTyping_ev (l : List F) (p : Pf) (hl : l.length ≤ 9223372036854775807) (hlo : ∀ t ∈ l, t.ok) (hok : p.ok) : Ev fun n => w_FnExactEncodeTyping n l p = some (.ok true) := by
 have hsz := szTypeS_ev l hl fun t ht => szType_ev t (hlo t ht)
 by_cases hb : fszS l 1048576 < 0
 ·refine hsz.mp fun n h => ?_
  unfold w_FnExactEncodeTyping
  rw [h 1048576 (by omega) (by omega), bind_some', if_pos hb]
 have hr := fszS_range l 1048576 (by omega)
 by_cases hb2 : p.sz (fszS l 1048576) < 0
 ·refine (hsz.and (szExpr_ev p hok)).mp fun n h => ?_
  unfold w_FnExactEncodeTyping
  rw [h.1 1048576 (by omega) (by omega), bind_some', if_neg hb, h.2 _ (by omega) (by omega), bind_some', if_pos hb2]
 have hsl := fszS_sm (ks := l) (left := 1048576) (by omega) (by omega) (by omega)
 have hsm := psz_sm p (fszS l 1048576) (by omega) (by omega) (by omega)
 have hcl := fszS_cnt l 1048576 (by omega)
 have hcp := psz_cnt p (fszS l 1048576) (by omega)
 have hrp := psz_range p (fszS l 1048576) (by omega)
 obtain ⟨⟨g0, g1, c⟩, n0, n1, ev⟩ := encT_ev l p hsl.2 hsm
 have n0 : T.nodes g0 ≤ 150 := n0
 have n1 : T.nodes g1 ≤ 150 := n1
 refine (hsz.and ((szExpr_ev p hok).and ((toTypeS_ev l hsl.1 fun t ht => toType_ev t (hsl.2 t ht)).and ((toExpr_ev p hsm).and (ev.and ((eqTypeS_ev l hsl.1 fun t ht => eqType_ev t (hsl.2 t ht)).and ((eqExpr_ev p hsm).and ((eqTree_ev g0 (nodes_fits _ (by omega))).and ((eqTree_ev g1 (nodes_fits _ (by omega))).and ((heldAt_ev g0 (by omega)).and (heldAt_ev g1 (by omega)))))))))))).mp fun n h => ?_
 obtain ⟨h1, h2, h3, h4, ⟨h5, h6⟩, h7, h8, h9, h10, h11, h12⟩ := h
 have hm1 : w_markTypeS l 1 = some (fmarks l 1) := rfl
 have hm2 : w_markExpr p (fmarks l 1).2 = some (Pf.marks p (fmarks l 1).2) := rfl
 have hk1 : (fmarks l 1).2 = 1 + 2 * (fsizes l : Int) := fmarks_snd l 1 (by omega) (by omega)
 have hk2 : ¬ (Pf.marks p (fmarks l 1).2).2 < 0 := by
  rw [hk1, pmarks_at2 p _ (by omega) (by omega)]
  have := psize_pos p
  omega
 have b0 : tnodes g0.kids ≤ 150 := by
  obtain ⟨a, b, c, d⟩ := g0
  simp only [T.nodes] at n0
  show tnodes d ≤ 150
  omega
 obtain ⟨a1, a2⟩ := h11 1 (by omega) (by omega)
 obtain ⟨a3, a4⟩ := h12 (1 + 3 * (tnodes g0.kids : Int)) (by omega) (by omega)
 have hneg : ¬ (1 + 3 * (tnodes g0.kids : Int)) < 0 := by omega
 have hneg2 : ¬ (1 + 3 * (tnodes g0.kids : Int) + 3 * (tnodes g1.kids : Int)) < 0 := by omega
 unfold w_FnExactEncodeTyping
 rw [h1 1048576 (by omega) (by omega), bind_some', if_neg hb, h2 _ (by omega) (by omega), bind_some', if_neg hb2]
 simp only [jn_eq, h3, h4, h5, h6, h7, h8, h9, h10, a1, a2, a3, a4, hm1, hm2, F_eta', T_eta, bind_some', zb_ok, Bool.not_true, Bool.false_eq_true, if_false, bne_self_eq_false, if_neg hk2, if_neg hneg, if_neg hneg2]

theorem lawEncodeTyping_ok (l : List LF) (hl : l.length ≤ 9223372036854775807) (hok : ∀ t ∈ l, t.er.ok) (hold : ∀ t ∈ l, old t.toks) (p : LP) (hok1 : p.er.ok) (hold1 : old p.toks) :
  ∀ tk, 2 ≤ tk → ACalls Go.Proofs.Try.prog 8 [.imm 0 3 false (fcellss l), .agg p.cells] (fun _ => none) tk (RetX (fun _ => none) tk (fun v _ => v = .bool true)) := by
 intro tk h2
 obtain ⟨n, hn⟩ := (lawEncodeTyping_ev (fers l) p.er (by rw [fers_length]; exact hl) (fun t ht => by rw [fers_map] at ht; obtain ⟨t', h1, rfl⟩ := List.mem_map.1 ht; exact hok t' h1) hok1).get
 obtain ⟨k, m, p, e, fs, q, f, ks⟩ := p
 rw [LP.toks_eq] at hold1
 exact (w_FnExactEncodeTyping_ok n 0 false l k m p e fs q f ks hn (old_fstoks hold) (fun x hx => hold1 x (List.mem_append.2 (.inl hx))) (fun x hx => hold1 x (List.mem_append.2 (.inr hx))) _ tk rfl h2).mono fun out O' tk' h => h

end Go.Am.Ytaedacibojpfkaa
