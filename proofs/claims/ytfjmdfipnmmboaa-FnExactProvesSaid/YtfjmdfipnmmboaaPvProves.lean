/- Plain laws: the law of Proves. -/
import Derived.Test.YtfjmdfipnmmboaaPvProvesA
import Derived.Test.YtfjmdfipnmmboaaPuHypS
import Derived.Test.YtfjmdfipnmmboaaPuProof
import Derived.Test.YtfjmdfipnmmboaaPuMarkP
import Derived.Test.YtfjmdfipnmmboaaHfForm
import Derived.Test.YtfjmdfipnmmboaaMwProves
import Derived.Test.YtfjmdfipnmmboaaRdA
namespace Go.Am.Ytfjmdfipnmmboaa
open Go Go.Am

theorem F_eta (f : F) : F.mk f.kind f.n f.kids = f := by cases f; rfl

/-- What Proves answers. -/
def pvl (l : List F) (p : Pf) : F × Int × Int :=
  if 4096 < l.length then (F.zz, 2, 0) else if (decide (l.length ≤ 12) && l.all hgd) && (decide (p.size ≤ 150) && p.prok) then (p.pv l 0).enc else (F.zz, 1, 0)

theorem provesBoth_ev (l : List F) (p : Pf) (hl : ∀ t ∈ l, t.sm) (hp : p.sm) : Ev fun n => s_Proves n l p = some (pvl l p) ∧ i_Proves n l p = some (pvl l p) := by
  by_cases h4 : 4096 < l.length
  · have he : pvl l p = (F.zz, 2, 0) := if_pos h4
    rw [he]
    refine (longs_ev l).mp fun n h => ⟨?_, ?_⟩
    · unfold s_Proves; rw [if_pos (by omega)]; rfl
    · unfold i_Proves; rw [h, bind_some', if_pos (by simpa using h4)]; rfl
  · have h4' : l.length ≤ 4096 := by omega
    by_cases hok : ((decide (l.length ≤ 12) && l.all hgd) && (decide (p.size ≤ 150) && p.prok)) = true
    · have hok2 := hok
      simp only [Bool.and_eq_true, decide_eq_true_eq] at hok2
      obtain ⟨⟨ho1, ho2⟩, ho3, ho4⟩ := hok2
      have he : pvl l p = (p.pv l 0).enc := by unfold pvl; rw [if_neg h4, if_pos hok]
      rw [he]
      have hps := ppsz_le p
      have hcs : (p.concl l).sm := concl_sm hp hl
      refine ((longs_ev l).and ((hypsOK_ev l h4' hl).and ((specProofOK_ev p hp).and ((implProofOK_ev p hp).and ((proves_ev p ho4 hp (by omega) l hl (by omega)).and ((clone_ev _ hcs).and ((copyS_ev _ hcs).and (copyS_ev F.zz fzz_sm)))))))).mp fun n h => ?_
      obtain ⟨h1, ⟨h2, h3⟩, h4a, h5, h6, h7, h8, h9⟩ := h
      obtain ⟨h6i, h6s⟩ := h6 0 (by omega) (by omega)
      have hA : (decide (l.length ≤ 12) && l.all hgd) = true := by rw [ho2, decide_eq_true ho1]; rfl
      have hB : (decide (p.size ≤ 150) && p.prok) = true := by rw [ho4, decide_eq_true ho3]; rfl
      rw [hA] at h2 h3
      rw [hB] at h4a h5
      constructor
      · unfold s_Proves
        rw [if_neg (by omega), h2, bind_some', if_neg (by decide), h4a, bind_some', if_neg (by decide), h6s, bind_some']
        cases hz : p.pv l 0 with
        | stop c q => show (s_l08Copy n F.zz).bind _ = _; rw [h9]; rfl
        | ok f =>
          obtain rfl := pv_ok hz
          show (s_l08Copy n (p.concl l)).bind _ = _; rw [h8]; rfl
      · unfold i_Proves i_Proves_c1
        rw [h1, bind_some', if_neg (by simpa using h4), h3, bind_some', if_neg (by decide), h5, bind_some', if_neg (by decide), h6i, zb_some]
        cases hz : p.pv l 0 with
        | stop c q =>
          have hc := pv_stop p l 0 c q hz
          show (if (c != 0) = true then some (F.mk 0 0 [], c, q) else none) = _
          rw [if_pos (by simp [hc])]; rfl
        | ok f =>
          obtain rfl := pv_ok hz
          show (if ((0 : Int) != 0) = true then some (F.mk 0 0 [], (0 : Int), (0 : Int)) else (i_cloneForm n (p.concl l)).bind fun r39 => some (r39, (0 : Int), (0 : Int))) = some (p.concl l, 0, 0)
          rw [if_neg (by decide), h7]; rfl
    · have he : pvl l p = (F.zz, 1, 0) := by unfold pvl; rw [if_neg h4, if_neg hok]
      rw [he]
      refine ((longs_ev l).and ((hypsOK_ev l h4' hl).and ((specProofOK_ev p hp).and (implProofOK_ev p hp)))).mp fun n h => ?_
      obtain ⟨h1, ⟨h2, h3⟩, h4a, h5⟩ := h
      constructor
      · unfold s_Proves
        rw [if_neg (by omega), h2, bind_some', h4a]
        cases hA : (decide (l.length ≤ 12) && l.all hgd) with
        | false => rw [if_pos (by decide)]; rfl
        | true =>
          have hB : (decide (p.size ≤ 150) && p.prok) = false := by
            cases hB : (decide (p.size ≤ 150) && p.prok) with
            | false => rfl
            | true => rw [hA, hB] at hok; exact absurd rfl hok
          rw [if_neg (by decide), bind_some', hB, if_pos (by decide)]; rfl
      · unfold i_Proves
        rw [h1, bind_some', if_neg (by simpa using h4), h3, bind_some', h5]
        cases hA : (decide (l.length ≤ 12) && l.all hgd) with
        | false => rw [if_pos (by decide)]; rfl
        | true =>
          have hB : (decide (p.size ≤ 150) && p.prok) = false := by
            cases hB : (decide (p.size ≤ 150) && p.prok) with
            | false => rfl
            | true => rw [hA, hB] at hok; exact absurd rfl hok
          rw [if_neg (by decide), bind_some', hB, if_pos (by decide)]; rfl

theorem fsizes_at {fs : List F} {i : Nat} {x : F} (h : fs[i]? = some x) : x.size ≤ fsizes fs := by
  have := List.mem_of_getElem? h
  obtain ⟨a, b, rfl⟩ := List.append_of_mem this
  rw [fsizes_app]; simp only [fsizes]; omega
theorem fa_size (fs : List F) : (fa fs).size ≤ fsizes fs + 1 := by
  unfold fa
  cases e : fs[0]? with
  | none => show F.zz.size ≤ _; unfold F.zz F.size; simp [fsizes]
  | some x => have := fsizes_at e; show x.size ≤ _; omega
theorem fb_size (fs : List F) : (fb fs).size ≤ fsizes fs + 1 := by
  unfold fb
  cases e : fs[1]? with
  | none => show (F.mk 4 0 []).size ≤ _; unfold F.size; simp [fsizes]
  | some x => have := fsizes_at e; show x.size ≤ _; omega
theorem pout_size (k : Int) (a b : F) : (pout k a b).size ≤ 1 + a.size + b.size := by
  unfold pout
  repeat' split
  all_goals first | omega | (simp only [F.size, fsizes]; omega)
theorem concl_size (t : Pf) (hs : List F) (ht : t.size ≤ 150) (hh : ∀ f ∈ hs, f.size ≤ 150) : (t.concl hs).size ≤ 1000 := by
  obtain ⟨k, n, fs, ks⟩ := t
  simp only [Pf.size] at ht
  simp only [Pf.concl]
  split
  · cases e : hs[hs.length - 1 - n.toNat]? with
    | none => show F.zz.size ≤ _; unfold F.zz F.size; simp [fsizes]
    | some x => have := hh x (List.mem_of_getElem? e); show x.size ≤ _; omega
  · have := pout_size k (fa fs) (fb fs)
    have := fa_size fs
    have := fb_size fs
    omega
theorem pvl_fine (l : List F) (p : Pf) (hl : ∀ t ∈ l, t.sm) (hp : p.sm) : (pvl l p).1.sm ∧ (pvl l p).1.size ≤ 1000 := by
  have hz : F.zz.sm ∧ F.zz.size ≤ 1000 := ⟨fzz_sm, by unfold F.zz F.size; simp [fsizes]⟩
  unfold pvl
  split
  · exact hz
  · split
    · rename_i hok
      simp only [Bool.and_eq_true, decide_eq_true_eq] at hok
      cases hq : p.pv l 0 with
      | stop c q => exact hz
      | ok f =>
        obtain rfl := pv_ok hq
        refine ⟨concl_sm hp hl, concl_size p l hok.2.1 fun f hf => ?_⟩
        have := List.all_eq_true.1 hok.1.2 f hf
        simp only [hgd, Bool.and_eq_true, decide_eq_true_eq] at this
        exact this.1
    · exact hz

theorem pmarks_at (t : Pf) (k : Int) (h0 : 0 ≤ k) (h : k + 2 * (t.size : Int) ≤ 9223372036854775807) : (Pf.marks t k).2 = k + 2 * ((t.size : Int) - 1) := by
  obtain ⟨a, n, fs, ks⟩ := t
  simp only [Pf.size] at h ⊢
  push_cast at h ⊢
  unfold Pf.marks
  simp only [Pf.forms, Pf.kids]
  rw [fmarks_snd fs k h0 (by omega), pmarks_snd ks _ (by omega) (by omega)]
  omega

theorem lawProves_ev (l : List F) (p : Pf) (hl : l.length ≤ 9223372036854775807) (hlo : ∀ t ∈ l, t.ok) (hok : p.ok) : Ev fun n => w_FnExactProves n l p = some true := by
  have hsz := szFormS_ev l hl fun t ht => szForm_ev t (hlo t ht)
  by_cases hb : fszS l 1048576 < 0
  · refine hsz.mp fun n h => ?_
    unfold w_FnExactProves
    rw [h 1048576 (by omega) (by omega), bind_some', if_pos hb]
  · have hr := fszS_range l 1048576 (by omega)
    by_cases hb2 : p.sz (fszS l 1048576) < 0
    · refine (hsz.and (szProof_ev p hok)).mp fun n h => ?_
      unfold w_FnExactProves
      rw [h.1 1048576 (by omega) (by omega), bind_some', if_neg hb, h.2 _ (by omega) (by omega), bind_some', if_pos hb2]
    · have hsl := fszS_sm (ks := l) (left := 1048576) (by omega) (by omega) (by omega)
      have hsm := psz_sm p (fszS l 1048576) (by omega) (by omega) (by omega)
      have hcl := fszS_cnt l 1048576 (by omega)
      have hcp := psz_cnt p (fszS l 1048576) (by omega)
      have hrp := psz_range p (fszS l 1048576) (by omega)
      obtain ⟨hf1, hf2⟩ := pvl_fine l p hsl.2 hsm
      refine (hsz.and ((szProof_ev p hok).and ((toFormS_ev l hsl.1 fun t ht => toForm_ev t (hsl.2 t ht)).and ((toProof_ev p hsm).and ((provesBoth_ev l p hsl.2 hsm).and ((eqFormS_ev l hsl.1 fun t ht => eqForm_ev t (hsl.2 t ht)).and ((eqProof_ev p hsm).and ((eqForm_ev _ hf1).and (heldForm_ev (pvl l p).1 (by omega)))))))))).mp fun n h => ?_
      obtain ⟨h1, h2, h3, h4, ⟨h5, h6⟩, h7, h8, h9, h10, h11⟩ := h
      have hm1 : w_markFormS l 1 = some (fmarks l 1) := rfl
      have hm2 : w_markProof p (fmarks l 1).2 = some (Pf.marks p (fmarks l 1).2) := rfl
      have hk1 : (fmarks l 1).2 = 1 + 2 * (fsizes l : Int) := fmarks_snd l 1 (by omega) (by omega)
      have hk2 : ¬ (Pf.marks p (fmarks l 1).2).2 < 0 := by
        rw [hk1, pmarks_at p _ (by omega) (by omega)]
        have := psize_pos p
        omega
      have hneg : ¬ (1 + 2 * (fsizes (pvl l p).1.kids : Int)) < 0 := by omega
      unfold w_FnExactProves
      rw [h1 1048576 (by omega) (by omega), bind_some', if_neg hb, h2 _ (by omega) (by omega), bind_some', if_neg hb2]
      simp only [jn_eq, h3, h4, h5, h6, h7, h8, h9, h10, h11, hm1, hm2, F_eta, bind_some', Bool.not_true, Bool.false_eq_true, if_false, bne_self_eq_false, if_neg hk2, if_neg hneg]

theorem lawProves_ok (l : List LF) (hl : l.length ≤ 9223372036854775807) (hok : ∀ t ∈ l, t.er.ok) (hold : ∀ t ∈ l, old t.toks) (p : LP) (hok1 : p.er.ok) (hold1 : old p.toks) :
    ∀ tk, 2 ≤ tk → ACalls Go.Proofs.Try.prog 7 [.imm 0 3 false (fcellss l), .agg p.cells] (fun _ => none) tk (RetX (fun _ => none) tk (fun v _ => v = .bool true)) := by
  intro tk h2
  obtain ⟨n, hn⟩ := (lawProves_ev (fers l) p.er (by rw [fers_length]; exact hl) (fun t ht => by rw [fers_map] at ht; obtain ⟨t', h1, rfl⟩ := List.mem_map.1 ht; exact hok t' h1) hok1).get
  obtain ⟨k, m, p, e, fs, q, f, ks⟩ := p
  rw [LP.toks_eq] at hold1
  exact w_FnExactProves_ok n 0 false l k m p e fs q f ks hn (old_fstoks hold) (fun x hx => hold1 x (List.mem_append.2 (.inl hx))) (fun x hx => hold1 x (List.mem_append.2 (.inr hx))) _ tk rfl h2

end Go.Am.Ytfjmdfipnmmboaa
