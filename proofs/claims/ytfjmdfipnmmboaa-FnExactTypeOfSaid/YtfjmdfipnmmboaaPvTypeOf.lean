/- Plain laws: the law of TypeOf. -/
import Derived.Test.YtfjmdfipnmmboaaPvTypeA
import Derived.Test.YtfjmdfipnmmboaaPuTypS
import Derived.Test.YtfjmdfipnmmboaaPuExpr
import Derived.Test.YtfjmdfipnmmboaaPuMarkP
import Derived.Test.YtfjmdfipnmmboaaHfType
import Derived.Test.YtfjmdfipnmmboaaMwTypeOf
import Derived.Test.YtfjmdfipnmmboaaRdA
namespace Go.Am.Ytfjmdfipnmmboaa
open Go Go.Am

theorem F_eta (f : F) : F.mk f.kind f.n f.kids = f := by cases f; rfl

/-- What TypeOf answers. -/
def tvl (l : List F) (p : Pf) : F × Int × Int :=
  if 4096 < l.length then (F.zz, 2, 0) else if (decide (l.length ≤ 12) && l.all tgd) && (decide (p.size ≤ 150) && p.exok) then (p.tv l 0).enc else (F.zz, 1, 0)

theorem typeBoth_ev (l : List F) (p : Pf) (hl : ∀ t ∈ l, t.sm) (hp : p.sm) : Ev fun n => s_TypeOf n l p = some (tvl l p) ∧ i_TypeOf n l p = some (tvl l p) := by
  by_cases h4 : 4096 < l.length
  · have he : tvl l p = (F.zz, 2, 0) := if_pos h4
    rw [he]
    refine (longs_ev l).mp fun n h => ⟨?_, ?_⟩
    · unfold s_TypeOf; rw [if_pos (by omega)]; rfl
    · unfold i_TypeOf; rw [h, bind_some', if_pos (by simpa using h4)]; rfl
  · have h4' : l.length ≤ 4096 := by omega
    by_cases hok : ((decide (l.length ≤ 12) && l.all tgd) && (decide (p.size ≤ 150) && p.exok)) = true
    · have hok2 := hok
      simp only [Bool.and_eq_true, decide_eq_true_eq] at hok2
      obtain ⟨⟨ho1, ho2⟩, ho3, ho4⟩ := hok2
      have he : tvl l p = (p.tv l 0).enc := by unfold tvl; rw [if_neg h4, if_pos hok]
      rw [he]
      have hps := ppsz_le p
      have hcs : (p.ty l).sm := ty_sm p hp l hl
      refine ((longs_ev l).and ((typesOK_ev l h4' hl).and ((specExprOK_ev p hp).and ((implExprOK_ev p).and ((typeOf_ev p ho4 hp (by omega) l (fun f hf => ⟨hl f hf, by have := List.all_eq_true.1 ho2 f hf; simp only [tgd, Bool.and_eq_true, decide_eq_true_eq] at this; exact this.2⟩) (by omega)).and ((clone_ev _ hcs).and ((copyS_ev _ hcs).and (copyS_ev F.zz fzz_sm)))))))).mp fun n h => ?_
      obtain ⟨h1, ⟨h2, h3⟩, h4a, h5, h6, h7, h8, h9⟩ := h
      obtain ⟨h6i, h6s⟩ := h6 0 (by omega) (by omega)
      have hA : (decide (l.length ≤ 12) && l.all tgd) = true := by rw [ho2, decide_eq_true ho1]; rfl
      have hB : (decide (p.size ≤ 150) && p.exok) = true := by rw [ho4, decide_eq_true ho3]; rfl
      rw [hA] at h2 h3
      rw [hB] at h4a h5
      constructor
      · unfold s_TypeOf
        rw [if_neg (by omega), h2, bind_some', if_neg (by decide), h4a, bind_some', if_neg (by decide), h6s, bind_some']
        cases hz : p.tv l 0 with
        | stop c q => show (s_l09Copy n F.zz).bind _ = _; rw [h9]; rfl
        | ok f =>
          obtain rfl := tv_ok _ _ _ _ hz
          show (s_l09Copy n (p.ty l)).bind _ = _; rw [h8]; rfl
      · unfold i_TypeOf i_TypeOf_c1
        rw [h1, bind_some', if_neg (by simpa using h4), h3, bind_some', if_neg (by decide), h5, bind_some', if_neg (by decide), h6i, zb_some]
        cases hz : p.tv l 0 with
        | stop c q =>
          have hc := tv_stop p l 0 c q hz
          show (if (c != 0) = true then some (F.mk 0 0 [], c, q) else none) = _
          rw [if_pos (by simp [hc])]; rfl
        | ok f =>
          obtain rfl := tv_ok _ _ _ _ hz
          show (if ((0 : Int) != 0) = true then some (F.mk 0 0 [], (0 : Int), (0 : Int)) else (i_cloneType n (p.ty l)).bind fun r39 => some (r39, (0 : Int), (0 : Int))) = some (p.ty l, 0, 0)
          rw [if_neg (by decide), h7]; rfl
    · have he : tvl l p = (F.zz, 1, 0) := by unfold tvl; rw [if_neg h4, if_neg hok]
      rw [he]
      refine ((longs_ev l).and ((typesOK_ev l h4' hl).and ((specExprOK_ev p hp).and (implExprOK_ev p)))).mp fun n h => ?_
      obtain ⟨h1, ⟨h2, h3⟩, h4a, h5⟩ := h
      constructor
      · unfold s_TypeOf
        rw [if_neg (by omega), h2, bind_some', h4a]
        cases hA : (decide (l.length ≤ 12) && l.all tgd) with
        | false => rw [if_pos (by decide)]; rfl
        | true =>
          have hB : (decide (p.size ≤ 150) && p.exok) = false := by
            cases hB : (decide (p.size ≤ 150) && p.exok) with
            | false => rfl
            | true => rw [hA, hB] at hok; exact absurd rfl hok
          rw [if_neg (by decide), bind_some', hB, if_pos (by decide)]; rfl
      · unfold i_TypeOf
        rw [h1, bind_some', if_neg (by simpa using h4), h3, bind_some', h5]
        cases hA : (decide (l.length ≤ 12) && l.all tgd) with
        | false => rw [if_pos (by decide)]; rfl
        | true =>
          have hB : (decide (p.size ≤ 150) && p.exok) = false := by
            cases hB : (decide (p.size ≤ 150) && p.exok) with
            | false => rfl
            | true => rw [hA, hB] at hok; exact absurd rfl hok
          rw [if_neg (by decide), bind_some', hB, if_pos (by decide)]; rfl

theorem fsizes_at {fs : List F} {i : Nat} {x : F} (h : fs[i]? = some x) : x.size ≤ fsizes fs := by
  have := List.mem_of_getElem? h
  obtain ⟨a, b, rfl⟩ := List.append_of_mem this
  rw [fsizes_app]; simp only [fsizes]; omega
theorem fa_size (fs : List F) : (fa fs).size ≤ fsizes fs + 1 := by
  unfold fa
  cases e : fs[0]? with
  | none => show F.zz.size ≤ _; unfold F.zz F.size; simp [fsizes]
  | some x => have := fsizes_at e; show x.size ≤ _; omega
theorem fb_size (fs : List F) : (fb fs).size ≤ fsizes fs + 1 := by
  unfold fb
  cases e : fs[1]? with
  | none => show (F.mk 4 0 []).size ≤ _; unfold F.size; simp [fsizes]
  | some x => have := fsizes_at e; show x.size ≤ _; omega
theorem ty_size (t : Pf) : ∀ (hs : List F) (S : Nat), (∀ f ∈ hs, f.size ≤ S) → (t.ty hs).size ≤ S + 4 * t.size + 4 := by
  induction t using Pf.ind with
  | _ k n fs ks ih =>
    intro hs S hh
    match ks, ih with
    | [], _ =>
      rw [Pf.ty]
      cases e : hs[hs.length - 1 - n.toNat]? with
      | none => show F.zz.size ≤ _; unfold F.zz F.size; simp [fsizes]
      | some x => have := hh x (List.mem_of_getElem? e); show x.size ≤ _; omega
    | [x], ih =>
      rw [Pf.ty]
      have hf := fa_size fs
      have := ih x (by simp) (hs ++ [fa fs]) (S + (fa fs).size) (fun f hf => by
        rcases List.mem_append.1 hf with h | h
        · have := hh f h; omega
        · simp at h; subst h; omega)
      simp only [F.size, fsizes, Pf.size, psizes]
      omega
    | x :: y :: r, ih =>
      rw [Pf.ty]
      have := ih x (by simp) hs S hh
      have h2 := fb_size (x.ty hs).kids
      have h3 : fsizes (x.ty hs).kids + 1 = (x.ty hs).size := by
        generalize x.ty hs = q
        obtain ⟨u, v, l⟩ := q
        simp only [F.size, F.kids]; omega
      simp only [Pf.size, psizes]
      omega
theorem tvl_fine (l : List F) (p : Pf) (hl : ∀ t ∈ l, t.sm) (hp : p.sm) : (tvl l p).1.sm ∧ (tvl l p).1.size ≤ 1000 := by
  have hz : F.zz.sm ∧ F.zz.size ≤ 1000 := ⟨fzz_sm, by unfold F.zz F.size; simp [fsizes]⟩
  unfold tvl
  split
  · exact hz
  · split
    · rename_i hok
      simp only [Bool.and_eq_true, decide_eq_true_eq] at hok
      cases hq : p.tv l 0 with
      | stop c q => exact hz
      | ok f =>
        obtain rfl := tv_ok _ _ _ _ hq
        refine ⟨ty_sm p hp l hl, Nat.le_trans (ty_size p l 150 fun f hf => ?_) (by omega)⟩
        have := List.all_eq_true.1 hok.1.2 f hf
        simp only [tgd, Bool.and_eq_true, decide_eq_true_eq] at this
        exact this.1
    · exact hz

theorem pmarks_at (t : Pf) (k : Int) (h0 : 0 ≤ k) (h : k + 2 * (t.size : Int) ≤ 9223372036854775807) : (Pf.marks t k).2 = k + 2 * ((t.size : Int) - 1) := by
  obtain ⟨a, n, fs, ks⟩ := t
  simp only [Pf.size] at h ⊢
  push_cast at h ⊢
  unfold Pf.marks
  simp only [Pf.forms, Pf.kids]
  rw [fmarks_snd fs k h0 (by omega), pmarks_snd ks _ (by omega) (by omega)]
  omega

theorem lawTypeOf_ev (l : List F) (p : Pf) (hl : l.length ≤ 9223372036854775807) (hlo : ∀ t ∈ l, t.ok) (hok : p.ok) : Ev fun n => w_FnExactTypeOf n l p = some true := by
  have hsz := szTypeS_ev l hl fun t ht => szType_ev t (hlo t ht)
  by_cases hb : fszS l 1048576 < 0
  · refine hsz.mp fun n h => ?_
    unfold w_FnExactTypeOf
    rw [h 1048576 (by omega) (by omega), bind_some', if_pos hb]
  · have hr := fszS_range l 1048576 (by omega)
    by_cases hb2 : p.sz (fszS l 1048576) < 0
    · refine (hsz.and (szExpr_ev p hok)).mp fun n h => ?_
      unfold w_FnExactTypeOf
      rw [h.1 1048576 (by omega) (by omega), bind_some', if_neg hb, h.2 _ (by omega) (by omega), bind_some', if_pos hb2]
    · have hsl := fszS_sm (ks := l) (left := 1048576) (by omega) (by omega) (by omega)
      have hsm := psz_sm p (fszS l 1048576) (by omega) (by omega) (by omega)
      have hcl := fszS_cnt l 1048576 (by omega)
      have hcp := psz_cnt p (fszS l 1048576) (by omega)
      have hrp := psz_range p (fszS l 1048576) (by omega)
      obtain ⟨hf1, hf2⟩ := tvl_fine l p hsl.2 hsm
      refine (hsz.and ((szExpr_ev p hok).and ((toTypeS_ev l hsl.1 fun t ht => toType_ev t (hsl.2 t ht)).and ((toExpr_ev p hsm).and ((typeBoth_ev l p hsl.2 hsm).and ((eqTypeS_ev l hsl.1 fun t ht => eqType_ev t (hsl.2 t ht)).and ((eqExpr_ev p hsm).and ((eqType_ev _ hf1).and (heldType_ev (tvl l p).1 (by omega)))))))))).mp fun n h => ?_
      obtain ⟨h1, h2, h3, h4, ⟨h5, h6⟩, h7, h8, h9, h10, h11⟩ := h
      have hm1 : w_markTypeS l 1 = some (fmarks l 1) := rfl
      have hm2 : w_markExpr p (fmarks l 1).2 = some (Pf.marks p (fmarks l 1).2) := rfl
      have hk1 : (fmarks l 1).2 = 1 + 2 * (fsizes l : Int) := fmarks_snd l 1 (by omega) (by omega)
      have hk2 : ¬ (Pf.marks p (fmarks l 1).2).2 < 0 := by
        rw [hk1, pmarks_at p _ (by omega) (by omega)]
        have := psize_pos p
        omega
      have hneg : ¬ (1 + 2 * (fsizes (tvl l p).1.kids : Int)) < 0 := by omega
      unfold w_FnExactTypeOf
      rw [h1 1048576 (by omega) (by omega), bind_some', if_neg hb, h2 _ (by omega) (by omega), bind_some', if_neg hb2]
      simp only [jn_eq, h3, h4, h5, h6, h7, h8, h9, h10, h11, hm1, hm2, F_eta, bind_some', Bool.not_true, Bool.false_eq_true, if_false, bne_self_eq_false, if_neg hk2, if_neg hneg]

theorem lawTypeOf_ok (l : List LF) (hl : l.length ≤ 9223372036854775807) (hok : ∀ t ∈ l, t.er.ok) (hold : ∀ t ∈ l, old t.toks) (p : LP) (hok1 : p.er.ok) (hold1 : old p.toks) :
    ∀ tk, 2 ≤ tk → ACalls Go.Proofs.Try.prog 4 [.imm 0 3 false (fcellss l), .agg p.cells] (fun _ => none) tk (RetX (fun _ => none) tk (fun v _ => v = .bool true)) := by
  intro tk h2
  obtain ⟨n, hn⟩ := (lawTypeOf_ev (fers l) p.er (by rw [fers_length]; exact hl) (fun t ht => by rw [fers_map] at ht; obtain ⟨t', h1, rfl⟩ := List.mem_map.1 ht; exact hok t' h1) hok1).get
  obtain ⟨k, m, p, e, fs, q, f, ks⟩ := p
  rw [LP.toks_eq] at hold1
  exact w_FnExactTypeOf_ok n 0 false l k m p e fs q f ks hn (old_fstoks hold) (fun x hx => hold1 x (List.mem_append.2 (.inl hx))) (fun x hx => hold1 x (List.mem_append.2 (.inr hx))) _ tk rfl h2

end Go.Am.Ytfjmdfipnmmboaa
