/- Plain laws of draws: forms and hypotheses. -/
import Derived.Test.YtaedacibojpfkaaGsP
import Derived.Test.YtaedacibojpfkaaPdA
import Derived.Test.YtaedacibojpfkaaPuSame
import Derived.Test.YtaedacibojpfkaaPuFm
namespace Go.Am.Ytaedacibojpfkaa
open Go Go.Am

/-- How many bytes the drawing of a form takes at most; how many nodes the form has at most. -/
def fcost : Nat → Int
  | 0 => 4
  | m + 1 => 2 * fcost m + 3
def fnods : Nat → Nat
  | 0 => 1
  | m + 1 => 2 * fnods m + 1
theorem fcost_pos : ∀ m, 4 ≤ fcost m
  | 0 => Int.le_refl _
  | m + 1 => by have := fcost_pos m; simp only [fcost]; omega
theorem fnods_pos : ∀ m, 1 ≤ fnods m
  | 0 => Nat.le_refl _
  | m + 1 => by have := fnods_pos m; simp only [fnods]; omega

/-- Right forms are small at each node. -/
theorem fmok_sm (f : F) : f.fmok = true → f.sm := by
  induction f using F.ind with
  | _ k n ks ih =>
    intro h
    unfold F.fmok at h
    unfold F.sm
    split at h
    · simp only [Bool.and_eq_true, decide_eq_true_eq] at h
      exact ⟨by omega, fun t ht => by have := List.length_pos_of_mem ht; omega⟩
    · split at h
      · simp only [Bool.and_eq_true, decide_eq_true_eq] at h
        exact ⟨by omega, fun t ht => ih t ht (ffmoks_mem h.2.2 t ht)⟩
      · split at h
        · simp only [Bool.and_eq_true, decide_eq_true_eq] at h
          exact ⟨by omega, fun t ht => by have := List.length_pos_of_mem ht; omega⟩
        · cases h

theorem two_fmok {k : Int} (hk : k = 2 ∨ k = 3) {a b : F} (ha : a.fmok = true) (hb : b.fmok = true) : (F.mk k 0 [a, b]).fmok = true := by
  unfold F.fmok
  rw [if_neg (by omega), if_pos hk]
  simp [ffmoks, ha, hb]
theorem two_parts {f : F} (h : f.fmok = true) (hk : f.kind = 2 ∨ f.kind = 3) : ∃ a b, f = F.mk f.kind 0 [a, b] ∧ a.fmok = true ∧ b.fmok = true := by
  obtain ⟨k, n, ks⟩ := f
  have hk' : k = 2 ∨ k = 3 := hk
  unfold F.fmok at h
  rw [if_neg (by omega), if_pos hk'] at h
  simp only [Bool.and_eq_true, decide_eq_true_eq] at h
  obtain ⟨rfl, hl, hm⟩ := h
  match ks, hl, hm with
  | [a, b], _, hm =>
    simp only [ffmoks, Bool.and_eq_true] at hm
    exact ⟨a, b, rfl, hm.1, hm.2.1⟩
theorem bot_parts {f : F} (h : f.fmok = true) (hk : f.kind = 4) : f = F.mk 4 0 [] := by
  obtain ⟨k, n, ks⟩ := f
  have hk' : k = 4 := hk
  subst hk'
  unfold F.fmok at h
  rw [if_neg (by omega), if_neg (by omega), if_pos rfl] at h
  simp only [Bool.and_eq_true, decide_eq_true_eq] at h
  obtain ⟨rfl, hl⟩ := h
  rw [List.length_eq_zero_iff.1 hl]

theorem form_dr {c : List Int} (hc : Byt c) : ∀ (m : Nat) {K : Int} {z : List Int × Int × Int}, Dr c K z → m ≤ 30 → 0 ≤ K → K + fcost m ≤ 1000000000000 →
    ∃ f z', (Ev fun n => s_l00Src_form n z (m : Int) = some (f, z')) ∧ f.fmok = true ∧ f.size ≤ fnods m ∧ Dr c (K + fcost m) z' := by
  intro m
  have leaf : ∀ {K : Int} {z : List Int × Int × Int}, Dr c K z → K + 2 ≤ 1000000000000 → ∃ f z', ((s_l00Src_chance z 6).bind fun r81 => if r81.1 = true then some ((F.mk 4 0 []), (r81.2.1, r81.2.2.1, r81.2.2.2)) else (s_l00Src_next (r81.2.1, r81.2.2.1, r81.2.2.2) 3).bind fun r94 => some ((F.mk 1 r94.1 []), (r94.2.1, r94.2.2.1, r94.2.2.2))) = some (f, z') ∧ f.fmok = true ∧ f.size ≤ 1 ∧ Dr c (K + 2) z' := by
    intro K z h hK
    obtain ⟨b, z1, e1, h1⟩ := chance_dr hc h (by omega) (n := 6) (by omega) (by omega)
    rw [e1, bind_some']
    cases b with
    | true => exact ⟨_, _, rfl, rfl, by decide, h1.mono (by omega)⟩
    | false =>
      rw [if_neg (by simp)]
      obtain ⟨r, z2, e2, r0, r1, h2⟩ := next_dr hc h1 (by omega) (n := 3) (by omega) (by omega)
      have e2' : s_l00Src_next (z1.1, z1.2.1, z1.2.2) 3 = some (r, z2) := e2
      refine ⟨F.mk 1 r [], z2, ?_, ?_, by simp [F.size, fsizes], h2.mono (by omega)⟩
      · show (s_l00Src_next (z1.1, z1.2.1, z1.2.2) 3).bind _ = _
        rw [e2', bind_some']
      · unfold F.fmok
        rw [if_pos rfl]
        simp only [Bool.and_eq_true, decide_eq_true_eq]
        exact ⟨r0, by omega, rfl⟩
  induction m with
  | zero =>
    intro K z h _ h0 hK
    simp only [fcost] at hK
    obtain ⟨f, z', e, h1, h2, h3⟩ := leaf h (by omega)
    refine ⟨f, z', (Ev.of (p := fun _ => True) fun _ => trivial).up 0 fun n _ _ => ?_, h1, h2, h3.mono (by simp only [fcost]; omega)⟩
    rw [s_l00Src_form, if_neg (by decide)]
    exact e
  | succ m ih =>
    intro K z h hm h0 hK
    have hp := fcost_pos m
    simp only [fcost] at hK
    obtain ⟨b, z1, e1, h1⟩ := chance_dr hc h (by omega) (n := 3) (by omega) (by omega)
    have e1' : s_l00Src_chance (z.1, z.2.1, z.2.2) 3 = some (b, z1) := e1
    cases b with
    | true =>
      obtain ⟨f, z', e, q1, q2, q3⟩ := leaf h1 (by omega)
      refine ⟨f, z', (Ev.of (p := fun _ => True) fun _ => trivial).up 0 fun n _ _ => ?_, q1, Nat.le_trans q2 (fnods_pos _), q3.mono (by simp only [fcost]; omega)⟩
      rw [s_l00Src_form, if_pos (by omega), e1', bind_some', if_neg (by simp)]
      exact e
    | false =>
      obtain ⟨r, z2, e2, r0, r1, h2⟩ := next_dr hc h1 (by omega) (n := 2) (by omega) (by omega)
      have e2' : s_l00Src_next (z1.1, z1.2.1, z1.2.2) 2 = some (r, z2) := e2
      obtain ⟨f1, z3, e3, a1, a2, h3⟩ := ih h2 (by omega) (by omega) (by omega)
      obtain ⟨f2, z4, e4, b1, b2, h4⟩ := ih h3 (by omega) (by omega) (by omega)
      refine ⟨F.mk (2 + r) 0 [f1, f2], z4, (e3.and e4).up 0 fun n _ ⟨q3, q4⟩ => ?_, two_fmok (by omega) a1 b1, ?_, h4.mono (by simp only [fcost]; omega)⟩
      · rw [s_l00Src_form, if_pos (by omega), e1', bind_some', if_pos (by simp)]
        show (s_l00Src_next (z1.1, z1.2.1, z1.2.2) 2).bind _ = _
        have em : IntKind.i64.wrap (((m + 1 : Nat) : Int) - 1) = (m : Int) := by rw [w64_eq (by omega) (by omega)]; omega
        have q3' : s_l00Src_form n (z2.1, z2.2.1, z2.2.2) (m : Int) = some (f1, z3) := q3
        have q4' : s_l00Src_form n (z3.1, z3.2.1, z3.2.2) (m : Int) = some (f2, z4) := q4
        rw [e2', bind_some', em]
        show (s_l00Src_form n (z2.1, z2.2.1, z2.2.2) (m : Int)).bind _ = _
        rw [q3', bind_some']
        show (s_l00Src_form n (z3.1, z3.2.1, z3.2.2) (m : Int)).bind _ = _
        rw [q4', bind_some']
        show some (F.mk (IntKind.i64.wrap (2 + r)) 0 [f1, f2], _) = _
        rw [w64_eq (by omega) (by omega)]
      · simp only [F.size, fsizes, fnods]; omega

/-- Drawn hypotheses. -/
theorem hyps_lp {c : List Int} (hc : Byt c) : ∀ (i : Nat) {K : Int} {z : List Int × Int × Int} {l : List F}, Dr c K z → i ≤ 4 → 0 ≤ K → K + 100 * i ≤ 100000 → l.length ≤ 100 - i → (∀ f ∈ l, f.fmok = true ∧ f.size ≤ 7) →
    ∃ l' z', (Ev fun n => ∀ m, i < m → s_l00Src_hyps_L1 n m (i : Int) z.1 z.2.1 z.2.2 l = some (l', z')) ∧ l'.length ≤ l.length + i ∧ (∀ f ∈ l', f.fmok = true ∧ f.size ≤ 7) ∧ Dr c (K + 100 * i) z'
  | 0, K, z, l, h, _, h0, hK, hl, hf => ⟨l, z, .of fun n m hm => by
      obtain ⟨m, rfl⟩ : ∃ k, m = k + 1 := ⟨m - 1, by omega⟩
      rw [s_l00Src_hyps_L1, if_neg (by decide)], by omega, hf, h.mono (by omega)⟩
  | i + 1, K, z, l, h, hi, h0, hK, hl, hf => by
    obtain ⟨r, z1, e1, r0, r1, h1⟩ := next_dr hc h (by omega) (n := 3) (by omega) (by omega)
    have hc2 : fcost r.toNat ≤ 25 := by
      have : r.toNat = 0 ∨ r.toNat = 1 ∨ r.toNat = 2 := by omega
      rcases this with h | h | h <;> rw [h] <;> decide
    have hn2 : fnods r.toNat ≤ 7 := by
      have : r.toNat = 0 ∨ r.toNat = 1 ∨ r.toNat = 2 := by omega
      rcases this with h | h | h <;> rw [h] <;> decide
    obtain ⟨f, z2, e2, a1, a2, h2⟩ := form_dr hc r.toNat h1 (by omega) (by omega) (by omega)
    have er : ((r.toNat : Nat) : Int) = r := by omega
    rw [er] at e2
    obtain ⟨l', z', e3, b1, b2, h3⟩ := hyps_lp hc i (z := z2) (l := l ++ [f]) (K := K + 100) (h2.mono (by omega)) (by omega) (by omega) (by omega) (by simp; omega)
      (fun g hg => by rcases List.mem_append.1 hg with q | q; exact hf g q; rw [List.mem_singleton.1 q]; exact ⟨a1, by omega⟩)
    refine ⟨l', z', (e2.and e3).mp fun n ⟨q2, q3⟩ m hm => ?_, by simp at b1; omega, b2, h3.mono (by omega)⟩
    obtain ⟨m, rfl⟩ : ∃ k, m = k + 1 := ⟨m - 1, by omega⟩
    have e1' : s_l00Src_next (z.1, z.2.1, z.2.2) 3 = some (r, z1) := e1
    have q2' : s_l00Src_form n (z1.1, z1.2.1, z1.2.2) r = some (f, z2) := q2
    rw [s_l00Src_hyps_L1, if_pos (by omega), e1', bind_some']
    show (s_l00Src_form n (z1.1, z1.2.1, z1.2.2) r).bind _ = _
    rw [q2', bind_some', chk_of (by simp; omega), show IntKind.i64.wrap (((i + 1 : Nat) : Int) - 1) = (i : Int) by rw [w64_eq (by omega) (by omega)]; omega]
    exact q3 m (by omega)

theorem hyps_dr {c : List Int} (hc : Byt c) {K : Int} {z : List Int × Int × Int} (h : Dr c K z) (h0 : 0 ≤ K) (hK : K ≤ 900) :
    ∃ l z', (Ev fun n => s_l00Src_hyps n z = some (l, z')) ∧ l.length ≤ 3 ∧ (∀ f ∈ l, f.fmok = true ∧ f.size ≤ 7) ∧ Dr c (K + 1000) z' := by
  obtain ⟨r, z1, e1, r0, r1, h1⟩ := next_dr hc h (by omega) (n := 4) (by omega) (by omega)
  obtain ⟨l, z', e2, b1, b2, h2⟩ := hyps_lp hc r.toNat (l := []) h1 (by omega) (by omega) (by omega) (by simp) (fun f hf => by cases hf)
  refine ⟨l, z', e2.at 10 fun n hn q => ?_, by simp at b1; omega, b2, h2.mono (by omega)⟩
  have e1' : s_l00Src_next (z.1, z.2.1, z.2.2) 4 = some (r, z1) := e1
  unfold s_l00Src_hyps
  rw [e1', bind_some']
  have := q n (by omega)
  rw [show ((r.toNat : Nat) : Int) = r by omega] at this
  exact this

end Go.Am.Ytaedacibojpfkaa
