/- Plain laws: a term put for a variable, arguments given to a term: the program and the reference go in step. -/
import Derived.Test.YtiobknkpdkkikabDoorPsRes
import Derived.Test.YtiobknkpdkkikabDoorEsOKT
import Derived.Test.YtiobknkpdkkikabDoorEsOKS
import Derived.Test.YtiobknkpdkkikabDoorEkPut
namespace Go.Am
open Go
/-- Variables are not below 0; an abstraction has one kid. -/
def T.fit : T → Prop
  | .mk k n _ ks => (k = 5 → 0 ≤ n) ∧ (k = 4 → ks.length = 1) ∧ ∀ t ∈ ks, t.fit
theorem fit_eq (k n : Int) (s : ByteArray) (ks : List T) : (T.mk k n s ks).fit ↔ (k = 5 → 0 ≤ n) ∧ (k = 4 → ks.length = 1) ∧ ∀ t ∈ ks, t.fit := by rw [T.fit]
/-- A tree that is not too big. -/
def T.gd (t : T) : Prop := t.size ≤ 150 ∧ t.hi = false ∧ t.fit ∧ t.sm
theorem his_mem : ∀ {ks : List T}, his ks = false → ∀ t ∈ ks, t.hi = false
  | [], _, t, h => by cases h
  | a :: r, h, t, ht => by
    simp only [his, Bool.or_eq_false_iff] at h
    rcases List.mem_cons.1 ht with rfl | ht
    · exact h.1
    · exact his_mem h.2 t ht
theorem T.gd.kid {k n : Int} {s : ByteArray} {ks : List T} (h : (T.mk k n s ks).gd) : ∀ t ∈ ks, t.gd := by
  obtain ⟨h1, h2, h3, h4⟩ := h
  rw [fit_eq] at h3
  simp only [T.hi, Bool.or_eq_false_iff] at h2
  intro t ht
  refine ⟨?_, his_mem h2.2 t ht, h3.2.2 t ht, (sm_kids h4).2.2 t ht⟩
  have := sizes_mem ht
  simp only [T.size] at h1
  omega
theorem T.gd.vb (t : T) : t.hi = false → t.fit → t.vb 100 := by
  induction t using T.ind with
  | _ k n s ks ih =>
    intro h2 h3
    rw [fit_eq] at h3
    simp only [T.hi, Bool.or_eq_false_iff, Bool.and_eq_false_iff, decide_eq_false_iff_not] at h2
    rw [vb_eq]
    refine ⟨fun k5 => ⟨h3.1 k5, ?_⟩, fun t ht => ih t ht (his_mem h2.2 t ht) (h3.2.2 t ht)⟩
    have := h2.1.resolve_left (fun q => q k5)
    omega
theorem lft_fit (t : T) : ∀ f b, 0 ≤ b → t.fit → (t.lft f b).fit := by
  induction t using T.ind with
  | _ k n s ks ih =>
    intro f b hb h
    rw [fit_eq] at h
    have key : ∀ (l : List T) (i : Nat), (∀ t ∈ l, ∀ f b, 0 ≤ b → t.fit → (t.lft f b).fit) → (∀ t ∈ l, t.fit) → ∀ x ∈ lfts l k i f b, x.fit := by
      intro l
      induction l with
      | nil => intro i _ _ x hx; simp [lfts] at hx
      | cons a r ih2 =>
        intro i h1 h2 x hx
        simp only [lfts] at hx
        rcases List.mem_cons.1 hx with rfl | hx
        · exact h1 a (by simp) _ _ hb (h2 a (by simp))
        · exact ih2 (i + 1) (fun t ht => h1 t (by simp [ht])) (fun t ht => h2 t (by simp [ht])) x hx
    show (T.mk k (if k = 5 ∧ n ≥ f then n + b else n) s (lfts ks k 0 f b)).fit
    rw [fit_eq]
    refine ⟨fun k5 => ?_, fun k4 => by rw [lfts_length]; exact h.2.1 k4, key ks 0 ih h.2.2⟩
    have := h.1 k5
    split <;> omega
theorem lft_sm (t : T) : ∀ f b, t.sm → (t.lft f b).sm := by
  induction t using T.ind with
  | _ k n s ks ih =>
    intro f b h
    obtain ⟨h1, h2, h3⟩ := sm_kids h
    have key : ∀ (l : List T) (i : Nat), (∀ t ∈ l, ∀ f b, t.sm → (t.lft f b).sm) → (∀ t ∈ l, t.sm) → ∀ x ∈ lfts l k i f b, x.sm := by
      intro l
      induction l with
      | nil => intro i _ _ x hx; simp [lfts] at hx
      | cons a r ih2 =>
        intro i h1 h2 x hx
        simp only [lfts] at hx
        rcases List.mem_cons.1 hx with rfl | hx
        · exact h1 a (by simp) _ _ (h2 a (by simp))
        · exact ih2 (i + 1) (fun t ht => h1 t (by simp [ht])) (fun t ht => h2 t (by simp [ht])) x hx
    show (T.mk k (if k = 5 ∧ n ≥ f then n + b else n) s (lfts ks k 0 f b)).sm
    unfold T.sm
    exact ⟨h1, by rw [lfts_length]; exact h2, key ks 0 ih h3⟩
theorem tmoks_fit : ∀ {ks : List T}, tmoks ks = true → ∀ t ∈ ks, t.tmok = true
  | [], _, t, h => by cases h
  | a :: r, h, t, ht => by
    simp only [tmoks, Bool.and_eq_true] at h
    rcases List.mem_cons.1 ht with rfl | ht
    · exact h.1
    · exact tmoks_fit h.2 t ht
theorem tmok_fit (t : T) : t.tmok = true → t.fit ∧ t.hi = false := by
  induction t using T.ind with
  | _ k n s ks ih =>
    intro h
    have hh : ∀ (l : List T), (∀ t ∈ l, t.hi = false) → his l = false := by
      intro l
      induction l with
      | nil => intro _; rfl
      | cons a r ih2 => intro h; simp only [his]; rw [h a (by simp), ih2 fun t ht => h t (by simp [ht])]; rfl
    rw [fit_eq]
    simp only [T.tmok] at h
    simp only [T.hi]
    by_cases k4 : k = 4
    · rw [if_pos k4] at h
      simp only [Bool.and_eq_true, decide_eq_true_eq] at h
      obtain ⟨h0, _, hl, hf⟩ := h
      have hk := fun t ht => ih t ht (tmoks_fit hf t ht)
      refine ⟨⟨fun q => by omega, fun _ => hl, fun t ht => (hk t ht).1⟩, ?_⟩
      rw [hh ks fun t ht => (hk t ht).2, decide_eq_false (show ¬ k = 5 by omega)]; rfl
    · rw [if_neg k4] at h
      by_cases k57 : k = 5 ∨ k = 7
      · rw [if_pos k57] at h
        simp only [Bool.and_eq_true, decide_eq_true_eq] at h
        have hk := fun t ht => ih t ht (tmoks_fit h.2.2.2 t ht)
        refine ⟨⟨fun q => h.1, fun q => absurd q k4, fun t ht => (hk t ht).1⟩, ?_⟩
        rw [hh ks fun t ht => (hk t ht).2, decide_eq_false (show ¬ n > 100 by omega), Bool.and_false]; rfl
      · rw [if_neg k57] at h
        by_cases k6 : k = 6
        · rw [if_pos k6] at h
          simp only [Bool.and_eq_true, decide_eq_true_eq] at h
          have hk := fun t ht => ih t ht (tmoks_fit h.2.2 t ht)
          refine ⟨⟨fun q => by omega, fun q => absurd q k4, fun t ht => (hk t ht).1⟩, ?_⟩
          rw [hh ks fun t ht => (hk t ht).2, decide_eq_false (show ¬ k = 5 by omega)]; rfl
        · rw [if_neg k6] at h; cases h
theorem tmok_gd (t : T) (h : t.tmok = true) (hs : t.size ≤ 150) (hsm : t.sm) : t.gd := ⟨hs, (tmok_fit t h).2, (tmok_fit t h).1, hsm⟩
theorem bigB_gd {t : T} (h : bigB t = false) (hf : t.fit) (hsm : t.sm) : t.gd := by
  unfold bigB at h
  simp only [Bool.or_eq_false_iff, decide_eq_false_iff_not] at h
  exact ⟨by omega, h.2, hf, hsm⟩
/-- What one tells and the other: the same. -/
def RR (z : Rz (T × Int)) (y : T × Int × Int) : Prop := match z with
  | .ok r => y = (r.1, 0, r.2)
  | .stop c _ => y.1 = .mk 0 0 ⟨#[]⟩ [] ∧ y.2.1 = c ∧ c ≠ 0
/-- What has come out is not too big, and the count has not gone back. -/
def OK (st : Int) (z : Rz (T × Int)) : Prop := match z with
  | .ok r => r.1.gd ∧ st ≤ r.2 ∧ r.2 ≤ 20000
  | .stop _ _ => True
end Go.Am
namespace Go.Am.YtiobknkpdkkikabDoor
open Go Go.Am

theorem scopy_lp (rec : T → Option T) (x : T) (hl : x.kids.length ≤ 1048576) (H : ∀ y ∈ x.kids, rec y = some y) :
    ∀ (r a : List T) (m : Nat), x.kids = a ++ r → r.length < m → s_l01Copy_L1 rec x m a.length a = some x
  | [], a, m, e, hm => by
    obtain ⟨m, rfl⟩ : ∃ k, m = k + 1 := ⟨m - 1, by omega⟩
    rw [s_l01Copy_L1, e, if_neg (lt_end a)]
    obtain ⟨k, n, s, ks⟩ := x
    have e : ks = a := by have e : ks = a ++ [] := e; simpa using e
    subst e; rfl
  | y :: r, a, m, e, hm => by
    obtain ⟨m, rfl⟩ : ∃ k, m = k + 1 := ⟨m - 1, by omega⟩
    have hy : y ∈ x.kids := by rw [e]; simp
    have e1 : (a.length : Int) < (x.kids.length : Int) := by rw [e]; exact lt_mid a y r
    have e2 : idx x.kids (a.length : Int) = some y := by rw [e]; exact idx_mid a y r
    have hlen : a.length ≤ x.kids.length := by rw [e]; simp
    rw [s_l01Copy_L1, if_pos e1, e2, bind_some', H y hy, bind_some', chk_of (by simp; omega)]
    rw [show IntKind.i64.wrap ((a.length : Int) + 1) = ((a ++ [y]).length : Int) from w64_mid a y r (by rw [← e]; omega)]
    exact scopy_lp rec x hl H r (a ++ [y]) m (by simp [e]) (by simpa using hm)
theorem scopy_ev (t : T) (hsm : t.sm) : Ev fun n => s_l01Copy n t = some t := by
  induction t using T.ind with
  | _ k n s ks ih =>
    obtain ⟨_, hl, hks⟩ := sm_kids hsm
    refine (Ev.all fun t ht => ih t ht (hks t ht)).up (ks.length + 1) fun n hn H => ?_
    rw [s_l01Copy]
    exact scopy_lp _ (T.mk k _ s ks) hl H ks [] n rfl (by omega)
theorem sbig_ev (t : T) (hsm : t.sm) (hs : t.size ≤ 9223372036854775800) : Ev fun n => s_l03Big n t = some (bigB t) := by
  refine ((small_ev t hsm).and (shigh_ev t hs)).mp fun n ⟨h1, h2⟩ => ?_
  unfold s_l03Big bigB
  rw [h1, h2, bind_some', bind_some']
  by_cases hb : t.size ≤ 150
  · rw [decide_eq_true hb, decide_eq_false (show ¬ t.size > 150 by omega)]; cases t.hi <;> rfl
  · rw [decide_eq_false hb, decide_eq_true (show t.size > 150 by omega)]; rfl

def PUT (K : Int) : Prop := ∀ (t m a : T) (st v : Int), m.gd → a.simok = true → t.gd → 0 ≤ st → st ≤ 20000 → 20000 - st ≤ K → 0 ≤ v → v + (t.size : Int) ≤ 1000 →
  ∃ z y, RR z y ∧ OK st z ∧ Ev fun n => i_work_put n st m a v t = some z ∧ s_l03Run_sub n st m a t v = some y
def APPLY (K : Int) : Prop := ∀ (l : List T) (f a : T) (st : Int), f.gd → a.simok = true → (∀ x ∈ l, x.gd) → l.length ≤ 1000000 → 0 ≤ st → st ≤ 20000 → 20000 - st ≤ K →
  ∃ z y, RR z y ∧ OK st z ∧ Ev fun n => i_work_apply n st f a l = some z ∧ s_l03Run_reduce n st f a l = some y

theorem simok_kids {a : T} (h : a.simok = true) (k : a.kind = 10) : ∃ b c, a.kids = [b, c] ∧ b.simok = true ∧ c.simok = true := by
  obtain ⟨k', n, s, ks⟩ := a
  have k10 : k' = 10 := k
  subst k10
  have h : (decide (n = 0) && (eb s && (decide (ks.length = 2) && simoks ks))) = true := by simpa [T.simok] using h
  simp only [Bool.and_eq_true, decide_eq_true_eq] at h
  match ks, h.2.2 with
  | [b, c], hh =>
    have : b.simok = true ∧ c.simok = true := by simpa [simoks] using hh.2
    exact ⟨b, c, rfl, this.1, this.2⟩
theorem apply_lp (K : Int) (hP : ∀ K', K' < K → PUT K') (l : List T) (hl : l.length ≤ 1000000) : ∀ (r p : List T) (f a : T) (st : Int), l = p ++ r → f.gd → a.simok = true → (∀ x ∈ r, x.gd) → 0 ≤ st → st ≤ 20000 → 20000 - st ≤ K →
    ∃ z y, RR z y ∧ OK st z ∧ Ev fun n => ∀ m, r.length < m → i_work_apply_L1 (i_work_put n) l m p.length st f.kind f.n f.name f.kids a.kind a.n a.name a.kids = some z ∧ s_l03Run_reduce_L1 (s_l03Run_sub n) n l m p.length st f.kind f.n f.name f.kids a.kind a.n a.name a.kids = some y
  | [], p, f, a, st, e, hf, ha, hr, h0, h1, hK => by
    refine ⟨.ok (f, st), (f, 0, st), rfl, ⟨hf, Int.le_refl _, h1⟩, (scopy_ev f hf.2.2.2).mp fun n h m hm => ?_⟩
    obtain ⟨m, rfl⟩ : ∃ k, m = k + 1 := ⟨m - 1, by omega⟩
    subst e
    have hfe : T.mk f.kind f.n f.name f.kids = f := by cases f; rfl
    rw [i_work_apply_L1, s_l03Run_reduce_L1, if_neg (lt_end p), if_neg (lt_end p), hfe, h]
    exact ⟨rfl, rfl⟩
  | x :: r, p, f, a, st, e, hf, ha, hr, h0, h1, hK => by
    have e1 : (p.length : Int) < (l.length : Int) := by rw [e]; exact lt_mid p x r
    have e2 : idx l (p.length : Int) = some x := by rw [e]; exact idx_mid p x r
    have hw : IntKind.i64.wrap ((p.length : Int) + 1) = ((p ++ [x]).length : Int) := w64_mid p x r (by rw [← e]; omega)
    by_cases ka : a.kind = 10
    · by_cases kf : f.kind = 4
      · by_cases hst : st + 1 > 20000
        · refine ⟨.stop 17 0, (.mk 0 0 ⟨#[]⟩ [], 17, st + 1), ⟨rfl, rfl, by decide⟩, trivial, .of fun n m hm => ?_⟩
          obtain ⟨m, rfl⟩ : ∃ k, m = k + 1 := ⟨m - 1, by omega⟩
          rw [i_work_apply_L1, s_l03Run_reduce_L1, if_pos e1, if_pos e1, e2, bind_some', if_neg (by simp [ka]), if_neg (by simp [kf]), w64_eq (by omega) (by omega), if_pos hst, if_neg (by simp [ka]), if_neg (by simp [kf]), if_pos hst]
          exact ⟨rfl, rfl⟩
        · obtain ⟨b, c, hab, hb, hc⟩ := simok_kids ha ka
          obtain ⟨g, hfg⟩ : ∃ g, f.kids = [g] := by
            obtain ⟨k, n, s, ks⟩ := f
            have := (fit_eq k n s ks).1 hf.2.2.1
            exact List.length_eq_one_iff.1 (this.2.1 kf)
          have hg : g.gd := by
            obtain ⟨k, n, s, ks⟩ := f
            exact hf.kid g (by have hfg : ks = [g] := hfg; rw [hfg]; simp)
          obtain ⟨z1, y1, hR, hO, hE⟩ := hP (K - 1) (by omega) g x b (st + 1) 0 (hr x (by simp)) hb hg (by omega) (by omega) (by omega) (by omega) (by have := hg.1; omega)
          cases z1 with
          | stop c' p' =>
            refine ⟨.stop c' p', (.mk 0 0 ⟨#[]⟩ [], c', y1.2.2), ⟨rfl, rfl, hR.2.2⟩, trivial, hE.mp fun n ⟨q1, q2⟩ m hm => ?_⟩
            obtain ⟨m, rfl⟩ : ∃ k, m = k + 1 := ⟨m - 1, by omega⟩
            rw [i_work_apply_L1, s_l03Run_reduce_L1, if_pos e1, if_pos e1, e2, bind_some', if_neg (by simp [ka]), if_neg (by simp [kf]), w64_eq (by omega) (by omega), if_neg hst, if_neg (by simp [ka]), if_neg (by simp [kf]), if_neg hst, hab, hfg]
            rw [show idx [b, c] 0 = some b from rfl, show idx [g] 0 = some g from rfl, bind_some', bind_some', bind_some', bind_some', bind_some', q1, q2, bind_some', hR.2.1]
            rw [if_pos (by simpa using hR.2.2)]
            exact ⟨rfl, rfl⟩
          | ok r1 =>
            have hy1 : y1 = (r1.1, 0, r1.2) := hR
            obtain ⟨hg1, hs1, hs2⟩ := hO
            obtain ⟨z, y, hR2, hO2, hE2⟩ := apply_lp K hP l hl r (p ++ [x]) r1.1 c r1.2 (by simp [e]) hg1 hc (fun t ht => hr t (by simp [ht])) (by omega) hs2 (by omega)
            refine ⟨z, y, hR2, ?_, (hE.and hE2).mp fun n ⟨⟨q1, q2⟩, q3⟩ m hm => ?_⟩
            · cases z with
              | ok r2 => exact ⟨hO2.1, by have := hO2.2.1; omega, hO2.2.2⟩
              | stop _ _ => trivial
            · obtain ⟨m, rfl⟩ : ∃ k, m = k + 1 := ⟨m - 1, by omega⟩
              obtain ⟨q4, q5⟩ := q3 m (by simpa using hm)
              rw [i_work_apply_L1, s_l03Run_reduce_L1, if_pos e1, if_pos e1, e2, bind_some', if_neg (by simp [ka]), if_neg (by simp [kf]), w64_eq (by omega) (by omega), if_neg hst, if_neg (by simp [ka]), if_neg (by simp [kf]), if_neg hst, hab, hfg]
              rw [show idx [b, c] 0 = some b from rfl, show idx [g] 0 = some g from rfl, show idx [b, c] 1 = some c from rfl]
              simp only [bind_some', q1, q2, zb_ok, hy1]
              rw [if_neg (by decide), hw]
              exact ⟨q4, q5⟩
      · refine ⟨.stop 12 0, (.mk 0 0 ⟨#[]⟩ [], 12, st), ⟨rfl, rfl, by decide⟩, trivial, .of fun n m hm => ?_⟩
        obtain ⟨m, rfl⟩ : ∃ k, m = k + 1 := ⟨m - 1, by omega⟩
        rw [i_work_apply_L1, s_l03Run_reduce_L1, if_pos e1, if_pos e1, e2, bind_some', if_neg (by simp [ka]), if_pos (by simpa using kf), if_neg (by simp [ka]), if_pos (by simpa using kf)]
        exact ⟨rfl, rfl⟩
    · refine ⟨.stop 12 0, (.mk 0 0 ⟨#[]⟩ [], 12, st), ⟨rfl, rfl, by decide⟩, trivial, .of fun n m hm => ?_⟩
      obtain ⟨m, rfl⟩ : ∃ k, m = k + 1 := ⟨m - 1, by omega⟩
      rw [i_work_apply_L1, s_l03Run_reduce_L1, if_pos e1, if_pos e1, e2, bind_some', if_pos (by simpa using ka), if_pos (by simpa using ka)]
      exact ⟨rfl, rfl⟩
theorem apply_of (K : Int) (hP : ∀ K', K' < K → PUT K') : APPLY K := by
  intro l f a st hf ha hr hl h0 h1 hK
  obtain ⟨z, y, hR, hO, hE⟩ := apply_lp K hP l hl l [] f a st rfl hf ha hr h0 h1 hK
  refine ⟨z, y, hR, hO, hE.up (l.length + 1) fun n hn h => ?_⟩
  obtain ⟨q1, q2⟩ := h n (by omega)
  rw [i_work_apply, s_l03Run_reduce]
  exact ⟨q1, q2⟩

/-- A node that has come out. -/
theorem node_fin (t : T) (hf : t.fit) (hsm : t.sm) (hs : t.size ≤ 9223372036854775800) (st : Int) (h1 : st ≤ 20000) : ∃ (z : Rz (T × Int)) (y : T × Int × Int), RR z y ∧ OK st z ∧ Ev fun n => (zb (i_formed n t) fun r => some (.ok (r, st))) = some z ∧ ((s_l03Big n t).bind fun r => if r = true then some ((T.mk 0 0 ⟨#[]⟩ []), (11 : Int), st) else some (t, 0, st)) = some y := by
  cases hb : bigB t with
  | true =>
    refine ⟨.stop 11 0, (.mk 0 0 ⟨#[]⟩ [], 11, st), ⟨rfl, rfl, by decide⟩, trivial, ((formed_ev t hs).and (sbig_ev t hsm hs)).mp fun n ⟨q1, q2⟩ => ?_⟩
    rw [q1, q2, hb]; exact ⟨rfl, rfl⟩
  | false =>
    refine ⟨.ok (t, st), (t, 0, st), rfl, ⟨bigB_gd hb hf hsm, Int.le_refl _, h1⟩, ((formed_ev t hs).and (sbig_ev t hsm hs)).mp fun n ⟨q1, q2⟩ => ?_⟩
    rw [q1, q2, hb]; exact ⟨rfl, rfl⟩
theorem sizes_le {l : List T} {B : Nat} (h : ∀ x ∈ l, x.size ≤ B) : sizes l ≤ l.length * B := by
  induction l with
  | nil => simp [sizes]
  | cons a r ih =>
    have h1 := h a (by simp)
    have h2 := ih fun x hx => h x (by simp [hx])
    simp only [sizes, List.length_cons, Nat.add_mul, Nat.one_mul]
    omega

/-- Behind the kids. -/
theorem put_fin (K : Int) (hA : APPLY K) (k n0 : Int) (s : ByteArray) (ks : List T) (m a : T) (st v : Int) (acc : List T) (hm : m.gd) (ha : a.simok = true) (ht : (T.mk k n0 s ks).gd) (hacc : ∀ x ∈ acc, x.gd) (hlen : acc.length = ks.length) (h0 : 0 ≤ st) (h1 : st ≤ 20000) (hK : 20000 - st ≤ K) (hv : 0 ≤ v) (hv2 : v ≤ 1000) :
    ∃ z y, RR z y ∧ OK st z ∧ Ev fun n => ∀ mm, i_work_put_L1 (i_work_apply n) (i_work_put n) n m a v (T.mk k n0 s ks) (mm + 1) ks.length st acc = some z ∧ s_l03Run_sub_L1 (s_l03Run_reduce n) (s_l03Run_sub n) n m a (T.mk k n0 s ks) v (mm + 1) ks.length st acc = some y := by
  have hfit := (fit_eq k n0 s ks).1 ht.2.2.1
  obtain ⟨hs1, hs2, hs3⟩ := sm_kids ht.2.2.2
  have hal : acc.length ≤ 150 := by have := size_len (k := k) (n := n0) (s := s) (ks := ks); have := ht.1; omega
  have hasz : sizes acc ≤ 22500 := by
    have h := sizes_le (l := acc) (B := 150) fun x hx => (hacc x hx).1
    have : acc.length * 150 ≤ 150 * 150 := Nat.mul_le_mul_right 150 hal
    omega
  have hnode : ∀ n1 : Int, (k = 5 → 0 ≤ n1) → (T.mk k n1 s acc).fit ∧ (T.mk k n1 s acc).sm ∧ (T.mk k n1 s acc).size ≤ 9223372036854775800 := by
    intro n1 hn1
    refine ⟨(fit_eq k n1 s acc).2 ⟨hn1, fun k4 => by rw [hlen]; exact hfit.2.1 k4, fun x hx => (hacc x hx).2.2.1⟩, ?_, ?_⟩
    · unfold T.sm; exact ⟨hs1, by omega, fun x hx => (hacc x hx).2.2.2⟩
    · simp only [T.size]; omega
  have ei : ∀ n mm, i_work_put_L1 (i_work_apply n) (i_work_put n) n m a v (T.mk k n0 s ks) (mm + 1) ks.length st acc = (fun (j36 : Option (Rz (T × Int))) => if k = 5 then (if n0 = v then (i_lift n m 0 v).bind fun r39 => zb (i_formed n r39) fun r46 => zb (i_work_apply n st r46 a acc) fun r55 => some (.ok (r55.1, r55.2)) else j36) else j36)
      (if k = 5 then (if n0 > v then zb (i_formed n (T.mk k (IntKind.i64.wrap (n0 - 1)) s acc)) fun r69 => some (.ok (r69, st)) else zb (i_formed n (T.mk k n0 s acc)) fun r78 => some (.ok (r78, st))) else zb (i_formed n (T.mk k n0 s acc)) fun r87 => some (.ok (r87, st))) := by
    intro n mm
    rw [i_work_put_L1, if_neg (show ¬ ((ks.length : Nat) : Int) < (((T.mk k n0 s ks).kids.length : Nat) : Int) by rw [tkids]; omega)]; rfl
  have es : ∀ n mm, s_l03Run_sub_L1 (s_l03Run_reduce n) (s_l03Run_sub n) n m a (T.mk k n0 s ks) v (mm + 1) ks.length st acc = (fun (j84 : Option (T × Int × Int)) => if k = 5 then (if n0 = v then (s_l01Lift n m 0 v).bind fun r87 => (s_l03Big n r87).bind fun r94 => if r94 = true then some ((T.mk 0 0 ⟨#[]⟩ []), 11, st) else (s_l03Run_reduce n st r87 a acc).bind fun r102 => some (r102.1, r102.2.1, r102.2.2) else j84) else j84)
      (if k = 5 then (if n0 > v then (s_l03Big n (T.mk k (IntKind.i64.wrap (n0 - 1)) s acc)).bind fun r120 => if r120 = true then some ((T.mk 0 0 ⟨#[]⟩ []), 11, st) else some ((T.mk k (IntKind.i64.wrap (n0 - 1)) s acc), 0, st) else (s_l03Big n (T.mk k n0 s acc)).bind fun r128 => if r128 = true then some ((T.mk 0 0 ⟨#[]⟩ []), 11, st) else some ((T.mk k n0 s acc), 0, st)) else (s_l03Big n (T.mk k n0 s acc)).bind fun r136 => if r136 = true then some ((T.mk 0 0 ⟨#[]⟩ []), 11, st) else some ((T.mk k n0 s acc), 0, st)) := by
    intro n mm
    rw [s_l03Run_sub_L1, if_neg (show ¬ ((ks.length : Nat) : Int) < (((T.mk k n0 s ks).kids.length : Nat) : Int) by rw [tkids]; omega)]; rfl
  by_cases k5 : k = 5
  · have hn0 := hfit.1 k5
    by_cases hnv : n0 = v
    · -- the variable itself
      have hvb := T.gd.vb m hm.2.1 hm.2.2.1
      have hls := lft_size m 0 v
      have hlf := lft_fit m 0 v hv hm.2.2.1
      have hlsm := lft_sm m 0 v hm.2.2.2
      have hm150 := hm.1
      have hE0 := (lift_ev m hm.2.2.2 (vb_mono (by omega) m hvb) (by omega)).and ((formed_ev (m.lft 0 v) (by omega)).and (sbig_ev (m.lft 0 v) hlsm (by omega)))
      cases hb : bigB (m.lft 0 v) with
      | true =>
        refine ⟨.stop 11 0, (.mk 0 0 ⟨#[]⟩ [], 11, st), ⟨rfl, rfl, by decide⟩, trivial, hE0.mp fun n ⟨q1, q2, q3⟩ mm => ?_⟩
        obtain ⟨q4, q5⟩ := q1 0 v (by omega) (by omega) (by omega) (by omega)
        rw [ei, es]
        simp only [if_pos k5, if_pos hnv, q4, q5, bind_some']
        rw [q2, q3, hb]
        exact ⟨rfl, rfl⟩
      | false =>
        obtain ⟨z, y, hR, hO, hE⟩ := hA acc (m.lft 0 v) a st (bigB_gd hb hlf hlsm) ha hacc (by omega) h0 h1 hK
        refine ⟨z, y, hR, hO, (hE0.and hE).mp fun n ⟨⟨q1, q2, q3⟩, q6, q7⟩ mm => ?_⟩
        obtain ⟨q4, q5⟩ := q1 0 v (by omega) (by omega) (by omega) (by omega)
        rw [ei, es]
        simp only [if_pos k5, if_pos hnv, q4, q5, bind_some']
        rw [q2, q3, hb]
        show (zb (i_work_apply n st (m.lft 0 v) a acc) _) = _ ∧ (s_l03Run_reduce n st (m.lft 0 v) a acc).bind _ = _
        rw [q6, q7, bind_some']
        refine ⟨?_, rfl⟩
        cases z <;> rfl
    · by_cases hgt : n0 > v
      · obtain ⟨h2, h3, h4⟩ := hnode (n0 - 1) (fun _ => by omega)
        obtain ⟨z, y, hR, hO, hE⟩ := node_fin _ h2 h3 h4 st h1
        refine ⟨z, y, hR, hO, hE.mp fun n ⟨q1, q2⟩ mm => ?_⟩
        have h100 : n0 ≤ 100 := by
          have := (vb_eq 100 k n0 s ks).1 (T.gd.vb _ ht.2.1 ht.2.2.1)
          exact (this.1 k5).2
        rw [ei, es]
        simp only [if_pos k5, if_neg hnv, if_pos hgt]
        rw [w64_eq (by omega) (by omega)]
        exact ⟨q1, q2⟩
      · obtain ⟨h2, h3, h4⟩ := hnode n0 (fun _ => by omega)
        obtain ⟨z, y, hR, hO, hE⟩ := node_fin _ h2 h3 h4 st h1
        refine ⟨z, y, hR, hO, hE.mp fun n ⟨q1, q2⟩ mm => ?_⟩
        rw [ei, es]
        simp only [if_pos k5, if_neg hnv, if_neg hgt]
        exact ⟨q1, q2⟩
  · obtain ⟨h2, h3, h4⟩ := hnode n0 (fun q => absurd q k5)
    obtain ⟨z, y, hR, hO, hE⟩ := node_fin _ h2 h3 h4 st h1
    refine ⟨z, y, hR, hO, hE.mp fun n ⟨q1, q2⟩ mm => ?_⟩
    rw [ei, es]
    simp only [if_neg k5]
    exact ⟨q1, q2⟩
theorem put_lp (K : Int) (hA : APPLY K) (k n0 : Int) (s : ByteArray) (ks : List T) (m a : T) (v : Int) (hm : m.gd) (ha : a.simok = true) (ht : (T.mk k n0 s ks).gd) (hv : 0 ≤ v) (hv2 : v + (sizes ks : Int) + 1 ≤ 1000)
    (ih : ∀ t ∈ ks, ∀ (st v : Int), 0 ≤ st → st ≤ 20000 → 20000 - st ≤ K → 0 ≤ v → v + (t.size : Int) ≤ 1000 → ∃ z y, RR z y ∧ OK st z ∧ Ev fun n => i_work_put n st m a v t = some z ∧ s_l03Run_sub n st m a t v = some y) :
    ∀ (r p acc : List T) (st : Int), ks = p ++ r → acc.length = p.length → (∀ x ∈ acc, x.gd) → 0 ≤ st → st ≤ 20000 → 20000 - st ≤ K →
      ∃ z y, RR z y ∧ OK st z ∧ Ev fun n => ∀ mm, r.length < mm → i_work_put_L1 (i_work_apply n) (i_work_put n) n m a v (T.mk k n0 s ks) mm p.length st acc = some z ∧ s_l03Run_sub_L1 (s_l03Run_reduce n) (s_l03Run_sub n) n m a (T.mk k n0 s ks) v mm p.length st acc = some y
  | [], p, acc, st, e, hl, hacc, h0, h1, hK => by
    have hp : p = ks := by simpa using e.symm
    subst hp
    obtain ⟨z, y, hR, hO, hE⟩ := put_fin K hA k n0 s p m a st v acc hm ha ht hacc hl h0 h1 hK hv (by omega)
    refine ⟨z, y, hR, hO, hE.mp fun n h mm hmm => ?_⟩
    obtain ⟨mm, rfl⟩ : ∃ k, mm = k + 1 := ⟨mm - 1, by omega⟩
    exact h mm
  | x :: r, p, acc, st, e, hl, hacc, h0, h1, hK => by
    have hx : x ∈ ks := by rw [e]; simp
    have hkl : ks.length ≤ 150 := by have := size_len (k := k) (n := n0) (s := s) (ks := ks); have := ht.1; omega
    have e1 : (p.length : Int) < (((T.mk k n0 s ks).kids.length : Nat) : Int) := by rw [tkids, e]; exact lt_mid p x r
    have e2 : idx (T.mk k n0 s ks).kids (p.length : Int) = some x := by rw [tkids, e]; exact idx_mid p x r
    have hw : IntKind.i64.wrap ((p.length : Int) + 1) = ((p ++ [x]).length : Int) := w64_mid p x r (by rw [← e]; omega)
    have hu := und_range k p.length
    have hsx := sizes_mem hx
    have hun : i_Tree_under (T.mk k n0 s ks) (p.length : Int) = some (und k p.length) := under_c (T.mk k n0 s ks) p.length
    have hus : s_l01Under (T.mk k n0 s ks) (p.length : Int) = some (und k p.length) := under_s (T.mk k n0 s ks) p.length
    obtain ⟨z1, y1, hR, hO, hE⟩ := ih x hx st (v + und k p.length) h0 h1 hK (by omega) (by omega)
    have hpl : p.length ≤ ks.length := by rw [e]; simp
    cases z1 with
    | stop c' p' =>
      refine ⟨.stop c' p', (.mk 0 0 ⟨#[]⟩ [], c', y1.2.2), ⟨rfl, rfl, hR.2.2⟩, trivial, hE.mp fun n ⟨q1, q2⟩ mm hmm => ?_⟩
      obtain ⟨mm, rfl⟩ : ∃ k, mm = k + 1 := ⟨mm - 1, by omega⟩
      rw [i_work_put_L1, s_l03Run_sub_L1, if_pos e1, if_pos e1, e2, bind_some', bind_some', hun, hus, bind_some', bind_some', w64_eq (by omega) (by omega), q1, q2, bind_some', hR.2.1, if_pos (by simpa using hR.2.2)]
      exact ⟨rfl, rfl⟩
    | ok r1 =>
      have hy1 : y1 = (r1.1, 0, r1.2) := hR
      obtain ⟨hg1, hs1, hs2⟩ := hO
      obtain ⟨z, y, hR2, hO2, hE2⟩ := put_lp K hA k n0 s ks m a v hm ha ht hv hv2 ih r (p ++ [x]) (acc ++ [r1.1]) r1.2 (by simp [e]) (by simp [hl]) (fun t ht => by
        rcases List.mem_append.1 ht with ht | ht
        · exact hacc t ht
        · rw [List.mem_singleton.1 ht]; exact hg1) (by omega) hs2 (by omega)
      refine ⟨z, y, hR2, ?_, (hE.and hE2).mp fun n ⟨⟨q1, q2⟩, q3⟩ mm hmm => ?_⟩
      · cases z with
        | ok r2 => exact ⟨hO2.1, by have := hO2.2.1; omega, hO2.2.2⟩
        | stop _ _ => trivial
      · obtain ⟨mm, rfl⟩ : ∃ k, mm = k + 1 := ⟨mm - 1, by omega⟩
        obtain ⟨q4, q5⟩ := q3 mm (by simpa using hmm)
        rw [i_work_put_L1, s_l03Run_sub_L1, if_pos e1, if_pos e1, e2, bind_some', bind_some', hun, hus, bind_some', bind_some', w64_eq (by omega) (by omega), q1, q2, bind_some', hy1]
        dsimp only
        rw [if_neg (by decide), zb_ok, chk_of (by simp; omega), chk_of (by simp; omega), hw]
        exact ⟨q4, q5⟩
theorem put_of (K : Int) (hA : APPLY K) : PUT K := by
  intro t m a st v hm ha
  induction t using T.ind generalizing st v with
  | _ k n0 s ks ih =>
    intro ht h0 h1 hK hv hv2
    have hsz : (T.mk k n0 s ks).size = 1 + sizes ks := by simp only [T.size]
    rw [hsz] at hv2
    obtain ⟨z, y, hR, hO, hE⟩ := put_lp K hA k n0 s ks m a v hm ha ht hv (by omega) (fun t htm st v a1 a2 a3 a4 a5 => ih t htm st v (ht.kid t htm) a1 a2 a3 a4 a5) ks [] [] st rfl rfl (fun x hx => by cases hx) h0 h1 hK
    refine ⟨z, y, hR, hO, hE.up (ks.length + 1) fun n hn h => ?_⟩
    obtain ⟨q1, q2⟩ := h n (by omega)
    rw [i_work_put, s_l03Run_sub]
    exact ⟨q1, q2⟩
theorem put_all : ∀ (N : Nat) (K : Int), K < N → PUT K
  | 0, K, h => by
    intro t m a st v _ _ _ _ h1 hK
    omega
  | N + 1, K, h => put_of K (apply_of K fun K' hK' => put_all N K' (by omega))
theorem put_ev (t m a : T) (v : Int) (hm : m.gd) (ha : a.simok = true) (ht : t.gd) (hv : 0 ≤ v) (hv2 : v ≤ 100) : ∃ z y, RR z y ∧ OK 0 z ∧ Ev fun n => i_work_put n 0 m a v t = some z ∧ s_l03Run_sub n 0 m a t v = some y :=
  put_all 20001 20000 (by omega) t m a 0 v hm ha ht (by omega) (by omega) (by omega) hv (by have := ht.1; omega)
theorem apply_ev (l : List T) (f a : T) (hf : f.gd) (ha : a.simok = true) (hl : ∀ x ∈ l, x.gd) (hn : l.length ≤ 1000000) : ∃ z y, RR z y ∧ OK 0 z ∧ Ev fun n => i_work_apply n 0 f a l = some z ∧ s_l03Run_reduce n 0 f a l = some y :=
  apply_of 20000 (fun K' hK' => put_all 20001 K' (by omega)) l f a 0 hf ha hl hn (by omega) (by omega) (by omega)

end Go.Am.YtiobknkpdkkikabDoor
