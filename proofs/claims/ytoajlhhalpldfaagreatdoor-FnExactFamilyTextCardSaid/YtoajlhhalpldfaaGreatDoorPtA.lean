/- Plain laws: trees: sizes, counts; runs of the looker. -/
import Derived.Test.YtoajlhhalpldfaaGreatDoorPnName
import Derived.Test.YtoajlhhalpldfaaGreatDoorDlTree
import Derived.Test.YtoajlhhalpldfaaGreatDoorDkB
namespace Go.Am
open Go

mutual
def T.cnt : T → Int → Int
 | .mk _ _ _ ks, left => tcnts ks (left - 1)
def tcnts : List T → Int → Int
 | [], left => left
 | t :: r, left => if left ≥ 0 then tcnts r (t.cnt left) else left
end
theorem tcnt_range (t : T) : ∀ left, 0 ≤ left → -1 ≤ t.cnt left ∧ t.cnt left ≤ left - 1 := by
 induction t using T.ind with
 | _ k n s ks ih =>
  intro left h
  have key : ∀ (ks : List T), (∀ t ∈ ks, ∀ left, 0 ≤ left → -1 ≤ t.cnt left ∧ t.cnt left ≤ left - 1) → ∀ left, -1 ≤ left → -1 ≤ tcnts ks left ∧ tcnts ks left ≤ left := by
   intro ks
   induction ks with
   | nil => intro _ left h; simp [tcnts]; omega
   | cons t r ihr =>
    intro hh left hl
    simp only [tcnts]
    split
    ·have h1 := hh t (List.mem_cons_self ..) left (by omega)
     have := ihr (fun t ht => hh t (List.mem_cons_of_mem _ ht)) (t.cnt left) (by omega)
     omega
    omega
  simp only [T.cnt]
  have := key ks ih (left - 1) (by omega)
  omega
theorem tcnt_eq (t : T) : ∀ left, 0 ≤ left → ((t.size : Int) ≤ left → t.cnt left = left - t.size) ∧ (left < t.size → t.cnt left < 0) := by
 induction t using T.ind with
 | _ k n s ks ih =>
  intro left h
  have key : ∀ (ks : List T), (∀ t ∈ ks, ∀ left, 0 ≤ left → ((t.size : Int) ≤ left → t.cnt left = left - t.size) ∧ (left < t.size → t.cnt left < 0)) → ∀ left, -1 ≤ left →
    ((sizes ks : Int) ≤ left → tcnts ks left = left - sizes ks) ∧ (left < sizes ks ∨ left < 0 → tcnts ks left < 0) := by
   intro ks
   induction ks with
   | nil => intro _ left h; simp only [tcnts, sizes]; omega
   | cons t r ihr =>
    intro hh left hl
    simp only [tcnts, sizes]
    by_cases h0 : left ≥ 0
    ·rw [if_pos h0]
     have hr := tcnt_range t left h0
     have h1 := hh t (List.mem_cons_self ..) left h0
     have h2 := ihr (fun t ht => hh t (List.mem_cons_of_mem _ ht)) (t.cnt left) (by omega)
     have hp := size_pos t
     by_cases hle : (t.size : Int) ≤ left
     ·have h3 := h1.1 hle
      rw [h3] at h2 ⊢
      exact ⟨fun q => by have := h2.1 (by omega); omega, fun q => h2.2 (by omega)⟩
     have h3 := h1.2 (by omega)
     exact ⟨fun q => by omega, fun _ => h2.2 (.inr h3)⟩
    rw [if_neg h0]
    exact ⟨fun q => by omega, fun _ => by omega⟩
  have := key ks ih (left - 1) (by omega)
  simp only [T.cnt, T.size]
  exact ⟨fun q => by have := this.1 (by omega); omega, fun q => this.2 (by omega)⟩

def LK (f : Int × Bool → Option (Bool × (Int × Bool))) (s : Nat) (o : Bool) : Prop := ∀ left : Int, 0 ≤ left → left ≤ 150 →
 ∃ l' : Int, f (left, false) = some ((decide ((s : Int) ≤ left) && o), (l', false)) ∧ -1 ≤ l' ∧ l' ≤ 150 ∧ ((s : Int) ≤ left → o = true → l' = left - s)
theorem LK.congr {f g : Int × Bool → Option (Bool × (Int × Bool))} {s s' : Nat} {o o' : Bool} (h : ∀ z, f z = g z) (hs : s = s') (ho : o = o') (k : LK g s' o') : LK f s o := by
 subst hs ho
 intro left h0 h1
 rw [h]
 exact k left h0 h1
theorem LK.no {f : Int × Bool → Option (Bool × (Int × Bool))} {s : Nat} {o : Bool} (h : ∀ l b, f (l, b) = some (false, (l, b))) (ho : o = false) : LK f s o := by
 subst ho
 exact fun left h0 h1 => ⟨left, by rw [h, Bool.and_false], by omega, h1, fun _ q => by cases q⟩
theorem LK.yes {f : Int × Bool → Option (Bool × (Int × Bool))} {s : Nat} {o : Bool} (h : ∀ l b, f (l, b) = some (true, (l, b))) (hs : s = 0) (ho : o = true) : LK f s o := by
 subst hs ho
 exact fun left h0 h1 => ⟨left, by rw [h, decide_eq_true (by omega)]; rfl, by omega, h1, fun _ _ => by omega⟩
theorem LK.both {f f1 f2 : Int × Bool → Option (Bool × (Int × Bool))} {s1 s2 : Nat} {o1 o2 : Bool} (h1 : LK f1 s1 o1) (h2 : LK f2 s2 o2)
  (hf : ∀ l b l' b', f1 (l, b) = some (false, (l', b')) → f (l, b) = some (false, (l', b')))
  (ht : ∀ l b l' b', f1 (l, b) = some (true, (l', b')) → f (l, b) = f2 (l', b')) : LK f (s1 + s2) (o1 && o2) := by
 intro left h0 hl
 obtain ⟨l1, e1, a1, b1, c1⟩ := h1 left h0 hl
 cases hq : (decide ((s1 : Int) ≤ left) && o1) with
 | false =>
  rw [hq] at e1
  refine ⟨l1, ?_, a1, b1, fun q1 q2 => ?_⟩
  ·rw [hf _ _ _ _ e1]
   have : (decide (((s1 + s2 : Nat) : Int) ≤ left) && (o1 && o2)) = false := by
    cases ho : o1 with
    | false => simp
    | true =>
     rw [ho, Bool.and_true] at hq
     have := of_decide_eq_false hq
     rw [decide_eq_false (by push_cast; omega)]; rfl
   rw [this]
  have ho : o1 = true ∧ o2 = true := by simpa using q2
  rw [ho.1, Bool.and_true] at hq
  have := of_decide_eq_false hq
  push_cast at q1
  omega
 | true =>
  rw [hq] at e1
  have hh : (s1 : Int) ≤ left ∧ o1 = true := by simpa using hq
  have hl1 := c1 hh.1 hh.2
  obtain ⟨l2, e2, a2, b2, c2⟩ := h2 l1 (by omega) b1
  refine ⟨l2, ?_, a2, b2, fun q1 q2 => ?_⟩
  ·rw [ht _ _ _ _ e1, e2, hh.2, Bool.true_and]
   congr 3
   exact decide_eq_decide.2 (by push_cast; omega)
  have ho : o1 = true ∧ o2 = true := by simpa using q2
  push_cast at q1 ⊢
  have := c2 (by omega) ho.2
  omega

def eb (s : ByteArray) : Bool := s.toList == (⟨#[]⟩ : ByteArray).toList

end Go.Am
namespace Go.Am.YtoajlhhalpldfaaGreatDoor
open Go Go.Am

def nm (s : ByteArray) : Bool := nameB s.data.toList

theorem nodeLK {f g : Int × Bool → Option (Bool × (Int × Bool))} {s : Nat} {o : Bool} (h : LK g s o)
  (e : ∀ z, f z = (i_looker_node (z.1, z.2)).bind fun r5 => if (!r5.1) = true then some (false, (r5.2.1, r5.2.2)) else g (r5.2.1, r5.2.2)) : LK f (1 + s) o := by
 intro left h0 hl
 have hw : IntKind.i64.wrap (left - 1) = left - 1 := w64_eq (by omega) (by omega)
 have e1 : f (left, false) = if (!(decide (left - 1 ≥ 0))) = true then some (false, (left - 1, false)) else g (left - 1, false) := by
  rw [e]
  unfold i_looker_node
  rw [bind_some', hw]
 rw [e1]
 by_cases h1 : left - 1 ≥ 0
 ·rw [decide_eq_true h1, if_neg (by decide)]
  obtain ⟨l', e2, a, b, c⟩ := h (left - 1) h1 (by omega)
  refine ⟨l', ?_, a, b, fun q1 q2 => ?_⟩
  ·rw [e2]
   congr 3
   exact decide_eq_decide.2 (by push_cast; omega)
  push_cast at q1 ⊢
  have := c (by omega) q2
  omega
 rw [decide_eq_false h1, if_pos (by decide)]
 refine ⟨left - 1, ?_, by omega, by omega, fun q1 => ?_⟩
 ·rw [decide_eq_false (by push_cast; omega)]; rfl
 push_cast at q1; omega

theorem specN_ev (s : ByteArray) : Ev fun n => s_NameOK n s = some (nm s) := by
 obtain ⟨⟨l⟩⟩ := s
 exact specName_ev l
theorem implN_eq (s : ByteArray) (h : s.size ≤ 1048576) : i_NameOK s = some (nm s) := by
 obtain ⟨⟨l⟩⟩ := s
 exact implName_eq l h

theorem szTree_loop (rec : T → Int → Option Int) (l : List T) (hl : l.length ≤ 9223372036854775807) (H : ∀ y ∈ l, ∀ left, 0 ≤ left → left ≤ 1048576 → rec y left = some (y.sz left)) :
  ∀ (r a : List T) (m : Nat) (left : Int), l = a ++ r → r.length < m → 0 ≤ left → left ≤ 1048576 → w_szTreeS_L1 rec l m left a.length = some (szs r left)
 | [], a, m, left, e, hm, h0, h1 => by
  obtain ⟨m, rfl⟩ : ∃ k, m = k + 1 := ⟨m - 1, by omega⟩
  subst e
  rw [w_szTreeS_L1, if_neg (lt_end a)]; rfl
 | y :: r, a, m, left, e, hm, h0, h1 => by
  obtain ⟨m, rfl⟩ : ∃ k, m = k + 1 := ⟨m - 1, by omega⟩
  have hy : y ∈ l := by rw [e]; simp
  have hs := H y hy left h0 h1
  have hr := sz_range y left h0
  rw [w_szTreeS_L1]
  have e1 : (a.length : Int) < (l.length : Int) := by rw [e]; exact lt_mid a y r
  rw [if_pos e1, show idx l (a.length : Int) = some y by rw [e]; exact idx_mid a y r, bind_some', hs, bind_some']
  simp only [szs]
  split
  ·rfl
  rw [show IntKind.i64.wrap ((a.length : Int) + 1) = ((a ++ [y]).length : Int) from w64_mid a y r (by rw [← e]; exact hl)]
  exact szTree_loop rec l hl H r (a ++ [y]) m (y.sz left) (by simp [e]) (by simpa using hm) (by omega) (by omega)
theorem szTreeS_ev (ks : List T) (hl : ks.length ≤ 9223372036854775807) (hk : ∀ t ∈ ks, Ev fun n => ∀ left, 0 ≤ left → left ≤ 1048576 → w_szTree n t left = some (t.sz left)) :
  Ev fun n => ∀ left, 0 ≤ left → left ≤ 1048576 → w_szTreeS n ks left = some (szS ks left) := by
 refine (Ev.all hk).up (ks.length + 1) fun n hn H left h0 h1 => ?_
 rw [w_szTreeS, w64_eq (by omega) (by omega)]
 unfold szS
 split
 ·rfl
 exact szTree_loop _ ks hl H ks [] n _ rfl (by omega) (by omega) (by omega)
theorem szTree_ev (t : T) (hok : t.ok) : Ev fun n => ∀ left, 0 ≤ left → left ≤ 1048576 → w_szTree n t left = some (t.sz left) := by
 induction t using T.ind with
 | _ k n s ks ih =>
  obtain ⟨_, _, hs, hl, hks⟩ := ok_kids hok
  refine (szTreeS_ev ks hl fun t ht => ih t ht (hks t ht)).up 0 fun fu _ H left h0 h1 => ?_
  have e0 : w_szTree (fu + 1) (T.mk k n s ks) left = if IntKind.i64.wrap (left - (s.size : Int)) < 0 then some (-1) else (w_szTreeS fu ks (IntKind.i64.wrap (left - (s.size : Int)))).bind fun r4 => if r4 < 0 then some (-1) else some r4 := by rw [w_szTree]; rfl
  rw [e0, w64_eq (by omega) (by omega), sz_eq]
  by_cases hb : left - (s.size : Int) < 0
  ·rw [if_pos hb, if_pos hb]
  have := szS_range ks (left - (s.size : Int)) (by omega)
  rw [if_neg hb, if_neg hb, H _ (by omega) (by omega), bind_some']
  split
  ·congr 1; omega
  rfl
theorem toTree_loop (rec : T → Option T) (l : List T) (hl : l.length ≤ 1048576) (H : ∀ y ∈ l, rec y = some y) :
  ∀ (r a : List T) (m : Nat), l = a ++ r → r.length < m → w_toTreeS_L1 rec l m a.length a = some l
 | [], a, m, e, hm => by
  obtain ⟨m, rfl⟩ : ∃ k, m = k + 1 := ⟨m - 1, by omega⟩
  subst e
  rw [w_toTreeS_L1, if_neg (lt_end a), chk_of (by simp)]; simp
 | y :: r, a, m, e, hm => by
  obtain ⟨m, rfl⟩ : ∃ k, m = k + 1 := ⟨m - 1, by omega⟩
  have hy : y ∈ l := by rw [e]; simp
  rw [w_toTreeS_L1]
  have e1 : (a.length : Int) < (l.length : Int) := by rw [e]; exact lt_mid a y r
  rw [if_pos e1, show idx l (a.length : Int) = some y by rw [e]; exact idx_mid a y r, bind_some', H y hy, bind_some', chk_of ⟨rfl, by rw [e]; simp⟩]
  rw [show IntKind.i64.wrap ((a.length : Int) + 1) = ((a ++ [y]).length : Int) from w64_mid a y r (by rw [← e]; omega)]
  exact toTree_loop rec l hl H r (a ++ [y]) m (by simp [e]) (by simpa using hm)
theorem toTree_ev (t : T) (hsm : t.sm) : Ev fun n => w_toTree n t = some t := by
 induction t using T.ind with
 | _ k n s ks ih =>
  obtain ⟨_, hl, hks⟩ := sm_kids hsm
  have hS : Ev fun fu => w_toTreeS fu ks = some ks := by
   refine (Ev.all fun t ht => ih t ht (hks t ht)).up (ks.length + 1) fun n hn H => ?_
   rw [w_toTreeS, chk_of (by omega)]
   exact toTree_loop _ ks hl H ks [] n rfl (by omega)
  refine hS.up 0 fun fu _ H => ?_
  rw [w_toTree, show (T.mk k n s ks).kids = ks from rfl, H, bind_some']; rfl
theorem eqTs_loop (rec : T → T → Option Bool) (l : List T) (hl : l.length ≤ 1048576) (H : ∀ y ∈ l, rec y y = some true) :
  ∀ (r a : List T) (m : Nat), l = a ++ r → r.length < m → w_eqTreeS_L1 rec l l m a.length = some true
 | [], a, m, e, hm => by
  obtain ⟨m, rfl⟩ : ∃ k, m = k + 1 := ⟨m - 1, by omega⟩
  subst e
  rw [w_eqTreeS_L1, if_neg (lt_end a)]
 | y :: r, a, m, e, hm => by
  obtain ⟨m, rfl⟩ : ∃ k, m = k + 1 := ⟨m - 1, by omega⟩
  have hy : y ∈ l := by rw [e]; simp
  rw [w_eqTreeS_L1]
  have e1 : (a.length : Int) < (l.length : Int) := by rw [e]; exact lt_mid a y r
  have e2 : idx l (a.length : Int) = some y := by rw [e]; exact idx_mid a y r
  rw [if_pos e1, e2, bind_some', bind_some', H y hy, bind_some']
  rw [show IntKind.i64.wrap ((a.length : Int) + 1) = ((a ++ [y]).length : Int) from w64_mid a y r (by rw [← e]; omega)]
  exact eqTs_loop rec l hl H r (a ++ [y]) m (by simp [e]) (by simpa using hm)
theorem eqTs_ev (t : T) (hsm : t.sm) : Ev fun n => w_eqTree n t t = some true := by
 induction t using T.ind with
 | _ k n s ks ih =>
  obtain ⟨_, hl, hks⟩ := sm_kids hsm
  have hS : Ev fun fu => w_eqTreeS fu ks ks = some true := by
   refine (Ev.all fun t ht => ih t ht (hks t ht)).up (ks.length + 1) fun n hn H => ?_
   rw [w_eqTreeS, if_neg (by simp)]
   exact eqTs_loop _ ks hl H ks [] n rfl (by omega)
  refine hS.up 0 fun fu _ H => ?_
  rw [w_eqTree, if_neg (by simp), if_neg (by simp), if_neg (by simp), show (T.mk k n s ks).kids = ks from rfl, H, bind_some', if_neg (by simp)]

theorem count_loop (rec : T → Int → Option Int) (x : T) (hl : x.kids.length ≤ 1048576) (H : ∀ y ∈ x.kids, ∀ left, 0 ≤ left → left ≤ 1000 → rec y left = some (y.cnt left)) :
  ∀ (r a : List T) (m : Nat) (left : Int), x.kids = a ++ r → r.length < m → -1 ≤ left → left ≤ 1000 → s_l01Count_L1 rec x m left a.length = some (tcnts r left)
 | [], a, m, left, e, hm, h0, h1 => by
  obtain ⟨m, rfl⟩ : ∃ k, m = k + 1 := ⟨m - 1, by omega⟩
  rw [s_l01Count_L1, e, if_neg (lt_end a)]; rfl
 | y :: r, a, m, left, e, hm, h0, h1 => by
  obtain ⟨m, rfl⟩ : ∃ k, m = k + 1 := ⟨m - 1, by omega⟩
  have hy : y ∈ x.kids := by rw [e]; simp
  rw [s_l01Count_L1]
  have e1 : (a.length : Int) < (x.kids.length : Int) := by rw [e]; exact lt_mid a y r
  rw [if_pos e1]
  simp only [tcnts]
  split
  ·rename_i hge
   have hr := tcnt_range y left hge
   rw [show idx x.kids (a.length : Int) = some y by rw [e]; exact idx_mid a y r, bind_some', H y hy left hge h1, bind_some']
   rw [show IntKind.i64.wrap ((a.length : Int) + 1) = ((a ++ [y]).length : Int) from w64_mid a y r (by rw [← e]; omega)]
   exact count_loop rec x hl H r (a ++ [y]) m (y.cnt left) (by simp [e]) (by simpa using hm) (by omega) (by omega)
  rfl
theorem count_ev (t : T) (hsm : t.sm) : Ev fun n => ∀ left, 0 ≤ left → left ≤ 1000 → s_l01Count n t left = some (t.cnt left) := by
 induction t using T.ind with
 | _ k n s ks ih =>
  obtain ⟨_, hl, hks⟩ := sm_kids hsm
  refine (Ev.all fun t ht => ih t ht (hks t ht)).up (ks.length + 1) fun fu hn H left h0 h1 => ?_
  rw [s_l01Count, w64_eq (by omega) (by omega)]
  simp only [T.cnt]
  exact count_loop _ (T.mk k n s ks) hl H ks [] fu _ rfl (by omega) (by omega) (by omega)
theorem small_ev (t : T) (hsm : t.sm) : Ev fun n => s_l01Small n t = some (decide (t.size ≤ 150)) := by
 refine (count_ev t hsm).mp fun n h => ?_
 have hc := tcnt_eq t 150 (by omega)
 unfold s_l01Small
 rw [h 150 (by omega) (by omega), bind_some']
 congr 1
 by_cases hs : t.size ≤ 150
 ·rw [decide_eq_true hs]; exact decide_eq_true (by rw [hc.1 (by omega)]; omega)
 rw [decide_eq_false hs]; exact decide_eq_false (by have := hc.2 (by omega); omega)

end Go.Am.YtoajlhhalpldfaaGreatDoor
