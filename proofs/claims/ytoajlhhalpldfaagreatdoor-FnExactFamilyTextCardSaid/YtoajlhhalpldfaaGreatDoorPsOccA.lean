/- Plain laws: right trees; variables that occur. -/
import Derived.Test.YtoajlhhalpldfaaGreatDoorPsFam
import Derived.Test.YtoajlhhalpldfaaGreatDoorDkOccurs
namespace Go.Am
open Go
def und (k : Int) (i : Nat) : Int := if k = 4 then 1 else if k = 2 then (if i = 1 then 1 else 0) else 0
theorem und_range (k : Int) (i : Nat) : 0 ≤ und k i ∧ und k i ≤ 1 := by unfold und; split <;> (try split) <;> (try split) <;> omega
mutual
def T.occ : T → Int → Bool
 | .mk k n _ ks, v => (decide (k = 5) && decide (n = v)) || occs ks k 0 v
def occs : List T → Int → Nat → Int → Bool
 | [], _, _, _ => false
 | t :: r, k, i, v => t.occ (v + und k i) || occs r k (i + 1) v
end
def T.n100 : T → Bool
 | .mk _ n _ ks => decide (0 ≤ n) && (decide (n ≤ 100) && ks.attach.all fun ⟨t, _⟩ => t.n100)
theorem n100_eq (k n : Int) (s : ByteArray) (ks : List T) : (T.mk k n s ks).n100 = true ↔ 0 ≤ n ∧ n ≤ 100 ∧ ∀ t ∈ ks, t.n100 = true := by
 rw [T.n100]
 simp only [Bool.and_eq_true, decide_eq_true_eq, List.all_eq_true]
 constructor
 ·exact fun ⟨a, b, c⟩ => ⟨a, b, fun t ht => c ⟨t, ht⟩ (List.mem_attach _ _)⟩
 exact fun ⟨a, b, c⟩ => ⟨a, b, fun t _ => c t.1 t.2⟩
end Go.Am
namespace Go.Am.YtoajlhhalpldfaaGreatDoor
open Go Go.Am

theorem tmoks_mem : ∀ {ks : List T}, tmoks ks = true → ∀ t ∈ ks, t.tmok = true
 | [], _, t, h => by cases h
 | a :: r, h, t, ht => by
  simp only [tmoks, Bool.and_eq_true] at h
  rcases List.mem_cons.1 ht with rfl | ht
  ·exact h.1
  exact tmoks_mem h.2 t ht
theorem faoks_mem : ∀ {ks : List T} {b : Bool}, faoks ks b = true → ∀ t ∈ ks, ∃ c, t.faok c = true
 | [], _, _, t, h => by cases h
 | a :: r, b, h, t, ht => by
  simp only [faoks, Bool.and_eq_true] at h
  rcases List.mem_cons.1 ht with rfl | ht
  ·exact ⟨_, h.1⟩
  exact faoks_mem h.2 t ht
theorem tmok_n100 (t : T) : t.tmok = true → t.n100 = true := by
 induction t using T.ind with
 | _ k n s ks ih =>
  intro h
  rw [n100_eq]
  simp only [T.tmok] at h
  by_cases k4 : k = 4
  ·rw [if_pos k4] at h
   simp only [Bool.and_eq_true, decide_eq_true_eq] at h
   obtain ⟨h0, _, hl, hf⟩ := h
   match ks, hl, hf, ih with
   | [a], _, hf, ih =>
    refine ⟨by omega, by omega, fun t ht => ?_⟩
    obtain rfl : t = a := by simpa using ht
    exact ih t (by simp) (by simpa [tmoks] using hf)
  rw [if_neg k4] at h
  by_cases k57 : k = 5 ∨ k = 7
  ·rw [if_pos k57] at h
   simp only [Bool.and_eq_true, decide_eq_true_eq] at h
   exact ⟨h.1, h.2.1, fun t ht => ih t ht (tmoks_mem h.2.2.2 t ht)⟩
  rw [if_neg k57] at h
  by_cases k6 : k = 6
  ·rw [if_pos k6] at h
   simp only [Bool.and_eq_true, decide_eq_true_eq] at h
   exact ⟨by omega, by omega, fun t ht => ih t ht (tmoks_mem h.2.2 t ht)⟩
  rw [if_neg k6] at h; cases h
theorem faok_n100 (t : T) : ∀ b, t.faok b = true → t.n100 = true := by
 induction t using T.ind with
 | _ k n s ks ih =>
  intro b h
  rw [n100_eq]
  simp only [T.faok] at h
  by_cases k1 : k = 1
  ·rw [if_pos k1] at h
   simp only [Bool.and_eq_true, decide_eq_true_eq] at h
   obtain ⟨_, h0, _, hl⟩ := h
   obtain rfl := List.length_eq_zero_iff.1 hl
   exact ⟨by omega, by omega, fun t ht => by cases ht⟩
  rw [if_neg k1] at h
  by_cases k3 : k = 3
  ·rw [if_pos k3] at h
   simp only [Bool.and_eq_true, decide_eq_true_eq] at h
   exact ⟨by omega, by omega, fun t ht => tmok_n100 t (tmoks_mem h.2.2.2 t ht)⟩
  rw [if_neg k3] at h
  by_cases k2 : k = 2
  ·rw [if_pos k2] at h
   simp only [Bool.and_eq_true, decide_eq_true_eq] at h
   refine ⟨by omega, by omega, fun t ht => ?_⟩
   obtain ⟨c, hc⟩ := faoks_mem h.2.2.2 t ht
   exact ih t ht c hc
  rw [if_neg k2] at h; cases h

theorem under_c (x : T) (i : Nat) : i_Tree_under__c x (i : Int) = some (und x.kind i) := by
 unfold i_Tree_under__c i_Tree_binds__c und
 by_cases h4 : x.kind = 4
 ·rw [if_pos h4, if_pos h4]; rfl
 rw [if_neg h4, if_neg h4]
 by_cases h2 : x.kind = 2
 ·rw [if_pos h2, if_pos h2, bind_some']
  by_cases h1 : i = 1
  ·subst h1; rfl
  rw [if_neg h1, if_neg (show ¬ (((i : Int) == 1) = true) by simp only [beq_iff_eq]; omega)]
 rw [if_neg h2, if_neg h2]; rfl
theorem under_s (x : T) (i : Nat) : s_l01Under x (i : Int) = some (und x.kind i) := under_c x i

theorem socc_lp (rec : T → Int → Option Bool) (x : T) (v : Int) (B : Int) (hB : B ≤ 9223372036854775000) (hv : 0 ≤ v) (hvB : v + sizes x.kids ≤ B) (hl : x.kids.length ≤ 1048576)
  (H : ∀ y ∈ x.kids, ∀ v : Int, 0 ≤ v → v + (y.size : Int) ≤ B + 1 → rec y v = some (y.occ v)) :
  ∀ (r a : List T) (m : Nat), x.kids = a ++ r → r.length < m → s_l01Occurs_L1 rec x v m a.length = some (occs r x.kind a.length v)
 | [], a, m, e, hm => by
  obtain ⟨m, rfl⟩ : ∃ k, m = k + 1 := ⟨m - 1, by omega⟩
  rw [s_l01Occurs_L1, e, if_neg (lt_end a)]; rfl
 | y :: r, a, m, e, hm => by
  obtain ⟨m, rfl⟩ : ∃ k, m = k + 1 := ⟨m - 1, by omega⟩
  have hy : y ∈ x.kids := by rw [e]; simp
  have e1 : (a.length : Int) < (x.kids.length : Int) := by rw [e]; exact lt_mid a y r
  have e2 : idx x.kids (a.length : Int) = some y := by rw [e]; exact idx_mid a y r
  have hw : IntKind.i64.wrap ((a.length : Int) + 1) = ((a ++ [y]).length : Int) := w64_mid a y r (by rw [← e]; omega)
  have ih := socc_lp rec x v B hB hv hvB hl H r (a ++ [y]) m (by simp [e]) (by simpa using hm)
  have hu := und_range x.kind a.length
  have hs := sizes_mem hy
  rw [s_l01Occurs_L1, if_pos e1, e2, bind_some', under_s, bind_some', w64_eq (by omega) (by omega), H y hy _ (by omega) (by omega), bind_some', hw, ih]
  simp only [occs, List.length_append, List.length_singleton]
  cases y.occ (v + und x.kind a.length) <;> rfl
theorem socc_ev (t : T) : t.sm → Ev fun n => ∀ v : Int, 0 ≤ v → v + (t.size : Int) ≤ 4611686018427387904 → s_l01Occurs n t v = some (t.occ v) := by
 induction t using T.ind with
 | _ k n s ks ih =>
  intro hsm
  obtain ⟨_, hl, hks⟩ := sm_kids hsm
  refine (Ev.all fun t ht => ih t ht (hks t ht)).up (ks.length + 1) fun fu hn H v h0 h1 => ?_
  have hsz : (T.mk k n s ks).size = 1 + sizes ks := by simp only [T.size]
  rw [hsz] at h1
  have hlp := socc_lp (s_l01Occurs fu) (T.mk k n s ks) v 4611686018427387903 (by omega) h0 (by rw [tkids]; omega) hl (fun y hy v a b => H y hy v a (by omega)) ks [] fu rfl (by omega)
  have hlp : s_l01Occurs_L1 (s_l01Occurs fu) (T.mk k n s ks) v fu 0 = some (occs ks k 0 v) := hlp
  have e0 : s_l01Occurs (fu + 1) (T.mk k n s ks) v = if k = 5 then (if n = v then some true else s_l01Occurs_L1 (s_l01Occurs fu) (T.mk k n s ks) v fu 0) else s_l01Occurs_L1 (s_l01Occurs fu) (T.mk k n s ks) v fu 0 := by rw [s_l01Occurs]; rfl
  rw [e0, hlp]
  simp only [T.occ]
  by_cases k5 : k = 5
  ·rw [if_pos k5, decide_eq_true k5]
   by_cases nv : n = v
   ·rw [if_pos nv, decide_eq_true nv]; rfl
   rw [if_neg nv, decide_eq_false nv]; rfl
  rw [if_neg k5, decide_eq_false k5]; rfl

theorem iocc_lp (rec : T → Int → Int → Option Bool) (x : T) (d v : Int) (B : Int) (hB : B ≤ 9223372036854775000) (hv : 0 ≤ v) (hd : 0 ≤ d) (hvB : v + d + sizes x.kids ≤ B) (hl : x.kids.length ≤ 1048576)
  (H : ∀ y ∈ x.kids, ∀ d : Int, 0 ≤ d → v + d + (y.size : Int) ≤ B + 1 → rec y d v = some (y.occ (v + d))) :
  ∀ (r a : List T) (m : Nat), x.kids = a ++ r → r.length < m → i_Tree_each__c_fn_i_occurs_c1v_L1 rec x d v m a.length = some (occs r x.kind a.length (v + d))
 | [], a, m, e, hm => by
  obtain ⟨m, rfl⟩ : ∃ k, m = k + 1 := ⟨m - 1, by omega⟩
  rw [i_Tree_each__c_fn_i_occurs_c1v_L1, e, if_neg (lt_end a)]; rfl
 | y :: r, a, m, e, hm => by
  obtain ⟨m, rfl⟩ : ∃ k, m = k + 1 := ⟨m - 1, by omega⟩
  have hy : y ∈ x.kids := by rw [e]; simp
  have e1 : (a.length : Int) < (x.kids.length : Int) := by rw [e]; exact lt_mid a y r
  have e2 : idx x.kids (a.length : Int) = some y := by rw [e]; exact idx_mid a y r
  have hw : IntKind.i64.wrap ((a.length : Int) + 1) = ((a ++ [y]).length : Int) := w64_mid a y r (by rw [← e]; omega)
  have ih := iocc_lp rec x d v B hB hv hd hvB hl H r (a ++ [y]) m (by simp [e]) (by simpa using hm)
  have hu := und_range x.kind a.length
  have hs := sizes_mem hy
  rw [i_Tree_each__c_fn_i_occurs_c1v_L1, if_pos e1, e2, bind_some', under_c, bind_some', w64_eq (by omega) (by omega), H y hy _ (by omega) (by omega), bind_some', hw, ih]
  simp only [occs, List.length_append, List.length_singleton, ← Int.add_assoc]
  cases y.occ (v + d + und x.kind a.length) <;> rfl
theorem iocc_ev (t : T) : t.sm → Ev fun n => ∀ d v : Int, 0 ≤ d → 0 ≤ v → v + d + (t.size : Int) ≤ 4611686018427387904 → i_Tree_each__c_fn_i_occurs_c1v n t d v = some (t.occ (v + d)) := by
 induction t using T.ind with
 | _ k n s ks ih =>
  intro hsm
  obtain ⟨_, hl, hks⟩ := sm_kids hsm
  refine (Ev.all fun t ht => ih t ht (hks t ht)).up (ks.length + 1) fun fu hn H d v h0 hv h1 => ?_
  have hsz : (T.mk k n s ks).size = 1 + sizes ks := by simp only [T.size]
  rw [hsz] at h1
  have hlp := iocc_lp (i_Tree_each__c_fn_i_occurs_c1v fu) (T.mk k n s ks) d v 4611686018427387903 (by omega) hv h0 (by rw [tkids]; omega) hl (fun y hy d a b => H y hy d v a hv (by omega)) ks [] fu rfl (by omega)
  have hlp : i_Tree_each__c_fn_i_occurs_c1v_L1 (i_Tree_each__c_fn_i_occurs_c1v fu) (T.mk k n s ks) d v fu 0 = some (occs ks k 0 (v + d)) := hlp
  have e0 : i_Tree_each__c_fn_i_occurs_c1v (fu + 1) (T.mk k n s ks) d v = (if k = 5 then some (n == IntKind.i64.wrap (v + d)) else some false).bind fun r4 => if r4 = true then some true else i_Tree_each__c_fn_i_occurs_c1v_L1 (i_Tree_each__c_fn_i_occurs_c1v fu) (T.mk k n s ks) d v fu 0 := by rw [i_Tree_each__c_fn_i_occurs_c1v]; rfl
  rw [e0, hlp, w64_eq (by omega) (by omega)]
  simp only [T.occ]
  by_cases k5 : k = 5
  ·rw [if_pos k5, decide_eq_true k5, bind_some']
   by_cases nv : n = v + d
   ·rw [if_pos (show (n == v + d) = true from beq_iff_eq.2 nv), decide_eq_true nv]; rfl
   rw [if_neg (show ¬ (n == v + d) = true by simpa using nv), decide_eq_false nv]; rfl
  rw [if_neg k5, decide_eq_false k5]; rfl
theorem occurs_ev (t : T) (hsm : t.sm) (hs : t.size ≤ 1048577) : Ev fun n => ∀ v : Int, 0 ≤ v → v ≤ 1048576 → s_l01Occurs n t v = some (t.occ v) ∧ i_occurs n t v = some (t.occ v) := by
 refine ((socc_ev t hsm).and (iocc_ev t hsm)).mp fun n ⟨h1, h2⟩ v h0 hv => ⟨h1 v h0 (by omega), ?_⟩
 unfold i_occurs
 rw [h2 0 v (by omega) h0 (by omega), bind_some', Int.add_zero]

end Go.Am.YtoajlhhalpldfaaGreatDoor
