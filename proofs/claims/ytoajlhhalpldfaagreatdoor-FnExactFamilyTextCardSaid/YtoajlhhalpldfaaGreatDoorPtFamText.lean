/- Plain laws: the text of a family or a kind. -/
import Derived.Test.YtoajlhhalpldfaaGreatDoorPtText
import Derived.Test.YtoajlhhalpldfaaGreatDoorPsFam
import Derived.Test.YtoajlhhalpldfaaGreatDoorPsLift
import Derived.Test.YtoajlhhalpldfaaGreatDoorTzF
import Derived.Test.YtoajlhhalpldfaaGreatDoorTzS
namespace Go.Am
open Go
theorem und_un (k : Int) (i : Nat) : und k i = un k i := rfl
theorem lfts_mem {p : T → Prop} (v : Int) (b : Int) (k : Int) : ∀ (l : List T) (i : Nat), (∀ t ∈ l, ∀ j, p (t.lft (v + und k j) b)) → ∀ t ∈ lfts l k i v b, p t
 | [], _, _, t, ht => by cases ht
 | a :: r, i, h, t, ht => by
  simp only [lfts] at ht
  rcases List.mem_cons.1 ht with rfl | ht
  ·exact h a (by simp) i
  exact lfts_mem v b k r (i + 1) (fun u hu => h u (by simp [hu])) t ht
theorem lft_sm (t : T) : t.sm → ∀ f b, (t.lft f b).sm := by
 induction t using T.ind with
 | _ k n s ks ih =>
  intro h f b
  obtain ⟨h1, h2, h3⟩ := sm_kids h
  simp only [T.lft]
  unfold T.sm
  exact ⟨h1, by rw [lfts_length]; exact h2, lfts_mem f b k ks 0 fun t ht j => ih t ht (h3 t ht) _ _⟩
theorem lowNum {k n v : Int} (h : ¬ (k = 5 ∧ n = v)) (h0 : 0 ≤ v) (hn : 0 ≤ n) (h1 : n ≤ 100) : 0 ≤ (if k = 5 ∧ n ≥ v + 1 then n + -1 else n) ∧ (if k = 5 ∧ n ≥ v + 1 then n + -1 else n) ≤ 100 := by
 split <;> omega
theorem occ_parts {k n : Int} {s : ByteArray} {ks : List T} {v : Int} (h : (T.mk k n s ks).occ v = false) : ¬ (k = 5 ∧ n = v) ∧ occs ks k 0 v = false := by
 simp only [T.occ, Bool.or_eq_false_iff, Bool.and_eq_false_iff, decide_eq_false_iff_not] at h
 exact ⟨fun q => h.1.elim (fun z => z q.1) (fun z => z q.2), h.2⟩
theorem n100_low (t : T) : t.n100 = true → ∀ v, 0 ≤ v → t.occ v = false → (t.lft (v + 1) (-1)).n100 = true := by
 induction t using T.ind with
 | _ k n s ks ih =>
  intro h v h0 ho
  rw [n100_eq] at h
  obtain ⟨ho1, ho2⟩ := occ_parts ho
  simp only [T.lft]
  rw [n100_eq]
  have hl := lowNum ho1 h0 h.1 h.2.1
  refine ⟨hl.1, hl.2, ?_⟩
  have key : ∀ (l : List T), (∀ t ∈ l, t ∈ ks) → ∀ i, occs l k i v = false → ∀ t ∈ lfts l k i (v + 1) (-1), t.n100 = true := by
   intro l
   induction l with
   | nil => intro _ _ _ t ht; cases ht
   | cons a r ih2 =>
    intro hm i hoc t ht
    simp only [occs, Bool.or_eq_false_iff] at hoc
    simp only [lfts] at ht
    rcases List.mem_cons.1 ht with rfl | ht
    ·have ha := hm a (by simp)
     have hr := und_range k i
     rw [show v + 1 + und k i = v + und k i + 1 by omega]
     exact ih a ha (h.2.2 a ha) _ (by omega) hoc.1
    exact ih2 (fun u hu => hm u (by simp [hu])) (i + 1) hoc.2 t ht
  exact key ks (fun t ht => ht) 0 ho2
theorem tmok_low (t : T) : t.tmok = true → ∀ v, 0 ≤ v → t.occ v = false → (t.lft (v + 1) (-1)).tmok = true := by
 induction t using T.ind with
 | _ k n s ks ih =>
  intro h v h0 ho
  obtain ⟨ho1, ho2⟩ := occ_parts ho
  have key : tmoks ks = true → tmoks (lfts ks k 0 (v + 1) (-1)) = true := by
   have : ∀ (l : List T), (∀ t ∈ l, t ∈ ks) → ∀ i, occs l k i v = false → tmoks l = true → tmoks (lfts l k i (v + 1) (-1)) = true := by
    intro l
    induction l with
    | nil => intro _ _ _ _; rfl
    | cons a r ih2 =>
     intro hm i hoc ht
     simp only [occs, Bool.or_eq_false_iff] at hoc
     simp only [tmoks, Bool.and_eq_true] at ht
     have hr := und_range k i
     simp only [lfts, tmoks, Bool.and_eq_true]
     rw [show v + 1 + und k i = v + und k i + 1 by omega]
     exact ⟨ih a (hm a (by simp)) ht.1 _ (by omega) hoc.1, ih2 (fun u hu => hm u (by simp [hu])) (i + 1) hoc.2 ht.2⟩
   exact this ks (fun t ht => ht) 0 ho2
  simp only [T.lft]
  simp only [T.tmok] at h ⊢
  rw [lfts_length]
  by_cases k4 : k = 4
  ·rw [if_pos k4] at h ⊢
   rw [if_neg (show ¬ (k = 5 ∧ n ≥ v + 1) by omega)]
   simp only [Bool.and_eq_true] at h ⊢
   exact ⟨h.1, h.2.1, h.2.2.1, key h.2.2.2⟩
  rw [if_neg k4] at h ⊢
  by_cases k57 : k = 5 ∨ k = 7
  ·rw [if_pos k57] at h ⊢
   simp only [Bool.and_eq_true, decide_eq_true_eq] at h ⊢
   have hl := lowNum ho1 h0 h.1 h.2.1
   exact ⟨hl.1, hl.2, h.2.2.1, key h.2.2.2⟩
  rw [if_neg k57] at h ⊢
  by_cases k6 : k = 6
  ·rw [if_pos k6] at h ⊢
   rw [if_neg (show ¬ (k = 5 ∧ n ≥ v + 1) by omega)]
   simp only [Bool.and_eq_true] at h ⊢
   exact ⟨h.1, h.2.1, key h.2.2⟩
  rw [if_neg k6] at h; cases h
theorem tmoks_low (k v : Int) (h0 : 0 ≤ v) : ∀ (l : List T) (i : Nat), occs l k i v = false → tmoks l = true → tmoks (lfts l k i (v + 1) (-1)) = true
 | [], _, _, _ => rfl
 | a :: r, i, hoc, ht => by
  simp only [occs, Bool.or_eq_false_iff] at hoc
  simp only [tmoks, Bool.and_eq_true] at ht
  have hr := und_range k i
  simp only [lfts, tmoks, Bool.and_eq_true]
  rw [show v + 1 + und k i = v + und k i + 1 by omega]
  exact ⟨tmok_low a ht.1 _ (by omega) hoc.1, tmoks_low k v h0 r (i + 1) hoc.2 ht.2⟩
theorem faok_low (t : T) : ∀ b, t.faok b = true → ∀ v, 0 ≤ v → t.occ v = false → (t.lft (v + 1) (-1)).faok b = true := by
 induction t using T.ind with
 | _ k n s ks ih =>
  intro b h v h0 ho
  obtain ⟨ho1, ho2⟩ := occ_parts ho
  simp only [T.lft]
  simp only [T.faok] at h ⊢
  rw [lfts_length]
  by_cases k1 : k = 1
  ·rw [if_pos k1] at h ⊢
   rw [if_neg (show ¬ (k = 5 ∧ n ≥ v + 1) by omega)]
   exact h
  rw [if_neg k1] at h ⊢
  by_cases k3 : k = 3
  ·rw [if_pos k3] at h ⊢
   rw [if_neg (show ¬ (k = 5 ∧ n ≥ v + 1) by omega)]
   simp only [Bool.and_eq_true] at h ⊢
   exact ⟨h.1, h.2.1, h.2.2.1, tmoks_low k v h0 ks 0 ho2 h.2.2.2⟩
  rw [if_neg k3] at h ⊢
  by_cases k2 : k = 2
  ·rw [if_pos k2] at h ⊢
   rw [if_neg (show ¬ (k = 5 ∧ n ≥ v + 1) by omega)]
   simp only [Bool.and_eq_true, decide_eq_true_eq] at h ⊢
   refine ⟨h.1, h.2.1, h.2.2.1, ?_⟩
   match ks, h.2.2.1, h.2.2.2, ih, ho2 with
   | [a, c], _, hf, ih, ho2 =>
    subst k2
    simp only [occs, Bool.or_eq_false_iff] at ho2
    simp only [faoks, Bool.and_eq_true] at hf
    have hra := und_range 2 0
    have hrc := und_range 2 (0 + 1)
    simp only [lfts, faoks, Bool.and_eq_true]
    rw [show v + 1 + und 2 0 = v + und 2 0 + 1 by omega, show v + 1 + und 2 (0 + 1) = v + und 2 (0 + 1) + 1 by omega]
    exact ⟨ih a (by simp) _ hf.1 _ (by omega) ho2.1, ih c (by simp) _ hf.2.1 _ (by omega) ho2.2.1, trivial⟩
  rw [if_neg k2] at h; cases h
theorem clo_low (t : T) : ∀ v d, 0 ≤ v → v ≤ d → t.occ v = false → (t.lft (v + 1) (-1)).clo d = t.clo (d + 1) := by
 induction t using T.ind with
 | _ k n s ks ih =>
  intro v d h0 hd ho
  obtain ⟨ho1, ho2⟩ := occ_parts ho
  have key : ∀ (l : List T), (∀ t ∈ l, t ∈ ks) → ∀ i, occs l k i v = false → clox k i (lfts l k i (v + 1) (-1)) d = clox k i l (d + 1) := by
   intro l
   induction l with
   | nil => intro _ _ _; rfl
   | cons a r ih2 =>
    intro hm i hoc
    simp only [occs, Bool.or_eq_false_iff] at hoc
    have hr := und_range k i
    simp only [lfts, clox]
    rw [show v + 1 + und k i = v + und k i + 1 by omega, ← und_un, ih a (hm a (by simp)) _ (d + und k i) (by omega) (by omega) hoc.1, ih2 (fun u hu => hm u (by simp [hu])) (i + 1) hoc.2, show d + und k i + 1 = d + 1 + und k i by omega]
  simp only [T.lft, T.clo]
  rw [key ks (fun t ht => ht) 0 ho2]
  congr 2
  by_cases k5 : k = 5
  ·rw [decide_eq_true k5, Bool.true_and, Bool.true_and]
   have hne : n ≠ v := fun q => ho1 ⟨k5, q⟩
   refine decide_eq_decide.2 ?_
   by_cases hv : n ≥ v + 1
   ·rw [if_pos ⟨k5, hv⟩]; omega
   rw [if_neg (fun q => hv q.2)]; omega
  rw [decide_eq_false k5]; rfl
theorem tmok_tso (t : T) : t.tmok = true → t.tso = true := by
 induction t using T.ind with
 | _ k n s ks ih =>
  intro h
  have key : ∀ (l : List T), (∀ t ∈ l, t ∈ ks) → tmoks l = true → tsos l = true := by
   intro l
   induction l with
   | nil => intro _ _; rfl
   | cons a r ih2 =>
    intro hm ht
    simp only [tmoks, Bool.and_eq_true] at ht
    have ha := ih a (hm a (by simp)) ht.1
    simp only [tsos, Bool.and_eq_true]
    rw [if_neg (tso_not8 a ha)]
    exact ⟨ha, ih2 (fun u hu => hm u (by simp [hu])) ht.2⟩
  simp only [T.tmok] at h
  simp only [T.tso]
  by_cases k4 : k = 4
  ·rw [if_pos k4] at h ⊢
   simp only [Bool.and_eq_true, decide_eq_true_eq] at h ⊢
   refine ⟨h.1, h.2.1, h.2.2.1, ?_⟩
   match ks, h.2.2.1, h.2.2.2, ih with
   | [a], _, hf, ih =>
    simp only [tmoks, Bool.and_true] at hf
    exact ih a (by simp) hf
  rw [if_neg k4] at h ⊢
  by_cases k57 : k = 5 ∨ k = 7
  ·rw [if_pos k57] at h ⊢
   simp only [Bool.and_eq_true] at h ⊢
   exact ⟨h.1, h.2.1, h.2.2.1, key ks (fun t ht => ht) h.2.2.2⟩
  rw [if_neg k57] at h ⊢
  by_cases k6 : k = 6
  ·rw [if_pos k6] at h ⊢
   simp only [Bool.and_eq_true] at h ⊢
   exact ⟨h.1, h.2.1, key ks (fun t ht => ht) h.2.2⟩
  rw [if_neg k6] at h; cases h
theorem tmoks_src {ks : List T} (h : tmoks ks = true) : ∀ t ∈ ks, t.srcB = true := fun t ht => srcB_of t (tmok_tso t (Go.Am.YtoajlhhalpldfaaGreatDoor.tmoks_mem h t ht))
theorem faok_shape (k n : Int) (s : ByteArray) (ks : List T) (b : Bool) (h : (T.mk k n s ks).faok b = true) :
  (k = 1 ∧ ks = []) ∨ (k = 3 ∧ tmoks ks = true) ∨ (k = 2 ∧ ∃ a c, ks = [a, c] ∧ a.faok false = true ∧ c.faok b = true) := by
 simp only [T.faok] at h
 by_cases k1 : k = 1
 ·rw [if_pos k1] at h
  simp only [Bool.and_eq_true, decide_eq_true_eq] at h
  exact .inl ⟨k1, List.length_eq_zero_iff.1 h.2.2.2⟩
 rw [if_neg k1] at h
 by_cases k3 : k = 3
 ·rw [if_pos k3] at h
  simp only [Bool.and_eq_true] at h
  exact .inr (.inl ⟨k3, h.2.2.2⟩)
 rw [if_neg k3] at h
 by_cases k2 : k = 2
 ·rw [if_pos k2] at h
  simp only [Bool.and_eq_true, decide_eq_true_eq] at h
  match ks, h.2.2.1, h.2.2.2 with
  | [a, c], _, hf =>
   simp only [faoks, Bool.and_eq_true] at hf
   exact .inr (.inr ⟨k2, a, c, rfl, hf.1, hf.2.1⟩)
 rw [if_neg k2] at h; cases h
end Go.Am
namespace Go.Am.YtoajlhhalpldfaaGreatDoor
open Go Go.Am

theorem arrow_assoc (y : ByteArray) : ((y ++ (⟨#[32]⟩ : ByteArray)) ++ (⟨#[45, 62]⟩ : ByteArray)) ++ (⟨#[32]⟩ : ByteArray) = y ++ (⟨#[32, 45, 62, 32]⟩ : ByteArray) := by
 rw [ba_assoc, ba_assoc]; rfl
theorem sz1 : (⟨#[32]⟩ : ByteArray).size = 1 := rfl
theorem sz2 : (⟨#[45, 62]⟩ : ByteArray).size = 2 := rfl
theorem sz3 : (⟨#[40]⟩ : ByteArray).size = 1 := rfl
theorem sz4 : (⟨#[41]⟩ : ByteArray).size = 1 := rfl
theorem sz5 : (⟨#[123]⟩ : ByteArray).size = 1 := rfl
theorem sz6 : (⟨#[58]⟩ : ByteArray).size = 1 := rfl
theorem sz7 : (⟨#[125, 32]⟩ : ByteArray).size = 2 := rfl
theorem sz8 : (⟨#[32, 45, 62, 32]⟩ : ByteArray).size = 4 := rfl

theorem fam_ev : ∀ (m : Nat) (t : T), t.size ≤ m → t.sm → t.n100 = true → (∃ b, t.faok b = true) → ∀ d : Int, 0 ≤ d → d + t.size ≤ 1000 →
  ∃ x : ByteArray, x.size ≤ t.size * 3000000 ∧ (t.clo d = true → Ev fun n => s_l02Family n t d = some x) ∧ Ev fun n => i_familyText n t d = some (orStop (t.clo d) x) := by
 intro m
 induction m with
 | zero =>
  intro t ht
  obtain ⟨k, n, s, ks⟩ := t
  simp only [T.size] at ht
  omega
 | succ m ih =>
  intro t ht hsm h100 hb d h0 h1
  obtain ⟨k, n, s, ks⟩ := t
  obtain ⟨b, hb⟩ := hb
  obtain ⟨hss, hl, hks⟩ := sm_kids hsm
  rw [n100_eq] at h100
  simp only [T.size] at ht h1 ⊢
  rcases faok_shape k n s ks b hb with ⟨rfl, rfl⟩ | ⟨rfl, hk⟩ | ⟨rfl, a, c, rfl, ha, hc⟩
  ·refine ⟨⟨#[116, 121, 112, 101]⟩, by show 4 ≤ _; omega, fun _ => ⟨1, fun n hn => ?_⟩, ⟨1, fun n hn => ?_⟩⟩
   ·obtain ⟨n, rfl⟩ : ∃ k, n = k + 1 := ⟨n - 1, by omega⟩
    rw [s_l02Family]; rfl
   obtain ⟨n, rfl⟩ : ∃ k, n = k + 1 := ⟨n - 1, by omega⟩
   rw [i_familyText]; rfl
  ·have hsz : ∀ t ∈ ks, (t.tx d).size + 3 ≤ t.size * 2000000 := fun t ht => tx_size t (hks t ht) (tmoks_src hk t ht) d h0 (by have := sizes_mem ht; omega)
   have hts := txs_size d ks hsz
   have hsp : (∀ t ∈ ks, t.clo d = true) → Ev fun n => s_l02Spine n ks d = some (txs ks d) := fun hcl =>
    sspine_ev ks d hl fun t ht => ⟨sterm_ev t (hks t ht) (tmoks_src hk t ht) d h0 (by have := sizes_mem ht; omega) (hcl t ht), small_size (hks t ht) (tmoks_src hk t ht) h0 (by have := sizes_mem ht; omega)⟩
   have hip : Ev fun fu => i_termText_L1 (i_termText fu) (T.mk 3 n s ks) d fu s 0 = some (orStop (ks.all fun t => t.clo d) (s ++ txs ks d)) :=
    (Ev.all fun t ht => iterm_ev t (hks t ht) (tmoks_src hk t ht) d h0 (by have := sizes_mem ht; omega)).at (ks.length + 1) fun fu hn H =>
     ispine_lp (i_termText fu) (T.mk 3 n s ks) d hl (fun y hy => ⟨H y hy, small_size (hks y hy) (tmoks_src hk y hy) h0 (by have := sizes_mem (show y ∈ ks from hy); omega)⟩) ks [] s fu rfl (by omega) (by simp only [List.length_nil]; omega)
   simp only [T.clo]
   rw [clox_all 3 (by decide) (by decide)]
   refine ⟨s ++ txs ks d, by rw [ba_size]; omega, fun hcl => ?_, ?_⟩
   ·have hcl : ∀ t ∈ ks, t.clo d = true := List.all_eq_true.1 (by simpa using hcl)
    refine (hsp hcl).up 0 fun fu _ h3 => ?_
    have e0 : s_l02Family (fu + 1) (T.mk 3 n s ks) d = (s_l02Spine fu ks d).bind fun r5 => chk (s.size + r5.size ≤ 9223372036854775807) <| some (s ++ r5) := by rw [s_l02Family]; rfl
    rw [e0, h3, bind_some', chk_of (by omega)]
   refine (hip.up (q := fun fu => i_termText fu (T.mk 3 n s ks) d = some (orStop (ks.all fun t => t.clo d) (s ++ txs ks d))) 0 fun fu _ h3 => ?_).up 0 fun fu _ h3 => ?_
   ·have e0 : i_termText (fu + 1) (T.mk 3 n s ks) d = i_termText_L1 (i_termText fu) (T.mk 3 n s ks) d fu s 0 := by rw [i_termText]; rfl
    rw [e0]
    exact h3
   have e0 : i_familyText (fu + 1) (T.mk 3 n s ks) d = zb (i_termText fu (T.mk 3 n s ks) d) fun r5 => some (.ok r5) := by rw [i_familyText]; rfl
   rw [e0, h3]
   show _ = some (orStop (true && ks.all fun t => t.clo d) _)
   rw [Bool.true_and]
   cases ks.all fun t => t.clo d <;> rfl
  have hsa := hks a (by simp)
  have hsc := hks c (by simp)
  have h1a := h100.2.2 a (by simp)
  have h1c := h100.2.2 c (by simp)
  simp only [sizes] at ht h1 ⊢
  have hsp : 1 ≤ a.size ∧ 1 ≤ c.size := ⟨by cases a; simp only [T.size]; omega, by cases c; simp only [T.size]; omega⟩
  obtain ⟨xa, hxa, hsA, hiA⟩ := ih a (by omega) hsa h1a ⟨_, ha⟩ d h0 (by omega)
  have hcl : (T.mk 2 n s [a, c]).clo d = (a.clo d && c.clo (d + 1)) := by
   simp only [T.clo, clox]
   show (true && (a.clo (d + 0) && (c.clo (d + 1) && true))) = _
   rw [Bool.true_and, Bool.and_true, Int.add_zero]
  rw [hcl]
  have hoE := occurs_ev c hsc (by omega)
  have hlv := lvl_size d
  cases ho : c.occ 0 with
  | true =>
   obtain ⟨xc, hxc, hsC, hiC⟩ := ih c (by omega) hsc h1c ⟨_, hc⟩ (d + 1) (by omega) (by omega)
   refine ⟨(((((⟨#[123]⟩ : ByteArray) ++ lvl d) ++ (⟨#[58]⟩ : ByteArray)) ++ xa) ++ (⟨#[125, 32]⟩ : ByteArray)) ++ xc, ?_, fun hh => ?_, ?_⟩
   ·simp only [ba_size, sz5, sz6, sz7]; omega
   ·rw [Bool.and_eq_true] at hh
    refine ((hsA hh.1).and ((hsC hh.2).and (hoE.and (lvl_ev d h0 (by omega))))).up 0 fun fu _ ⟨e1, e2, e3, e4⟩ => ?_
    have e0 : s_l02Family (fu + 1) (T.mk 2 n s [a, c]) d = (s_l02Family fu a d).bind fun r18 => (s_l01Occurs fu c 0).bind fun r30 => if r30 = true then
      (s_l02Level fu d).bind fun r43 =>
      chk ((⟨#[123]⟩ : ByteArray).size + r43.size ≤ 9223372036854775807) <|
      chk (((⟨#[123]⟩ : ByteArray) ++ r43).size + (⟨#[58]⟩ : ByteArray).size ≤ 9223372036854775807) <|
      chk ((((⟨#[123]⟩ : ByteArray) ++ r43) ++ (⟨#[58]⟩ : ByteArray)).size + r18.size ≤ 9223372036854775807) <|
      chk (((((⟨#[123]⟩ : ByteArray) ++ r43) ++ (⟨#[58]⟩ : ByteArray)) ++ r18).size + (⟨#[125, 32]⟩ : ByteArray).size ≤ 9223372036854775807) <|
      (s_l02Family fu c (IntKind.i64.wrap (d + 1))).bind fun r54 =>
      chk ((((((⟨#[123]⟩ : ByteArray) ++ r43) ++ (⟨#[58]⟩ : ByteArray)) ++ r18) ++ (⟨#[125, 32]⟩ : ByteArray)).size + r54.size ≤ 9223372036854775807) <|
      some ((((((⟨#[123]⟩ : ByteArray) ++ r43) ++ (⟨#[58]⟩ : ByteArray)) ++ r18) ++ (⟨#[125, 32]⟩ : ByteArray)) ++ r54)
     else if a.kind = 2 then
      chk ((⟨#[40]⟩ : ByteArray).size + r18.size ≤ 9223372036854775807) <|
      chk (((⟨#[40]⟩ : ByteArray) ++ r18).size + (⟨#[41]⟩ : ByteArray).size ≤ 9223372036854775807) <|
      chk ((((⟨#[40]⟩ : ByteArray) ++ r18) ++ (⟨#[41]⟩ : ByteArray)).size + (⟨#[32, 45, 62, 32]⟩ : ByteArray).size ≤ 9223372036854775807) <|
      (s_l01Lift fu c 1 (-1)).bind fun r76 =>
      (s_l02Family fu r76 d).bind fun r83 =>
      chk (((((⟨#[40]⟩ : ByteArray) ++ r18) ++ (⟨#[41]⟩ : ByteArray)) ++ (⟨#[32, 45, 62, 32]⟩ : ByteArray)).size + r83.size ≤ 9223372036854775807) <|
      some (((((⟨#[40]⟩ : ByteArray) ++ r18) ++ (⟨#[41]⟩ : ByteArray)) ++ (⟨#[32, 45, 62, 32]⟩ : ByteArray)) ++ r83)
     else
      chk (r18.size + (⟨#[32, 45, 62, 32]⟩ : ByteArray).size ≤ 9223372036854775807) <|
      (s_l01Lift fu c 1 (-1)).bind fun r97 =>
      (s_l02Family fu r97 d).bind fun r104 =>
      chk ((r18 ++ (⟨#[32, 45, 62, 32]⟩ : ByteArray)).size + r104.size ≤ 9223372036854775807) <|
      some ((r18 ++ (⟨#[32, 45, 62, 32]⟩ : ByteArray)) ++ r104) := by rw [s_l02Family]; rfl
    obtain ⟨e3, _⟩ := e3 0 (by omega) (by omega)
    rw [e0, e1, bind_some', e3, bind_some', ho, if_pos rfl, e4, bind_some', chk_of, chk_of, chk_of, chk_of, w64_eq (by omega) (by omega), e2, bind_some', chk_of] <;> simp only [ba_size, sz5, sz6, sz7] <;> omega
   refine (hiA.and (hiC.and hoE)).up 0 fun fu _ ⟨e1, e2, e3⟩ => ?_
   obtain ⟨_, e3⟩ := e3 0 (by omega) (by omega)
   obtain ⟨X, e0⟩ : ∃ X : ByteArray → Option (Rz ByteArray), i_familyText (fu + 1) (T.mk 2 n s [a, c]) d = zb (i_familyText fu a d) fun r19 => (i_occurs fu c 0).bind fun r33 => if r33 = true then
     (i_binderName d).bind fun r46 =>
     chk ((⟨#[123]⟩ : ByteArray).size + r46.size ≤ 9223372036854775807) <|
     chk (((⟨#[123]⟩ : ByteArray) ++ r46).size + (⟨#[58]⟩ : ByteArray).size ≤ 9223372036854775807) <|
     chk ((((⟨#[123]⟩ : ByteArray) ++ r46) ++ (⟨#[58]⟩ : ByteArray)).size + r19.size ≤ 9223372036854775807) <|
     chk (((((⟨#[123]⟩ : ByteArray) ++ r46) ++ (⟨#[58]⟩ : ByteArray)) ++ r19).size + (⟨#[125, 32]⟩ : ByteArray).size ≤ 9223372036854775807) <|
     zb (i_familyText fu c (IntKind.i64.wrap (d + 1))) fun r57 =>
     chk ((((((⟨#[123]⟩ : ByteArray) ++ r46) ++ (⟨#[58]⟩ : ByteArray)) ++ r19) ++ (⟨#[125, 32]⟩ : ByteArray)).size + r57.size ≤ 9223372036854775807) <|
     some (.ok ((((((⟨#[123]⟩ : ByteArray) ++ r46) ++ (⟨#[58]⟩ : ByteArray)) ++ r19) ++ (⟨#[125, 32]⟩ : ByteArray)) ++ r57))
    else X r19 := ⟨_, by rw [i_familyText]; rfl⟩
   rw [e0, e1]
   cases hca : a.clo d with
   | false => rfl
   | true =>
    show (i_occurs fu c 0).bind _ = _
    rw [e3, bind_some', ho, if_pos rfl, binder_eq d h0 (by omega), bind_some', chk_of, chk_of, chk_of, chk_of, w64_eq (by omega) (by omega), e2, Bool.true_and]
    ·cases c.clo (d + 1) with
     | false => rfl
     | true =>
      show chk _ _ = _
      rw [chk_of]
      ·rfl
      simp only [ba_size, sz5, sz6, sz7]; omega
    all_goals (simp only [ba_size, sz5, sz6, sz7]; omega)
  | false =>
   obtain ⟨xc, hxc, hsC, hiC⟩ := ih (c.lft 1 (-1)) (by rw [lft_size]; omega) (lft_sm c hsc _ _) (n100_low c h1c 0 (by omega) ho) ⟨_, faok_low c _ hc 0 (by omega) ho⟩ d h0 (by rw [lft_size]; omega)
   rw [lft_size] at hxc
   have hcc : (c.lft 1 (-1)).clo d = c.clo (d + 1) := clo_low c 0 d (by omega) h0 ho
   rw [hcc] at hsC hiC
   have hlE := lift_ev c hsc (vb_mono (by omega) c (n100_vb c h1c)) (by omega)
   refine ⟨((if a.kind = 2 then (((⟨#[40]⟩ : ByteArray) ++ xa) ++ (⟨#[41]⟩ : ByteArray)) else xa) ++ (⟨#[32, 45, 62, 32]⟩ : ByteArray)) ++ xc, ?_, fun hh => ?_, ?_⟩
   ·split <;> simp only [ba_size, sz3, sz4, sz8] <;> omega
   ·rw [Bool.and_eq_true] at hh
    refine ((hsA hh.1).and ((hsC hh.2).and (hoE.and hlE))).up 0 fun fu _ ⟨e1, e2, e3, e4⟩ => ?_
    obtain ⟨X, e0⟩ : ∃ X : ByteArray → Option ByteArray, s_l02Family (fu + 1) (T.mk 2 n s [a, c]) d = (s_l02Family fu a d).bind fun r18 => (s_l01Occurs fu c 0).bind fun r30 => if r30 = true then X r18
     else if a.kind = 2 then
      chk ((⟨#[40]⟩ : ByteArray).size + r18.size ≤ 9223372036854775807) <|
      chk (((⟨#[40]⟩ : ByteArray) ++ r18).size + (⟨#[41]⟩ : ByteArray).size ≤ 9223372036854775807) <|
      chk ((((⟨#[40]⟩ : ByteArray) ++ r18) ++ (⟨#[41]⟩ : ByteArray)).size + (⟨#[32, 45, 62, 32]⟩ : ByteArray).size ≤ 9223372036854775807) <|
      (s_l01Lift fu c 1 (-1)).bind fun r76 =>
      (s_l02Family fu r76 d).bind fun r83 =>
      chk (((((⟨#[40]⟩ : ByteArray) ++ r18) ++ (⟨#[41]⟩ : ByteArray)) ++ (⟨#[32, 45, 62, 32]⟩ : ByteArray)).size + r83.size ≤ 9223372036854775807) <|
      some (((((⟨#[40]⟩ : ByteArray) ++ r18) ++ (⟨#[41]⟩ : ByteArray)) ++ (⟨#[32, 45, 62, 32]⟩ : ByteArray)) ++ r83)
     else
      chk (r18.size + (⟨#[32, 45, 62, 32]⟩ : ByteArray).size ≤ 9223372036854775807) <|
      (s_l01Lift fu c 1 (-1)).bind fun r97 =>
      (s_l02Family fu r97 d).bind fun r104 =>
      chk ((r18 ++ (⟨#[32, 45, 62, 32]⟩ : ByteArray)).size + r104.size ≤ 9223372036854775807) <|
      some ((r18 ++ (⟨#[32, 45, 62, 32]⟩ : ByteArray)) ++ r104) := ⟨_, by rw [s_l02Family]; rfl⟩
    obtain ⟨e3, _⟩ := e3 0 (by omega) (by omega)
    obtain ⟨e4, _⟩ := e4 1 (-1) (by omega) (by omega) (by omega) (by omega)
    rw [e0, e1, bind_some', e3, bind_some', ho, if_neg (by decide)]
    by_cases ka : a.kind = 2
    ·rw [if_pos ka, if_pos ka, chk_of, chk_of, chk_of, e4, bind_some', e2, bind_some', chk_of] <;> simp only [ba_size, sz3, sz4, sz8] <;> omega
    rw [if_neg ka, if_neg ka, chk_of, e4, bind_some', e2, bind_some', chk_of] <;> simp only [ba_size, sz3, sz4, sz8] <;> omega
   refine (hiA.and (hiC.and (hoE.and hlE))).up 0 fun fu _ ⟨e1, e2, e3, e4⟩ => ?_
   obtain ⟨_, e3⟩ := e3 0 (by omega) (by omega)
   obtain ⟨_, e4⟩ := e4 0 (-1) (by omega) (by omega) (by omega) (by omega)
   rw [occ_lft c 0 (-1) ho] at e4
   have e4 : i_lower fu c 0 = some (c.lft 1 (-1)) := by unfold i_lower; rw [e4]; rfl
   obtain ⟨X, e0⟩ : ∃ X : ByteArray → Option (Rz ByteArray), i_familyText (fu + 1) (T.mk 2 n s [a, c]) d = zb (i_familyText fu a d) fun r19 => (i_occurs fu c 0).bind fun r33 => if r33 = true then X r19
    else if a.kind = 2 then
     chk ((⟨#[40]⟩ : ByteArray).size + r19.size ≤ 9223372036854775807) <|
     chk (((⟨#[40]⟩ : ByteArray) ++ r19).size + (⟨#[41]⟩ : ByteArray).size ≤ 9223372036854775807) <|
     chk ((((⟨#[40]⟩ : ByteArray) ++ r19) ++ (⟨#[41]⟩ : ByteArray)).size + (⟨#[32]⟩ : ByteArray).size ≤ 9223372036854775807) <|
     chk (((((⟨#[40]⟩ : ByteArray) ++ r19) ++ (⟨#[41]⟩ : ByteArray)) ++ (⟨#[32]⟩ : ByteArray)).size + (⟨#[45, 62]⟩ : ByteArray).size ≤ 9223372036854775807) <|
     chk ((((((⟨#[40]⟩ : ByteArray) ++ r19) ++ (⟨#[41]⟩ : ByteArray)) ++ (⟨#[32]⟩ : ByteArray)) ++ (⟨#[45, 62]⟩ : ByteArray)).size + (⟨#[32]⟩ : ByteArray).size ≤ 9223372036854775807) <|
     (i_lower fu c 0).bind fun r83 =>
     zb (i_familyText fu r83 d) fun r90 =>
     chk (((((((⟨#[40]⟩ : ByteArray) ++ r19) ++ (⟨#[41]⟩ : ByteArray)) ++ (⟨#[32]⟩ : ByteArray)) ++ (⟨#[45, 62]⟩ : ByteArray)) ++ (⟨#[32]⟩ : ByteArray)).size + r90.size ≤ 9223372036854775807) <|
     some (.ok (((((((⟨#[40]⟩ : ByteArray) ++ r19) ++ (⟨#[41]⟩ : ByteArray)) ++ (⟨#[32]⟩ : ByteArray)) ++ (⟨#[45, 62]⟩ : ByteArray)) ++ (⟨#[32]⟩ : ByteArray)) ++ r90))
    else
     chk (r19.size + (⟨#[32]⟩ : ByteArray).size ≤ 9223372036854775807) <|
     chk ((r19 ++ (⟨#[32]⟩ : ByteArray)).size + (⟨#[45, 62]⟩ : ByteArray).size ≤ 9223372036854775807) <|
     chk (((r19 ++ (⟨#[32]⟩ : ByteArray)) ++ (⟨#[45, 62]⟩ : ByteArray)).size + (⟨#[32]⟩ : ByteArray).size ≤ 9223372036854775807) <|
     (i_lower fu c 0).bind fun r108 =>
     zb (i_familyText fu r108 d) fun r115 =>
     chk ((((r19 ++ (⟨#[32]⟩ : ByteArray)) ++ (⟨#[45, 62]⟩ : ByteArray)) ++ (⟨#[32]⟩ : ByteArray)).size + r115.size ≤ 9223372036854775807) <|
     some (.ok ((((r19 ++ (⟨#[32]⟩ : ByteArray)) ++ (⟨#[45, 62]⟩ : ByteArray)) ++ (⟨#[32]⟩ : ByteArray)) ++ r115)) := ⟨_, by rw [i_familyText]; rfl⟩
   rw [e0, e1]
   cases hca : a.clo d with
   | false => rfl
   | true =>
    show (i_occurs fu c 0).bind _ = _
    rw [e3, bind_some', ho, if_neg (by decide), Bool.true_and]
    by_cases ka : a.kind = 2
    ·rw [if_pos ka, if_pos ka, chk_of, chk_of, chk_of, chk_of, chk_of, e4, bind_some', e2, arrow_assoc]
     ·cases c.clo (d + 1) with
      | false => rfl
      | true =>
       show chk _ _ = _
       rw [chk_of]
       ·rfl
       simp only [ba_size, sz3, sz4, sz8]; omega
     all_goals (simp only [ba_size, sz1, sz2, sz3, sz4]; omega)
    rw [if_neg ka, if_neg ka, chk_of, chk_of, chk_of, e4, bind_some', e2, arrow_assoc]
    ·cases c.clo (d + 1) with
     | false => rfl
     | true =>
      show chk _ _ = _
      rw [chk_of]
      ·rfl
      simp only [ba_size, sz8]; omega
    all_goals (simp only [ba_size, sz1, sz2]; omega)
end Go.Am.YtoajlhhalpldfaaGreatDoor
