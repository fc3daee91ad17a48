/- Plain laws: the law Lifts: what is lifted over a new variable does not have it, and lowered again is what it was. -/
import Derived.Test.YtaedacibojpfkaaDoorPdTerm
import Derived.Test.YtaedacibojpfkaaDoorPsBig
import Derived.Test.YtaedacibojpfkaaDoorGwLifts
import Derived.Test.YtaedacibojpfkaaDoorRdA
namespace Go.Am
open Go

theorem lft_cons (t : T) (r : List T) (k : Int) (i : Nat) (f b : Int) : lfts (t :: r) k i f b = t.lft (f + und k i) b :: lfts r k (i + 1) f b := rfl
theorem lft_mk (k n : Int) (s : ByteArray) (ks : List T) (f b : Int) : (T.mk k n s ks).lft f b = .mk k (if k = 5 ∧ n ≥ f then n + b else n) s (lfts ks k 0 f b) := by simp only [T.lft]
theorem occ_mk (k n : Int) (s : ByteArray) (ks : List T) (v : Int) : (T.mk k n s ks).occ v = ((decide (k = 5) && decide (n = v)) || occs ks k 0 v) := by simp only [T.occ]
theorem occs_cons (t : T) (r : List T) (k : Int) (i : Nat) (v : Int) : occs (t :: r) k i v = (t.occ (v + und k i) || occs r k (i + 1) v) := by simp only [occs]

theorem occ_new (t : T) : ∀ v, (t.lft v 1).occ v = false := by
  induction t using T.ind with
  | _ k n s ks ih =>
    intro v
    have hl : ∀ (l : List T) (i : Nat), (∀ t ∈ l, ∀ v, (t.lft v 1).occ v = false) → occs (lfts l k i v 1) k i v = false := by
      intro l
      induction l with
      | nil => intro i _; simp only [lfts, occs]
      | cons t r ihl => intro i H; rw [lft_cons, occs_cons, H t (List.mem_cons_self ..), ihl (i + 1) fun t ht => H t (List.mem_cons_of_mem _ ht)]; rfl
    rw [lft_mk, occ_mk, hl ks 0 ih, Bool.or_false]
    by_cases hk : k = 5
    · by_cases hn : n ≥ v
      · rw [if_pos ⟨hk, hn⟩, decide_eq_false (show ¬ n + 1 = v by omega), Bool.and_false]
      · rw [if_neg (fun h => hn h.2), decide_eq_false (show ¬ n = v by omega), Bool.and_false]
    · rw [decide_eq_false hk, Bool.false_and]

theorem occ_next (t : T) : ∀ v, (t.lft v 1).occ (v + 1) = t.occ v := by
  induction t using T.ind with
  | _ k n s ks ih =>
    intro v
    have hl : ∀ (l : List T) (i : Nat), (∀ t ∈ l, ∀ v, (t.lft v 1).occ (v + 1) = t.occ v) → occs (lfts l k i v 1) k i (v + 1) = occs l k i v := by
      intro l
      induction l with
      | nil => intro i _; simp only [lfts, occs]
      | cons t r ihl =>
        intro i H
        rw [lft_cons, occs_cons, occs_cons, ihl (i + 1) fun t ht => H t (List.mem_cons_of_mem _ ht), show v + 1 + und k i = (v + und k i) + 1 by omega, H t (List.mem_cons_self ..)]
    rw [lft_mk, occ_mk, occ_mk, hl ks 0 ih]
    congr 1
    by_cases hk : k = 5
    · by_cases hn : n ≥ v
      · rw [if_pos ⟨hk, hn⟩]; congr 1; exact decide_eq_decide.2 (by omega)
      · rw [if_neg (fun h => hn h.2), decide_eq_false (show ¬ n = v + 1 by omega), decide_eq_false (show ¬ n = v by omega)]
    · rw [decide_eq_false hk, Bool.false_and, Bool.false_and]

theorem lft_back (t : T) : ∀ v, (t.lft v 1).lft (v + 1) (-1) = t := by
  induction t using T.ind with
  | _ k n s ks ih =>
    intro v
    have hl : ∀ (l : List T) (i : Nat), (∀ t ∈ l, ∀ v, (t.lft v 1).lft (v + 1) (-1) = t) → lfts (lfts l k i v 1) k i (v + 1) (-1) = l := by
      intro l
      induction l with
      | nil => intro i _; simp only [lfts]
      | cons t r ihl =>
        intro i H
        rw [lft_cons, lft_cons, ihl (i + 1) fun t ht => H t (List.mem_cons_of_mem _ ht), show v + 1 + und k i = (v + und k i) + 1 by omega, H t (List.mem_cons_self ..)]
    rw [lft_mk, lft_mk, hl ks 0 ih]
    congr 1
    by_cases hk : k = 5
    · by_cases hn : n ≥ v
      · rw [show (if k = 5 ∧ n ≥ v then n + 1 else n) = n + 1 from if_pos ⟨hk, hn⟩, if_pos ⟨hk, by omega⟩]; omega
      · rw [show (if k = 5 ∧ n ≥ v then n + 1 else n) = n from if_neg (fun h => hn h.2), if_neg (fun h => hn (by omega))]
    · rw [show (if k = 5 ∧ n ≥ v then n + 1 else n) = n from if_neg (fun h => hk h.1), if_neg (fun h => hk h.1)]

theorem lft_add (t : T) : ∀ v, (t.lft v 1).lft v 2 = t.lft v 3 := by
  induction t using T.ind with
  | _ k n s ks ih =>
    intro v
    have hl : ∀ (l : List T) (i : Nat), (∀ t ∈ l, ∀ v, (t.lft v 1).lft v 2 = t.lft v 3) → lfts (lfts l k i v 1) k i v 2 = lfts l k i v 3 := by
      intro l
      induction l with
      | nil => intro i _; simp only [lfts]
      | cons t r ihl => intro i H; rw [lft_cons, lft_cons, lft_cons, ihl (i + 1) fun t ht => H t (List.mem_cons_of_mem _ ht), H t (List.mem_cons_self ..)]
    rw [lft_mk, lft_mk, lft_mk, hl ks 0 ih]
    congr 1
    by_cases hk : k = 5
    · by_cases hn : n ≥ v
      · rw [show (if k = 5 ∧ n ≥ v then n + 1 else n) = n + 1 from if_pos ⟨hk, hn⟩, if_pos ⟨hk, by omega⟩, if_pos ⟨hk, hn⟩]; omega
      · rw [show (if k = 5 ∧ n ≥ v then n + 1 else n) = n from if_neg (fun h => hn h.2), if_neg (fun h => hn h.2), if_neg (fun h => hn h.2)]
    · rw [show (if k = 5 ∧ n ≥ v then n + 1 else n) = n from if_neg (fun h => hk h.1), if_neg (fun h => hk h.1), if_neg (fun h => hk h.1)]

theorem lft_vb (t : T) : ∀ (B f b : Int), 0 ≤ b → t.vb B → (t.lft f b).vb (B + b) := by
  induction t using T.ind with
  | _ k n s ks ih =>
    intro B f b hb h
    rw [vb_eq] at h
    rw [lft_mk, vb_eq]
    refine ⟨fun hk => ?_, ?_⟩
    · have := h.1 hk
      split <;> omega
    · have hl : ∀ (l : List T) (i : Nat), (∀ t ∈ l, ∀ (B f b : Int), 0 ≤ b → t.vb B → (t.lft f b).vb (B + b)) → (∀ t ∈ l, t.vb B) → ∀ t ∈ lfts l k i f b, t.vb (B + b) := by
        intro l
        induction l with
        | nil => intro i _ _ t ht; simp only [lfts] at ht; cases ht
        | cons u r ihl =>
          intro i H1 H2 t ht
          rw [lft_cons] at ht
          rcases List.mem_cons.1 ht with rfl | ht
          · exact H1 u (List.mem_cons_self ..) _ _ _ hb (H2 u (List.mem_cons_self ..))
          · exact ihl (i + 1) (fun t ht => H1 t (List.mem_cons_of_mem _ ht)) (fun t ht => H2 t (List.mem_cons_of_mem _ ht)) t ht
      exact hl ks 0 ih h.2

theorem vb_hi (t : T) : t.vb 100 → t.hi = false := by
  induction t using T.ind with
  | _ k n s ks ih =>
    intro h
    rw [vb_eq] at h
    have hl : ∀ l : List T, (∀ t ∈ l, t.hi = false) → his l = false := by
      intro l
      induction l with
      | nil => intro _; simp only [his]
      | cons t r ihl => intro H; simp only [his]; rw [H t (List.mem_cons_self ..), ihl fun t ht => H t (List.mem_cons_of_mem _ ht)]; rfl
    simp only [T.hi]
    rw [hl ks fun t ht => ih t ht (h.2 t ht), Bool.or_false]
    by_cases hk : k = 5
    · have := h.1 hk; rw [decide_eq_false (show ¬ n > 100 by omega), Bool.and_false]
    · rw [decide_eq_false hk, Bool.false_and]

end Go.Am
namespace Go.Am.YtaedacibojpfkaaDoor
open Go Go.Am

theorem tmok_lft (t : T) : ∀ (B f b : Int), 0 ≤ b → B + b ≤ 100 → t.vb B → t.tmok = true → (t.lft f b).tmok = true := by
  induction t using T.ind with
  | _ k n s ks ih =>
    intro B f b hb hB hv h
    rw [vb_eq] at hv
    have hl : ∀ (l : List T) (i : Nat), (∀ t ∈ l, ∀ (B f b : Int), 0 ≤ b → B + b ≤ 100 → t.vb B → t.tmok = true → (t.lft f b).tmok = true) → (∀ t ∈ l, t.vb B) → tmoks l = true → tmoks (lfts l k i f b) = true := by
      intro l
      induction l with
      | nil => intro i _ _ _; simp only [lfts, tmoks]
      | cons u r ihl =>
        intro i H1 H2 H3
        simp only [tmoks, Bool.and_eq_true] at H3
        rw [lft_cons]
        simp only [tmoks, Bool.and_eq_true]
        exact ⟨H1 u (List.mem_cons_self ..) _ _ _ hb hB (H2 u (List.mem_cons_self ..)) H3.1, ihl (i + 1) (fun t ht => H1 t (List.mem_cons_of_mem _ ht)) (fun t ht => H2 t (List.mem_cons_of_mem _ ht)) H3.2⟩
    have hk := hl ks 0 ih hv.2
    rw [lft_mk]
    unfold T.tmok at h ⊢
    by_cases h4 : k = 4
    · rw [if_pos h4] at h ⊢
      simp only [Bool.and_eq_true, decide_eq_true_eq] at h ⊢
      rw [if_neg (by omega), lfts_length]
      exact ⟨h.1, h.2.1, h.2.2.1, hk h.2.2.2⟩
    · rw [if_neg h4] at h ⊢
      by_cases h5 : k = 5 ∨ k = 7
      · rw [if_pos h5] at h ⊢
        simp only [Bool.and_eq_true, decide_eq_true_eq] at h ⊢
        refine ⟨?_, ?_, h.2.2.1, hk h.2.2.2⟩
        · split <;> omega
        · split
          · rename_i q; have := hv.1 q.1; omega
          · exact h.2.1
      · rw [if_neg h5] at h ⊢
        split at h
        · rename_i h6
          rw [if_pos h6, if_neg (by omega)]
          simp only [Bool.and_eq_true, decide_eq_true_eq] at h ⊢
          exact ⟨h.1, h.2.1, hk h.2.2⟩
        · cases h

theorem nm_size {s : ByteArray} (h : nm s = true) : s.size ≤ 40 := by
  obtain ⟨⟨l⟩⟩ := s
  unfold nm at h
  cases l with
  | nil => exact Nat.zero_le _
  | cons a r =>
    have h' : nameB (a :: r) = true := h
    rw [nameB_cons] at h'
    simp only [Bool.and_eq_true, decide_eq_true_eq] at h'
    exact h'.1.1
theorem eb_size {s : ByteArray} (h : eb s = true) : s.size ≤ 40 := by
  obtain ⟨⟨l⟩⟩ := s
  unfold eb at h
  have : (⟨⟨l⟩⟩ : ByteArray).toList = (⟨#[]⟩ : ByteArray).toList := by simpa using h
  have e : l = [] := by
    have := congrArg List.length this
    simp at this
    first | exact this | simpa using this
  subst e
  exact Nat.zero_le _
theorem tmok_sm (t : T) : t.tmok = true → t.size ≤ 1000 → t.sm := by
  induction t using T.ind with
  | _ k n s ks ih =>
    intro h hs
    simp only [T.size] at hs
    have hl := length_sizes ks
    have hk : ∀ l : List T, tmoks l = true → ∀ t ∈ l, t.tmok = true := fun l h t ht => tmoks_mem h t ht
    have key : s.size ≤ 40 ∧ tmoks ks = true := by
      unfold T.tmok at h
      split at h
      · simp only [Bool.and_eq_true, decide_eq_true_eq] at h; exact ⟨eb_size h.2.1, h.2.2.2⟩
      · split at h
        · simp only [Bool.and_eq_true, decide_eq_true_eq] at h; exact ⟨eb_size h.2.2.1, h.2.2.2⟩
        · split at h
          · simp only [Bool.and_eq_true, decide_eq_true_eq] at h; exact ⟨nm_size h.2.1, h.2.2⟩
          · cases h
    unfold T.sm
    exact ⟨by omega, by omega, fun t ht => ih t ht (hk ks key.2 t ht) (by have := sizes_mem ht; omega)⟩

theorem inB_in {v : Int} (h0 : 0 ≤ v) (h : v ≤ 100) : inB v = true := by unfold inB; rw [decide_eq_true h0, decide_eq_true h]; rfl
theorem right_of {t : T} (h : t.tmok = true) (hs : t.size ≤ 150) : rightB t = true := by unfold rightB; rw [h, decide_eq_true hs]; rfl
theorem fault0 {t : T} (hr : rightB t = true) {l : List Int} (hl : l.all inB = true) : faultV t l = 0 := by
  unfold faultV; rw [if_neg (by rw [hr]; decide), if_pos hl]

theorem iLift_ev (t : T) (h : t.tmok = true) (hs : t.size ≤ 150) (hv : t.vb 50) {f b : Int} (f0 : 0 ≤ f) (f1 : f ≤ 100) (b0 : 0 ≤ b) (b1 : b ≤ 50) : Ev fun n => i_Lift n t f b = some (t.lft f b, 0) := by
  have hsm := tmok_sm t h (by omega)
  have hls := lft_size t f b
  have hhi : (t.lft f b).hi = false := vb_hi _ (vb_mono (by omega) _ (lft_vb t 50 f b b0 hv))
  refine ((fault_ev t hsm [f, b] (by simp)).and ((ilift_ev t hsm (vb_mono (by omega) t hv)).and (tooBigT_ev (t.lft f b) (by omega)))).mp fun n ⟨h2, h3, h4⟩ => ?_
  have hl : i_lift n t f b = some (t.lft f b) := by
    unfold i_lift
    rw [h3 0 f b (by omega) f0 (by omega) (by omega) (by omega), bind_some', Int.add_zero]
  unfold i_Lift
  rw [h2, bind_some', fault0 (right_of h hs) (by rw [List.all_cons, List.all_cons, List.all_nil, inB_in f0 f1, inB_in b0 (by omega)]; rfl), if_neg (by decide), hl, bind_some', h4, bind_some']
  have hbig : bigB (t.lft f b) = false := by unfold bigB; rw [hhi, decide_eq_false (by omega)]; rfl
  rw [hbig, if_neg (by decide)]

theorem iOccurs_ev (t : T) (h : t.tmok = true) (hs : t.size ≤ 150) {v : Int} (f0 : 0 ≤ v) (f1 : v ≤ 100) : Ev fun n => i_Occurs n t v = some (t.occ v, 0) := by
  have hsm := tmok_sm t h (by omega)
  refine ((fault_ev t hsm [v] (by simp)).and (iocc_ev t hsm)).mp fun n ⟨h2, h3⟩ => ?_
  unfold i_Occurs i_occurs
  rw [h2, bind_some', fault0 (right_of h hs) (by rw [List.all_cons, List.all_nil, inB_in f0 f1]; rfl), if_neg (by decide), h3 0 v (by omega) f0 (by omega), bind_some', Int.add_zero, bind_some']

theorem iLower_ev (t : T) (h : t.tmok = true) (hs : t.size ≤ 150) (hv : t.vb 100) {v : Int} (f0 : 0 ≤ v) (f1 : v ≤ 100) (ho : t.occ v = false) : Ev fun n => i_Lower n t v = some (t.lft (v + 1) (-1), 0) := by
  have hsm := tmok_sm t h (by omega)
  refine ((fault_ev t hsm [v] (by simp)).and ((iocc_ev t hsm).and (ilift_ev t hsm (vb_mono (by omega) t hv)))).mp fun n ⟨h2, h3, h4⟩ => ?_
  have hl : i_lift n t v (-1) = some (t.lft v (-1)) := by
    unfold i_lift
    rw [h4 0 v (-1) (by omega) f0 (by omega) (by omega) (by omega), bind_some', Int.add_zero]
  unfold i_Lower i_occurs i_lower
  rw [h2, bind_some', fault0 (right_of h hs) (by rw [List.all_cons, List.all_nil, inB_in f0 f1]; rfl), if_neg (by decide), h3 0 v (by omega) f0 (by omega), bind_some', Int.add_zero, bind_some', ho, if_neg (by decide), hl, bind_some', bind_some', occ_lft t v (-1) ho]

theorem wsameT_lp (rec : T → T → Option Bool) (x : T) (hl : x.kids.length ≤ 1048576) (H : ∀ y ∈ x.kids, rec y y = some true) :
    ∀ (r a : List T) (m : Nat), x.kids = a ++ r → r.length < m → w_same_L1 rec x x m a.length = some true
  | [], a, m, e, hm => by
    obtain ⟨m, rfl⟩ : ∃ k, m = k + 1 := ⟨m - 1, by omega⟩
    rw [w_same_L1, e, if_neg (lt_end a)]
  | y :: r, a, m, e, hm => by
    obtain ⟨m, rfl⟩ : ∃ k, m = k + 1 := ⟨m - 1, by simp at hm; omega⟩
    have hlen : (a ++ y :: r).length ≤ 9223372036854775807 := by rw [← e]; omega
    rw [w_same_L1, e, if_pos (lt_mid a y r), idx_mid, bind_some', bind_some', H y (by rw [e]; simp), bind_some', if_neg (by decide), w64_mid a y r hlen]
    exact wsameT_lp rec x hl H r (a ++ [y]) m (by rw [e]; simp) (by simp at hm; omega)

theorem wsameT_ev (t : T) : t.sm → Ev fun n => w_same n t t = some true := by
  induction t using T.ind with
  | _ k n s ks ih =>
    intro hsm
    have hk := sm_kids hsm
    refine (Ev.all (p := fun y n => w_same n y y = some true) fun y hy => ih y hy (hk.2.2 y hy)).up (ks.length + 1) fun n hn h => ?_
    rw [w_same, if_neg (by simp), if_neg (by simp), if_neg (by simp), if_neg (by simp)]
    exact wsameT_lp (w_same n) (T.mk k _ s ks) hk.2.1 h ks [] n rfl (by omega)

theorem at_eq (l : List Int) (hl : l.length ≤ 1048576) (hb : ∀ b ∈ l, 0 ≤ b ∧ b ≤ 255) {n : Int} (h1 : 1 < n) (h2 : n ≤ 1000) : ∃ r, w_at l 0 n = some r ∧ 0 ≤ r ∧ r < n := by
  unfold w_at
  rw [if_neg (by omega)]
  by_cases h0 : ((l).length : Int) = 0
  · rw [if_pos h0, chk_of (by omega)]
    have q := tmod_lt (a := IntKind.i64.wrap (0 * 7)) (b := n) (by rw [w64_eq (by omega) (by omega)]; omega) (by omega)
    exact ⟨_, rfl, q⟩
  · rw [if_neg h0, chk_of h0]
    have m0 := tmod_lt (a := (0 : Int)) (b := (l.length : Int)) (by omega) (by omega)
    obtain ⟨y, hy, hi⟩ := idx_get m0.1 m0.2
    rw [hi, bind_some', chk_of h0]
    have m1 := tmod_lt (a := IntKind.i64.wrap (0 + 1)) (b := (l.length : Int)) (by rw [w64_eq (by omega) (by omega)]; omega) (by omega)
    obtain ⟨x, hx, hi2⟩ := idx_get m1.1 m1.2
    rw [hi2, bind_some', chk_of h0, chk_of (show n ≠ 0 by omega)]
    obtain ⟨y0, y1⟩ := hb y hy
    obtain ⟨x0, x1⟩ := hb x hx
    have hz : Int.tdiv 0 (l.length : Int) = 0 := Int.zero_tdiv _
    have q := tmod_lt (a := IntKind.i64.wrap ((IntKind.i64.wrap ((IntKind.i64.wrap ((IntKind.i64.wrap y) * 31)) + (IntKind.i64.wrap x))) + (IntKind.i64.wrap (Int.tdiv 0 ((l).length : Int))))) (b := n) (by
      rw [hz, w64_eq (x := y) (by omega) (by omega), w64_eq (x := x) (by omega) (by omega), w64_eq (x := y * 31) (by omega) (by omega), w64_eq (x := y * 31 + x) (by omega) (by omega), w64_eq (x := (0 : Int)) (by omega) (by omega), w64_eq (by omega) (by omega)]; omega) (by omega)
    exact ⟨_, rfl, q⟩

theorem lawLifts_ev (l1 l2 : List Int) (h1 : ∀ b ∈ l1, 0 ≤ b ∧ b ≤ 255) (h2 : ∀ b ∈ l2, 0 ≤ b ∧ b ≤ 255) : Ev fun n => w_FnLifts n l1 l2 = some true := by
  by_cases b1 : ((l1).length : Int) > 1048576
  · refine .of fun n => ?_
    unfold w_FnLifts; rw [if_pos b1]
  by_cases b2 : ((l2).length : Int) > 1048576
  · refine .of fun n => ?_
    unfold w_FnLifts; rw [if_neg b1, if_pos b2]
  obtain ⟨t, d, e1, ht, _⟩ := termOf_dr (l := l1) ⟨by omega, h1⟩
  obtain ⟨v, e2, v0, v1⟩ := at_eq l2 (by omega) h2 (n := 5) (by omega) (by omega)
  have hsz : t.size ≤ 31 := ht.sz
  have hv50 := vb_mono (show (3 : Int) ≤ 50 by omega) t ht.vb
  have uv : (t.lft v 1).vb (3 + 1) := lft_vb t 3 v 1 (by omega) ht.vb
  have us : (t.lft v 1).size = t.size := lft_size t v 1
  have ut : (t.lft v 1).tmok = true := tmok_lft t 3 v 1 (by omega) (by omega) ht.vb ht.ok
  have e3 := iLift_ev t ht.ok (by omega) hv50 (f := v) (b := 1) v0 (by omega) (by omega) (by omega)
  have e4 := iOccurs_ev (t.lft v 1) ut (by omega) (v := v) v0 (by omega)
  have e5 := iLower_ev (t.lft v 1) ut (by omega) (vb_mono (by omega) _ uv) (v := v) v0 (by omega) (occ_new t v)
  have e6 := iOccurs_ev t ht.ok (by omega) (v := v) v0 (by omega)
  have e7 := iOccurs_ev (t.lft v 1) ut (by omega) (v := v + 1) (by omega) (by omega)
  have e8 := iLift_ev (t.lft v 1) ut (by omega) (vb_mono (by omega) _ uv) (f := v) (b := 2) v0 (by omega) (by omega) (by omega)
  have e9 := iLift_ev t ht.ok (by omega) hv50 (f := v) (b := 3) v0 (by omega) (by omega) (by omega)
  have hsm := tmok_sm t ht.ok (by omega)
  have h3t : (t.lft v 3).tmok = true := tmok_lft t 3 v 3 (by omega) (by omega) ht.vb ht.ok
  have h3s : (t.lft v 3).sm := tmok_sm _ h3t (by rw [lft_size]; omega)
  refine (e1.and (e3.and (e4.and (e5.and (e6.and (e7.and (e8.and (e9.and ((wsameT_ev t hsm).and (wsameT_ev _ h3s)))))))))).mp fun n ⟨q1, q3, q4, q5, q6, q7, q8, q9, q10, q11⟩ => ?_
  unfold w_FnLifts
  rw [if_neg b1, if_neg b2, q1, bind_some', e2, bind_some']
  show (i_Lift n t v 1).bind _ = _
  rw [q3, bind_some']
  show (i_Occurs n (t.lft v 1) v).bind _ = _
  rw [q4, bind_some']
  show (i_Lower n (t.lft v 1) v).bind _ = _
  rw [q5, bind_some']
  show (i_Occurs n t v).bind _ = _
  rw [q6, bind_some']
  show (i_Occurs n (t.lft v 1) (IntKind.i64.wrap (v + 1))).bind _ = _
  rw [w64_eq (by omega) (by omega), q7, bind_some', if_neg (by simp), if_neg (by simp), if_neg (by simp), if_neg (by simp), if_neg (by simp), occ_new, if_neg (by simp), occ_next, if_neg (by simp), lft_back]
  show (w_same n t t).bind _ = _
  rw [q10, bind_some', if_neg (by simp)]
  show (i_Lift n (t.lft v 1) v 2).bind _ = _
  rw [q8, bind_some']
  show (i_Lift n t v 3).bind _ = _
  rw [q9, bind_some', if_pos rfl, if_pos rfl, lft_add]
  show (w_same n (t.lft v 3) (t.lft v 3)).bind _ = _
  rw [q11, bind_some', if_pos rfl]
  unfold i_Size
  show ((if (t.lft v 1).size ≤ 1048577 then some ((t.lft v 1).size : Int) else none).bind fun r141 => (if t.size ≤ 1048577 then some (t.size : Int) else none).bind fun r148 => some (r141 == r148)) = _
  rw [us, if_pos (by omega), bind_some', bind_some']
  simp

theorem lawFnLifts_ok (l1 l2 : List Int) (h1 : ∀ b ∈ l1, 0 ≤ b ∧ b ≤ 255) (h2 : ∀ b ∈ l2, 0 ≤ b ∧ b ≤ 255) :
    ∀ tk, 2 ≤ tk → ACalls Go.Proofs.Tryd.prog 3 [.imm 0 1 false (l1.map fun n => [.int .u8 n]), .imm 0 1 false (l2.map fun n => [.int .u8 n])] (fun _ => none) tk (RetX (fun _ => none) tk (fun v _ => v = .bool true)) := by
  intro tk _
  obtain ⟨n, hn⟩ := (lawLifts_ev l1 l2 h1 h2).get
  exact w_FnLifts_ok n 0 false l1 0 false l2 hn _ _

end Go.Am.YtaedacibojpfkaaDoor
