/- Plain laws of draws: terms. -/
import Derived.Test.YtaedacibojpfkaaDoorGsT
import Derived.Test.YtaedacibojpfkaaDoorPdA
import Derived.Test.YtaedacibojpfkaaDoorPsOcc
import Derived.Test.YtaedacibojpfkaaDoorPsLift
namespace Go.Am.YtaedacibojpfkaaDoor
open Go Go.Am

def tcost : Nat → Int
  | 0 => 2
  | m + 1 => 2 * tcost m + 4
def tnods : Nat → Nat
  | 0 => 1
  | m + 1 => 2 * tnods m + 1
theorem tcost_pos : ∀ m, 2 ≤ tcost m
  | 0 => Int.le_refl _
  | m + 1 => by have := tcost_pos m; simp only [tcost]; omega
theorem pick_dr {c : List Int} (hc : Byt c) {K : Int} {z : List Int × Int × Int} (h : Dr c K z) (hK : K ≤ 1000000000000) {l : List ByteArray} (h1 : 1 ≤ l.length) (h2 : l.length ≤ 256) :
    ∃ y z', s_l00Src_pick z l = some (y, z') ∧ y ∈ l ∧ Dr c (K + 1) z' := by
  obtain ⟨r, z1, e1, r0, r1, h3⟩ := next_dr hc h hK (n := (l.length : Int)) (by omega) (by omega)
  obtain ⟨y, hy, hi⟩ := idx_get r0 r1
  refine ⟨y, z1, ?_, hy, h3⟩
  have e1' : s_l00Src_next (z.1, z.2.1, z.2.2) (l.length : Int) = some (r, z1) := e1
  unfold s_l00Src_pick
  rw [if_neg (by omega), e1', bind_some']
  show (idx l r).bind _ = _
  rw [hi]; rfl

theorem tm_lam {t : T} (h : t.tmok = true) : (T.mk 4 0 ⟨#[]⟩ [t]).tmok = true := by
  unfold T.tmok
  rw [if_pos rfl]
  simp [tmoks, h, eb]
theorem tm_var {k n : Int} (hk : k = 5 ∨ k = 7) (h0 : 0 ≤ n) (h1 : n ≤ 100) {ks : List T} (h : tmoks ks = true) : (T.mk k n ⟨#[]⟩ ks).tmok = true := by
  unfold T.tmok
  rw [if_neg (by omega), if_pos hk]
  simp [h, eb, h0, h1]
theorem tm_con {s : ByteArray} (hs : nm s = true) {ks : List T} (h : tmoks ks = true) : (T.mk 6 0 s ks).tmok = true := by
  unfold T.tmok
  rw [if_neg (by omega), if_neg (by omega), if_pos rfl]
  simp [h, hs]
theorem tmoks_of : ∀ {ks : List T}, (∀ t ∈ ks, t.tmok = true) → tmoks ks = true
  | [], _ => rfl
  | t :: r, h => by simp only [tmoks]; rw [h t (List.mem_cons_self ..), tmoks_of fun t ht => h t (List.mem_cons_of_mem _ ht)]; rfl

theorem names_ok : ∀ y ∈ [(⟨#[122]⟩ : ByteArray), ⟨#[99]⟩, ⟨#[97]⟩] ++ [(⟨#[115]⟩ : ByteArray), ⟨#[99]⟩, ⟨#[122]⟩], nm y = true := by
  intro y hy
  simp only [List.cons_append, List.nil_append, List.mem_cons, List.not_mem_nil, or_false] at hy
  rcases hy with rfl | rfl | rfl | rfl | rfl | rfl <;> decide

/-- What a drawn term is. -/
structure Raw (m : Nat) (t : T) : Prop where
  ok : t.tmok = true
  sz : t.size ≤ tnods m
  vb : t.vb 3

theorem spine_lp {c : List Int} (hc : Byt c) (m : Nat) (hm : m ≤ 20) (H : ∀ {K : Int} {z : List Int × Int × Int}, Dr c K z → 0 ≤ K → K + tcost m ≤ 1000000000 → ∃ t z', (Ev fun n => s_l00Src_rawTerm n z (m : Int) = some (t, z')) ∧ Raw m t ∧ Dr c (K + tcost m) z') :
    ∀ (i : Nat) {K : Int} {z : List Int × Int × Int} {l : List T}, Dr c K z → 0 ≤ K → K + i * tcost m ≤ 1000000000 → i ≤ 2 → l.length + i ≤ 100 → (∀ t ∈ l, Raw m t) →
      ∃ l' z', (Ev fun n => ∀ k, i < k → s_l00Src_spine_L1 (s_l00Src_rawTerm n) ((m + 1 : Nat) : Int) k (i : Int) z.1 z.2.1 z.2.2 l = some (l', z')) ∧ (∀ t ∈ l', Raw m t) ∧ l'.length = l.length + i ∧ Dr c (K + i * tcost m) z'
  | 0, K, z, l, h, h0, hK, _, hl, hr => ⟨l, z, .of fun n k hk => by
      obtain ⟨k, rfl⟩ : ∃ j, k = j + 1 := ⟨k - 1, by omega⟩
      rw [s_l00Src_spine_L1, if_neg (by decide)], hr, by omega, h.mono (by omega)⟩
  | i + 1, K, z, l, h, h0, hK, hi, hl, hr => by
    have hp := tcost_pos m
    have e : ((i + 1 : Nat) : Int) * tcost m = (i : Int) * tcost m + tcost m := by rw [Int.natCast_add, Int.add_mul]; simp
    rw [e] at hK
    have hi0 : 0 ≤ (i : Int) * tcost m := Int.mul_nonneg (by omega) (by omega)
    obtain ⟨t, z1, e1, ht, h1⟩ := H h h0 (by omega)
    obtain ⟨l', z', e2, h2, h3, h4⟩ := spine_lp hc m hm H i (z := z1) (l := l ++ [t]) h1 (by omega) (by omega) (by omega) (by simp; omega) (fun u hu => by
      rcases List.mem_append.1 hu with q | q
      · exact hr u q
      · rw [List.mem_singleton.1 q]; exact ht)
    refine ⟨l', z', (e1.and e2).mp fun n ⟨q1, q2⟩ k hk => ?_, h2, by rw [h3]; simp; omega, h4.mono (by rw [e]; omega)⟩
    obtain ⟨k, rfl⟩ : ∃ j, k = j + 1 := ⟨k - 1, by omega⟩
    have q1' : s_l00Src_rawTerm n (z.1, z.2.1, z.2.2) (IntKind.i64.wrap (((m + 1 : Nat) : Int) - 1)) = some (t, z1) := by
      rw [show IntKind.i64.wrap (((m + 1 : Nat) : Int) - 1) = (m : Int) by rw [w64_eq (by omega) (by omega)]; omega]; exact q1
    rw [s_l00Src_spine_L1, if_pos (by omega), q1', bind_some', chk_of (by simp; omega), show IntKind.i64.wrap (((i + 1 : Nat) : Int) - 1) = (i : Int) by rw [w64_eq (by omega) (by omega)]; omega]
    exact q2 k (by omega)

theorem raw_dr {c : List Int} (hc : Byt c) : ∀ (m : Nat) {K : Int} {z : List Int × Int × Int}, m ≤ 20 → Dr c K z → 0 ≤ K → K + tcost m ≤ 1000000000 →
    ∃ t z', (Ev fun n => s_l00Src_rawTerm n z (m : Int) = some (t, z')) ∧ Raw m t ∧ Dr c (K + tcost m) z'
  | 0, K, z, _, h, h0, hK => by
    simp only [tcost] at hK
    obtain ⟨b, z1, e1, h1⟩ := chance_dr hc h (by omega) (n := 3) (by omega) (by omega)
    have e1' : s_l00Src_chance (z.1, z.2.1, z.2.2) 3 = some (b, z1) := e1
    cases b with
    | true =>
      obtain ⟨y, z2, e2, hy, h2⟩ := pick_dr hc h1 (by omega) (l := [(⟨#[122]⟩ : ByteArray), ⟨#[99]⟩, ⟨#[97]⟩]) (by decide) (by decide)
      refine ⟨T.mk 6 0 y [], z2, (Ev.of (p := fun _ => True) fun _ => trivial).up 0 fun n _ _ => ?_, ⟨tm_con (names_ok y (List.mem_append.2 (.inl hy))) rfl, by simp [T.size, sizes, tnods], by rw [vb_eq]; exact ⟨fun h => by omega, fun t ht => by cases ht⟩⟩, h2.mono (by simp only [tcost]; omega)⟩
      rw [s_l00Src_rawTerm, if_pos (by decide), e1', bind_some', if_pos rfl]
      have e2' : s_l00Src_pick (z1.1, z1.2.1, z1.2.2) ([(⟨#[122]⟩ : ByteArray), (⟨#[99]⟩ : ByteArray), (⟨#[97]⟩ : ByteArray)]) = some (y, z2) := e2
      show (s_l00Src_pick (z1.1, z1.2.1, z1.2.2) ([(⟨#[122]⟩ : ByteArray), (⟨#[99]⟩ : ByteArray), (⟨#[97]⟩ : ByteArray)])).bind _ = _
      rw [e2']; rfl
    | false =>
      obtain ⟨r, z2, e2, r0, r1, h2⟩ := next_dr hc h1 (by omega) (n := 4) (by omega) (by omega)
      refine ⟨T.mk 5 r ⟨#[]⟩ [], z2, (Ev.of (p := fun _ => True) fun _ => trivial).up 0 fun n _ _ => ?_, ⟨tm_var (.inl rfl) r0 (by omega) rfl, by simp [T.size, sizes, tnods], by rw [vb_eq]; exact ⟨fun _ => ⟨r0, by omega⟩, fun t ht => by cases ht⟩⟩, h2.mono (by simp only [tcost]; omega)⟩
      rw [s_l00Src_rawTerm, if_pos (by decide), e1', bind_some', if_neg (by simp)]
      have e2' : s_l00Src_next (z1.1, z1.2.1, z1.2.2) 4 = some (r, z2) := e2
      show (s_l00Src_next (z1.1, z1.2.1, z1.2.2) 4).bind _ = _
      rw [e2']; rfl
  | m + 1, K, z, hm, h, h0, hK => by
    have hp := tcost_pos m
    simp only [tcost] at hK
    have H := fun {K : Int} {z : List Int × Int × Int} (h : Dr c K z) (h0 : 0 ≤ K) (hK : K + tcost m ≤ 1000000000) => raw_dr hc m (by omega) h h0 hK
    -- a spine
    have spine : ∀ {K : Int} {z : List Int × Int × Int}, Dr c K z → 0 ≤ K → K + (2 * tcost m + 1) ≤ 1000000000 → ∃ l z', (Ev fun n => s_l00Src_spine n z ((m + 1 : Nat) : Int) 2 = some (l, z')) ∧ tmoks l = true ∧ sizes l ≤ 2 * tnods m ∧ (∀ t ∈ l, t.vb 3) ∧ Dr c (K + (2 * tcost m + 1)) z' := by
      intro K z h h0 hK
      obtain ⟨r, z1, e1, r0, r1, h1⟩ := next_dr hc h (by omega) (n := 3) (by omega) (by omega)
      have hr2 : (r.toNat : Int) * tcost m ≤ 2 * tcost m := Int.mul_le_mul_of_nonneg_right (by omega) (by omega)
      obtain ⟨l, z2, e2, h2, h3, h4⟩ := spine_lp hc m (by omega) H r.toNat (l := []) h1 (by omega) (by omega) (by omega) (by simp; omega) (fun t ht => by cases ht)
      have hsz : sizes l ≤ l.length * tnods m := by
        have : ∀ l : List T, (∀ t ∈ l, Raw m t) → sizes l ≤ l.length * tnods m := by
          intro l
          induction l with
          | nil => intro _; simp [sizes]
          | cons t r ih => intro h; have h1 := (h t (List.mem_cons_self ..)).sz; have h2 := ih fun t ht => h t (List.mem_cons_of_mem _ ht); simp only [sizes, List.length_cons, Nat.add_mul, Nat.one_mul]; omega
        exact this l h2
      have hl2 : l.length ≤ 2 := by rw [h3]; simp; omega
      refine ⟨l, z2, e2.up 3 fun n hn q => ?_, tmoks_of fun t ht => (h2 t ht).ok, Nat.le_trans hsz (Nat.mul_le_mul_right _ hl2), fun t ht => (h2 t ht).vb, h4.mono (by omega)⟩
      have e1' : s_l00Src_next (z.1, z.2.1, z.2.2) (IntKind.i64.wrap (2 + 1)) = some (r, z1) := e1
      rw [s_l00Src_spine, e1', bind_some']
      have := q n (by omega)
      rw [show ((r.toNat : Nat) : Int) = r by omega] at this
      exact this
    obtain ⟨r, z1, e1, r0, r1, h1⟩ := next_dr hc h (by omega) (n := 9) (by omega) (by omega)
    have e1' : s_l00Src_next (z.1, z.2.1, z.2.2) 9 = some (r, z1) := e1
    have pos : ((m + 1 : Nat) : Int) ≤ 0 ↔ False := ⟨fun h => by omega, fun h => h.elim⟩
    by_cases ha : r = 0 ∨ r = 1 ∨ r = 2
    · obtain ⟨t, z2, e2, ht, h2⟩ := H h1 (by omega) (by omega)
      refine ⟨T.mk 4 0 ⟨#[]⟩ [t], z2, e2.up 0 fun n _ q => ?_, ⟨tm_lam ht.ok, by have := ht.sz; simp only [T.size, sizes, tnods]; omega, by rw [vb_eq]; exact ⟨fun h => by omega, fun u hu => by rw [List.mem_singleton.1 hu]; exact ht.vb⟩⟩, h2.mono (by simp only [tcost]; omega)⟩
      have q' : s_l00Src_rawTerm n (z1.1, z1.2.1, z1.2.2) (IntKind.i64.wrap (((m + 1 : Nat) : Int) - 1)) = some (t, z2) := by
        rw [show IntKind.i64.wrap (((m + 1 : Nat) : Int) - 1) = (m : Int) by rw [w64_eq (by omega) (by omega)]; omega]; exact q
      rw [s_l00Src_rawTerm, if_neg (by omega), e1', bind_some', jn_eq]
      rcases ha with rfl | rfl | rfl
      all_goals
        simp only [reduceIte, Int.reduceEq, Int.reduceBEq, q', bind_some', beq_self_eq_true]
    · by_cases hb : r = 3 ∨ r = 4 ∨ r = 5
      · obtain ⟨v, z2, e2, v0, v1, h2⟩ := next_dr hc h1 (by omega) (n := 4) (by omega) (by omega)
        obtain ⟨l, z3, e3, l1, l2, l3, h3⟩ := spine h2 (by omega) (by omega)
        have e2' : s_l00Src_next (z1.1, z1.2.1, z1.2.2) 4 = some (v, z2) := e2
        refine ⟨T.mk 5 v ⟨#[]⟩ l, z3, e3.up 0 fun n _ q => ?_, ⟨tm_var (.inl rfl) v0 (by omega) l1, by simp only [T.size, tnods]; omega, by rw [vb_eq]; exact ⟨fun _ => ⟨v0, by omega⟩, l3⟩⟩, h3.mono (by simp only [tcost]; omega)⟩
        have q' : s_l00Src_spine n (z2.1, z2.2.1, z2.2.2) ((m + 1 : Nat) : Int) 2 = some (l, z3) := q
        rw [s_l00Src_rawTerm, if_neg (by omega), e1', bind_some', jn_eq]
        rcases hb with rfl | rfl | rfl
        all_goals
          simp only [reduceIte, Int.reduceEq, Int.reduceBEq, jn_eq, e2', bind_some', q', beq_self_eq_true, Bool.false_eq_true]
      · by_cases hd : r = 6
        · obtain ⟨v, z2, e2, v0, v1, h2⟩ := next_dr hc h1 (by omega) (n := 3) (by omega) (by omega)
          obtain ⟨l, z3, e3, l1, l2, l3, h3⟩ := spine h2 (by omega) (by omega)
          have e2' : s_l00Src_next (z1.1, z1.2.1, z1.2.2) 3 = some (v, z2) := e2
          refine ⟨T.mk 7 v ⟨#[]⟩ l, z3, e3.up 0 fun n _ q => ?_, ⟨tm_var (.inr rfl) v0 (by omega) l1, by simp only [T.size, tnods]; omega, by rw [vb_eq]; exact ⟨fun h => by omega, l3⟩⟩, h3.mono (by simp only [tcost]; omega)⟩
          have q' : s_l00Src_spine n (z2.1, z2.2.1, z2.2.2) ((m + 1 : Nat) : Int) 2 = some (l, z3) := q
          rw [s_l00Src_rawTerm, if_neg (by omega), e1', bind_some', jn_eq]
          subst hd
          simp only [reduceIte, Int.reduceEq, Int.reduceBEq, jn_eq, e2', bind_some', q', beq_self_eq_true, Bool.false_eq_true]
        · obtain ⟨y, z2, e2, hy, h2⟩ := pick_dr hc h1 (by omega) (l := [(⟨#[115]⟩ : ByteArray), ⟨#[99]⟩, ⟨#[122]⟩]) (by decide) (by decide)
          obtain ⟨l, z3, e3, l1, l2, l3, h3⟩ := spine h2 (by omega) (by omega)
          have e2' : s_l00Src_pick (z1.1, z1.2.1, z1.2.2) ([(⟨#[115]⟩ : ByteArray), (⟨#[99]⟩ : ByteArray), (⟨#[122]⟩ : ByteArray)]) = some (y, z2) := e2
          refine ⟨T.mk 6 0 y l, z3, e3.up 0 fun n _ q => ?_, ⟨tm_con (names_ok y (List.mem_append.2 (.inr hy))) l1, by simp only [T.size, tnods]; omega, by rw [vb_eq]; exact ⟨fun h => by omega, l3⟩⟩, h3.mono (by simp only [tcost]; omega)⟩
          have q' : s_l00Src_spine n (z2.1, z2.2.1, z2.2.2) ((m + 1 : Nat) : Int) 2 = some (l, z3) := q
          rw [s_l00Src_rawTerm, if_neg (by omega), e1', bind_some', jn_eq]
          have hr : r = 7 ∨ r = 8 := by omega
          rcases hr with rfl | rfl
          all_goals
            simp only [reduceIte, Int.reduceEq, Int.reduceBEq, jn_eq, e2', bind_some', q', beq_self_eq_true, Bool.false_eq_true]

theorem termOf_dr {l : List Int} (hc : Byt l) : ∃ t d, (Ev fun n => s_TermOf n l = some (t, d)) ∧ Raw 4 t ∧ 4 ≤ d ∧ d ≤ 8 := by
  obtain ⟨r, z1, e1, r0, r1, h1⟩ := next_dr hc Dr.start (by omega) (n := 4) (by omega) (by omega)
  have ht : tcost (1 + r.toNat) ≤ 1000 ∧ tnods (1 + r.toNat) ≤ tnods 4 := by
    have : r.toNat = 0 ∨ r.toNat = 1 ∨ r.toNat = 2 ∨ r.toNat = 3 := by omega
    rcases this with h | h | h | h <;> rw [h] <;> decide
  obtain ⟨t, z2, e2, hr, h2⟩ := raw_dr hc (1 + r.toNat) (by omega) h1 (by omega) (by omega)
  obtain ⟨s, z3, e3, s0, s1, h3⟩ := next_dr hc h2 (by omega) (n := 5) (by omega) (by omega)
  refine ⟨t, 4 + s, e2.mp fun n q => ?_, ⟨hr.ok, Nat.le_trans hr.sz ht.2, hr.vb⟩, by omega, by omega⟩
  have e3' : s_l00Src_next (z2.1, z2.2.1, z2.2.2) 5 = some (s, z3) := e3
  have q' : s_l00Src_rawTerm n (z1.1, z1.2.1, z1.2.2) (IntKind.i64.wrap (1 + r)) = some (t, z2) := by
    rw [w64_eq (by omega) (by omega), show (1 + r : Int) = ((1 + r.toNat : Nat) : Int) by omega]; exact q
  unfold s_TermOf
  rw [e1, bind_some']
  show (s_l00Src_rawTerm n (z1.1, z1.2.1, z1.2.2) (IntKind.i64.wrap (1 + r))).bind _ = _
  rw [q', bind_some']
  show (s_l00Src_next (z2.1, z2.2.1, z2.2.2) 5).bind _ = _
  rw [e3', bind_some', w64_eq (by omega) (by omega)]

end Go.Am.YtaedacibojpfkaaDoor
