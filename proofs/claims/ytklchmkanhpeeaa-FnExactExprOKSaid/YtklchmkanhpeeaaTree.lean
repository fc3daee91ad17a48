/- Trees as the abstract memory logic sees them: labelled (which memory the kids lie in), and bare. -/
import Derived.Test.YtklchmkanhpeeaaAmU
namespace Go.Am
open Go

/-- A tree: its kind, its number, its name, its kids. -/
inductive T where
  | mk (kind n : Int) (name : ByteArray) (kids : List T)

/-- A tree with the names of its memory. -/
inductive LT where
  | mk (kind n : Int) (name : ByteArray) (tok : Nat) (full : Bool) (kids : List LT)

mutual
def LT.cells : LT → List AV
  | .mk k n s tok f ks => [.int .i64 k, .int .i64 n, .str s, .imm tok 4 f (cellss ks)]
def cellss : List LT → List (List AV)
  | [] => []
  | t :: r => t.cells :: cellss r
end

mutual
def LT.er : LT → T
  | .mk k n s _ _ ks => .mk k n s (ers ks)
def ers : List LT → List T
  | [] => []
  | t :: r => t.er :: ers r
end

theorem cellss_map : ∀ ks : List LT, cellss ks = ks.map LT.cells
  | [] => by simp [cellss]
  | t :: r => by simp [cellss, cellss_map r]
theorem ers_map : ∀ ks : List LT, ers ks = ks.map LT.er
  | [] => by simp [ers]
  | t :: r => by simp [ers, ers_map r]
theorem cellss_length (ks : List LT) : (cellss ks).length = ks.length := by simp [cellss_map]
theorem cellss_get {ks : List LT} {i : Nat} {t : LT} (h : ks[i]? = some t) : (cellss ks)[i]? = some t.cells := by simp [cellss_map, h]

theorem LT.ind {p : LT → Prop} (h : ∀ k n s tok f ks, (∀ t ∈ ks, p t) → p (.mk k n s tok f ks)) : ∀ t, p t
  | .mk k n s tok f ks => h k n s tok f ks fun t _ => LT.ind h t
theorem T.ind {p : T → Prop} (h : ∀ k n s ks, (∀ t ∈ ks, p t) → p (.mk k n s ks)) : ∀ t, p t
  | .mk k n s ks => h k n s ks fun t _ => T.ind h t

/-- What the model gives of an argument: its names are no longer than Go lets a string be, its numbers fit. -/
def T.ok : T → Prop
  | .mk k n s ks => (-9223372036854775808 ≤ k ∧ k ≤ 9223372036854775807) ∧ (-9223372036854775808 ≤ n ∧ n ≤ 9223372036854775807) ∧ s.size ≤ 9223372036854775807 ∧ ks.length ≤ 9223372036854775807 ∧ ∀ t ∈ ks, t.ok

/-! What the law may go through: 'left' less the lengths of names and of lists; -1 where it falls below 0. -/
mutual
def T.sz : T → Int → Int
  | .mk _ _ s ks, left => if left - s.size < 0 then -1 else if left - s.size - ks.length < 0 then -1 else szs ks (left - s.size - ks.length)
def szs : List T → Int → Int
  | [], left => left
  | t :: r, left => if t.sz left < 0 then -1 else szs r (t.sz left)
end

theorem sz_range : (∀ t : T, ∀ left, 0 ≤ left → -1 ≤ t.sz left ∧ t.sz left ≤ left) := by
  intro t
  induction t using T.ind with
  | _ k n s ks ih =>
    intro left h
    have key : ∀ (ks : List T), (∀ t ∈ ks, ∀ left, 0 ≤ left → -1 ≤ t.sz left ∧ t.sz left ≤ left) → ∀ left, 0 ≤ left → -1 ≤ szs ks left ∧ szs ks left ≤ left := by
      intro ks
      induction ks with
      | nil => intro _ left h; simp [szs]; omega
      | cons t r ihr =>
        intro hh left hl
        have h1 := hh t (List.mem_cons_self ..) left hl
        simp only [szs]
        split
        · omega
        · have := ihr (fun t ht => hh t (List.mem_cons_of_mem _ ht)) (t.sz left) (by omega)
          omega
    simp only [T.sz]
    split
    · omega
    · split
      · omega
      · have := key ks ih (left - s.size - ks.length) (by omega)
        omega

def szS (ks : List T) (left : Int) : Int := if left - ks.length < 0 then -1 else szs ks (left - ks.length)

theorem szs_range : ∀ (ks : List T) (left : Int), 0 ≤ left → -1 ≤ szs ks left ∧ szs ks left ≤ left
  | [], left, h => by simp [szs]; omega
  | t :: r, left, h => by
    have h1 := sz_range t left h
    simp only [szs]
    split
    · omega
    · have := szs_range r (t.sz left) (by omega)
      omega
theorem szS_range (ks : List T) (left : Int) (h : 0 ≤ left) : -1 ≤ szS ks left ∧ szS ks left ≤ left := by
  unfold szS
  split
  · omega
  · have := szs_range ks (left - ks.length) (by omega)
    omega
theorem sz_eq (k n : Int) (s : ByteArray) (ks : List T) (left : Int) : (T.mk k n s ks).sz left = if left - s.size < 0 then -1 else szS ks (left - s.size) := by
  simp only [T.sz, szS]

theorem ers_length (ks : List LT) : (ers ks).length = ks.length := by simp [ers_map]
theorem ok_kids {k n : Int} {s : ByteArray} {ks : List T} (h : (T.mk k n s ks).ok) : (-9223372036854775808 ≤ k ∧ k ≤ 9223372036854775807) ∧ (-9223372036854775808 ≤ n ∧ n ≤ 9223372036854775807) ∧ s.size ≤ 9223372036854775807 ∧ ks.length ≤ 9223372036854775807 ∧ ∀ t ∈ ks, t.ok := by
  unfold T.ok at h; exact h
theorem er_ok {k n : Int} {s : ByteArray} {tok : Nat} {f : Bool} {ks : List LT} (h : (LT.mk k n s tok f ks).er.ok) : ∀ t ∈ ks, t.er.ok := by
  unfold LT.er at h
  intro t ht
  exact (ok_kids h).2.2.2.2 _ (by rw [ers_map]; exact List.mem_map_of_mem ht)

/-! Trees whose lists and names are small. -/
def T.sm : T → Prop
  | .mk _ _ s ks => s.size ≤ 1048576 ∧ ks.length ≤ 1048576 ∧ ∀ t ∈ ks, t.sm

theorem sm_kids {k n : Int} {s : ByteArray} {ks : List T} (h : (T.mk k n s ks).sm) : s.size ≤ 1048576 ∧ ks.length ≤ 1048576 ∧ ∀ t ∈ ks, t.sm := by
  unfold T.sm at h; exact h

theorem sz_sm (t : T) : ∀ left, 0 ≤ left → left ≤ 1048576 → 0 ≤ t.sz left → t.sm := by
  induction t using T.ind with
  | _ k n s ks ih =>
    intro left h0 h1 h
    have key : ∀ (ks : List T), (∀ t ∈ ks, ∀ left, 0 ≤ left → left ≤ 1048576 → 0 ≤ t.sz left → t.sm) → ∀ left, 0 ≤ left → left ≤ 1048576 → 0 ≤ szs ks left → ∀ t ∈ ks, t.sm := by
      intro ks
      induction ks with
      | nil => intro _ left _ _ _ t ht; cases ht
      | cons t r ihr =>
        intro hh left hl hl1 hp x hx
        have hr := sz_range t left hl
        simp only [szs] at hp
        split at hp
        · omega
        · rcases List.mem_cons.1 hx with rfl | hx
          · exact hh x (List.mem_cons_self ..) left hl hl1 (by omega)
          · exact ihr (fun t ht => hh t (List.mem_cons_of_mem _ ht)) (t.sz left) (by omega) (by omega) hp x hx
    simp only [T.sz] at h
    split at h
    · omega
    · split at h
      · omega
      · unfold T.sm
        exact ⟨by omega, by omega, key ks ih _ (by omega) (by omega) h⟩

/-! A copy: new memory, named in the order in which it is made. -/
mutual
def lab : T → Nat → LT × Nat
  | .mk k n s ks, tk => (.mk k n s (labs ks tk).2 false (labs ks tk).1, (labs ks tk).2 + 1)
def labs : List T → Nat → List LT × Nat
  | [], tk => ([], tk)
  | t :: r, tk => ((lab t tk).1 :: (labs r (lab t tk).2).1, (labs r (lab t tk).2).2)
end

theorem labs_length : ∀ (ks : List T) (tk : Nat), (labs ks tk).1.length = ks.length
  | [], tk => by simp [labs]
  | t :: r, tk => by simp [labs, labs_length r]
theorem labs_snoc : ∀ (ks : List T) (t : T) (tk : Nat), labs (ks ++ [t]) tk = ((labs ks tk).1 ++ [(lab t (labs ks tk).2).1], (lab t (labs ks tk).2).2)
  | [], t, tk => by simp [labs]
  | t' :: r, t, tk => by
    simp only [List.cons_append, labs, labs_snoc r t]
theorem lab_er (t : T) : ∀ tk, (lab t tk).1.er = t := by
  induction t using T.ind with
  | _ k n s ks ih =>
    intro tk
    have key : ∀ (ks : List T), (∀ t ∈ ks, ∀ tk, (lab t tk).1.er = t) → ∀ tk, ers (labs ks tk).1 = ks := by
      intro ks
      induction ks with
      | nil => intro _ tk; simp [labs, ers]
      | cons t r ihr =>
        intro hh tk
        simp only [labs, ers, hh t (List.mem_cons_self ..), ihr (fun t ht => hh t (List.mem_cons_of_mem _ ht))]
    simp only [lab, LT.er, key ks ih]
theorem labs_er (ks : List T) (tk : Nat) : ers (labs ks tk).1 = ks := by
  induction ks generalizing tk with
  | nil => simp [labs, ers]
  | cons t r ih => simp only [labs, ers, lab_er, ih]

theorem cells_length (t : LT) : t.cells.length = 4 := by cases t; rfl
theorem cells_force (t : LT) : ∀ v ∈ t.cells, force v = some v := by
  cases t
  intro v hv
  simp only [LT.cells, List.mem_cons, List.not_mem_nil, or_false] at hv
  rcases hv with rfl | rfl | rfl | rfl <;> rfl
theorem cells_cl (t : LT) : t.cells.all cl = true := by cases t; rfl
theorem cells_d1 (t : LT) : alld1 t.cells = true := by cases t; rfl
theorem cellss_append (a b : List LT) : cellss (a ++ b) = cellss a ++ cellss b := by simp [cellss_map]

/-! How many nodes. -/
mutual
def T.size : T → Nat
  | .mk _ _ _ ks => 1 + sizes ks
def sizes : List T → Nat
  | [] => 0
  | t :: r => t.size + sizes r
end
theorem sizes_append : ∀ a b : List T, sizes (a ++ b) = sizes a + sizes b
  | [], b => by simp [sizes]
  | t :: r, b => by simp [sizes, sizes_append r b]; omega
theorem sizes_take {ks : List T} {i : Nat} {t : T} (h : ks[i]? = some t) : sizes (ks.take (i + 1)) = sizes (ks.take i) + t.size := by
  rw [List.take_add_one, h, sizes_append]; simp [sizes]
theorem sizes_take_le (ks : List T) (i : Nat) : sizes (ks.take i) ≤ sizes ks := by
  have := congrArg sizes (List.take_append_drop i ks)
  rw [sizes_append] at this
  omega
theorem sizes_mem {ks : List T} {t : T} (h : t ∈ ks) : t.size ≤ sizes ks := by
  induction ks with
  | nil => cases h
  | cons x r ih =>
    simp only [sizes]
    rcases List.mem_cons.1 h with rfl | h
    · omega
    · have := ih h; omega
theorem size_pos (t : T) : 0 < t.size := by cases t; simp [T.size]; omega
theorem length_sizes : ∀ ks : List T, ks.length ≤ sizes ks
  | [] => by simp
  | t :: r => by have := size_pos t; have := length_sizes r; simp [sizes]; omega

theorem sz_size (t : T) : ∀ left, 0 ≤ left → 0 ≤ t.sz left → (t.size : Int) ≤ left - t.sz left + 1 := by
  induction t using T.ind with
  | _ k n s ks ih =>
    intro left h0 h
    have key : ∀ (ks : List T), (∀ t ∈ ks, ∀ left, 0 ≤ left → 0 ≤ t.sz left → (t.size : Int) ≤ left - t.sz left + 1) → ∀ left, 0 ≤ left → 0 ≤ szs ks left → (sizes ks : Int) ≤ left - szs ks left + ks.length := by
      intro ks
      induction ks with
      | nil => intro _ left _ _; simp [szs, sizes]
      | cons t r ihr =>
        intro hh left hl hp
        have hr := sz_range t left hl
        simp only [szs] at hp ⊢
        split at hp
        · omega
        · rename_i hn
          rw [if_neg hn]
          have h1 := hh t (List.mem_cons_self ..) left hl (by omega)
          have h2 := ihr (fun t ht => hh t (List.mem_cons_of_mem _ ht)) (t.sz left) (by omega) hp
          simp only [sizes, List.length_cons]
          omega
    simp only [T.sz] at h ⊢
    split at h
    · omega
    · rename_i h1
      rw [if_neg h1]
      split at h
      · omega
      · rename_i h2
        rw [if_neg h2]
        have := key ks ih _ (by omega) h
        simp only [T.size]
        omega

theorem er_size_kids (k n : Int) (s : ByteArray) (tok : Nat) (f : Bool) (ks : List LT) : (LT.mk k n s tok f ks).er.size = 1 + sizes (ers ks) := by simp [LT.er, T.size]

end Go.Am
