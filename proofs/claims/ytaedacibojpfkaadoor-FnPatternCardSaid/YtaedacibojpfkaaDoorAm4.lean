/- The abstract memory logic and its tools: several texts in one. -/
import Derived.ProofKit
import Derived.Test.YtaedacibojpfkaaDoorAm3

/- Trees as the abstract memory logic sees them: labelled (which memory the kids lie in), and bare. -/
namespace Go.Am
open Go

/-- A tree: its kind, its number, its name, its kids. -/
inductive T where
  | mk (kind n : Int) (name : ByteArray) (kids : List T)

/-- A tree with the names of its memory. -/
inductive LT where
  | mk (kind n : Int) (name : ByteArray) (tok : Nat) (full : Bool) (kids : List LT)

mutual
def LT.cells : LT → List AV
  | .mk k n s tok f ks => [.int .i64 k, .int .i64 n, .str s, .imm tok 4 f (cellss ks)]
def cellss : List LT → List (List AV)
  | [] => []
  | t :: r => t.cells :: cellss r
end

mutual
def LT.er : LT → T
  | .mk k n s _ _ ks => .mk k n s (ers ks)
def ers : List LT → List T
  | [] => []
  | t :: r => t.er :: ers r
end

theorem cellss_map : ∀ ks : List LT, cellss ks = ks.map LT.cells
  | [] => by simp [cellss]
  | t :: r => by simp [cellss, cellss_map r]
theorem ers_map : ∀ ks : List LT, ers ks = ks.map LT.er
  | [] => by simp [ers]
  | t :: r => by simp [ers, ers_map r]
theorem cellss_length (ks : List LT) : (cellss ks).length = ks.length := by simp [cellss_map]
theorem cellss_get {ks : List LT} {i : Nat} {t : LT} (h : ks[i]? = some t) : (cellss ks)[i]? = some t.cells := by simp [cellss_map, h]

theorem LT.ind {p : LT → Prop} (h : ∀ k n s tok f ks, (∀ t ∈ ks, p t) → p (.mk k n s tok f ks)) : ∀ t, p t
  | .mk k n s tok f ks => h k n s tok f ks fun t _ => LT.ind h t
theorem T.ind {p : T → Prop} (h : ∀ k n s ks, (∀ t ∈ ks, p t) → p (.mk k n s ks)) : ∀ t, p t
  | .mk k n s ks => h k n s ks fun t _ => T.ind h t

/-- What the model gives of an argument: its names are no longer than Go lets a string be, its numbers fit. -/
def T.ok : T → Prop
  | .mk k n s ks => (-9223372036854775808 ≤ k ∧ k ≤ 9223372036854775807) ∧ (-9223372036854775808 ≤ n ∧ n ≤ 9223372036854775807) ∧ s.size ≤ 9223372036854775807 ∧ ks.length ≤ 9223372036854775807 ∧ ∀ t ∈ ks, t.ok

/-! What the law may go through: 'left' less the lengths of names and of lists; -1 where it falls below 0. -/
mutual
def T.sz : T → Int → Int
  | .mk _ _ s ks, left => if left - s.size < 0 then -1 else if left - s.size - ks.length < 0 then -1 else szs ks (left - s.size - ks.length)
def szs : List T → Int → Int
  | [], left => left
  | t :: r, left => if t.sz left < 0 then -1 else szs r (t.sz left)
end

theorem sz_range : (∀ t : T, ∀ left, 0 ≤ left → -1 ≤ t.sz left ∧ t.sz left ≤ left) := by
  intro t
  induction t using T.ind with
  | _ k n s ks ih =>
    intro left h
    have key : ∀ (ks : List T), (∀ t ∈ ks, ∀ left, 0 ≤ left → -1 ≤ t.sz left ∧ t.sz left ≤ left) → ∀ left, 0 ≤ left → -1 ≤ szs ks left ∧ szs ks left ≤ left := by
      intro ks
      induction ks with
      | nil => intro _ left h; simp [szs]; omega
      | cons t r ihr =>
        intro hh left hl
        have h1 := hh t (List.mem_cons_self ..) left hl
        simp only [szs]
        split
        · omega
        · have := ihr (fun t ht => hh t (List.mem_cons_of_mem _ ht)) (t.sz left) (by omega)
          omega
    simp only [T.sz]
    split
    · omega
    · split
      · omega
      · have := key ks ih (left - s.size - ks.length) (by omega)
        omega

def szS (ks : List T) (left : Int) : Int := if left - ks.length < 0 then -1 else szs ks (left - ks.length)

theorem szs_range : ∀ (ks : List T) (left : Int), 0 ≤ left → -1 ≤ szs ks left ∧ szs ks left ≤ left
  | [], left, h => by simp [szs]; omega
  | t :: r, left, h => by
    have h1 := sz_range t left h
    simp only [szs]
    split
    · omega
    · have := szs_range r (t.sz left) (by omega)
      omega
theorem szS_range (ks : List T) (left : Int) (h : 0 ≤ left) : -1 ≤ szS ks left ∧ szS ks left ≤ left := by
  unfold szS
  split
  · omega
  · have := szs_range ks (left - ks.length) (by omega)
    omega
theorem sz_eq (k n : Int) (s : ByteArray) (ks : List T) (left : Int) : (T.mk k n s ks).sz left = if left - s.size < 0 then -1 else szS ks (left - s.size) := by
  simp only [T.sz, szS]

theorem ers_length (ks : List LT) : (ers ks).length = ks.length := by simp [ers_map]
theorem ok_kids {k n : Int} {s : ByteArray} {ks : List T} (h : (T.mk k n s ks).ok) : (-9223372036854775808 ≤ k ∧ k ≤ 9223372036854775807) ∧ (-9223372036854775808 ≤ n ∧ n ≤ 9223372036854775807) ∧ s.size ≤ 9223372036854775807 ∧ ks.length ≤ 9223372036854775807 ∧ ∀ t ∈ ks, t.ok := by
  unfold T.ok at h; exact h
theorem er_ok {k n : Int} {s : ByteArray} {tok : Nat} {f : Bool} {ks : List LT} (h : (LT.mk k n s tok f ks).er.ok) : ∀ t ∈ ks, t.er.ok := by
  unfold LT.er at h
  intro t ht
  exact (ok_kids h).2.2.2.2 _ (by rw [ers_map]; exact List.mem_map_of_mem ht)

/-! Trees whose lists and names are small. -/
def T.sm : T → Prop
  | .mk _ _ s ks => s.size ≤ 1048576 ∧ ks.length ≤ 1048576 ∧ ∀ t ∈ ks, t.sm

theorem sm_kids {k n : Int} {s : ByteArray} {ks : List T} (h : (T.mk k n s ks).sm) : s.size ≤ 1048576 ∧ ks.length ≤ 1048576 ∧ ∀ t ∈ ks, t.sm := by
  unfold T.sm at h; exact h

theorem sz_sm (t : T) : ∀ left, 0 ≤ left → left ≤ 1048576 → 0 ≤ t.sz left → t.sm := by
  induction t using T.ind with
  | _ k n s ks ih =>
    intro left h0 h1 h
    have key : ∀ (ks : List T), (∀ t ∈ ks, ∀ left, 0 ≤ left → left ≤ 1048576 → 0 ≤ t.sz left → t.sm) → ∀ left, 0 ≤ left → left ≤ 1048576 → 0 ≤ szs ks left → ∀ t ∈ ks, t.sm := by
      intro ks
      induction ks with
      | nil => intro _ left _ _ _ t ht; cases ht
      | cons t r ihr =>
        intro hh left hl hl1 hp x hx
        have hr := sz_range t left hl
        simp only [szs] at hp
        split at hp
        · omega
        · rcases List.mem_cons.1 hx with rfl | hx
          · exact hh x (List.mem_cons_self ..) left hl hl1 (by omega)
          · exact ihr (fun t ht => hh t (List.mem_cons_of_mem _ ht)) (t.sz left) (by omega) (by omega) hp x hx
    simp only [T.sz] at h
    split at h
    · omega
    · split at h
      · omega
      · unfold T.sm
        exact ⟨by omega, by omega, key ks ih _ (by omega) (by omega) h⟩

/-! A copy: new memory, named in the order in which it is made. -/
mutual
def lab : T → Nat → LT × Nat
  | .mk k n s ks, tk => (.mk k n s (labs ks tk).2 false (labs ks tk).1, (labs ks tk).2 + 1)
def labs : List T → Nat → List LT × Nat
  | [], tk => ([], tk)
  | t :: r, tk => ((lab t tk).1 :: (labs r (lab t tk).2).1, (labs r (lab t tk).2).2)
end

theorem labs_length : ∀ (ks : List T) (tk : Nat), (labs ks tk).1.length = ks.length
  | [], tk => by simp [labs]
  | t :: r, tk => by simp [labs, labs_length r]
theorem labs_snoc : ∀ (ks : List T) (t : T) (tk : Nat), labs (ks ++ [t]) tk = ((labs ks tk).1 ++ [(lab t (labs ks tk).2).1], (lab t (labs ks tk).2).2)
  | [], t, tk => by simp [labs]
  | t' :: r, t, tk => by
    simp only [List.cons_append, labs, labs_snoc r t]
theorem lab_er (t : T) : ∀ tk, (lab t tk).1.er = t := by
  induction t using T.ind with
  | _ k n s ks ih =>
    intro tk
    have key : ∀ (ks : List T), (∀ t ∈ ks, ∀ tk, (lab t tk).1.er = t) → ∀ tk, ers (labs ks tk).1 = ks := by
      intro ks
      induction ks with
      | nil => intro _ tk; simp [labs, ers]
      | cons t r ihr =>
        intro hh tk
        simp only [labs, ers, hh t (List.mem_cons_self ..), ihr (fun t ht => hh t (List.mem_cons_of_mem _ ht))]
    simp only [lab, LT.er, key ks ih]
theorem labs_er (ks : List T) (tk : Nat) : ers (labs ks tk).1 = ks := by
  induction ks generalizing tk with
  | nil => simp [labs, ers]
  | cons t r ih => simp only [labs, ers, lab_er, ih]

theorem cells_length (t : LT) : t.cells.length = 4 := by cases t; rfl
theorem cells_force (t : LT) : ∀ v ∈ t.cells, force v = some v := by
  cases t
  intro v hv
  simp only [LT.cells, List.mem_cons, List.not_mem_nil, or_false] at hv
  rcases hv with rfl | rfl | rfl | rfl <;> rfl
theorem cells_cl (t : LT) : t.cells.all cl = true := by cases t; rfl
theorem cells_d1 (t : LT) : alld1 t.cells = true := by cases t; rfl
theorem cellss_append (a b : List LT) : cellss (a ++ b) = cellss a ++ cellss b := by simp [cellss_map]

/-! How many nodes. -/
mutual
def T.size : T → Nat
  | .mk _ _ _ ks => 1 + sizes ks
def sizes : List T → Nat
  | [] => 0
  | t :: r => t.size + sizes r
end
theorem sizes_append : ∀ a b : List T, sizes (a ++ b) = sizes a + sizes b
  | [], b => by simp [sizes]
  | t :: r, b => by simp [sizes, sizes_append r b]; omega
theorem sizes_take {ks : List T} {i : Nat} {t : T} (h : ks[i]? = some t) : sizes (ks.take (i + 1)) = sizes (ks.take i) + t.size := by
  rw [List.take_add_one, h, sizes_append]; simp [sizes]
theorem sizes_take_le (ks : List T) (i : Nat) : sizes (ks.take i) ≤ sizes ks := by
  have := congrArg sizes (List.take_append_drop i ks)
  rw [sizes_append] at this
  omega
theorem sizes_mem {ks : List T} {t : T} (h : t ∈ ks) : t.size ≤ sizes ks := by
  induction ks with
  | nil => cases h
  | cons x r ih =>
    simp only [sizes]
    rcases List.mem_cons.1 h with rfl | h
    · omega
    · have := ih h; omega
theorem size_pos (t : T) : 0 < t.size := by cases t; simp [T.size]; omega
theorem length_sizes : ∀ ks : List T, ks.length ≤ sizes ks
  | [] => by simp
  | t :: r => by have := size_pos t; have := length_sizes r; simp [sizes]; omega

theorem sz_size (t : T) : ∀ left, 0 ≤ left → 0 ≤ t.sz left → (t.size : Int) ≤ left - t.sz left + 1 := by
  induction t using T.ind with
  | _ k n s ks ih =>
    intro left h0 h
    have key : ∀ (ks : List T), (∀ t ∈ ks, ∀ left, 0 ≤ left → 0 ≤ t.sz left → (t.size : Int) ≤ left - t.sz left + 1) → ∀ left, 0 ≤ left → 0 ≤ szs ks left → (sizes ks : Int) ≤ left - szs ks left + ks.length := by
      intro ks
      induction ks with
      | nil => intro _ left _ _; simp [szs, sizes]
      | cons t r ihr =>
        intro hh left hl hp
        have hr := sz_range t left hl
        simp only [szs] at hp ⊢
        split at hp
        · omega
        · rename_i hn
          rw [if_neg hn]
          have h1 := hh t (List.mem_cons_self ..) left hl (by omega)
          have h2 := ihr (fun t ht => hh t (List.mem_cons_of_mem _ ht)) (t.sz left) (by omega) hp
          simp only [sizes, List.length_cons]
          omega
    simp only [T.sz] at h ⊢
    split at h
    · omega
    · rename_i h1
      rw [if_neg h1]
      split at h
      · omega
      · rename_i h2
        rw [if_neg h2]
        have := key ks ih _ (by omega) h
        simp only [T.size]
        omega

theorem er_size_kids (k n : Int) (s : ByteArray) (tok : Nat) (f : Bool) (ks : List LT) : (LT.mk k n s tok f ks).er.size = 1 + sizes (ers ks) := by simp [LT.er, T.size]

end Go.Am

/- Forms and types (a kind, a number, kids), as Tree says it of trees. -/
namespace Go.Am
open Go

/-- A tree: its kind, its number, its name, its kids. -/
inductive F where
  | mk (kind n : Int) (kids : List F)

/-- A tree with the names of its memory. -/
inductive LF where
  | mk (kind n : Int) (tok : Nat) (full : Bool) (kids : List LF)

mutual
def LF.cells : LF → List AV
  | .mk k n tok f ks => [.int .i64 k, .int .i64 n, .imm tok 3 f (fcellss ks)]
def fcellss : List LF → List (List AV)
  | [] => []
  | t :: r => t.cells :: fcellss r
end

mutual
def LF.er : LF → F
  | .mk k n _ _ ks => .mk k n (fers ks)
def fers : List LF → List F
  | [] => []
  | t :: r => t.er :: fers r
end

theorem fcellss_map : ∀ ks : List LF, fcellss ks = ks.map LF.cells
  | [] => by simp [fcellss]
  | t :: r => by simp [fcellss, fcellss_map r]
theorem fers_map : ∀ ks : List LF, fers ks = ks.map LF.er
  | [] => by simp [fers]
  | t :: r => by simp [fers, fers_map r]
theorem fcellss_length (ks : List LF) : (fcellss ks).length = ks.length := by simp [fcellss_map]
theorem fcellss_get {ks : List LF} {i : Nat} {t : LF} (h : ks[i]? = some t) : (fcellss ks)[i]? = some t.cells := by simp [fcellss_map, h]

theorem LF.ind {p : LF → Prop} (h : ∀ k n tok f ks, (∀ t ∈ ks, p t) → p (.mk k n tok f ks)) : ∀ t, p t
  | .mk k n tok f ks => h k n tok f ks fun t _ => LF.ind h t
theorem F.ind {p : F → Prop} (h : ∀ k n ks, (∀ t ∈ ks, p t) → p (.mk k n ks)) : ∀ t, p t
  | .mk k n ks => h k n ks fun t _ => F.ind h t

/-- What the model gives of an argument: its names are no longer than Go lets a string be, its numbers fit. -/
def F.ok : F → Prop
  | .mk k n ks => (-9223372036854775808 ≤ k ∧ k ≤ 9223372036854775807) ∧ (-9223372036854775808 ≤ n ∧ n ≤ 9223372036854775807) ∧ ks.length ≤ 9223372036854775807 ∧ ∀ t ∈ ks, t.ok

/-! What the law may go through: 'left' less the lengths of names and of lists; -1 where it falls below 0. -/
mutual
def F.sz : F → Int → Int
  | .mk _ _ ks, left => if left - ks.length < 0 then -1 else fszs ks (left - ks.length)
def fszs : List F → Int → Int
  | [], left => left
  | t :: r, left => if t.sz left < 0 then -1 else fszs r (t.sz left)
end

theorem fsz_range : (∀ t : F, ∀ left, 0 ≤ left → -1 ≤ t.sz left ∧ t.sz left ≤ left) := by
  intro t
  induction t using F.ind with
  | _ k n ks ih =>
    intro left h
    have key : ∀ (ks : List F), (∀ t ∈ ks, ∀ left, 0 ≤ left → -1 ≤ t.sz left ∧ t.sz left ≤ left) → ∀ left, 0 ≤ left → -1 ≤ fszs ks left ∧ fszs ks left ≤ left := by
      intro ks
      induction ks with
      | nil => intro _ left h; simp [fszs]; omega
      | cons t r ihr =>
        intro hh left hl
        have h1 := hh t (List.mem_cons_self ..) left hl
        simp only [fszs]
        split
        · omega
        · have := ihr (fun t ht => hh t (List.mem_cons_of_mem _ ht)) (t.sz left) (by omega)
          omega
    simp only [F.sz]
    split
    · omega
    · have := key ks ih (left - ks.length) (by omega)
      omega

def fszS (ks : List F) (left : Int) : Int := if left - ks.length < 0 then -1 else fszs ks (left - ks.length)

theorem fszs_range : ∀ (ks : List F) (left : Int), 0 ≤ left → -1 ≤ fszs ks left ∧ fszs ks left ≤ left
  | [], left, h => by simp [fszs]; omega
  | t :: r, left, h => by
    have h1 := fsz_range t left h
    simp only [fszs]
    split
    · omega
    · have := fszs_range r (t.sz left) (by omega)
      omega
theorem fszS_range (ks : List F) (left : Int) (h : 0 ≤ left) : -1 ≤ fszS ks left ∧ fszS ks left ≤ left := by
  unfold fszS
  split
  · omega
  · have := fszs_range ks (left - ks.length) (by omega)
    omega
theorem fsz_eq (k n : Int) (ks : List F) (left : Int) : (F.mk k n ks).sz left = fszS ks left := by
  simp only [F.sz, fszS]

theorem fers_length (ks : List LF) : (fers ks).length = ks.length := by simp [fers_map]
theorem fok_kids {k n : Int} {ks : List F} (h : (F.mk k n ks).ok) : (-9223372036854775808 ≤ k ∧ k ≤ 9223372036854775807) ∧ (-9223372036854775808 ≤ n ∧ n ≤ 9223372036854775807) ∧ ks.length ≤ 9223372036854775807 ∧ ∀ t ∈ ks, t.ok := by
  unfold F.ok at h; exact h
theorem fer_ok {k n : Int} {tok : Nat} {f : Bool} {ks : List LF} (h : (LF.mk k n tok f ks).er.ok) : ∀ t ∈ ks, t.er.ok := by
  unfold LF.er at h
  intro t ht
  exact (fok_kids h).2.2.2 _ (by rw [fers_map]; exact List.mem_map_of_mem ht)

/-! Trees whose lists and names are small. -/
def F.sm : F → Prop
  | .mk _ _ ks => ks.length ≤ 1048576 ∧ ∀ t ∈ ks, t.sm

theorem fsm_kids {k n : Int} {ks : List F} (h : (F.mk k n ks).sm) : ks.length ≤ 1048576 ∧ ∀ t ∈ ks, t.sm := by
  unfold F.sm at h; exact h

theorem fsz_sm (t : F) : ∀ left, 0 ≤ left → left ≤ 1048576 → 0 ≤ t.sz left → t.sm := by
  induction t using F.ind with
  | _ k n ks ih =>
    intro left h0 h1 h
    have key : ∀ (ks : List F), (∀ t ∈ ks, ∀ left, 0 ≤ left → left ≤ 1048576 → 0 ≤ t.sz left → t.sm) → ∀ left, 0 ≤ left → left ≤ 1048576 → 0 ≤ fszs ks left → ∀ t ∈ ks, t.sm := by
      intro ks
      induction ks with
      | nil => intro _ left _ _ _ t ht; cases ht
      | cons t r ihr =>
        intro hh left hl hl1 hp x hx
        have hr := fsz_range t left hl
        simp only [fszs] at hp
        split at hp
        · omega
        · rcases List.mem_cons.1 hx with rfl | hx
          · exact hh x (List.mem_cons_self ..) left hl hl1 (by omega)
          · exact ihr (fun t ht => hh t (List.mem_cons_of_mem _ ht)) (t.sz left) (by omega) (by omega) hp x hx
    simp only [F.sz] at h
    split at h
    · omega
    · unfold F.sm
      exact ⟨by omega, key ks ih _ (by omega) (by omega) h⟩

/-! A copy: new memory, named in the order in which it is made. -/
mutual
def flab : F → Nat → LF × Nat
  | .mk k n ks, tk => (.mk k n (flabs ks tk).2 false (flabs ks tk).1, (flabs ks tk).2 + 1)
def flabs : List F → Nat → List LF × Nat
  | [], tk => ([], tk)
  | t :: r, tk => ((flab t tk).1 :: (flabs r (flab t tk).2).1, (flabs r (flab t tk).2).2)
end

theorem flabs_length : ∀ (ks : List F) (tk : Nat), (flabs ks tk).1.length = ks.length
  | [], tk => by simp [flabs]
  | t :: r, tk => by simp [flabs, flabs_length r]
theorem flabs_snoc : ∀ (ks : List F) (t : F) (tk : Nat), flabs (ks ++ [t]) tk = ((flabs ks tk).1 ++ [(flab t (flabs ks tk).2).1], (flab t (flabs ks tk).2).2)
  | [], t, tk => by simp [flabs]
  | t' :: r, t, tk => by
    simp only [List.cons_append, flabs, flabs_snoc r t]
theorem flab_er (t : F) : ∀ tk, (flab t tk).1.er = t := by
  induction t using F.ind with
  | _ k n ks ih =>
    intro tk
    have key : ∀ (ks : List F), (∀ t ∈ ks, ∀ tk, (flab t tk).1.er = t) → ∀ tk, fers (flabs ks tk).1 = ks := by
      intro ks
      induction ks with
      | nil => intro _ tk; simp [flabs, fers]
      | cons t r ihr =>
        intro hh tk
        simp only [flabs, fers, hh t (List.mem_cons_self ..), ihr (fun t ht => hh t (List.mem_cons_of_mem _ ht))]
    simp only [flab, LF.er, key ks ih]
theorem flabs_er (ks : List F) (tk : Nat) : fers (flabs ks tk).1 = ks := by
  induction ks generalizing tk with
  | nil => simp [flabs, fers]
  | cons t r ih => simp only [flabs, fers, flab_er, ih]

theorem fcells_length (t : LF) : t.cells.length = 3 := by cases t; rfl
theorem fcells_force (t : LF) : ∀ v ∈ t.cells, force v = some v := by
  cases t
  intro v hv
  simp only [LF.cells, List.mem_cons, List.not_mem_nil, or_false] at hv
  rcases hv with rfl | rfl | rfl <;> rfl
theorem fcells_cl (t : LF) : t.cells.all cl = true := by cases t; rfl
theorem fcells_d1 (t : LF) : alld1 t.cells = true := by cases t; rfl
theorem fcellss_append (a b : List LF) : fcellss (a ++ b) = fcellss a ++ fcellss b := by simp [fcellss_map]

/-! How many nodes. -/
mutual
def F.size : F → Nat
  | .mk _ _ ks => 1 + fsizes ks
def fsizes : List F → Nat
  | [] => 0
  | t :: r => t.size + fsizes r
end
theorem fsizes_append : ∀ a b : List F, fsizes (a ++ b) = fsizes a + fsizes b
  | [], b => by simp [fsizes]
  | t :: r, b => by simp [fsizes, fsizes_append r b]; omega
theorem fsizes_take {ks : List F} {i : Nat} {t : F} (h : ks[i]? = some t) : fsizes (ks.take (i + 1)) = fsizes (ks.take i) + t.size := by
  rw [List.take_add_one, h, fsizes_append]; simp [fsizes]
theorem fsizes_take_le (ks : List F) (i : Nat) : fsizes (ks.take i) ≤ fsizes ks := by
  have := congrArg fsizes (List.take_append_drop i ks)
  rw [fsizes_append] at this
  omega
theorem fsizes_mem {ks : List F} {t : F} (h : t ∈ ks) : t.size ≤ fsizes ks := by
  induction ks with
  | nil => cases h
  | cons x r ih =>
    simp only [fsizes]
    rcases List.mem_cons.1 h with rfl | h
    · omega
    · have := ih h; omega
theorem fsize_pos (t : F) : 0 < t.size := by cases t; simp [F.size]; omega
theorem flength_sizes : ∀ ks : List F, ks.length ≤ fsizes ks
  | [] => by simp
  | t :: r => by have := fsize_pos t; have := flength_sizes r; simp [fsizes]; omega

theorem fsz_size (t : F) : ∀ left, 0 ≤ left → 0 ≤ t.sz left → (t.size : Int) ≤ left - t.sz left + 1 := by
  induction t using F.ind with
  | _ k n ks ih =>
    intro left h0 h
    have key : ∀ (ks : List F), (∀ t ∈ ks, ∀ left, 0 ≤ left → 0 ≤ t.sz left → (t.size : Int) ≤ left - t.sz left + 1) → ∀ left, 0 ≤ left → 0 ≤ fszs ks left → (fsizes ks : Int) ≤ left - fszs ks left + ks.length := by
      intro ks
      induction ks with
      | nil => intro _ left _ _; simp [fszs, fsizes]
      | cons t r ihr =>
        intro hh left hl hp
        have hr := fsz_range t left hl
        simp only [fszs] at hp ⊢
        split at hp
        · omega
        · rename_i hn
          rw [if_neg hn]
          have h1 := hh t (List.mem_cons_self ..) left hl (by omega)
          have h2 := ihr (fun t ht => hh t (List.mem_cons_of_mem _ ht)) (t.sz left) (by omega) hp
          simp only [fsizes, List.length_cons]
          omega
    simp only [F.sz] at h ⊢
    split at h
    · omega
    · rename_i h1
      rw [if_neg h1]
      have := key ks ih _ (by omega) h
      simp only [F.size]
      omega

theorem fer_size_kids (k n : Int) (tok : Nat) (f : Bool) (ks : List LF) : (LF.mk k n tok f ks).er.size = 1 + fsizes (fers ks) := by simp [LF.er, F.size]

end Go.Am

/- How an argument of a law is read: a tree in old memory. -/
namespace Go.Am
open Go

def start (w : World) : Sit := ⟨w, fun _ => 0, fun _ => none, fun _ => 0, 2, w.heap.size, fun _ => none, fun _ => false⟩

theorem start_sim (w : World) : SimH (start w) :=
  ⟨fun x o h => (by cases h), fun x y h => (by cases h), fun x h => (by cases h), fun t h1 h2 => (by have : t < 2 := h2; omega), fun t t' h1 h2 => (by have : t < 2 := h2; omega), Nat.le_refl _, fun x z h => (by cases h), Nat.le_refl _⟩
theorem start_con {w : World} {b : Nat} (h : b < w.heap.size) : (start w).con b := ⟨h, fun ⟨x, hx, _⟩ => by cases hx⟩

theorem start_below {w : World} {S' : Sit} (h : Ext (start w) S') : RowKit.Below w.heap.size w S'.w :=
  ⟨h.os, h.tape, h.output, h.size, fun k hk => (h.con k (start_con hk)).2⟩

/-- From a contract to the call. -/
theorem calls_of_acalls {P : Program} {f : FuncId} {args : List AV} {R : Heap → Nat → Out → Heap → Nat → Prop} (h : ∀ O tk, ACalls P f args O tk (R O tk)) {us : Array Value} {w : World} (hl : us.size = args.length) (ha : ∀ j v, args[j]? = some v → RepC (start w) v (us.getD j undef))
    (hk : args.all (fun v => argok v) = true) (hi : Inv w.heap.size w) (hR : ∀ O tk out O' tk', R O tk out O' tk' → out = .ret (.bool true)) :
    Calls P f us w fun e w' => e = .returned (.bool true) ∧ RowKit.Below w.heap.size w w' := by
  refine ((h _ 2).2 (start w) us rfl rfl (start_sim w) hi (fun x _ => rfl) hl (fun j v hj => argok_arg (.clo (ha j v hj)) (List.all_eq_true.1 hk v (List.mem_of_getElem? hj)))).mono fun e w' ⟨out, S', q1, q2, q3, q4, q5⟩ => ?_
  have := hR _ _ _ _ _ q5
  subst this
  subst q1
  obtain ⟨u, rfl, hu⟩ := q4
  cases hu
  exact ⟨rfl, start_below q3⟩

instance : Inhabited LT := ⟨.mk 0 0 ⟨#[]⟩ 0 false []⟩

theorem wf_range {n : Int} (h : (Lit.int .i64 n).wf = true) : -9223372036854775808 ≤ n ∧ n ≤ 9223372036854775807 := by
  simp [Lit.wf, IntKind.min, IntKind.max, IntKind.signed, IntKind.bits] at h
  omega

theorem spot_of_cell {w : World} {a : Addr} {v : Value} (h : w.cell? a = some v) : a.spot = none := by
  unfold World.cell? at h
  split at h
  · split at h
    · cases h
    · rename_i hs; simpa using hs
  · cases h

section
open Go.ChangeShapes
variable {H : Type} {enc : TypeId × Value → H} {P : Program} {w : World} {sp : Nat → Bool} {held : Bool}

/-- A tree in old memory. -/
theorem read_tree {TT : TypeId} {f0 f1 f2 f3 : Field} (hs : P.underlying TT = some (.struct #[f0, f1, f2, f3])) (hC : P.cellsOf TT = 4)
    (h0 : P.underlying f0.type = some (.int .i64) ∧ f0.offset = 0 ∧ P.cellsOf f0.type = 1) (h1 : P.underlying f1.type = some (.int .i64) ∧ f1.offset = 1 ∧ P.cellsOf f1.type = 1)
    (h2 : P.underlying f2.type = some .string ∧ f2.offset = 2 ∧ P.cellsOf f2.type = 1) (h3 : P.underlying f3.type = some (.slice TT) ∧ f3.offset = 3 ∧ P.cellsOf f3.type = 1) :
    ∀ (fuel : Nat) (cs : List Value) (x : DataW H × List MemPlace), DataW.trod enc P w 0 sp held fuel TT cs = some x →
      ∃ t : LT, t.er.ok ∧ cs.length = 4 ∧ ∀ j v, t.cells[j]? = some v → RepC (start w) v (cs.getD j undef) := by
  intro fuel
  induction fuel using Nat.strongRecOn with
  | _ fuel ih =>
    intro cs x h
    obtain ⟨xs, n, rfl, hx, hl, hlen, hf⟩ := DataW.trod_struct hs h
    rw [hC] at hl
    have e0 := hf 0 f0 rfl
    have e1 := hf 1 f1 rfl
    have e2 := hf 2 f2 rfl
    have e3 := hf 3 f3 rfl
    rw [h0.2.1, h0.2.2] at e0
    rw [h1.2.1, h1.2.2] at e1
    rw [h2.2.1, h2.2.2] at e2
    rw [h3.2.1, h3.2.2] at e3
    match cs, hl, xs, hlen, e0, e1, e2, e3 with
    | [c0, c1, c2, c3], _, [y0, y1, y2, y3], _, e0, e1, e2, e3 =>
      simp at e0 e1 e2 e3
      obtain ⟨k, hk, _, wk⟩ := DataW.trod_int h0.1 e0
      obtain ⟨m, hm, _, wm⟩ := DataW.trod_int h1.1 e1
      obtain ⟨s, hss, _, ws⟩ := DataW.trod_string h2.1 e2
      simp only [List.cons.injEq, and_true] at hk hm hss
      subst hk hm hss
      have fin : ∀ ks : List LT, (∀ t ∈ ks, t.er.ok) → ks.length ≤ maxLen → RepC (start w) (.imm 0 4 false (cellss ks)) c3 → ∃ t : LT, t.er.ok ∧ [Value.int .i64 k, Value.int .i64 m, Value.string s, c3].length = 4 ∧ ∀ j v, t.cells[j]? = some v → RepC (start w) v ([Value.int .i64 k, Value.int .i64 m, Value.string s, c3].getD j undef) := by
        intro ks hks hkl hr
        refine ⟨.mk k m s 0 false ks, ?_, rfl, fun j v hj => ?_⟩
        · unfold LT.er Go.Am.T.ok
          exact ⟨wf_range wk, wf_range wm, ws, by rw [ers_length]; exact hkl, fun t ht => by rw [ers_map] at ht; obtain ⟨t', h1, rfl⟩ := List.mem_map.1 ht; exact hks t' h1⟩
        · simp only [LT.cells] at hj
          match j, hj with
          | 0, hj => cases hj; exact .int _ _
          | 1, hj => cases hj; exact .int _ _
          | 2, hj => cases hj; exact .str _
          | 3, hj => cases hj; exact hr
          | j + 4, hj => simp at hj
      rcases DataW.trod_slice h3.1 e3 with ⟨hc3, _⟩ | ⟨a, len, cap, elems, rest, m', rfl, hc3, _, _, hlc, hcm, hel, hget, _, _⟩
      · simp only [List.cons.injEq, and_true] at hc3
        subst hc3
        exact fin [] (fun t ht => by cases ht) (Nat.zero_le _) (.imm0 _ _ _ _ _ (fun h => by cases h) (Nat.zero_le _))
      · simp only [List.cons.injEq, and_true] at hc3
        subst hc3
        have each : ∀ i : Nat, ∃ p : LT × List Value, i < len → p.1.er.ok ∧ w.cells? 0 (a.add (i * 4)) 4 = some p.2 ∧ p.2.length = 4 ∧ ∀ j v, p.1.cells[j]? = some v → RepC (start w) v (p.2.getD j undef) := by
          intro i
          by_cases hi : i < len
          · have g := hget i hi
            rw [List.getElem?_eq_getElem (by omega), hC] at g
            obtain ⟨cs', g1, g2⟩ := Option.bind_eq_some_iff.1 g
            obtain ⟨t, t1, t2, t3⟩ := ih m' (by omega) cs' _ g2
            exact ⟨(t, cs'), fun _ => ⟨t1, g1, t2, t3⟩⟩
          · exact ⟨default, fun h => absurd h hi⟩
        let pf : Nat → LT × List Value := fun i => Classical.choose (each i)
        have hpf : ∀ i, i < len → (pf i).1.er.ok ∧ w.cells? 0 (a.add (i * 4)) 4 = some (pf i).2 ∧ (pf i).2.length = 4 ∧ ∀ j v, (pf i).1.cells[j]? = some v → RepC (start w) v ((pf i).2.getD j undef) := fun i => Classical.choose_spec (each i)
        clear_value pf
        have hcell : ∀ i, i < len → ∀ j, j < 4 → w.cell? ((a.add (i * 4)).add j) = some ((pf i).2.getD j undef) := by
          intro i hi j hj
          obtain ⟨_, g1, g2, _⟩ := hpf i hi
          obtain ⟨_, _, g3⟩ := World.cells?_some g1
          have := g3 j hj
          rw [this]
          simp [List.getD_eq_getElem?_getD, List.getElem?_eq_getElem (show j < (pf i).2.length by omega)]
        let ks : List LT := (List.range len).map fun i => (pf i).1
        have hkl : ks.length = len := by simp [ks]
        have hkg : ∀ i, i < len → ks[i]? = some (pf i).1 := fun i hi => by simp [ks, hi]
        refine fin ks (fun t ht => ?_) (by rw [hkl]; omega) ?_
        · obtain ⟨i, hi, rfl⟩ := List.mem_map.1 ht
          exact (hpf i (List.mem_range.1 hi)).1
        · by_cases hl0 : len = 0
          · have : ks = [] := List.length_eq_zero_iff.1 (by omega)
            rw [this, hl0]
            exact .imm0 _ _ _ _ _ (fun h => by cases h) hcm
          · have hspot : a.spot = none := by
              have h00 := hcell 0 (by omega) 0 (by omega)
              have := spot_of_cell h00
              obtain ⟨b, o, s⟩ := a
              cases s with
              | none => rfl
              | some s => simp [Addr.add] at this
            obtain ⟨b, o, s⟩ := a
            subst hspot
            have hb : b < w.heap.size := by
              have h00 := hcell 0 (by omega) 0 (by omega)
              rw [add_off, add_off] at h00
              unfold World.cell? at h00
              split at h00
              · rename_i hh; exact (Array.getElem?_eq_some_iff.1 hh).1
              · cases h00
            have hcl : (cellss ks).length = len := by rw [cellss_length, hkl]
            rw [← hcl]
            have hgetc : ∀ (i : Nat) (e : List AV), (cellss ks)[i]? = some e → i < len ∧ e = (pf i).1.cells := by
              intro i e he
              have hi : i < len := by rw [← hcl]; exact (List.getElem?_eq_some_iff.1 he).1
              rw [cellss_get (hkg i hi)] at he
              exact ⟨hi, (Option.some.inj he).symm⟩
            refine .imm 0 4 false (cellss ks) b o cap (fun i j => (pf i).2.getD j undef) (fun h => hl0 (by rw [← hcl, h]; rfl)) (start_con hb) (by rw [hcl]; exact hlc) hcm (fun h => by cases h) (fun h => absurd h (by omega)) (fun _ => hb)
              (fun e he => ?_) (fun i e j v hi hj => ?_) (fun i e j v hi hj => ?_) (fun i e j v hi hj => ?_)
            · obtain ⟨i, hi⟩ := List.mem_iff_getElem?.1 he
              rw [(hgetc i e hi).2]; exact cells_length _
            · obtain ⟨_, rfl⟩ := hgetc i e hi
              exact alld1_at (cells_d1 _) j v hj
            · obtain ⟨hi', rfl⟩ := hgetc i e hi
              have hj4 : j < 4 := by rw [← cells_length (pf i).1]; exact (List.getElem?_eq_some_iff.1 hj).1
              have := hcell i hi' j hj4
              rw [add_off, add_off, Nat.add_assoc] at this
              exact this
            · obtain ⟨hi', rfl⟩ := hgetc i e hi
              exact (hpf i hi').2.2.2 j v hj
end

end Go.Am

/- Right types and forms: what both sides reckon. -/
namespace Go.Am
open Go

/-! How many nodes may yet come, behind a type (stops below 0). -/
mutual
def F.cnt : F → Int → Int
  | .mk _ _ ks, left => fcnts ks (left - 1)
def fcnts : List F → Int → Int
  | [], left => left
  | t :: r, left => if left ≥ 0 then fcnts r (t.cnt left) else left
end

mutual
def F.tyok : F → Bool
  | .mk k n ks => if k = 1 then (decide (0 ≤ n) && (decide (n ≤ 5) && decide (ks.length = 0))) else if k = 2 then (decide (n = 0) && (decide (ks.length = 2) && ftyoks ks)) else false
def ftyoks : List F → Bool
  | [] => true
  | t :: r => t.tyok && ftyoks r
end

mutual
def F.fmok : F → Bool
  | .mk k n ks => if k = 1 then (decide (0 ≤ n) && (decide (n ≤ 5) && decide (ks.length = 0))) else if k = 2 ∨ k = 3 then (decide (n = 0) && (decide (ks.length = 2) && ffmoks ks)) else if k = 4 then (decide (n = 0) && decide (ks.length = 0)) else false
def ffmoks : List F → Bool
  | [] => true
  | t :: r => t.fmok && ffmoks r
end

theorem cnt_range (t : F) : ∀ left, 0 ≤ left → -1 ≤ t.cnt left ∧ t.cnt left ≤ left - 1 := by
  induction t using F.ind with
  | _ k n ks ih =>
    intro left h
    have key : ∀ (ks : List F), (∀ t ∈ ks, ∀ left, 0 ≤ left → -1 ≤ t.cnt left ∧ t.cnt left ≤ left - 1) → ∀ left, -1 ≤ left → -1 ≤ fcnts ks left ∧ fcnts ks left ≤ left := by
      intro ks
      induction ks with
      | nil => intro _ left h; simp [fcnts]; omega
      | cons t r ihr =>
        intro hh left hl
        simp only [fcnts]
        split
        · have h1 := hh t (List.mem_cons_self ..) left (by omega)
          have := ihr (fun t ht => hh t (List.mem_cons_of_mem _ ht)) (t.cnt left) (by omega)
          omega
        · omega
    simp only [F.cnt]
    have := key ks ih (left - 1) (by omega)
    omega

/-- It is left less the nodes, where there is room. -/
theorem cnt_eq (t : F) : ∀ left, 0 ≤ left → ((t.size : Int) ≤ left → t.cnt left = left - t.size) ∧ (left < t.size → t.cnt left < 0) := by
  induction t using F.ind with
  | _ k n ks ih =>
    intro left h
    have key : ∀ (ks : List F), (∀ t ∈ ks, ∀ left, 0 ≤ left → ((t.size : Int) ≤ left → t.cnt left = left - t.size) ∧ (left < t.size → t.cnt left < 0)) → ∀ left, -1 ≤ left →
        ((fsizes ks : Int) ≤ left → fcnts ks left = left - fsizes ks) ∧ (left < fsizes ks ∨ left < 0 → fcnts ks left < 0) := by
      intro ks
      induction ks with
      | nil => intro _ left h; simp only [fcnts, fsizes]; omega
      | cons t r ihr =>
        intro hh left hl
        simp only [fcnts, fsizes]
        by_cases h0 : left ≥ 0
        · rw [if_pos h0]
          have hr := cnt_range t left h0
          have h1 := hh t (List.mem_cons_self ..) left h0
          have h2 := ihr (fun t ht => hh t (List.mem_cons_of_mem _ ht)) (t.cnt left) (by omega)
          have hp := fsize_pos t
          by_cases hle : (t.size : Int) ≤ left
          · have h3 := h1.1 hle
            rw [h3] at h2 ⊢
            exact ⟨fun q => by have := h2.1 (by omega); omega, fun q => h2.2 (by omega)⟩
          · have h3 := h1.2 (by omega)
            exact ⟨fun q => by omega, fun _ => h2.2 (.inr h3)⟩
        · rw [if_neg h0]
          exact ⟨fun q => by omega, fun _ => by omega⟩
    have := key ks ih (left - 1) (by omega)
    simp only [F.cnt, F.size]
    exact ⟨fun q => by have := this.1 (by omega); omega, fun q => this.2 (by omega)⟩

end Go.Am
