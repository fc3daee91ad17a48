/- Forms and types (a kind, a number, kids), as Tree says it of trees. -/
import Derived.Test.YtklchmkanhpeeaaTree
namespace Go.Am
open Go

/-- A tree: its kind, its number, its name, its kids. -/
inductive F where
  | mk (kind n : Int) (kids : List F)

/-- A tree with the names of its memory. -/
inductive LF where
  | mk (kind n : Int) (tok : Nat) (full : Bool) (kids : List LF)

mutual
def LF.cells : LF → List AV
  | .mk k n tok f ks => [.int .i64 k, .int .i64 n, .imm tok 3 f (fcellss ks)]
def fcellss : List LF → List (List AV)
  | [] => []
  | t :: r => t.cells :: fcellss r
end

mutual
def LF.er : LF → F
  | .mk k n _ _ ks => .mk k n (fers ks)
def fers : List LF → List F
  | [] => []
  | t :: r => t.er :: fers r
end

theorem fcellss_map : ∀ ks : List LF, fcellss ks = ks.map LF.cells
  | [] => by simp [fcellss]
  | t :: r => by simp [fcellss, fcellss_map r]
theorem fers_map : ∀ ks : List LF, fers ks = ks.map LF.er
  | [] => by simp [fers]
  | t :: r => by simp [fers, fers_map r]
theorem fcellss_length (ks : List LF) : (fcellss ks).length = ks.length := by simp [fcellss_map]
theorem fcellss_get {ks : List LF} {i : Nat} {t : LF} (h : ks[i]? = some t) : (fcellss ks)[i]? = some t.cells := by simp [fcellss_map, h]

theorem LF.ind {p : LF → Prop} (h : ∀ k n tok f ks, (∀ t ∈ ks, p t) → p (.mk k n tok f ks)) : ∀ t, p t
  | .mk k n tok f ks => h k n tok f ks fun t _ => LF.ind h t
theorem F.ind {p : F → Prop} (h : ∀ k n ks, (∀ t ∈ ks, p t) → p (.mk k n ks)) : ∀ t, p t
  | .mk k n ks => h k n ks fun t _ => F.ind h t

/-- What the model gives of an argument: its names are no longer than Go lets a string be, its numbers fit. -/
def F.ok : F → Prop
  | .mk k n ks => (-9223372036854775808 ≤ k ∧ k ≤ 9223372036854775807) ∧ (-9223372036854775808 ≤ n ∧ n ≤ 9223372036854775807) ∧ ks.length ≤ 9223372036854775807 ∧ ∀ t ∈ ks, t.ok

/-! What the law may go through: 'left' less the lengths of names and of lists; -1 where it falls below 0. -/
mutual
def F.sz : F → Int → Int
  | .mk _ _ ks, left => if left - ks.length < 0 then -1 else fszs ks (left - ks.length)
def fszs : List F → Int → Int
  | [], left => left
  | t :: r, left => if t.sz left < 0 then -1 else fszs r (t.sz left)
end

theorem fsz_range : (∀ t : F, ∀ left, 0 ≤ left → -1 ≤ t.sz left ∧ t.sz left ≤ left) := by
  intro t
  induction t using F.ind with
  | _ k n ks ih =>
    intro left h
    have key : ∀ (ks : List F), (∀ t ∈ ks, ∀ left, 0 ≤ left → -1 ≤ t.sz left ∧ t.sz left ≤ left) → ∀ left, 0 ≤ left → -1 ≤ fszs ks left ∧ fszs ks left ≤ left := by
      intro ks
      induction ks with
      | nil => intro _ left h; simp [fszs]; omega
      | cons t r ihr =>
        intro hh left hl
        have h1 := hh t (List.mem_cons_self ..) left hl
        simp only [fszs]
        split
        · omega
        · have := ihr (fun t ht => hh t (List.mem_cons_of_mem _ ht)) (t.sz left) (by omega)
          omega
    simp only [F.sz]
    split
    · omega
    · have := key ks ih (left - ks.length) (by omega)
      omega

def fszS (ks : List F) (left : Int) : Int := if left - ks.length < 0 then -1 else fszs ks (left - ks.length)

theorem fszs_range : ∀ (ks : List F) (left : Int), 0 ≤ left → -1 ≤ fszs ks left ∧ fszs ks left ≤ left
  | [], left, h => by simp [fszs]; omega
  | t :: r, left, h => by
    have h1 := fsz_range t left h
    simp only [fszs]
    split
    · omega
    · have := fszs_range r (t.sz left) (by omega)
      omega
theorem fszS_range (ks : List F) (left : Int) (h : 0 ≤ left) : -1 ≤ fszS ks left ∧ fszS ks left ≤ left := by
  unfold fszS
  split
  · omega
  · have := fszs_range ks (left - ks.length) (by omega)
    omega
theorem fsz_eq (k n : Int) (ks : List F) (left : Int) : (F.mk k n ks).sz left = fszS ks left := by
  simp only [F.sz, fszS]

theorem fers_length (ks : List LF) : (fers ks).length = ks.length := by simp [fers_map]
theorem fok_kids {k n : Int} {ks : List F} (h : (F.mk k n ks).ok) : (-9223372036854775808 ≤ k ∧ k ≤ 9223372036854775807) ∧ (-9223372036854775808 ≤ n ∧ n ≤ 9223372036854775807) ∧ ks.length ≤ 9223372036854775807 ∧ ∀ t ∈ ks, t.ok := by
  unfold F.ok at h; exact h
theorem fer_ok {k n : Int} {tok : Nat} {f : Bool} {ks : List LF} (h : (LF.mk k n tok f ks).er.ok) : ∀ t ∈ ks, t.er.ok := by
  unfold LF.er at h
  intro t ht
  exact (fok_kids h).2.2.2 _ (by rw [fers_map]; exact List.mem_map_of_mem ht)

/-! Trees whose lists and names are small. -/
def F.sm : F → Prop
  | .mk _ _ ks => ks.length ≤ 1048576 ∧ ∀ t ∈ ks, t.sm

theorem fsm_kids {k n : Int} {ks : List F} (h : (F.mk k n ks).sm) : ks.length ≤ 1048576 ∧ ∀ t ∈ ks, t.sm := by
  unfold F.sm at h; exact h

theorem fsz_sm (t : F) : ∀ left, 0 ≤ left → left ≤ 1048576 → 0 ≤ t.sz left → t.sm := by
  induction t using F.ind with
  | _ k n ks ih =>
    intro left h0 h1 h
    have key : ∀ (ks : List F), (∀ t ∈ ks, ∀ left, 0 ≤ left → left ≤ 1048576 → 0 ≤ t.sz left → t.sm) → ∀ left, 0 ≤ left → left ≤ 1048576 → 0 ≤ fszs ks left → ∀ t ∈ ks, t.sm := by
      intro ks
      induction ks with
      | nil => intro _ left _ _ _ t ht; cases ht
      | cons t r ihr =>
        intro hh left hl hl1 hp x hx
        have hr := fsz_range t left hl
        simp only [fszs] at hp
        split at hp
        · omega
        · rcases List.mem_cons.1 hx with rfl | hx
          · exact hh x (List.mem_cons_self ..) left hl hl1 (by omega)
          · exact ihr (fun t ht => hh t (List.mem_cons_of_mem _ ht)) (t.sz left) (by omega) (by omega) hp x hx
    simp only [F.sz] at h
    split at h
    · omega
    · unfold F.sm
      exact ⟨by omega, key ks ih _ (by omega) (by omega) h⟩

/-! A copy: new memory, named in the order in which it is made. -/
mutual
def flab : F → Nat → LF × Nat
  | .mk k n ks, tk => (.mk k n (flabs ks tk).2 false (flabs ks tk).1, (flabs ks tk).2 + 1)
def flabs : List F → Nat → List LF × Nat
  | [], tk => ([], tk)
  | t :: r, tk => ((flab t tk).1 :: (flabs r (flab t tk).2).1, (flabs r (flab t tk).2).2)
end

theorem flabs_length : ∀ (ks : List F) (tk : Nat), (flabs ks tk).1.length = ks.length
  | [], tk => by simp [flabs]
  | t :: r, tk => by simp [flabs, flabs_length r]
theorem flabs_snoc : ∀ (ks : List F) (t : F) (tk : Nat), flabs (ks ++ [t]) tk = ((flabs ks tk).1 ++ [(flab t (flabs ks tk).2).1], (flab t (flabs ks tk).2).2)
  | [], t, tk => by simp [flabs]
  | t' :: r, t, tk => by
    simp only [List.cons_append, flabs, flabs_snoc r t]
theorem flab_er (t : F) : ∀ tk, (flab t tk).1.er = t := by
  induction t using F.ind with
  | _ k n ks ih =>
    intro tk
    have key : ∀ (ks : List F), (∀ t ∈ ks, ∀ tk, (flab t tk).1.er = t) → ∀ tk, fers (flabs ks tk).1 = ks := by
      intro ks
      induction ks with
      | nil => intro _ tk; simp [flabs, fers]
      | cons t r ihr =>
        intro hh tk
        simp only [flabs, fers, hh t (List.mem_cons_self ..), ihr (fun t ht => hh t (List.mem_cons_of_mem _ ht))]
    simp only [flab, LF.er, key ks ih]
theorem flabs_er (ks : List F) (tk : Nat) : fers (flabs ks tk).1 = ks := by
  induction ks generalizing tk with
  | nil => simp [flabs, fers]
  | cons t r ih => simp only [flabs, fers, flab_er, ih]

theorem fcells_length (t : LF) : t.cells.length = 3 := by cases t; rfl
theorem fcells_force (t : LF) : ∀ v ∈ t.cells, force v = some v := by
  cases t
  intro v hv
  simp only [LF.cells, List.mem_cons, List.not_mem_nil, or_false] at hv
  rcases hv with rfl | rfl | rfl <;> rfl
theorem fcells_cl (t : LF) : t.cells.all cl = true := by cases t; rfl
theorem fcells_d1 (t : LF) : alld1 t.cells = true := by cases t; rfl
theorem fcellss_append (a b : List LF) : fcellss (a ++ b) = fcellss a ++ fcellss b := by simp [fcellss_map]

/-! How many nodes. -/
mutual
def F.size : F → Nat
  | .mk _ _ ks => 1 + fsizes ks
def fsizes : List F → Nat
  | [] => 0
  | t :: r => t.size + fsizes r
end
theorem fsizes_append : ∀ a b : List F, fsizes (a ++ b) = fsizes a + fsizes b
  | [], b => by simp [fsizes]
  | t :: r, b => by simp [fsizes, fsizes_append r b]; omega
theorem fsizes_take {ks : List F} {i : Nat} {t : F} (h : ks[i]? = some t) : fsizes (ks.take (i + 1)) = fsizes (ks.take i) + t.size := by
  rw [List.take_add_one, h, fsizes_append]; simp [fsizes]
theorem fsizes_take_le (ks : List F) (i : Nat) : fsizes (ks.take i) ≤ fsizes ks := by
  have := congrArg fsizes (List.take_append_drop i ks)
  rw [fsizes_append] at this
  omega
theorem fsizes_mem {ks : List F} {t : F} (h : t ∈ ks) : t.size ≤ fsizes ks := by
  induction ks with
  | nil => cases h
  | cons x r ih =>
    simp only [fsizes]
    rcases List.mem_cons.1 h with rfl | h
    · omega
    · have := ih h; omega
theorem fsize_pos (t : F) : 0 < t.size := by cases t; simp [F.size]; omega
theorem flength_sizes : ∀ ks : List F, ks.length ≤ fsizes ks
  | [] => by simp
  | t :: r => by have := fsize_pos t; have := flength_sizes r; simp [fsizes]; omega

theorem fsz_size (t : F) : ∀ left, 0 ≤ left → 0 ≤ t.sz left → (t.size : Int) ≤ left - t.sz left + 1 := by
  induction t using F.ind with
  | _ k n ks ih =>
    intro left h0 h
    have key : ∀ (ks : List F), (∀ t ∈ ks, ∀ left, 0 ≤ left → 0 ≤ t.sz left → (t.size : Int) ≤ left - t.sz left + 1) → ∀ left, 0 ≤ left → 0 ≤ fszs ks left → (fsizes ks : Int) ≤ left - fszs ks left + ks.length := by
      intro ks
      induction ks with
      | nil => intro _ left _ _; simp [fszs, fsizes]
      | cons t r ihr =>
        intro hh left hl hp
        have hr := fsz_range t left hl
        simp only [fszs] at hp ⊢
        split at hp
        · omega
        · rename_i hn
          rw [if_neg hn]
          have h1 := hh t (List.mem_cons_self ..) left hl (by omega)
          have h2 := ihr (fun t ht => hh t (List.mem_cons_of_mem _ ht)) (t.sz left) (by omega) hp
          simp only [fsizes, List.length_cons]
          omega
    simp only [F.sz] at h ⊢
    split at h
    · omega
    · rename_i h1
      rw [if_neg h1]
      have := key ks ih _ (by omega) h
      simp only [F.size]
      omega

theorem fer_size_kids (k n : Int) (tok : Nat) (f : Bool) (ks : List LF) : (LF.mk k n tok f ks).er.size = 1 + fsizes (fers ks) := by simp [LF.er, F.size]

end Go.Am
