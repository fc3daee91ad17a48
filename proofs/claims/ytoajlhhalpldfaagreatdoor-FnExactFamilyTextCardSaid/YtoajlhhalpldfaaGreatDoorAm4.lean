/- The abstract memory logic and its tools: several texts in one. -/
import Derived.ProofKit
import Derived.Test.YtoajlhhalpldfaaGreatDoorAm3

/- Trees as the abstract memory logic sees them: labelled (which memory the kids lie in), and bare. -/
namespace Go.Am
open Go

inductive T where
 | mk (kind n : Int) (name : ByteArray) (kids : List T)

inductive LT where
 | mk (kind n : Int) (name : ByteArray) (tok : Nat) (full : Bool) (kids : List LT)

mutual
def LT.cells : LT → List AV
 | .mk k n s tok f ks => [.int .i64 k, .int .i64 n, .str s, .imm tok 4 f (cellss ks)]
def cellss : List LT → List (List AV)
 | [] => []
 | t :: r => t.cells :: cellss r
end

mutual
def LT.er : LT → T
 | .mk k n s _ _ ks => .mk k n s (ers ks)
def ers : List LT → List T
 | [] => []
 | t :: r => t.er :: ers r
end

theorem cellss_map : ∀ ks : List LT, cellss ks = ks.map LT.cells
 | [] => by simp [cellss]
 | t :: r => by simp [cellss, cellss_map r]
theorem ers_map : ∀ ks : List LT, ers ks = ks.map LT.er
 | [] => by simp [ers]
 | t :: r => by simp [ers, ers_map r]
theorem cellss_length (ks : List LT) : (cellss ks).length = ks.length := by simp [cellss_map]
theorem cellss_get {ks : List LT} {i : Nat} {t : LT} (h : ks[i]? = some t) : (cellss ks)[i]? = some t.cells := by simp [cellss_map, h]

theorem LT.ind {p : LT → Prop} (h : ∀ k n s tok f ks, (∀ t ∈ ks, p t) → p (.mk k n s tok f ks)) : ∀ t, p t
 | .mk k n s tok f ks => h k n s tok f ks fun t _ => LT.ind h t
theorem T.ind {p : T → Prop} (h : ∀ k n s ks, (∀ t ∈ ks, p t) → p (.mk k n s ks)) : ∀ t, p t
 | .mk k n s ks => h k n s ks fun t _ => T.ind h t

def T.ok : T → Prop
 | .mk k n s ks => (-9223372036854775808 ≤ k ∧ k ≤ 9223372036854775807) ∧ (-9223372036854775808 ≤ n ∧ n ≤ 9223372036854775807) ∧ s.size ≤ 9223372036854775807 ∧ ks.length ≤ 9223372036854775807 ∧ ∀ t ∈ ks, t.ok

mutual
def T.sz : T → Int → Int
 | .mk _ _ s ks, left => if left - s.size < 0 then -1 else if left - s.size - ks.length < 0 then -1 else szs ks (left - s.size - ks.length)
def szs : List T → Int → Int
 | [], left => left
 | t :: r, left => if t.sz left < 0 then -1 else szs r (t.sz left)
end

theorem sz_range : (∀ t : T, ∀ left, 0 ≤ left → -1 ≤ t.sz left ∧ t.sz left ≤ left) := by
 intro t
 induction t using T.ind with
 | _ k n s ks ih =>
  intro left h
  have key : ∀ (ks : List T), (∀ t ∈ ks, ∀ left, 0 ≤ left → -1 ≤ t.sz left ∧ t.sz left ≤ left) → ∀ left, 0 ≤ left → -1 ≤ szs ks left ∧ szs ks left ≤ left := by
   intro ks
   induction ks with
   | nil => intro _ left h; simp [szs]; omega
   | cons t r ihr =>
    intro hh left hl
    have h1 := hh t (List.mem_cons_self ..) left hl
    simp only [szs]
    split
    ·omega
    have := ihr (fun t ht => hh t (List.mem_cons_of_mem _ ht)) (t.sz left) (by omega)
    omega
  simp only [T.sz]
  split
  ·omega
  split
  ·omega
  have := key ks ih (left - s.size - ks.length) (by omega)
  omega

def szS (ks : List T) (left : Int) : Int := if left - ks.length < 0 then -1 else szs ks (left - ks.length)

theorem szs_range : ∀ (ks : List T) (left : Int), 0 ≤ left → -1 ≤ szs ks left ∧ szs ks left ≤ left
 | [], left, h => by simp [szs]; omega
 | t :: r, left, h => by
  have h1 := sz_range t left h
  simp only [szs]
  split
  ·omega
  have := szs_range r (t.sz left) (by omega)
  omega
theorem szS_range (ks : List T) (left : Int) (h : 0 ≤ left) : -1 ≤ szS ks left ∧ szS ks left ≤ left := by
 unfold szS
 split
 ·omega
 have := szs_range ks (left - ks.length) (by omega)
 omega
theorem sz_eq (k n : Int) (s : ByteArray) (ks : List T) (left : Int) : (T.mk k n s ks).sz left = if left - s.size < 0 then -1 else szS ks (left - s.size) := by
 simp only [T.sz, szS]

theorem ers_length (ks : List LT) : (ers ks).length = ks.length := by simp [ers_map]
theorem ok_kids {k n : Int} {s : ByteArray} {ks : List T} (h : (T.mk k n s ks).ok) : (-9223372036854775808 ≤ k ∧ k ≤ 9223372036854775807) ∧ (-9223372036854775808 ≤ n ∧ n ≤ 9223372036854775807) ∧ s.size ≤ 9223372036854775807 ∧ ks.length ≤ 9223372036854775807 ∧ ∀ t ∈ ks, t.ok := by
 unfold T.ok at h; exact h
def T.sm : T → Prop
 | .mk _ _ s ks => s.size ≤ 1048576 ∧ ks.length ≤ 1048576 ∧ ∀ t ∈ ks, t.sm

theorem sm_kids {k n : Int} {s : ByteArray} {ks : List T} (h : (T.mk k n s ks).sm) : s.size ≤ 1048576 ∧ ks.length ≤ 1048576 ∧ ∀ t ∈ ks, t.sm := by
 unfold T.sm at h; exact h

theorem sz_sm (t : T) : ∀ left, 0 ≤ left → left ≤ 1048576 → 0 ≤ t.sz left → t.sm := by
 induction t using T.ind with
 | _ k n s ks ih =>
  intro left h0 h1 h
  have key : ∀ (ks : List T), (∀ t ∈ ks, ∀ left, 0 ≤ left → left ≤ 1048576 → 0 ≤ t.sz left → t.sm) → ∀ left, 0 ≤ left → left ≤ 1048576 → 0 ≤ szs ks left → ∀ t ∈ ks, t.sm := by
   intro ks
   induction ks with
   | nil => intro _ left _ _ _ t ht; cases ht
   | cons t r ihr =>
    intro hh left hl hl1 hp x hx
    have hr := sz_range t left hl
    simp only [szs] at hp
    split at hp
    ·omega
    rcases List.mem_cons.1 hx with rfl | hx
    ·exact hh x (List.mem_cons_self ..) left hl hl1 (by omega)
    exact ihr (fun t ht => hh t (List.mem_cons_of_mem _ ht)) (t.sz left) (by omega) (by omega) hp x hx
  simp only [T.sz] at h
  split at h
  ·omega
  split at h
  ·omega
  unfold T.sm
  exact ⟨by omega, by omega, key ks ih _ (by omega) (by omega) h⟩

mutual
def lab : T → Nat → LT × Nat
 | .mk k n s ks, tk => (.mk k n s (labs ks tk).2 false (labs ks tk).1, (labs ks tk).2 + 1)
def labs : List T → Nat → List LT × Nat
 | [], tk => ([], tk)
 | t :: r, tk => ((lab t tk).1 :: (labs r (lab t tk).2).1, (labs r (lab t tk).2).2)
end

mutual
def T.size : T → Nat
 | .mk _ _ _ ks => 1 + sizes ks
def sizes : List T → Nat
 | [] => 0
 | t :: r => t.size + sizes r
end
theorem sizes_mem {ks : List T} {t : T} (h : t ∈ ks) : t.size ≤ sizes ks := by
 induction ks with
 | nil => cases h
 | cons x r ih =>
  simp only [sizes]
  rcases List.mem_cons.1 h with rfl | h
  ·omega
  have := ih h; omega
theorem size_pos (t : T) : 0 < t.size := by cases t; simp [T.size]; omega
end Go.Am

/- Forms and types (a kind, a number, kids), as Tree says it of trees. -/
namespace Go.Am
open Go

inductive F where
 | mk (kind n : Int) (kids : List F)

inductive LF where
 | mk (kind n : Int) (tok : Nat) (full : Bool) (kids : List LF)

mutual
def LF.cells : LF → List AV
 | .mk k n tok f ks => [.int .i64 k, .int .i64 n, .imm tok 3 f (fcellss ks)]
def fcellss : List LF → List (List AV)
 | [] => []
 | t :: r => t.cells :: fcellss r
end

mutual
def LF.er : LF → F
 | .mk k n _ _ ks => .mk k n (fers ks)
def fers : List LF → List F
 | [] => []
 | t :: r => t.er :: fers r
end

theorem fcellss_map : ∀ ks : List LF, fcellss ks = ks.map LF.cells
 | [] => by simp [fcellss]
 | t :: r => by simp [fcellss, fcellss_map r]
theorem fcellss_length (ks : List LF) : (fcellss ks).length = ks.length := by simp [fcellss_map]
theorem LF.ind {p : LF → Prop} (h : ∀ k n tok f ks, (∀ t ∈ ks, p t) → p (.mk k n tok f ks)) : ∀ t, p t
 | .mk k n tok f ks => h k n tok f ks fun t _ => LF.ind h t
theorem F.ind {p : F → Prop} (h : ∀ k n ks, (∀ t ∈ ks, p t) → p (.mk k n ks)) : ∀ t, p t
 | .mk k n ks => h k n ks fun t _ => F.ind h t

def F.ok : F → Prop
 | .mk k n ks => (-9223372036854775808 ≤ k ∧ k ≤ 9223372036854775807) ∧ (-9223372036854775808 ≤ n ∧ n ≤ 9223372036854775807) ∧ ks.length ≤ 9223372036854775807 ∧ ∀ t ∈ ks, t.ok

mutual
def F.sz : F → Int → Int
 | .mk _ _ ks, left => if left - ks.length < 0 then -1 else fszs ks (left - ks.length)
def fszs : List F → Int → Int
 | [], left => left
 | t :: r, left => if t.sz left < 0 then -1 else fszs r (t.sz left)
end

def fszS (ks : List F) (left : Int) : Int := if left - ks.length < 0 then -1 else fszs ks (left - ks.length)

def F.sm : F → Prop
 | .mk _ _ ks => ks.length ≤ 1048576 ∧ ∀ t ∈ ks, t.sm

mutual
def flab : F → Nat → LF × Nat
 | .mk k n ks, tk => (.mk k n (flabs ks tk).2 false (flabs ks tk).1, (flabs ks tk).2 + 1)
def flabs : List F → Nat → List LF × Nat
 | [], tk => ([], tk)
 | t :: r, tk => ((flab t tk).1 :: (flabs r (flab t tk).2).1, (flabs r (flab t tk).2).2)
end

mutual
def F.size : F → Nat
 | .mk _ _ ks => 1 + fsizes ks
def fsizes : List F → Nat
 | [] => 0
 | t :: r => t.size + fsizes r
end
end Go.Am

/- How an argument of a law is read: a tree in old memory. -/
namespace Go.Am
open Go

def start (w : World) : Sit := ⟨w, fun _ => 0, fun _ => none, fun _ => 0, 2, w.heap.size, fun _ => none, fun _ => false⟩

theorem start_sim (w : World) : SimH (start w) :=
 ⟨fun x o h => (by cases h), fun x y h => (by cases h), fun x h => (by cases h), fun t h1 h2 => (by have : t < 2 := h2; omega), fun t t' h1 h2 => (by have : t < 2 := h2; omega), Nat.le_refl _, fun x z h => (by cases h), Nat.le_refl _⟩
theorem start_con {w : World} {b : Nat} (h : b < w.heap.size) : (start w).con b := ⟨h, fun ⟨x, hx, _⟩ => by cases hx⟩

theorem start_below {w : World} {S' : Sit} (h : Ext (start w) S') : RowKit.Below w.heap.size w S'.w :=
 ⟨h.os, h.tape, h.output, h.size, fun k hk => (h.con k (start_con hk)).2⟩

instance : Inhabited LT := ⟨.mk 0 0 ⟨#[]⟩ 0 false []⟩

theorem wf_range {n : Int} (h : (Lit.int .i64 n).wf = true) : -9223372036854775808 ≤ n ∧ n ≤ 9223372036854775807 := by
 simp [Lit.wf, IntKind.min, IntKind.max, IntKind.signed, IntKind.bits] at h
 omega

theorem spot_of_cell {w : World} {a : Addr} {v : Value} (h : w.cell? a = some v) : a.spot = none := by
 unfold World.cell? at h
 split at h
 ·split at h
  ·cases h
  rename_i hs; simpa using hs
 cases h

section
open Go.ChangeShapes
variable {H : Type} {enc : TypeId × Value → H} {P : Program} {w : World} {sp : Nat → Bool} {held : Bool}

end

end Go.Am

/- Right types and forms: what both sides reckon. -/
namespace Go.Am
open Go

mutual
def F.cnt : F → Int → Int
 | .mk _ _ ks, left => fcnts ks (left - 1)
def fcnts : List F → Int → Int
 | [], left => left
 | t :: r, left => if left ≥ 0 then fcnts r (t.cnt left) else left
end

mutual
def F.tyok : F → Bool
 | .mk k n ks => if k = 1 then (decide (0 ≤ n) && (decide (n ≤ 5) && decide (ks.length = 0))) else if k = 2 then (decide (n = 0) && (decide (ks.length = 2) && ftyoks ks)) else false
def ftyoks : List F → Bool
 | [] => true
 | t :: r => t.tyok && ftyoks r
end

mutual
def F.fmok : F → Bool
 | .mk k n ks => if k = 1 then (decide (0 ≤ n) && (decide (n ≤ 5) && decide (ks.length = 0))) else if k = 2 ∨ k = 3 then (decide (n = 0) && (decide (ks.length = 2) && ffmoks ks)) else if k = 4 then (decide (n = 0) && decide (ks.length = 0)) else false
def ffmoks : List F → Bool
 | [] => true
 | t :: r => t.fmok && ffmoks r
end

end Go.Am
