/- Right types and forms: what both sides reckon. -/
import Derived.Test.YtklchmkanhpeeaaFTree
namespace Go.Am
open Go

/-! How many nodes may yet come, behind a type (stops below 0). -/
mutual
def F.cnt : F → Int → Int
  | .mk _ _ ks, left => fcnts ks (left - 1)
def fcnts : List F → Int → Int
  | [], left => left
  | t :: r, left => if left ≥ 0 then fcnts r (t.cnt left) else left
end

mutual
def F.tyok : F → Bool
  | .mk k n ks => if k = 1 then (decide (0 ≤ n) && (decide (n ≤ 5) && decide (ks.length = 0))) else if k = 2 then (decide (n = 0) && (decide (ks.length = 2) && ftyoks ks)) else false
def ftyoks : List F → Bool
  | [] => true
  | t :: r => t.tyok && ftyoks r
end

mutual
def F.fmok : F → Bool
  | .mk k n ks => if k = 1 then (decide (0 ≤ n) && (decide (n ≤ 5) && decide (ks.length = 0))) else if k = 2 ∨ k = 3 then (decide (n = 0) && (decide (ks.length = 2) && ffmoks ks)) else if k = 4 then (decide (n = 0) && decide (ks.length = 0)) else false
def ffmoks : List F → Bool
  | [] => true
  | t :: r => t.fmok && ffmoks r
end

theorem cnt_range (t : F) : ∀ left, 0 ≤ left → -1 ≤ t.cnt left ∧ t.cnt left ≤ left - 1 := by
  induction t using F.ind with
  | _ k n ks ih =>
    intro left h
    have key : ∀ (ks : List F), (∀ t ∈ ks, ∀ left, 0 ≤ left → -1 ≤ t.cnt left ∧ t.cnt left ≤ left - 1) → ∀ left, -1 ≤ left → -1 ≤ fcnts ks left ∧ fcnts ks left ≤ left := by
      intro ks
      induction ks with
      | nil => intro _ left h; simp [fcnts]; omega
      | cons t r ihr =>
        intro hh left hl
        simp only [fcnts]
        split
        · have h1 := hh t (List.mem_cons_self ..) left (by omega)
          have := ihr (fun t ht => hh t (List.mem_cons_of_mem _ ht)) (t.cnt left) (by omega)
          omega
        · omega
    simp only [F.cnt]
    have := key ks ih (left - 1) (by omega)
    omega

/-- It is left less the nodes, where there is room. -/
theorem cnt_eq (t : F) : ∀ left, 0 ≤ left → ((t.size : Int) ≤ left → t.cnt left = left - t.size) ∧ (left < t.size → t.cnt left < 0) := by
  induction t using F.ind with
  | _ k n ks ih =>
    intro left h
    have key : ∀ (ks : List F), (∀ t ∈ ks, ∀ left, 0 ≤ left → ((t.size : Int) ≤ left → t.cnt left = left - t.size) ∧ (left < t.size → t.cnt left < 0)) → ∀ left, -1 ≤ left →
        ((fsizes ks : Int) ≤ left → fcnts ks left = left - fsizes ks) ∧ (left < fsizes ks ∨ left < 0 → fcnts ks left < 0) := by
      intro ks
      induction ks with
      | nil => intro _ left h; simp only [fcnts, fsizes]; omega
      | cons t r ihr =>
        intro hh left hl
        simp only [fcnts, fsizes]
        by_cases h0 : left ≥ 0
        · rw [if_pos h0]
          have hr := cnt_range t left h0
          have h1 := hh t (List.mem_cons_self ..) left h0
          have h2 := ihr (fun t ht => hh t (List.mem_cons_of_mem _ ht)) (t.cnt left) (by omega)
          have hp := fsize_pos t
          by_cases hle : (t.size : Int) ≤ left
          · have h3 := h1.1 hle
            rw [h3] at h2 ⊢
            exact ⟨fun q => by have := h2.1 (by omega); omega, fun q => h2.2 (by omega)⟩
          · have h3 := h1.2 (by omega)
            exact ⟨fun q => by omega, fun _ => h2.2 (.inr h3)⟩
        · rw [if_neg h0]
          exact ⟨fun q => by omega, fun _ => by omega⟩
    have := key ks ih (left - 1) (by omega)
    simp only [F.cnt, F.size]
    exact ⟨fun q => by have := this.1 (by omega); omega, fun q => this.2 (by omega)⟩

end Go.Am
