/- Plain laws: source terms: arguments may be left out. -/
import Derived.Test.YtoajlhhalpldfaaGreatDoorPsTerm
namespace Go.Am
open Go
mutual
def T.tso : T → Bool
 | .mk k n s ks => if k = 4 then decide (n = 0) && (eb s && (decide (ks.length = 1) && tso1 ks)) else if k = 5 ∨ k = 7 then decide (0 ≤ n) && (decide (n ≤ 100) && (eb s && tsos ks)) else if k = 6 then decide (n = 0) && (YtoajlhhalpldfaaGreatDoor.nm s && tsos ks) else false
def tso1 : List T → Bool
 | [] => true
 | t :: _ => t.tso
def tsos : List T → Bool
 | [] => true
 | t :: r => (if t.kind = 8 then decide (t.n = 0) && (eb t.name && decide (t.kids.length = 0)) else t.tso) && tsos r
end
def T.srcB (t : T) : Bool := if t.kind = 8 then decide (t.n = 0) && (eb t.name && decide (t.kids.length = 0)) else t.tso
def LQ (f : Int × Bool → Option (Bool × (Int × Bool))) (s : Nat) (o : Bool) : Prop := ∀ left : Int, 0 ≤ left → left ≤ 150 →
 ∃ l' : Int, f (left, true) = some ((decide ((s : Int) ≤ left) && o), (l', true)) ∧ -1 ≤ l' ∧ l' ≤ 150 ∧ ((s : Int) ≤ left → o = true → l' = left - s)
theorem LQ.congr {f g : Int × Bool → Option (Bool × (Int × Bool))} {s s' : Nat} {o o' : Bool} (h : ∀ z, f z = g z) (hs : s = s') (ho : o = o') (k : LQ g s' o') : LQ f s o := by
 subst hs ho
 intro left h0 h1
 rw [h]
 exact k left h0 h1
theorem LQ.no {f : Int × Bool → Option (Bool × (Int × Bool))} {s : Nat} {o : Bool} (h : ∀ l b, f (l, b) = some (false, (l, b))) (ho : o = false) : LQ f s o := by
 subst ho
 exact fun left h0 h1 => ⟨left, by rw [h, Bool.and_false], by omega, h1, fun _ q => by cases q⟩
theorem LQ.yes {f : Int × Bool → Option (Bool × (Int × Bool))} {s : Nat} {o : Bool} (h : ∀ l b, f (l, b) = some (true, (l, b))) (hs : s = 0) (ho : o = true) : LQ f s o := by
 subst hs ho
 exact fun left h0 h1 => ⟨left, by rw [h, decide_eq_true (by omega)]; rfl, by omega, h1, fun _ _ => by omega⟩
theorem LQ.congrF {f g : Int × Bool → Option (Bool × (Int × Bool))} {s : Nat} {o : Bool} (h : ∀ l, f (l, true) = g (l, true)) (k : LQ g s o) : LQ f s o := by
 intro left h0 h1
 rw [h]
 exact k left h0 h1
theorem LQ.noF {f : Int × Bool → Option (Bool × (Int × Bool))} {s : Nat} {o : Bool} (h : ∀ l, f (l, true) = some (false, (l, true))) (ho : o = false) : LQ f s o := by
 subst ho
 exact fun left h0 h1 => ⟨left, by rw [h, Bool.and_false], by omega, h1, fun _ q => by cases q⟩
theorem LQ.bothF {f f1 f2 : Int × Bool → Option (Bool × (Int × Bool))} {s1 s2 : Nat} {o1 o2 : Bool} (h1 : LQ f1 s1 o1) (h2 : LQ f2 s2 o2)
  (hf : ∀ l l', f1 (l, true) = some (false, (l', true)) → f (l, true) = some (false, (l', true)))
  (ht : ∀ l l', f1 (l, true) = some (true, (l', true)) → f (l, true) = f2 (l', true)) : LQ f (s1 + s2) (o1 && o2) := by
 intro left h0 hl
 obtain ⟨l1, e1, a1, b1, c1⟩ := h1 left h0 hl
 cases hq : (decide ((s1 : Int) ≤ left) && o1) with
 | false =>
  rw [hq] at e1
  refine ⟨l1, ?_, a1, b1, fun q1 q2 => ?_⟩
  ·rw [hf _ _ e1]
   have : (decide (((s1 + s2 : Nat) : Int) ≤ left) && (o1 && o2)) = false := by
    cases ho : o1 with
    | false => simp
    | true =>
     rw [ho, Bool.and_true] at hq
     have := of_decide_eq_false hq
     rw [decide_eq_false (by push_cast; omega)]; rfl
   rw [this]
  have ho : o1 = true ∧ o2 = true := by simpa using q2
  rw [ho.1, Bool.and_true] at hq
  have := of_decide_eq_false hq
  push_cast at q1
  omega
 | true =>
  rw [hq] at e1
  have hh : (s1 : Int) ≤ left ∧ o1 = true := by simpa using hq
  have hl1 := c1 hh.1 hh.2
  obtain ⟨l2, e2, a2, b2, c2⟩ := h2 l1 (by omega) b1
  refine ⟨l2, ?_, a2, b2, fun q1 q2 => ?_⟩
  ·rw [ht _ _ e1, e2, hh.2, Bool.true_and]
   congr 3
   exact decide_eq_decide.2 (by push_cast; omega)
  have ho : o1 = true ∧ o2 = true := by simpa using q2
  push_cast at q1 ⊢
  have := c2 (by omega) ho.2
  omega

end Go.Am
namespace Go.Am.YtoajlhhalpldfaaGreatDoor
open Go Go.Am

end Go.Am.YtoajlhhalpldfaaGreatDoor
