/- Plain laws: trees: sizes, counts; runs of the looker. -/
import Derived.Test.YtaedacibojpfkaaDoorPnName
import Derived.Test.YtaedacibojpfkaaDoorDlTree
import Derived.Test.YtaedacibojpfkaaDoorDkB
namespace Go.Am
open Go

mutual
def T.cnt : T → Int → Int
  | .mk _ _ _ ks, left => tcnts ks (left - 1)
def tcnts : List T → Int → Int
  | [], left => left
  | t :: r, left => if left ≥ 0 then tcnts r (t.cnt left) else left
end
/-- A run of the looker: what it says, and what is left. -/
def LK (f : Int × Bool → Option (Bool × (Int × Bool))) (s : Nat) (o : Bool) : Prop := ∀ left : Int, 0 ≤ left → left ≤ 150 →
  ∃ l' : Int, f (left, false) = some ((decide ((s : Int) ≤ left) && o), (l', false)) ∧ -1 ≤ l' ∧ l' ≤ 150 ∧ ((s : Int) ≤ left → o = true → l' = left - s)
theorem LK.congr {f g : Int × Bool → Option (Bool × (Int × Bool))} {s s' : Nat} {o o' : Bool} (h : ∀ z, f z = g z) (hs : s = s') (ho : o = o') (k : LK g s' o') : LK f s o := by
  subst hs ho
  intro left h0 h1
  rw [h]
  exact k left h0 h1
theorem LK.no {f : Int × Bool → Option (Bool × (Int × Bool))} {s : Nat} {o : Bool} (h : ∀ l b, f (l, b) = some (false, (l, b))) (ho : o = false) : LK f s o := by
  subst ho
  exact fun left h0 h1 => ⟨left, by rw [h, Bool.and_false], by omega, h1, fun _ q => by cases q⟩
theorem LK.yes {f : Int × Bool → Option (Bool × (Int × Bool))} {s : Nat} {o : Bool} (h : ∀ l b, f (l, b) = some (true, (l, b))) (hs : s = 0) (ho : o = true) : LK f s o := by
  subst hs ho
  exact fun left h0 h1 => ⟨left, by rw [h, decide_eq_true (by omega)]; rfl, by omega, h1, fun _ _ => by omega⟩
/-- One behind the other. -/
theorem LK.both {f f1 f2 : Int × Bool → Option (Bool × (Int × Bool))} {s1 s2 : Nat} {o1 o2 : Bool} (h1 : LK f1 s1 o1) (h2 : LK f2 s2 o2)
    (hf : ∀ l b l' b', f1 (l, b) = some (false, (l', b')) → f (l, b) = some (false, (l', b')))
    (ht : ∀ l b l' b', f1 (l, b) = some (true, (l', b')) → f (l, b) = f2 (l', b')) : LK f (s1 + s2) (o1 && o2) := by
  intro left h0 hl
  obtain ⟨l1, e1, a1, b1, c1⟩ := h1 left h0 hl
  cases hq : (decide ((s1 : Int) ≤ left) && o1) with
  | false =>
    rw [hq] at e1
    refine ⟨l1, ?_, a1, b1, fun q1 q2 => ?_⟩
    · rw [hf _ _ _ _ e1]
      have : (decide (((s1 + s2 : Nat) : Int) ≤ left) && (o1 && o2)) = false := by
        cases ho : o1 with
        | false => simp
        | true =>
          rw [ho, Bool.and_true] at hq
          have := of_decide_eq_false hq
          rw [decide_eq_false (by push_cast; omega)]; rfl
      rw [this]
    · have ho : o1 = true ∧ o2 = true := by simpa using q2
      rw [ho.1, Bool.and_true] at hq
      have := of_decide_eq_false hq
      push_cast at q1
      omega
  | true =>
    rw [hq] at e1
    have hh : (s1 : Int) ≤ left ∧ o1 = true := by simpa using hq
    have hl1 := c1 hh.1 hh.2
    obtain ⟨l2, e2, a2, b2, c2⟩ := h2 l1 (by omega) b1
    refine ⟨l2, ?_, a2, b2, fun q1 q2 => ?_⟩
    · rw [ht _ _ _ _ e1, e2, hh.2, Bool.true_and]
      congr 3
      exact decide_eq_decide.2 (by push_cast; omega)
    · have ho : o1 = true ∧ o2 = true := by simpa using q2
      push_cast at q1 ⊢
      have := c2 (by omega) ho.2
      omega

def eb (s : ByteArray) : Bool := s.toList == (⟨#[]⟩ : ByteArray).toList

end Go.Am
namespace Go.Am.YtaedacibojpfkaaDoor
open Go Go.Am

def nm (s : ByteArray) : Bool := nameB s.data.toList

theorem nodeLK {f g : Int × Bool → Option (Bool × (Int × Bool))} {s : Nat} {o : Bool} (h : LK g s o)
    (e : ∀ z, f z = (i_looker_node (z.1, z.2)).bind fun r5 => if (!r5.1) = true then some (false, (r5.2.1, r5.2.2)) else g (r5.2.1, r5.2.2)) : LK f (1 + s) o := by
  intro left h0 hl
  have hw : IntKind.i64.wrap (left - 1) = left - 1 := w64_eq (by omega) (by omega)
  have e1 : f (left, false) = if (!(decide (left - 1 ≥ 0))) = true then some (false, (left - 1, false)) else g (left - 1, false) := by
    rw [e]
    unfold i_looker_node
    rw [bind_some', hw]
  rw [e1]
  by_cases h1 : left - 1 ≥ 0
  · rw [decide_eq_true h1, if_neg (by decide)]
    obtain ⟨l', e2, a, b, c⟩ := h (left - 1) h1 (by omega)
    refine ⟨l', ?_, a, b, fun q1 q2 => ?_⟩
    · rw [e2]
      congr 3
      exact decide_eq_decide.2 (by push_cast; omega)
    · push_cast at q1 ⊢
      have := c (by omega) q2
      omega
  · rw [decide_eq_false h1, if_pos (by decide)]
    refine ⟨left - 1, ?_, by omega, by omega, fun q1 => ?_⟩
    · rw [decide_eq_false (by push_cast; omega)]; rfl
    · push_cast at q1; omega

theorem implN_eq (s : ByteArray) (h : s.size ≤ 1048576) : i_NameOK s = some (nm s) := by
  obtain ⟨⟨l⟩⟩ := s
  exact implName_eq l h

/-! Sizes, copies, sameness. -/
/-! The count. -/
end Go.Am.YtaedacibojpfkaaDoor
