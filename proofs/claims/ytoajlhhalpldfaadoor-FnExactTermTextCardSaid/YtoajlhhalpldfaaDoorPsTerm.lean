/- Plain laws: terms. -/
import Derived.Test.YtoajlhhalpldfaaDoorPtA
import Derived.Test.YtoajlhhalpldfaaDoorDkTerm
namespace Go.Am
open Go
mutual
def T.tmok : T → Bool
 | .mk k n s ks => if k = 4 then decide (n = 0) && (eb s && (decide (ks.length = 1) && tmoks ks)) else if k = 5 ∨ k = 7 then decide (0 ≤ n) && (decide (n ≤ 100) && (eb s && tmoks ks)) else if k = 6 then decide (n = 0) && (YtoajlhhalpldfaaDoor.nm s && tmoks ks) else false
def tmoks : List T → Bool
 | [] => true
 | t :: r => t.tmok && tmoks r
end

theorem LK.congrF {f g : Int × Bool → Option (Bool × (Int × Bool))} {s : Nat} {o : Bool} (h : ∀ l, f (l, false) = g (l, false)) (k : LK g s o) : LK f s o := by
 intro left h0 h1
 rw [h]
 exact k left h0 h1
theorem LK.noF {f : Int × Bool → Option (Bool × (Int × Bool))} {s : Nat} {o : Bool} (h : ∀ l, f (l, false) = some (false, (l, false))) (ho : o = false) : LK f s o := by
 subst ho
 exact fun left h0 h1 => ⟨left, by rw [h, Bool.and_false], by omega, h1, fun _ q => by cases q⟩
theorem LK.bothF {f f1 f2 : Int × Bool → Option (Bool × (Int × Bool))} {s1 s2 : Nat} {o1 o2 : Bool} (h1 : LK f1 s1 o1) (h2 : LK f2 s2 o2)
  (hf : ∀ l l', f1 (l, false) = some (false, (l', false)) → f (l, false) = some (false, (l', false)))
  (ht : ∀ l l', f1 (l, false) = some (true, (l', false)) → f (l, false) = f2 (l', false)) : LK f (s1 + s2) (o1 && o2) := by
 intro left h0 hl
 obtain ⟨l1, e1, a1, b1, c1⟩ := h1 left h0 hl
 cases hq : (decide ((s1 : Int) ≤ left) && o1) with
 | false =>
  rw [hq] at e1
  refine ⟨l1, ?_, a1, b1, fun q1 q2 => ?_⟩
  ·rw [hf _ _ e1]
   have : (decide (((s1 + s2 : Nat) : Int) ≤ left) && (o1 && o2)) = false := by
    cases ho : o1 with
    | false => simp
    | true =>
     rw [ho, Bool.and_true] at hq
     have := of_decide_eq_false hq
     rw [decide_eq_false (by push_cast; omega)]; rfl
   rw [this]
  have ho : o1 = true ∧ o2 = true := by simpa using q2
  rw [ho.1, Bool.and_true] at hq
  have := of_decide_eq_false hq
  push_cast at q1
  omega
 | true =>
  rw [hq] at e1
  have hh : (s1 : Int) ≤ left ∧ o1 = true := by simpa using hq
  have hl1 := c1 hh.1 hh.2
  obtain ⟨l2, e2, a2, b2, c2⟩ := h2 l1 (by omega) b1
  refine ⟨l2, ?_, a2, b2, fun q1 q2 => ?_⟩
  ·rw [ht _ _ e1, e2, hh.2, Bool.true_and]
   congr 3
   exact decide_eq_decide.2 (by push_cast; omega)
  have ho : o1 = true ∧ o2 = true := by simpa using q2
  push_cast at q1 ⊢
  have := c2 (by omega) ho.2
  omega
theorem ret_eta (x : Option (Bool × (Int × Bool))) : (x.bind fun r => some (r.1, (r.2.1, r.2.2))) = x := by cases x <;> rfl
theorem len_beq (ks : List T) (i : Nat) : ((ks.length : Int) == (i : Int)) = decide (ks.length = i) := by
 by_cases q : ks.length = i
 ·rw [decide_eq_true q, q]; exact beq_self_eq_true _
 rw [decide_eq_false q]; exact beq_eq_false_iff_ne.2 (by omega)

end Go.Am
namespace Go.Am.YtoajlhhalpldfaaDoor
open Go Go.Am

theorem bare_eq (k n : Int) (s : ByteArray) (ks : List T) (i : Int) : i_Tree_bare__c (T.mk k n s ks) i = some (decide (n = 0) && (eb s && ((ks.length : Int) == i))) := by
 have e0 : i_Tree_bare__c (T.mk k n s ks) i = if n = 0 then (if eb s = true then some ((ks.length : Int) == i) else some false) else some false := by unfold i_Tree_bare__c; rfl
 rw [e0]
 by_cases h : n = 0
 ·rw [if_pos h, decide_eq_true h]
  cases eb s <;> rfl
 rw [if_neg h, decide_eq_false h]; rfl
theorem in_eq (n : Int) : i_in n 0 100 = some (decide (0 ≤ n) && decide (n ≤ 100)) := by
 unfold i_in
 by_cases q1 : n ≥ 0
 ·rw [if_pos q1, decide_eq_true (show 0 ≤ n from q1)]; rfl
 rw [if_neg q1, decide_eq_false (show ¬ 0 ≤ n from q1)]; rfl

end Go.Am.YtoajlhhalpldfaaDoor
