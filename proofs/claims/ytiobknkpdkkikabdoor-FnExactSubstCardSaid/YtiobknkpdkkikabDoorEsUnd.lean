/- Plain laws: binders around kids. -/
import Derived.Test.YtiobknkpdkkikabDoorPtA
import Derived.Test.YtiobknkpdkkikabDoorEkBig
namespace Go.Am
open Go
/-- How many binders more stand around a kid. -/
def und (k : Int) (i : Nat) : Int := if k = 4 then 1 else if k = 2 then (if i = 1 then 1 else 0) else 0
theorem und_range (k : Int) (i : Nat) : 0 ≤ und k i ∧ und k i ≤ 1 := by unfold und; split <;> (try split) <;> (try split) <;> omega
/-- All numbers of nodes are from 0 to 100. -/
def T.n100 : T → Bool
  | .mk _ n _ ks => decide (0 ≤ n) && (decide (n ≤ 100) && ks.attach.all fun ⟨t, _⟩ => t.n100)
theorem n100_eq (k n : Int) (s : ByteArray) (ks : List T) : (T.mk k n s ks).n100 = true ↔ 0 ≤ n ∧ n ≤ 100 ∧ ∀ t ∈ ks, t.n100 = true := by
  rw [T.n100]
  simp only [Bool.and_eq_true, decide_eq_true_eq, List.all_eq_true]
  constructor
  · exact fun ⟨a, b, c⟩ => ⟨a, b, fun t ht => c ⟨t, ht⟩ (List.mem_attach _ _)⟩
  · exact fun ⟨a, b, c⟩ => ⟨a, b, fun t _ => c t.1 t.2⟩
end Go.Am
namespace Go.Am.YtiobknkpdkkikabDoor
open Go Go.Am

theorem under_c (x : T) (i : Nat) : i_Tree_under__c x (i : Int) = some (und x.kind i) := by
  unfold i_Tree_under__c i_Tree_binds__c und
  by_cases h4 : x.kind = 4
  · rw [if_pos h4, if_pos h4]; rfl
  · rw [if_neg h4, if_neg h4]
    by_cases h2 : x.kind = 2
    · rw [if_pos h2, if_pos h2, bind_some']
      by_cases h1 : i = 1
      · subst h1; rfl
      · rw [if_neg h1, if_neg (show ¬ (((i : Int) == 1) = true) by simp only [beq_iff_eq]; omega)]
    · rw [if_neg h2, if_neg h2]; rfl
theorem under_s (x : T) (i : Nat) : s_l01Under x (i : Int) = some (und x.kind i) := under_c x i


end Go.Am.YtiobknkpdkkikabDoor
