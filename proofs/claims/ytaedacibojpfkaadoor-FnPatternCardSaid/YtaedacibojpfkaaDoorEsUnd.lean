/- Plain laws: binders around kids. -/
import Derived.Test.YtaedacibojpfkaaDoorPtA
import Derived.Test.YtaedacibojpfkaaDoorEkBig
namespace Go.Am
open Go
/-- How many binders more stand around a kid. -/
def und (k : Int) (i : Nat) : Int := if k = 4 then 1 else if k = 2 then (if i = 1 then 1 else 0) else 0
end Go.Am
namespace Go.Am.YtaedacibojpfkaaDoor
open Go Go.Am

theorem under_c (x : T) (i : Nat) : i_Tree_under__c x (i : Int) = some (und x.kind i) := by
  unfold i_Tree_under__c i_Tree_binds__c und
  by_cases h4 : x.kind = 4
  · rw [if_pos h4, if_pos h4]; rfl
  · rw [if_neg h4, if_neg h4]
    by_cases h2 : x.kind = 2
    · rw [if_pos h2, if_pos h2, bind_some']
      by_cases h1 : i = 1
      · subst h1; rfl
      · rw [if_neg h1, if_neg (show ¬ (((i : Int) == 1) = true) by simp only [beq_iff_eq]; omega)]
    · rw [if_neg h2, if_neg h2]; rfl
end Go.Am.YtaedacibojpfkaaDoor
