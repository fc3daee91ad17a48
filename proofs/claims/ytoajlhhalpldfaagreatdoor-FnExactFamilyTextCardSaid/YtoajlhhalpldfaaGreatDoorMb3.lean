/- An empty slice literal, as a value; trees without kids as results; the memory of kids. -/
import Derived.Test.YtoajlhhalpldfaaGreatDoorMb0
namespace Go.Am
open Go Go.RowKit

theorem Fr.tkids {lo hi q : Nat} {ks : List LT} (h : Fr lo hi (tstoks q ks)) : Fr lo hi (ttoks ks) := by
 cases ks with
 | nil => exact .nil _ _
 | cons a r => exact ⟨(List.nodup_cons.1 h.1).2, fun x hx => h.2 x (List.mem_cons_of_mem _ hx)⟩
end Go.Am
