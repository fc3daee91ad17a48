/- Printed by a program of ours: Lean functions that do what the Go functions do, and the contracts. -/
import Derived.Test.YtaedacibojpfkaaDoorMl0
import Derived.Test.YtaedacibojpfkaaDoorMb1
import Derived.Test.YtaedacibojpfkaaDoorMb3
import Derived.Test.YtaedacibojpfkaaDoorTypes
import Derived.Test.YtaedacibojpfkaaDoorMi4
import Derived.Test.YtaedacibojpfkaaDoorMc1
import Derived.Test.YtaedacibojpfkaaDoorEkLf
-- packed
namespace Go.Am.YtaedacibojpfkaaDoor
open Go Go.Am

def i_cloneAll_L1 (rec_i_clone : T → Option T) (l1 : List T) : Nat → Int → List T → Option (List T)
 | 0, _, _ => none
 | m + 1, i2, l3 =>
  if i2 < ((l1).length : Int) then
   (idx l1 i2).bind fun y5 =>
   (rec_i_clone y5).bind fun r10 =>
   chk ((l3).length + ([r10]).length ≤ 1099511627776) <|
   i_cloneAll_L1 rec_i_clone l1 m (IntKind.i64.wrap (i2 + 1)) (l3 ++ [r10])
  else
   some l3

mutual

def i_clone : Nat → T → Option T
 | 0, _ => none
 | n + 1, x1 =>
  (i_cloneAll n x1.kids).bind fun r2 =>
  some (T.mk x1.kind x1.n x1.name r2)

def i_cloneAll : Nat → List T → Option (List T)
 | 0, _ => none
 | n + 1, l1 =>
  i_cloneAll_L1 (i_clone n) l1 n 0 ([])

end

end Go.Am.YtaedacibojpfkaaDoor
