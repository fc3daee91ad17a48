/- Printed by a program of ours: Lean functions that do what the Go functions do, and the contracts. -/
import Derived.Test.YtaedacibojpfkaaDoorMi3
import Derived.Test.YtaedacibojpfkaaDoorTypes
import Derived.Test.YtaedacibojpfkaaDoorMeTree
-- packed
namespace Go.Am.YtaedacibojpfkaaDoor
open Go Go.Am

def w_szTreeS_L1 (rec_w_szTree : T → Int → Option Int) (l1 : List T) : Nat → Int → Int → Option Int
 | 0, _, _ => none
 | m + 1, i4, i5 =>
  if i5 < ((l1).length : Int) then
   (idx l1 i5).bind fun y7 =>
   (rec_w_szTree y7 i4).bind fun r12 =>
   if r12 < 0 then
    some (-1)
   else
    w_szTreeS_L1 rec_w_szTree l1 m r12 (IntKind.i64.wrap (i5 + 1))
  else
   some i4

mutual

def w_szTree : Nat → T → Int → Option Int
 | 0, _, _ => none
 | n + 1, x1, i2 =>
  if (IntKind.i64.wrap (i2 - (x1.name.size : Int))) < 0 then
   some (-1)
  else
   (w_szTreeS n x1.kids (IntKind.i64.wrap (i2 - (x1.name.size : Int)))).bind fun r4 =>
   if r4 < 0 then
    some (-1)
   else
    some r4

def w_szTreeS : Nat → List T → Int → Option Int
 | 0, _, _ => none
 | n + 1, l1, i2 =>
  if (IntKind.i64.wrap (i2 - ((l1).length : Int))) < 0 then
   some (-1)
  else
   w_szTreeS_L1 (w_szTree n) l1 n (IntKind.i64.wrap (i2 - ((l1).length : Int))) 0

end

def w_toTreeS_L1 (rec_w_toTree : T → Option T) (l1 : List T) : Nat → Int → List T → Option (List T)
 | 0, _, _ => none
 | m + 1, i3, l4 =>
  if i3 < ((l1).length : Int) then
   (idx l1 i3).bind fun y6 =>
   (rec_w_toTree y6).bind fun r11 =>
   chk (i3 = ((l4).length : Int) ∧ (l4).length < (l1).length) <|
   w_toTreeS_L1 rec_w_toTree l1 m (IntKind.i64.wrap (i3 + 1)) (l4 ++ [r11])
  else
   chk ((l4).length = (l1).length) <|
   some l4

mutual

def w_toTree : Nat → T → Option T
 | 0, _ => none
 | n + 1, x1 =>
  (w_toTreeS n x1.kids).bind fun r2 =>
  some (T.mk x1.kind x1.n x1.name r2)

def w_toTreeS : Nat → List T → Option (List T)
 | 0, _ => none
 | n + 1, l1 =>
  chk ((l1).length ≤ 1099511627776) <|
  w_toTreeS_L1 (w_toTree n) l1 n 0 ([])

end

end Go.Am.YtaedacibojpfkaaDoor
