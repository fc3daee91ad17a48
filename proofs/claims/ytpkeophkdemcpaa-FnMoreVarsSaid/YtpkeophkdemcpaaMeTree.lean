/- Printed by a program of ours: Lean functions that do what the Go functions do, and the contracts. -/
import Derived.Test.YtpkeophkdemcpaaMi1
import Derived.Test.YtpkeophkdemcpaaTypes
namespace Go.Am.Ytpkeophkdemcpaa
open Go Go.Am

def w_eqTreeS_L1 (rec_w_eqTree : T → T → Option Bool) (l1 : List T) (l2 : List T) : Nat → Int → Option Bool
 | 0, _ => none
 | m + 1, i4 =>
  if i4 < ((l1).length : Int) then
   (idx l1 i4).bind fun y6 =>
   (idx l2 i4).bind fun y11 =>
   (rec_w_eqTree y6 y11).bind fun r16 =>
   if (!r16) = true then
    some false
   else
    w_eqTreeS_L1 rec_w_eqTree l1 l2 m (IntKind.i64.wrap (i4 + 1))
  else
   some true

mutual

def w_eqTree : Nat → T → T → Option Bool
 | 0, _, _ => none
 | n + 1, x1, x2 =>
  if (x1.kind != x2.kind) = true then
   some false
  else
   if (x1.n != x2.n) = true then
    some false
   else
    if (!(x1.name.toList == x2.name.toList)) = true then
     some false
    else
     (w_eqTreeS n x1.kids x2.kids).bind fun r6 =>
     if (!r6) = true then
      some false
     else
      some true

def w_eqTreeS : Nat → List T → List T → Option Bool
 | 0, _, _ => none
 | n + 1, l1, l2 =>
  if (((l1).length : Int) != ((l2).length : Int)) = true then
   some false
  else
   w_eqTreeS_L1 (w_eqTree n) l1 l2 n 0

end

end Go.Am.Ytpkeophkdemcpaa
