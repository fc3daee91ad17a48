/- Printed by a program of ours: Lean functions that do what the Go functions do, and the contracts. -/
import Derived.Test.YtpkeophkdemcpaaTypes
import Derived.Test.YtpkeophkdemcpaaMi4
import Derived.Test.YtpkeophkdemcpaaMc1
import Derived.Test.YtpkeophkdemcpaaMb3
import Derived.Test.YtpkeophkdemcpaaMxA
-- packed
namespace Go.Am.Ytpkeophkdemcpaa
open Go Go.Am

def s_l01Count_L1 (rec_s_l01Count : T → Int → Option Int) (x1 : T) : Nat → Int → Int → Option Int
 | 0, _, _ => none
 | m + 1, i3, i4 =>
  if i4 < ((x1.kids).length : Int) then
   if i3 ≥ 0 then
    (idx x1.kids i4).bind fun y7 =>
    (rec_s_l01Count y7 i3).bind fun r12 =>
    s_l01Count_L1 rec_s_l01Count x1 m r12 (IntKind.i64.wrap (i4 + 1))
   else
    some i3
  else
   some i3

def s_l01Count : Nat → T → Int → Option Int
 | 0, _, _ => none
 | n + 1, x1, i2 =>
  s_l01Count_L1 (s_l01Count n) x1 n (IntKind.i64.wrap (i2 - 1)) 0

def s_l01Small (n : Nat) (x1 : T) : Option Bool :=
 (s_l01Count n x1 150).bind fun r2 =>
 some (decide (r2 ≥ 0))

def s_l01High_L1 (rec_s_l01High : T → Option Bool) (x1 : T) : Nat → Int → Option Bool
 | 0, _ => none
 | m + 1, i5 =>
  if i5 < ((x1.kids).length : Int) then
   (idx x1.kids i5).bind fun y7 =>
   (rec_s_l01High y7).bind fun r12 =>
   if r12 = true then
    some true
   else
    s_l01High_L1 rec_s_l01High x1 m (IntKind.i64.wrap (i5 + 1))
  else
   some false

def s_l01High : Nat → T → Option Bool
 | 0, _ => none
 | n + 1, x1 =>
  jn (
   s_l01High_L1 (s_l01High n) x1 n 0) fun j2 =>
  if x1.kind = 5 then
   if x1.n > 100 then
    some true
   else
    j2
  else
   j2

def s_l03Big (n : Nat) (x1 : T) : Option Bool :=
 (s_l01Small n x1).bind fun r2 =>
 if (!r2) = true then
  some true
 else
  (s_l01High n x1).bind fun r10 =>
  some r10

end Go.Am.Ytpkeophkdemcpaa
