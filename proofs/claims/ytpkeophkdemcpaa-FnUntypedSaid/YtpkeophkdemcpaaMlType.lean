/- Printed by a program of ours: Lean functions that do what the Go functions do, and the contracts. -/
import Derived.Test.YtpkeophkdemcpaaMi1
import Derived.Test.YtpkeophkdemcpaaTypes
-- packed
namespace Go.Am.Ytpkeophkdemcpaa
open Go Go.Am

def w_szTypeS_L1 (rec_w_szType : F → Int → Option Int) (l1 : List F) : Nat → Int → Int → Option Int
 | 0, _, _ => none
 | m + 1, i4, i5 =>
  if i5 < ((l1).length : Int) then
   (idx l1 i5).bind fun y7 =>
   (rec_w_szType y7 i4).bind fun r12 =>
   if r12 < 0 then
    some (-1)
   else
    w_szTypeS_L1 rec_w_szType l1 m r12 (IntKind.i64.wrap (i5 + 1))
  else
   some i4

mutual

def w_szTypeS : Nat → List F → Int → Option Int
 | 0, _, _ => none
 | n + 1, l1, i2 =>
  if (IntKind.i64.wrap (i2 - ((l1).length : Int))) < 0 then
   some (-1)
  else
   w_szTypeS_L1 (w_szType n) l1 n (IntKind.i64.wrap (i2 - ((l1).length : Int))) 0

def w_szType : Nat → F → Int → Option Int
 | 0, _, _ => none
 | n + 1, x1, i2 =>
  (w_szTypeS n x1.kids i2).bind fun r3 =>
  if r3 < 0 then
   some (-1)
  else
   some r3

end

def w_toTypeS_L1 (rec_w_toType : F → Option F) (l1 : List F) : Nat → Int → List F → Option (List F)
 | 0, _, _ => none
 | m + 1, i3, l4 =>
  if i3 < ((l1).length : Int) then
   (idx l1 i3).bind fun y6 =>
   (rec_w_toType y6).bind fun r11 =>
   chk (i3 = ((l4).length : Int) ∧ (l4).length < (l1).length) <|
   w_toTypeS_L1 rec_w_toType l1 m (IntKind.i64.wrap (i3 + 1)) (l4 ++ [r11])
  else
   chk ((l4).length = (l1).length) <|
   some l4

mutual

def w_toTypeS : Nat → List F → Option (List F)
 | 0, _ => none
 | n + 1, l1 =>
  chk ((l1).length ≤ 1099511627776) <|
  w_toTypeS_L1 (w_toType n) l1 n 0 ([])

def w_toType : Nat → F → Option F
 | 0, _ => none
 | n + 1, x1 =>
  (w_toTypeS n x1.kids).bind fun r2 =>
  some (F.mk x1.kind x1.n r2)

end

def w_eqTypeS_L1 (rec_w_eqType : F → F → Option Bool) (l1 : List F) (l2 : List F) : Nat → Int → Option Bool
 | 0, _ => none
 | m + 1, i4 =>
  if i4 < ((l1).length : Int) then
   (idx l1 i4).bind fun y6 =>
   (idx l2 i4).bind fun y11 =>
   (rec_w_eqType y6 y11).bind fun r16 =>
   if (!r16) = true then
    some false
   else
    w_eqTypeS_L1 rec_w_eqType l1 l2 m (IntKind.i64.wrap (i4 + 1))
  else
   some true

mutual

def w_eqType : Nat → F → F → Option Bool
 | 0, _, _ => none
 | n + 1, x1, x2 =>
  if (x1.kind != x2.kind) = true then
   some false
  else
   if (x1.n != x2.n) = true then
    some false
   else
    (w_eqTypeS n x1.kids x2.kids).bind fun r5 =>
    if (!r5) = true then
     some false
    else
     some true

def w_eqTypeS : Nat → List F → List F → Option Bool
 | 0, _, _ => none
 | n + 1, l1, l2 =>
  if (((l1).length : Int) != ((l2).length : Int)) = true then
   some false
  else
   w_eqTypeS_L1 (w_eqType n) l1 l2 n 0

end

end Go.Am.Ytpkeophkdemcpaa
