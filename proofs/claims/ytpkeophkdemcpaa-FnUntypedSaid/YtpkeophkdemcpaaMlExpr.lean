/- Printed by a program of ours: Lean functions that do what the Go functions do, and the contracts. -/
import Derived.Test.YtpkeophkdemcpaaMi1
import Derived.Test.YtpkeophkdemcpaaTypes
import Derived.Test.YtpkeophkdemcpaaMlType
-- packed
namespace Go.Am.Ytpkeophkdemcpaa
open Go Go.Am

def w_szExprS_L1 (rec_w_szExpr : Pf → Int → Option Int) (l1 : List Pf) : Nat → Int → Int → Option Int
 | 0, _, _ => none
 | m + 1, i4, i5 =>
  if i5 < ((l1).length : Int) then
   (idx l1 i5).bind fun y7 =>
   (rec_w_szExpr y7 i4).bind fun r12 =>
   if r12 < 0 then
    some (-1)
   else
    w_szExprS_L1 rec_w_szExpr l1 m r12 (IntKind.i64.wrap (i5 + 1))
  else
   some i4

mutual

def w_szExpr : Nat → Pf → Int → Option Int
 | 0, _, _ => none
 | n + 1, x1, i2 =>
  (w_szTypeS n x1.forms i2).bind fun r3 =>
  if r3 < 0 then
   some (-1)
  else
   (w_szExprS n x1.kids r3).bind fun r11 =>
   if r11 < 0 then
    some (-1)
   else
    some r11

def w_szExprS : Nat → List Pf → Int → Option Int
 | 0, _, _ => none
 | n + 1, l1, i2 =>
  if (IntKind.i64.wrap (i2 - ((l1).length : Int))) < 0 then
   some (-1)
  else
   w_szExprS_L1 (w_szExpr n) l1 n (IntKind.i64.wrap (i2 - ((l1).length : Int))) 0

end

def w_toExprS_L1 (rec_w_toExpr : Pf → Option Pf) (l1 : List Pf) : Nat → Int → List Pf → Option (List Pf)
 | 0, _, _ => none
 | m + 1, i3, l4 =>
  if i3 < ((l1).length : Int) then
   (idx l1 i3).bind fun y6 =>
   (rec_w_toExpr y6).bind fun r11 =>
   chk (i3 = ((l4).length : Int) ∧ (l4).length < (l1).length) <|
   w_toExprS_L1 rec_w_toExpr l1 m (IntKind.i64.wrap (i3 + 1)) (l4 ++ [r11])
  else
   chk ((l4).length = (l1).length) <|
   some l4

mutual

def w_toExpr : Nat → Pf → Option Pf
 | 0, _ => none
 | n + 1, x1 =>
  (w_toTypeS n x1.forms).bind fun r2 =>
  (w_toExprS n x1.kids).bind fun r9 =>
  some (Pf.mk x1.kind x1.n r2 r9)

def w_toExprS : Nat → List Pf → Option (List Pf)
 | 0, _ => none
 | n + 1, l1 =>
  chk ((l1).length ≤ 1099511627776) <|
  w_toExprS_L1 (w_toExpr n) l1 n 0 ([])

end

def w_eqExprS_L1 (rec_w_eqExpr : Pf → Pf → Option Bool) (l1 : List Pf) (l2 : List Pf) : Nat → Int → Option Bool
 | 0, _ => none
 | m + 1, i4 =>
  if i4 < ((l1).length : Int) then
   (idx l1 i4).bind fun y6 =>
   (idx l2 i4).bind fun y11 =>
   (rec_w_eqExpr y6 y11).bind fun r16 =>
   if (!r16) = true then
    some false
   else
    w_eqExprS_L1 rec_w_eqExpr l1 l2 m (IntKind.i64.wrap (i4 + 1))
  else
   some true

mutual

def w_eqExpr : Nat → Pf → Pf → Option Bool
 | 0, _, _ => none
 | n + 1, x1, x2 =>
  if (x1.kind != x2.kind) = true then
   some false
  else
   if (x1.n != x2.n) = true then
    some false
   else
    (w_eqTypeS n x1.forms x2.forms).bind fun r5 =>
    if (!r5) = true then
     some false
    else
     (w_eqExprS n x1.kids x2.kids).bind fun r13 =>
     if (!r13) = true then
      some false
     else
      some true

def w_eqExprS : Nat → List Pf → List Pf → Option Bool
 | 0, _, _ => none
 | n + 1, l1, l2 =>
  if (((l1).length : Int) != ((l2).length : Int)) = true then
   some false
  else
   w_eqExprS_L1 (w_eqExpr n) l1 l2 n 0

end

end Go.Am.Ytpkeophkdemcpaa
