/- Plain laws: proofs and expressions: sizes, counts. -/
import Derived.Test.YtoajlhhalpldfaaGreatDoorPuA
namespace Go.Am
open Go

def Pf.ok : Pf → Prop
 | .mk k n fs ks => (-9223372036854775808 ≤ k ∧ k ≤ 9223372036854775807) ∧ (-9223372036854775808 ≤ n ∧ n ≤ 9223372036854775807) ∧ (fs.length ≤ 9223372036854775807 ∧ ∀ t ∈ fs, t.ok) ∧ ks.length ≤ 9223372036854775807 ∧ ∀ t ∈ ks, t.ok
mutual
def Pf.sz : Pf → Int → Int
 | .mk _ _ fs ks, left => if fszS fs left < 0 then -1 else if fszS fs left - ks.length < 0 then -1 else pszs ks (fszS fs left - ks.length)
def pszs : List Pf → Int → Int
 | [], left => left
 | t :: r, left => if t.sz left < 0 then -1 else pszs r (t.sz left)
end
def Pf.sm : Pf → Prop
 | .mk _ _ fs ks => (fs.length ≤ 1048576 ∧ ∀ t ∈ fs, t.sm) ∧ ks.length ≤ 1048576 ∧ ∀ t ∈ ks, t.sm
mutual
def Pf.size : Pf → Nat
 | .mk _ _ fs ks => 1 + fsizes fs + psizes ks
def psizes : List Pf → Nat
 | [] => 0
 | t :: r => t.size + psizes r
end
mutual
def Pf.cnt : Pf → Int → Int
 | .mk _ _ fs ks, left => pcnts ks (fcnts fs (left - 1))
def pcnts : List Pf → Int → Int
 | [], left => left
 | t :: r, left => if left ≥ 0 then pcnts r (t.cnt left) else left
end
def shape (k : Int) : Int × Int := if k = 1 then (0, 0) else if k = 2 ∨ k = 6 then (2, 2) else if k = 3 ∨ k = 4 ∨ k = 5 then (2, 1) else if k = 7 then (1, 1) else (-1, -1)
mutual
def Pf.prok : Pf → Bool
 | .mk k n fs ks => decide (0 ≤ (shape k).1) && (decide ((fs.length : Int) = (shape k).1) && (decide ((ks.length : Int) = (shape k).2) && (decide (0 ≤ n) && (decide (n ≤ 100) && ((decide (k = 1) || decide (n = 0)) && (ffmoks fs && proks ks))))))
def proks : List Pf → Bool
 | [] => true
 | t :: r => t.prok && proks r
end
def eshape (k : Int) : Int × Int := if k = 1 then (0, 0) else if k = 2 then (0, 2) else if k = 3 then (1, 1) else (-1, -1)
mutual
def Pf.exok : Pf → Bool
 | .mk k n fs ks => decide (0 ≤ (eshape k).1) && (decide ((fs.length : Int) = (eshape k).1) && (decide ((ks.length : Int) = (eshape k).2) && (decide (0 ≤ n) && (decide (n ≤ 100) && ((decide (k = 1) || decide (n = 0)) && (ftyoks fs && exoks ks))))))
def exoks : List Pf → Bool
 | [] => true
 | t :: r => t.exok && exoks r
end

end Go.Am
