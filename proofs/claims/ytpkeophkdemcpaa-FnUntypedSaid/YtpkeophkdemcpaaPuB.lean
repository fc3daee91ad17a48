/- Plain laws: proofs and expressions: sizes, counts. -/
import Derived.Test.YtpkeophkdemcpaaPuA
namespace Go.Am
open Go

def Pf.ok : Pf → Prop
 | .mk k n fs ks => (-9223372036854775808 ≤ k ∧ k ≤ 9223372036854775807) ∧ (-9223372036854775808 ≤ n ∧ n ≤ 9223372036854775807) ∧ (fs.length ≤ 9223372036854775807 ∧ ∀ t ∈ fs, t.ok) ∧ ks.length ≤ 9223372036854775807 ∧ ∀ t ∈ ks, t.ok
mutual
def Pf.sz : Pf → Int → Int
 | .mk _ _ fs ks, left => if fszS fs left < 0 then -1 else if fszS fs left - ks.length < 0 then -1 else pszs ks (fszS fs left - ks.length)
def pszs : List Pf → Int → Int
 | [], left => left
 | t :: r, left => if t.sz left < 0 then -1 else pszs r (t.sz left)
end
def Pf.sm : Pf → Prop
 | .mk _ _ fs ks => (fs.length ≤ 1048576 ∧ ∀ t ∈ fs, t.sm) ∧ ks.length ≤ 1048576 ∧ ∀ t ∈ ks, t.sm
theorem psm_kids {k n : Int} {fs : List F} {ks : List Pf} (h : (Pf.mk k n fs ks).sm) : (fs.length ≤ 1048576 ∧ ∀ t ∈ fs, t.sm) ∧ ks.length ≤ 1048576 ∧ ∀ t ∈ ks, t.sm := by
 unfold Pf.sm at h; exact h

mutual
def Pf.size : Pf → Nat
 | .mk _ _ fs ks => 1 + fsizes fs + psizes ks
def psizes : List Pf → Nat
 | [] => 0
 | t :: r => t.size + psizes r
end
mutual
def Pf.cnt : Pf → Int → Int
 | .mk _ _ fs ks, left => pcnts ks (fcnts fs (left - 1))
def pcnts : List Pf → Int → Int
 | [], left => left
 | t :: r, left => if left ≥ 0 then pcnts r (t.cnt left) else left
end
theorem psize_pos (t : Pf) : 0 < t.size := by cases t; simp [Pf.size]; omega
theorem pcnts_neg {left : Int} : ∀ (ks : List Pf), left < 0 → pcnts ks left = left
 | [], _ => rfl
 | t :: r, h => by simp only [pcnts]; rw [if_neg (by omega)]
theorem fcnts_neg' {left : Int} : ∀ (ks : List F), left < 0 → fcnts ks left = left
 | [], _ => rfl
 | t :: r, h => by simp only [fcnts]; rw [if_neg (by omega)]
theorem fcnts_range : ∀ (ks : List F) (left : Int), -1 ≤ left → -1 ≤ fcnts ks left ∧ fcnts ks left ≤ left
 | [], left, h => by simp only [fcnts]; omega
 | t :: r, left, h => by
  simp only [fcnts]
  split
  ·rename_i h0
   have h1 := cnt_range t left h0
   have := fcnts_range r (t.cnt left) (by omega)
   omega
  omega
theorem fcnts_eq : ∀ (ks : List F) (left : Int), 0 ≤ left → ((fsizes ks : Int) ≤ left → fcnts ks left = left - fsizes ks) ∧ (left < fsizes ks → fcnts ks left < 0)
 | [], left, h => by simp only [fcnts, fsizes]; omega
 | t :: r, left, h => by
  simp only [fcnts, fsizes]
  rw [if_pos h]
  have h1 := cnt_eq t left h
  have hp := fsize_pos t
  by_cases hc : (t.size : Int) ≤ left
  ·have e := h1.1 hc
   rw [e]
   have h2 := fcnts_eq r (left - t.size) (by omega)
   exact ⟨fun q => by rw [h2.1 (by omega)]; omega, fun q => h2.2 (by omega)⟩
  have e := h1.2 (by omega)
  rw [fcnts_neg' r e]
  exact ⟨fun q => by omega, fun _ => e⟩
theorem pcnts_range_of : ∀ (ks : List Pf), (∀ t ∈ ks, ∀ left, 0 ≤ left → -1 ≤ t.cnt left ∧ t.cnt left ≤ left) → ∀ (left : Int), -1 ≤ left → -1 ≤ pcnts ks left ∧ pcnts ks left ≤ left
 | [], _, left, h => by simp only [pcnts]; omega
 | t :: r, hh, left, h => by
  simp only [pcnts]
  split
  ·rename_i h0
   have h1 := hh t (List.mem_cons_self ..) left h0
   have := pcnts_range_of r (fun t ht => hh t (List.mem_cons_of_mem _ ht)) (t.cnt left) (by omega)
   omega
  omega
theorem pcnt_range (t : Pf) : ∀ left, 0 ≤ left → -1 ≤ t.cnt left ∧ t.cnt left ≤ left := by
 induction t using Pf.ind with
 | _ k n fs ks ih =>
  intro left h
  simp only [Pf.cnt]
  have h1 := fcnts_range fs (left - 1) (by omega)
  have := pcnts_range_of ks ih (fcnts fs (left - 1)) (by omega)
  omega
theorem pcnts_eq_of : ∀ (ks : List Pf), (∀ t ∈ ks, ∀ left, 0 ≤ left → ((t.size : Int) ≤ left → t.cnt left = left - t.size) ∧ (left < t.size → t.cnt left < 0)) → ∀ (left : Int), 0 ≤ left → ((psizes ks : Int) ≤ left → pcnts ks left = left - psizes ks) ∧ (left < psizes ks → pcnts ks left < 0)
 | [], _, left, h => by simp only [pcnts, psizes]; omega
 | t :: r, hh, left, h => by
  simp only [pcnts, psizes]
  rw [if_pos h]
  have h1 := hh t (List.mem_cons_self ..) left h
  have hp := psize_pos t
  by_cases hc : (t.size : Int) ≤ left
  ·have e := h1.1 hc
   rw [e]
   have h2 := pcnts_eq_of r (fun t ht => hh t (List.mem_cons_of_mem _ ht)) (left - t.size) (by omega)
   exact ⟨fun q => by rw [h2.1 (by omega)]; omega, fun q => h2.2 (by omega)⟩
  have e := h1.2 (by omega)
  rw [pcnts_neg r e]
  exact ⟨fun q => by omega, fun _ => e⟩
theorem pcnt_eq (t : Pf) : ∀ left, 0 ≤ left → ((t.size : Int) ≤ left → t.cnt left = left - t.size) ∧ (left < t.size → t.cnt left < 0) := by
 induction t using Pf.ind with
 | _ k n fs ks ih =>
  intro left h
  simp only [Pf.cnt, Pf.size]
  by_cases h0 : 0 ≤ left - 1
  ·have h1 := fcnts_eq fs (left - 1) h0
   by_cases hc : (fsizes fs : Int) ≤ left - 1
   ·have e := h1.1 hc
    rw [e]
    have h2 := pcnts_eq_of ks ih (left - 1 - fsizes fs) (by omega)
    exact ⟨fun q => by rw [h2.1 (by omega)]; omega, fun q => h2.2 (by omega)⟩
   have e := h1.2 (by omega)
   rw [pcnts_neg ks e]
   exact ⟨fun q => by omega, fun _ => e⟩
  rw [fcnts_neg' fs (by omega), pcnts_neg ks (by omega)]
  exact ⟨fun q => by omega, fun _ => by omega⟩

def shape (k : Int) : Int × Int := if k = 1 then (0, 0) else if k = 2 ∨ k = 6 then (2, 2) else if k = 3 ∨ k = 4 ∨ k = 5 then (2, 1) else if k = 7 then (1, 1) else (-1, -1)
mutual
def Pf.prok : Pf → Bool
 | .mk k n fs ks => decide (0 ≤ (shape k).1) && (decide ((fs.length : Int) = (shape k).1) && (decide ((ks.length : Int) = (shape k).2) && (decide (0 ≤ n) && (decide (n ≤ 100) && ((decide (k = 1) || decide (n = 0)) && (ffmoks fs && proks ks))))))
def proks : List Pf → Bool
 | [] => true
 | t :: r => t.prok && proks r
end
def eshape (k : Int) : Int × Int := if k = 1 then (0, 0) else if k = 2 then (0, 2) else if k = 3 then (1, 1) else (-1, -1)
mutual
def Pf.exok : Pf → Bool
 | .mk k n fs ks => decide (0 ≤ (eshape k).1) && (decide ((fs.length : Int) = (eshape k).1) && (decide ((ks.length : Int) = (eshape k).2) && (decide (0 ≤ n) && (decide (n ≤ 100) && ((decide (k = 1) || decide (n = 0)) && (ftyoks fs && exoks ks))))))
def exoks : List Pf → Bool
 | [] => true
 | t :: r => t.exok && exoks r
end

end Go.Am
