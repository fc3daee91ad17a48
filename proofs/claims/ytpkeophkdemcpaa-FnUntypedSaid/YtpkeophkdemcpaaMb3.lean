/- An empty slice literal, as a value; trees without kids as results; the memory of kids. -/
import Derived.Test.YtpkeophkdemcpaaMi3
import Derived.Below
namespace Go.Am
open Go Go.RowKit

end Go.Am
namespace Go.Am
open Go Go.RowKit

theorem Fr.tkids {lo hi q : Nat} {ks : List LT} (h : Fr lo hi (tstoks q ks)) : Fr lo hi (ttoks ks) := by
 cases ks with
 | nil => exact .nil _ _
 | cons a r => exact ⟨(List.nodup_cons.1 h.1).2, fun x hx => h.2 x (List.mem_cons_of_mem _ hx)⟩
theorem Fr.fkids {lo hi q : Nat} {ks : List LF} (h : Fr lo hi (fstoks q ks)) : Fr lo hi (ftoks ks) := by
 cases ks with
 | nil => exact .nil _ _
 | cons a r => exact ⟨(List.nodup_cons.1 h.1).2, fun x hx => h.2 x (List.mem_cons_of_mem _ hx)⟩
theorem Fr.pkids {lo hi q : Nat} {ks : List LP} (h : Fr lo hi (pstoks q ks)) : Fr lo hi (ptoks ks) := by
 cases ks with
 | nil => exact .nil _ _
 | cons a r => exact ⟨(List.nodup_cons.1 h.1).2, fun x hx => h.2 x (List.mem_cons_of_mem _ hx)⟩

theorem Fr.fpab {lo hi a1 a2 b1 b2 q1 q : Nat} {fs : List LF} {ks : List LP} (h : Fr a1 a2 (ftoks fs)) (k : Fr b1 b2 (ptoks ks)) (l1 : lo ≤ a1) (l2 : a2 ≤ b1) (l3 : a1 ≤ a2) (l4 : b1 ≤ b2) (e1 : b2 ≤ q1) (e2 : b2 ≤ q) (e3 : q1 ≠ q) (e4 : q1 < hi) (e5 : q < hi) : Fr lo hi (fstoks q1 fs ++ pstoks q ks) := by
 have hA : ∀ x ∈ fstoks q1 fs, x = q1 ∨ (a1 ≤ x ∧ x < a2) := by
  intro x hx
  cases fs with
  | nil => cases hx
  | cons f r =>
   rcases List.mem_cons.1 hx with rfl | hx
   ·exact .inl rfl
   exact .inr (h.2 x hx)
 have hB : ∀ x ∈ pstoks q ks, x = q ∨ (b1 ≤ x ∧ x < b2) := by
  intro x hx
  cases ks with
  | nil => cases hx
  | cons f r =>
   rcases List.mem_cons.1 hx with rfl | hx
   ·exact .inl rfl
   exact .inr (k.2 x hx)
 have nA : (fstoks q1 fs).Nodup := by
  cases fs with
  | nil => exact List.nodup_nil
  | cons f r => exact List.nodup_cons.2 ⟨fun hx => by have := (h.2 _ hx).2; omega, h.1⟩
 have nB : (pstoks q ks).Nodup := by
  cases ks with
  | nil => exact List.nodup_nil
  | cons f r => exact List.nodup_cons.2 ⟨fun hx => by have := (k.2 _ hx).2; omega, k.1⟩
 refine ⟨List.nodup_append.2 ⟨nA, nB, fun x hx y hy e => ?_⟩, fun x hx => ?_⟩
 ·have := hA x hx; have := hB y hy; omega
 rcases List.mem_append.1 hx with hx | hx
 ·have := hA x hx; omega
 have := hB x hx; omega
theorem Fr.fpba {lo hi a1 a2 b1 b2 q1 q : Nat} {fs : List LF} {ks : List LP} (h : Fr a1 a2 (ftoks fs)) (k : Fr b1 b2 (ptoks ks)) (l1 : lo ≤ b1) (l2 : b2 ≤ a1) (l3 : a1 ≤ a2) (l4 : b1 ≤ b2) (e1 : a2 ≤ q1) (e2 : a2 ≤ q) (e3 : q1 ≠ q) (e4 : q1 < hi) (e5 : q < hi) : Fr lo hi (fstoks q1 fs ++ pstoks q ks) := by
 have hA : ∀ x ∈ fstoks q1 fs, x = q1 ∨ (a1 ≤ x ∧ x < a2) := by
  intro x hx
  cases fs with
  | nil => cases hx
  | cons f r =>
   rcases List.mem_cons.1 hx with rfl | hx
   ·exact .inl rfl
   exact .inr (h.2 x hx)
 have hB : ∀ x ∈ pstoks q ks, x = q ∨ (b1 ≤ x ∧ x < b2) := by
  intro x hx
  cases ks with
  | nil => cases hx
  | cons f r =>
   rcases List.mem_cons.1 hx with rfl | hx
   ·exact .inl rfl
   exact .inr (k.2 x hx)
 have nA : (fstoks q1 fs).Nodup := by
  cases fs with
  | nil => exact List.nodup_nil
  | cons f r => exact List.nodup_cons.2 ⟨fun hx => by have := (h.2 _ hx).2; omega, h.1⟩
 have nB : (pstoks q ks).Nodup := by
  cases ks with
  | nil => exact List.nodup_nil
  | cons f r => exact List.nodup_cons.2 ⟨fun hx => by have := (k.2 _ hx).2; omega, k.1⟩
 refine ⟨List.nodup_append.2 ⟨nA, nB, fun x hx y hy e => ?_⟩, fun x hx => ?_⟩
 ·have := hA x hx; have := hB y hy; omega
 rcases List.mem_append.1 hx with hx | hx
 ·have := hA x hx; omega
 have := hB x hx; omega

end Go.Am
