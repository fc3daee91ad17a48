/- Plain laws: what type an expression has: the program's way and the reference's. -/
import Derived.Test.YtpkeophkdemcpaaSmType
import Derived.Test.YtpkeophkdemcpaaPvExpr
import Derived.Test.YtpkeophkdemcpaaPuPsz
import Derived.Test.YtpkeophkdemcpaaMxTypeOf
namespace Go.Am
open Go

def Pf.ty : Pf → List F → F
 | .mk _ n _ [], hs => (hs[hs.length - 1 - n.toNat]?).getD F.zz
 | .mk _ _ fs [x], hs => F.mk 2 0 [fa fs, x.ty (hs ++ [fa fs])]
 | .mk _ _ _ (x :: _ :: _), hs => fb (x.ty hs).kids

theorem ftyoks_mem' : ∀ {ks : List F}, ftyoks ks = true → ∀ t ∈ ks, t.tyok = true
 | [], _, t, h => by cases h
 | a :: r, h, t, ht => by
  simp only [ftyoks, Bool.and_eq_true] at h
  rcases List.mem_cons.1 ht with rfl | ht
  ·exact h.1
  exact ftyoks_mem' h.2 t ht
theorem exoks_mem' : ∀ {ks : List Pf}, exoks ks = true → ∀ t ∈ ks, t.exok = true
 | [], _, t, h => by cases h
 | a :: r, h, t, ht => by
  simp only [exoks, Bool.and_eq_true] at h
  rcases List.mem_cons.1 ht with rfl | ht
  ·exact h.1
  exact exoks_mem' h.2 t ht
theorem exok_rules {k n : Int} {fs : List F} {ks : List Pf} (h : (Pf.mk k n fs ks).exok = true) :
  (k = 1 ∧ 0 ≤ n ∧ n ≤ 100 ∧ fs = [] ∧ ks = []) ∨ (k = 3 ∧ ∃ a x, fs = [a] ∧ ks = [x] ∧ a.tyok = true ∧ x.exok = true) ∨ (k = 2 ∧ ∃ x y, fs = [] ∧ ks = [x, y] ∧ x.exok = true ∧ y.exok = true) := by
 simp only [Pf.exok, Bool.and_eq_true, decide_eq_true_eq, Bool.or_eq_true] at h
 obtain ⟨h0, h1, h2, h3, h4, h5, h6, h7⟩ := h
 unfold eshape at h0 h1 h2
 by_cases k1 : k = 1
 ·subst k1
  simp only [if_true] at h1 h2
  exact .inl ⟨rfl, h3, h4, List.length_eq_zero_iff.1 (by omega), List.length_eq_zero_iff.1 (by omega)⟩
 by_cases k2 : k = 2
 ·subst k2
  simp at h1 h2
  refine .inr (.inr ⟨rfl, ?_⟩)
  match fs, h1, ks, h2, h7 with
  | [], _, [x, y], _, h7 => exact ⟨x, y, rfl, rfl, exoks_mem' h7 x (by simp), exoks_mem' h7 y (by simp)⟩
 by_cases k3 : k = 3
 ·subst k3
  simp at h1 h2
  refine .inr (.inl ⟨rfl, ?_⟩)
  match fs, h1, h6, ks, h2, h7 with
  | [a], _, h6, [x], _, h7 => exact ⟨a, x, rfl, rfl, ftyoks_mem' h6 a (by simp), exoks_mem' h7 x (by simp)⟩
 rw [if_neg k1, if_neg k2, if_neg k3] at h0; exact absurd h0 (by decide)

end Go.Am
namespace Go.Am.Ytpkeophkdemcpaa
open Go Go.Am

end Go.Am.Ytpkeophkdemcpaa
