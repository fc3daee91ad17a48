/- Plain laws: what a right proof is made of. -/
import Derived.Test.YtpkeophkdemcpaaPuFm
import Derived.Test.YtpkeophkdemcpaaPvProof
namespace Go.Am.Ytpkeophkdemcpaa
open Go Go.Am

theorem proks_mem : ∀ {ks : List Pf}, proks ks = true → ∀ t ∈ ks, t.prok = true
 | [], _, t, h => by cases h
 | a :: r, h, t, ht => by
  simp only [proks, Bool.and_eq_true] at h
  rcases List.mem_cons.1 ht with rfl | ht
  ·exact h.1
  exact proks_mem h.2 t ht

theorem prok_parts {k n : Int} {fs : List F} {ks : List Pf} (h : (Pf.mk k n fs ks).prok = true) : (k = 1 ∧ 0 ≤ n ∧ n ≤ 100 ∧ fs = [] ∧ ks = []) ∨ (2 ≤ k ∧ k ≤ 7 ∧ n = 0 ∧ (∀ f ∈ fs, f.fmok = true) ∧ ∀ t ∈ ks, t.prok = true) := by
 rw [prok_eq] at h
 simp only [Bool.and_eq_true, decide_eq_true_eq, Bool.or_eq_true] at h
 obtain ⟨h0, h1, h2, h3, h4, h5, h6, h7⟩ := h
 unfold shape at h0 h1 h2
 by_cases k1 : k = 1
 ·subst k1
  simp only [if_true] at h1 h2
  exact .inl ⟨rfl, h3, h4, List.length_eq_zero_iff.1 (by omega), List.length_eq_zero_iff.1 (by omega)⟩
 refine .inr ⟨?_, ?_, h5.resolve_left k1, ffmoks_mem h6, proks_mem h7⟩
 ·by_cases h : 2 ≤ k
  ·exact h
  rw [if_neg k1, if_neg (by omega), if_neg (by omega), if_neg (by omega)] at h0; omega
 by_cases h : k ≤ 7
 ·exact h
 rw [if_neg k1, if_neg (by omega), if_neg (by omega), if_neg (by omega)] at h0; omega

end Go.Am.Ytpkeophkdemcpaa
