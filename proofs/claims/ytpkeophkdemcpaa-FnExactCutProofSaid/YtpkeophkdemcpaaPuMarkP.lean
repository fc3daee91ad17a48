/- Plain laws: where the marks of proofs and expressions end. -/
import Derived.Test.YtpkeophkdemcpaaPuMark
import Derived.Test.YtpkeophkdemcpaaPuB
import Derived.Test.YtpkeophkdemcpaaMi4
namespace Go.Am
open Go

mutual
theorem pmark_snd : ∀ (t : Pf) (k : Int), 0 ≤ k → k + 2 * (t.size : Int) ≤ 9223372036854775807 → (t.mark k).2 = k + 2 * (t.size : Int)
 | .mk a b fs ks, k, h0, h => by
  unfold Pf.size at h ⊢
  rw [show ((Pf.mk a b fs ks).mark k).2 = (pmarks ks (fmarks fs (nx (nx k))).2).2 by simp only [Pf.mark]]
  push_cast at h ⊢
  rw [nx_in' (k := k) (by omega) (by omega), nx_in' (k := k + 1) (by omega) (by omega), fmarks_snd fs _ (by omega) (by omega), pmarks_snd ks _ (by omega) (by omega)]
  omega
theorem pmarks_snd : ∀ (ks : List Pf) (k : Int), 0 ≤ k → k + 2 * (psizes ks : Int) ≤ 9223372036854775807 → (pmarks ks k).2 = k + 2 * (psizes ks : Int)
 | [], k, _, _ => by simp [pmarks, psizes]
 | t :: r, k, h0, h => by
  simp only [psizes] at h ⊢
  push_cast at h ⊢
  simp only [pmarks]
  rw [pmark_snd t k h0 (by omega), pmarks_snd r _ (by omega) (by omega)]
  omega
end

theorem fszS_cnt (fs : List F) (left : Int) (h : 0 ≤ fszS fs left) : (fsizes fs : Int) ≤ left - fszS fs left := by
 unfold fszS at h ⊢
 by_cases hb : left - (fs.length : Int) < 0
 ·rw [if_pos hb] at h; omega
 rw [if_neg hb] at h ⊢
 have := fszs_cnt fs _ h
 omega

mutual
theorem psz_cnt : ∀ (t : Pf) (left : Int), 0 ≤ t.sz left → (t.size : Int) - 1 ≤ left - t.sz left
 | .mk k n fs ks, left, h => by
  rw [psz_eq] at h ⊢
  by_cases hf : fszS fs left < 0
  ·rw [if_pos hf] at h; omega
  rw [if_neg hf] at h ⊢
  unfold pszS at h ⊢
  have h1 := fszS_cnt fs left (by omega)
  by_cases hb : fszS fs left - (ks.length : Int) < 0
  ·rw [if_pos hb] at h; omega
  rw [if_neg hb] at h ⊢
  have := pszs_cnt ks _ h
  simp only [Pf.size]
  push_cast
  omega
theorem pszs_cnt : ∀ (ks : List Pf) (left : Int), 0 ≤ pszs ks left → (psizes ks : Int) - (ks.length : Int) ≤ left - pszs ks left
 | [], left, h => by simp [psizes, pszs]
 | t :: r, left, h => by
  simp only [pszs] at h ⊢
  by_cases hb : t.sz left < 0
  ·rw [if_pos hb] at h; omega
  rw [if_neg hb] at h ⊢
  have h1 := psz_cnt t left (by omega)
  have h2 := pszs_cnt r _ h
  simp only [psizes, List.length_cons]
  push_cast
  omega
end

theorem pmarks_end (t : Pf) (h : (t.size : Int) ≤ 2097152) : (Pf.marks t 1).2 = 1 + 2 * ((t.size : Int) - 1) := by
 obtain ⟨k, n, fs, ks⟩ := t
 simp only [Pf.size] at h ⊢
 push_cast at h ⊢
 unfold Pf.marks
 simp only [Pf.forms, Pf.kids]
 rw [fmarks_snd fs 1 (by omega) (by omega), pmarks_snd ks _ (by omega) (by omega)]
 omega
end Go.Am
