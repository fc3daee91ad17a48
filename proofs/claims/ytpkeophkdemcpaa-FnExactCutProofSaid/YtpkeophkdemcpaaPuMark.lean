/- Plain laws: where the marks of forms and types end. -/
import Derived.Test.YtpkeophkdemcpaaPuA
import Derived.Test.YtpkeophkdemcpaaMi2
namespace Go.Am
open Go

theorem nx_in' {k : Int} (h0 : -9223372036854775808 ≤ k) (h : k < 9223372036854775807) : nx k = k + 1 := by unfold nx; exact w64_eq (by omega) (by omega)

mutual
theorem fmark_snd : ∀ (t : F) (k : Int), 0 ≤ k → k + 2 * (t.size : Int) ≤ 9223372036854775807 → (t.mark k).2 = k + 2 * (t.size : Int)
 | .mk a b ks, k, h0, h => by
  unfold F.size at h ⊢
  rw [show ((F.mk a b ks).mark k).2 = (fmarks ks (nx (nx k))).2 by simp only [F.mark]]
  push_cast at h ⊢
  rw [nx_in' (k := k) (by omega) (by omega), nx_in' (k := k + 1) (by omega) (by omega), fmarks_snd ks _ (by omega) (by omega)]
  omega
theorem fmarks_snd : ∀ (ks : List F) (k : Int), 0 ≤ k → k + 2 * (fsizes ks : Int) ≤ 9223372036854775807 → (fmarks ks k).2 = k + 2 * (fsizes ks : Int)
 | [], k, _, _ => by simp [fmarks, fsizes]
 | t :: r, k, h0, h => by
  simp only [fsizes] at h ⊢
  push_cast at h ⊢
  simp only [fmarks]
  rw [fmark_snd t k h0 (by omega), fmarks_snd r _ (by omega) (by omega)]
  omega
end

mutual
theorem fsz_cnt : ∀ (t : F) (left : Int), 0 ≤ t.sz left → (t.size : Int) - 1 ≤ left - t.sz left
 | .mk k n ks, left, h => by
  simp only [F.sz] at h ⊢
  by_cases hb : left - (ks.length : Int) < 0
  ·rw [if_pos hb] at h; omega
  rw [if_neg hb] at h ⊢
  have := fszs_cnt ks _ h
  simp only [F.size]
  push_cast
  omega
theorem fszs_cnt : ∀ (ks : List F) (left : Int), 0 ≤ fszs ks left → (fsizes ks : Int) - (ks.length : Int) ≤ left - fszs ks left
 | [], left, h => by simp [fsizes, fszs]
 | t :: r, left, h => by
  simp only [fszs] at h ⊢
  by_cases hb : t.sz left < 0
  ·rw [if_pos hb] at h; omega
  rw [if_neg hb] at h ⊢
  have h1 := fsz_cnt t left (by omega)
  have h2 := fszs_cnt r _ h
  simp only [fsizes, List.length_cons]
  push_cast
  omega
end

end Go.Am
