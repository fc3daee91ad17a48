/- Plain laws: the kids of a right form are right. -/
import Derived.Test.YtpkeophkdemcpaaPvForm
namespace Go.Am.Ytpkeophkdemcpaa
open Go Go.Am

theorem ffmoks_mem : ∀ {ks : List F}, ffmoks ks = true → ∀ t ∈ ks, t.fmok = true
 | [], _, t, h => by cases h
 | a :: r, h, t, ht => by
  simp only [ffmoks, Bool.and_eq_true] at h
  rcases List.mem_cons.1 ht with rfl | ht
  ·exact h.1
  exact ffmoks_mem h.2 t ht

end Go.Am.Ytpkeophkdemcpaa
