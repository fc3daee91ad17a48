/- Plain laws: sameness of forms or types. -/
import Derived.Test.YtpkeophkdemcpaaPuA
namespace Go.Am
open Go

mutual
def F.beq : F → F → Bool
 | .mk k n ks, .mk k2 n2 ks2 => decide (k = k2) && (decide (n = n2) && fbeqs ks ks2)
def fbeqs : List F → List F → Bool
 | [], [] => true
 | a :: r, b :: s => a.beq b && fbeqs r s
 | [], _ :: _ => false
 | _ :: _, [] => false
end
theorem fbeqs_len : ∀ {a b : List F}, a.length ≠ b.length → fbeqs a b = false
 | [], [], h => absurd rfl h
 | [], _ :: _, _ => by simp [fbeqs]
 | _ :: _, [], _ => by simp [fbeqs]
 | x :: a, y :: b, h => by
  simp only [fbeqs]
  rw [fbeqs_len (a := a) (b := b) (by simpa using h), Bool.and_false]

end Go.Am
