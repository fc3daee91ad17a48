/- How a law marks a form in place. -/
import Derived.Test.YtpkeophkdemcpaaMrForm
import Derived.Test.YtpkeophkdemcpaaMi2
namespace Go.Am.Ytpkeophkdemcpaa
open Go Go.Am

def w_markFormS (x : List F) (k : Int) : Option (List F × Int) := some (fmarks x k)
theorem w_markFormS_m (q : Nat) (f : Bool) (ks : List LF) (k : Int) (tk : Nat) (h2 : ∀ x ∈ fstoks q ks, 2 ≤ x) (hnd : (fstoks q ks).Nodup) {r : List F × Int} (hr : w_markFormS (fers ks) k = some r) :
  MCalls Go.Proofs.Try.prog 38 [.imm q 3 f (fcellss ks), .int .i64 k] tk (fun x => x ∈ fstoks q ks) (FMk tk q f ks r) :=
 (markFormS_ok ks q f k tk h2 hnd).mono fun _ _ h => h.mk hr

end Go.Am.Ytpkeophkdemcpaa
