/- What may stop: how it goes on. -/
import Derived.Test.YtpkeophkdemcpaaPuA
import Derived.Test.YtpkeophkdemcpaaMi4
namespace Go.Am
open Go
theorem zb_ok {α β : Type} (a : α) (k : α → Option (Rz β)) : zb (some (.ok a)) k = k a := rfl
end Go.Am
