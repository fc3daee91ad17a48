/- Printed by a program of ours: Lean functions that do what the Go functions do, and the contracts. -/
import Derived.Test.YtpkeophkdemcpaaTypes
import Derived.Test.YtpkeophkdemcpaaMi4
import Derived.Test.YtpkeophkdemcpaaMc1
import Derived.Test.YtpkeophkdemcpaaMb3
import Derived.Test.YtpkeophkdemcpaaMz
import Derived.Test.YtpkeophkdemcpaaEpEnc
import Derived.Test.YtpkeophkdemcpaaMxTypeOf
-- packed
namespace Go.Am.Ytpkeophkdemcpaa
open Go Go.Am

end Go.Am.Ytpkeophkdemcpaa
