/- Printed by a program of ours: Lean functions that do what the Go functions do, and the contracts. -/
import Derived.Test.YtpkeophkdemcpaaMi4
import Derived.Test.YtpkeophkdemcpaaTypes
import Derived.Test.YtpkeophkdemcpaaMc1
import Derived.Test.YtpkeophkdemcpaaMkExpr
import Derived.Test.YtpkeophkdemcpaaMxTA
-- packed
namespace Go.Am.Ytpkeophkdemcpaa
open Go Go.Am

end Go.Am.Ytpkeophkdemcpaa
