/- Plain laws: what the printed functions on forms or types come to: sizes, copies, sameness. -/
import Derived.Test.YtpkeophkdemcpaaPuA
import Derived.Test.YtpkeophkdemcpaaMlType
namespace Go.Am.Ytpkeophkdemcpaa
open Go Go.Am

end Go.Am.Ytpkeophkdemcpaa
