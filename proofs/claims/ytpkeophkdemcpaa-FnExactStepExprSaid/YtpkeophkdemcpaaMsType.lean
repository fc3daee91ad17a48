/- How a law marks a type in place. -/
import Derived.Test.YtpkeophkdemcpaaMrType
import Derived.Test.YtpkeophkdemcpaaMi2
namespace Go.Am.Ytpkeophkdemcpaa
open Go Go.Am

end Go.Am.Ytpkeophkdemcpaa
