/- A contract of the kit's, turned into one of ours: a call that leaves all that was there as it was. -/
import Derived.Test.YtpkeophkdemcpaaMi3
import Derived.Below
namespace Go.Am
open Go Go.RowKit

end Go.Am
