/- The contract of 'caught': what is called in it may stop. -/
import Derived.Test.YtpkeophkdemcpaaMi3
import Derived.Test.YtpkeophkdemcpaaMc0
namespace Go.Am.Ytpkeophkdemcpaa
open Go Go.Am

abbrev HT : TypeId := 100
end Go.Am.Ytpkeophkdemcpaa
