/- What may stop: how it goes on. -/
import Derived.Test.YtaedacibojpfkaaDoorPuA
import Derived.Test.YtaedacibojpfkaaDoorMi4
namespace Go.Am
open Go
end Go.Am
