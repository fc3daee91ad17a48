/- Printed by a program of ours: Lean functions that do what the Go functions do, and the contracts. -/
import Derived.Test.YtaedacibojpfkaaDoorMl0
import Derived.Test.YtaedacibojpfkaaDoorTypes
import Derived.Test.YtaedacibojpfkaaDoorMkA
import Derived.Test.YtaedacibojpfkaaDoorDnName
-- packed
namespace Go.Am.YtaedacibojpfkaaDoor
open Go Go.Am

end Go.Am.YtaedacibojpfkaaDoor
