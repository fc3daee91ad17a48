/- The contract of 'caught': what is called in it may stop. -/
import Derived.Test.YtaedacibojpfkaaDoorMi3
import Derived.Test.YtaedacibojpfkaaDoorMc0
namespace Go.Am.YtaedacibojpfkaaDoor
open Go Go.Am

abbrev HT : TypeId := 94
end Go.Am.YtaedacibojpfkaaDoor
