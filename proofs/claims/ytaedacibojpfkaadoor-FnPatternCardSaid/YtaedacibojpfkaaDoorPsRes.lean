/- Plain laws: what is formed; copies. -/
import Derived.Test.YtaedacibojpfkaaDoorEsLift
import Derived.Test.YtaedacibojpfkaaDoorPuPsz0
import Derived.Test.YtaedacibojpfkaaDoorEkRes
namespace Go.Am.YtaedacibojpfkaaDoor
open Go Go.Am

end Go.Am.YtaedacibojpfkaaDoor
