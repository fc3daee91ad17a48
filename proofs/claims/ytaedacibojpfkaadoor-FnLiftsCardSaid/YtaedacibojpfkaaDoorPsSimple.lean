/- Plain laws: simple types. -/
import Derived.Test.YtaedacibojpfkaaDoorPtA
import Derived.Test.YtaedacibojpfkaaDoorDkSimple
namespace Go.Am
open Go
mutual
def T.simok : T → Bool
  | .mk k n s ks => if k = 9 then decide (n = 0) && (YtaedacibojpfkaaDoor.nm s && decide (ks.length = 0)) else if k = 10 then decide (n = 0) && (eb s && (decide (ks.length = 2) && simoks ks)) else false
def simoks : List T → Bool
  | [] => true
  | t :: r => t.simok && simoks r
end
end Go.Am
namespace Go.Am.YtaedacibojpfkaaDoor
open Go Go.Am

end Go.Am.YtaedacibojpfkaaDoor
