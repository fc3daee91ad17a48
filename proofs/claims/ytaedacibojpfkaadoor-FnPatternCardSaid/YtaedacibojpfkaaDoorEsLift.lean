/- Plain laws: variables lifted and lowered. -/
import Derived.Test.YtaedacibojpfkaaDoorEsBig
import Derived.Test.YtaedacibojpfkaaDoorEkLf
namespace Go.Am
open Go
mutual
def T.lft : T → Int → Int → T
  | .mk k n s ks, fr, b => .mk k (if k = 5 ∧ n ≥ fr then n + b else n) s (lfts ks k 0 fr b)
def lfts : List T → Int → Nat → Int → Int → List T
  | [], _, _, _, _ => []
  | t :: r, k, i, fr, b => t.lft (fr + und k i) b :: lfts r k (i + 1) fr b
end
end Go.Am
namespace Go.Am.YtaedacibojpfkaaDoor
open Go Go.Am

end Go.Am.YtaedacibojpfkaaDoor
