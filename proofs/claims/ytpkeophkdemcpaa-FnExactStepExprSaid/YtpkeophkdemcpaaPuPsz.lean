/- Plain laws: how many steps a proof or an expression has; stops. -/
import Derived.Test.YtpkeophkdemcpaaPuB
import Derived.Test.YtpkeophkdemcpaaMi3
namespace Go.Am
open Go

mutual
def Pf.psz : Pf → Int
 | .mk _ _ _ ks => 1 + ppszs ks
def ppszs : List Pf → Int
 | [] => 0
 | t :: r => t.psz + ppszs r
end
def F.zz : F := F.mk 0 0 []
def fa (fs : List F) : F := (fs[0]?).getD F.zz
def fb (fs : List F) : F := (fs[1]?).getD (F.mk 4 0 [])
def Rz.enc : Rz F → F × Int × Int
 | .ok f => (f, 0, 0)
 | .stop c p => (F.zz, c, p)

end Go.Am
