/- What may stop: how it goes on. -/
import Derived.Test.YtiobknkpdkkikaaDoorPuA
import Derived.Test.YtiobknkpdkkikaaDoorMi4
namespace Go.Am
open Go
end Go.Am
