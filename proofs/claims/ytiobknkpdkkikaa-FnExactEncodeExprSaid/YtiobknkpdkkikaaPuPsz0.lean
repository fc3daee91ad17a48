/- What may stop: how it goes on. -/
import Derived.Test.YtiobknkpdkkikaaPuA
import Derived.Test.YtiobknkpdkkikaaMi4
namespace Go.Am
open Go
theorem zb_ok {α β : Type} (a : α) (k : α → Option (Rz β)) : zb (some (.ok a)) k = k a := rfl
theorem zb_stop {α β : Type} (c p : Int) (k : α → Option (Rz β)) : zb (some (.stop c p)) k = some (.stop c p) := rfl
end Go.Am
