/- What the rows take for granted of the oldest memory: the library's table of powers of ten. -/
import Derived.WalkKit
import Derived.Test.YtoajlhhalpldfaaGreatDoorProg
import Derived.Lib.AppendIntMem
namespace Go.Am
open Go RowKit
def Inv (B : Nat) (w : World) : Prop := Lib.TabBelow Go.Proofs.Tryz.prog B w "internal/strconv.uint64pow10" .u64 Lib.pow10Tab
theorem Inv.keep {B : Nat} {w w' : World} (h : Inv B w) (k : Below B w w') : Inv B w' := h.on k
end Go.Am
