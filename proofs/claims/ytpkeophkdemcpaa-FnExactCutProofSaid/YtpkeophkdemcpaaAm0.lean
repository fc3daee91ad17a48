/- What the rows take for granted of the oldest memory: nothing. -/
import Derived.WalkKit
namespace Go.Am
open Go RowKit
def Inv (_B : Nat) (_w : World) : Prop := True
theorem Inv.keep {B : Nat} {w w' : World} (_h : Inv B w) (_k : Below B w w') : Inv B w' := trivial
theorem Inv.any (B : Nat) (w : World) : Inv B w := trivial
end Go.Am
