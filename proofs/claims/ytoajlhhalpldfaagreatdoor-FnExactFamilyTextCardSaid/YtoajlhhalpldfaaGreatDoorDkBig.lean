/- Printed by a program of ours: Lean functions that do what the Go functions do, and the contracts. -/
import Derived.Test.YtoajlhhalpldfaaGreatDoorMl0
import Derived.Test.YtoajlhhalpldfaaGreatDoorMb1
import Derived.Test.YtoajlhhalpldfaaGreatDoorTypes
import Derived.Test.YtoajlhhalpldfaaGreatDoorDkOccurs
-- packed
namespace Go.Am.YtoajlhhalpldfaaGreatDoor
open Go Go.Am

end Go.Am.YtoajlhhalpldfaaGreatDoor
