/- An empty slice literal, as a value; trees without kids as results; the memory of kids. -/
import Derived.Test.YtoajlhhalpldfaaDoorMb0
namespace Go.Am
open Go Go.RowKit

end Go.Am
