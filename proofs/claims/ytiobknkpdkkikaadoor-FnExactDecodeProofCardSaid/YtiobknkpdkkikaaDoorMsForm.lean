/- How a law marks a form in place. -/
import Derived.Test.YtiobknkpdkkikaaDoorMrForm
import Derived.Test.YtiobknkpdkkikaaDoorMi2
namespace Go.Am.YtiobknkpdkkikaaDoor
open Go Go.Am

end Go.Am.YtiobknkpdkkikaaDoor
