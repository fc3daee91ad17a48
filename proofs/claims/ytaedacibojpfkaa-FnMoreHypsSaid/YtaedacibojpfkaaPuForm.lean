/- Plain laws: what the printed functions on forms or types come to: sizes, copies, sameness. -/
import Derived.Test.YtaedacibojpfkaaPuA
import Derived.Test.YtaedacibojpfkaaMlForm
namespace Go.Am.Ytaedacibojpfkaa
open Go Go.Am

end Go.Am.Ytaedacibojpfkaa
