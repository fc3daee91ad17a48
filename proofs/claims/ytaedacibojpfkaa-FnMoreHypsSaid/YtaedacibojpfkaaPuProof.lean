/- Plain laws: what the printed functions on proofs or expressions come to: sizes, copies, sameness. -/
import Derived.Test.YtaedacibojpfkaaPuB
import Derived.Test.YtaedacibojpfkaaPuForm
import Derived.Test.YtaedacibojpfkaaMlProof
namespace Go.Am.Ytaedacibojpfkaa
open Go Go.Am

end Go.Am.Ytaedacibojpfkaa
