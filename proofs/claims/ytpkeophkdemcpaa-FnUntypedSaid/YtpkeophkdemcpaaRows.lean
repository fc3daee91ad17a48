/-
  NARROWER THAN 'FOR EVERY INPUT', by the rows' own cells (each row's printed sentence says how): FnExactStepExpr: loops · FnExactCutProof: loops · FnExactEncodeTyping: loops.
  DERIVED. THE GIVEN ROWS OF THIS SEAT. 6 by the template 'for every input the law returns true; each argument reads behind the call as it read before'; 0 by the template 'total and deterministic' (their statements: YtpkeophkdemcpaaTotals.lean).
  GIVEN WITH THE SEED: the statements are not yours to turn. If you find one false, say at which input.
  Laid BY PROGRAM, IN A SANDBOX (cutbox-rows.mjs): the forced cells as the released guide's own fill.sh prints them over the translation ebc034e4ffdb37ef… (all of the seat's roots in one cut). By AI agents, Wed Nov 11 2026. No macro, syntax, notation, axiom, sorry.
-/
import Derived.Test.YtpkeophkdemcpaaChecked
import GoSem.Claim
import GoSem.ClaimJoined
import GoSem.ClaimMapViews
import Derived.JoinedTies
import Derived.KernelRfl
namespace Go.Proofs.Ytpkeophkdemcpaa
/- THE CELL 'sum', in the pinned program and in every row, IS THE sha256 OF THE DUMP (.gsa) THAT YtpkeophkdemcpaaProg.lean LOADS. Nothing in Lean hashes anything: it is a label: what it is worth is what the hold of that sum in a sandbox is worth. -/
noncomputable def Try.pinned : Pinned := { name := "ytpkeophkdemcpaa", sum := "ebc034e4ffdb37efc067963d8833daa8ade6b5c082f1ccae86bb43da45efd3de", checked := Try.checked }
namespace Rows
def none {H : Type} : Left H := { results := [], args := [] }

/-- 'laws.FnMoreHyps': WHATEVER THE INPUT: true; the input reads as it did. -/
def fnMoreHypsSpec : ChangeSpec := { name := "fnMoreHyps", fn := fun _ => fun
  | [d1, d2] => { results := [.lit (.bool true)], args := [d1, d2] }
  | _ => none }
def fnMoreHypsRow : OpenClaim := { program := "ytpkeophkdemcpaa", sum := "ebc034e4ffdb37efc067963d8833daa8ade6b5c082f1ccae86bb43da45efd3de", func := "loop.example/g00091/laws.FnMoreHyps", spec := "fnMoreHyps", unfollowed := true, recurses := true, apart := false }
def FnMoreHypsSaid : Prop := fnMoreHypsRow.holds Try.pinned (OpenSpec.ofChange fnMoreHypsSpec)

/-- ITS FALSE NEIGHBOUR: 'it returns false'. Refute it at one input. -/
def fnMoreHypsWrong : ChangeSpec := { name := "fnMoreHyps", fn := fun _ => fun
  | [d1, d2] => { results := [.lit (.bool false)], args := [d1, d2] }
  | _ => none }
def FnMoreHypsWrongFalsely : Prop := fnMoreHypsRow.holds Try.pinned (OpenSpec.ofChange fnMoreHypsWrong)

/-- 'laws.FnMoreVars': WHATEVER THE INPUT: true; the input reads as it did. -/
def fnMoreVarsSpec : ChangeSpec := { name := "fnMoreVars", fn := fun _ => fun
  | [d] => { results := [.lit (.bool true)], args := [d] }
  | _ => none }
def fnMoreVarsRow : OpenClaim := { program := "ytpkeophkdemcpaa", sum := "ebc034e4ffdb37efc067963d8833daa8ade6b5c082f1ccae86bb43da45efd3de", func := "loop.example/g00091/laws.FnMoreVars", spec := "fnMoreVars", unfollowed := true, recurses := true, apart := false }
def FnMoreVarsSaid : Prop := fnMoreVarsRow.holds Try.pinned (OpenSpec.ofChange fnMoreVarsSpec)

/-- ITS FALSE NEIGHBOUR: 'it returns false'. Refute it at one input. -/
def fnMoreVarsWrong : ChangeSpec := { name := "fnMoreVars", fn := fun _ => fun
  | [d] => { results := [.lit (.bool false)], args := [d] }
  | _ => none }
def FnMoreVarsWrongFalsely : Prop := fnMoreVarsRow.holds Try.pinned (OpenSpec.ofChange fnMoreVarsWrong)

/-- 'laws.FnUntyped': WHATEVER THE INPUT: true; the input reads as it did. -/
def fnUntypedSpec : ChangeSpec := { name := "fnUntyped", fn := fun _ => fun
  | [d] => { results := [.lit (.bool true)], args := [d] }
  | _ => none }
def fnUntypedRow : OpenClaim := { program := "ytpkeophkdemcpaa", sum := "ebc034e4ffdb37efc067963d8833daa8ade6b5c082f1ccae86bb43da45efd3de", func := "loop.example/g00091/laws.FnUntyped", spec := "fnUntyped", unfollowed := true, recurses := true, apart := false }
def FnUntypedSaid : Prop := fnUntypedRow.holds Try.pinned (OpenSpec.ofChange fnUntypedSpec)

/-- ITS FALSE NEIGHBOUR: 'it returns false'. Refute it at one input. -/
def fnUntypedWrong : ChangeSpec := { name := "fnUntyped", fn := fun _ => fun
  | [d] => { results := [.lit (.bool false)], args := [d] }
  | _ => none }
def FnUntypedWrongFalsely : Prop := fnUntypedRow.holds Try.pinned (OpenSpec.ofChange fnUntypedWrong)

/-- 'laws.FnExactStepExpr': WHATEVER THE INPUT: true; the input reads as it did. -/
def fnExactStepExprSpec : ChangeSpec := { name := "fnExactStepExpr", fn := fun _ => fun
  | [d] => { results := [.lit (.bool true)], args := [d] }
  | _ => none }
def fnExactStepExprRow : OpenClaim := { program := "ytpkeophkdemcpaa", sum := "ebc034e4ffdb37efc067963d8833daa8ade6b5c082f1ccae86bb43da45efd3de", func := "loop.example/g00091/laws.FnExactStepExpr", spec := "fnExactStepExpr", unfollowed := true, recurses := true, loops := true, apart := false }
def FnExactStepExprSaid : Prop := fnExactStepExprRow.holds Try.pinned (OpenSpec.ofChange fnExactStepExprSpec)

/-- ITS FALSE NEIGHBOUR: 'it returns false'. Refute it at one input. -/
def fnExactStepExprWrong : ChangeSpec := { name := "fnExactStepExpr", fn := fun _ => fun
  | [d] => { results := [.lit (.bool false)], args := [d] }
  | _ => none }
def FnExactStepExprWrongFalsely : Prop := fnExactStepExprRow.holds Try.pinned (OpenSpec.ofChange fnExactStepExprWrong)

/-- 'laws.FnExactCutProof': WHATEVER THE INPUT: true; the input reads as it did. -/
def fnExactCutProofSpec : ChangeSpec := { name := "fnExactCutProof", fn := fun _ => fun
  | [d1, d2, d3] => { results := [.lit (.bool true)], args := [d1, d2, d3] }
  | _ => none }
def fnExactCutProofRow : OpenClaim := { program := "ytpkeophkdemcpaa", sum := "ebc034e4ffdb37efc067963d8833daa8ade6b5c082f1ccae86bb43da45efd3de", func := "loop.example/g00091/laws.FnExactCutProof", spec := "fnExactCutProof", unfollowed := true, recurses := true, loops := true, apart := false }
def FnExactCutProofSaid : Prop := fnExactCutProofRow.holds Try.pinned (OpenSpec.ofChange fnExactCutProofSpec)

/-- ITS FALSE NEIGHBOUR: 'it returns false'. Refute it at one input. -/
def fnExactCutProofWrong : ChangeSpec := { name := "fnExactCutProof", fn := fun _ => fun
  | [d1, d2, d3] => { results := [.lit (.bool false)], args := [d1, d2, d3] }
  | _ => none }
def FnExactCutProofWrongFalsely : Prop := fnExactCutProofRow.holds Try.pinned (OpenSpec.ofChange fnExactCutProofWrong)

/-- 'laws.FnExactEncodeTyping': WHATEVER THE INPUT: true; the input reads as it did. -/
def fnExactEncodeTypingSpec : ChangeSpec := { name := "fnExactEncodeTyping", fn := fun _ => fun
  | [d1, d2] => { results := [.lit (.bool true)], args := [d1, d2] }
  | _ => none }
def fnExactEncodeTypingRow : OpenClaim := { program := "ytpkeophkdemcpaa", sum := "ebc034e4ffdb37efc067963d8833daa8ade6b5c082f1ccae86bb43da45efd3de", func := "loop.example/g00091/laws.FnExactEncodeTyping", spec := "fnExactEncodeTyping", unfollowed := true, recurses := true, loops := true, apart := false }
def FnExactEncodeTypingSaid : Prop := fnExactEncodeTypingRow.holds Try.pinned (OpenSpec.ofChange fnExactEncodeTypingSpec)

/-- ITS FALSE NEIGHBOUR: 'it returns false'. Refute it at one input. -/
def fnExactEncodeTypingWrong : ChangeSpec := { name := "fnExactEncodeTyping", fn := fun _ => fun
  | [d1, d2] => { results := [.lit (.bool false)], args := [d1, d2] }
  | _ => none }
def FnExactEncodeTypingWrongFalsely : Prop := fnExactEncodeTypingRow.holds Try.pinned (OpenSpec.ofChange fnExactEncodeTypingWrong)

/- THE SECOND FORM. 'bulk': how many values and letters a reading holds, each counted each time it is reached (what is shared counts as often as it is met; a slice's spare places count too). A statement '..UptoSaid' is the law's where the arguments, and the package variables that the reading takes, are together of bulk at most 1048576: NARROWER than '..Said'. Prove '..Said' where nothing that the law and all that it calls make is longer than what came in: it says more and counts as full. Else prove '..UptoSaid'. A law counts once. -/
mutual
def uptoBulk {H : Type} : DataW H → Nat
  | .lit (.string bytes) => bytes.length + 1
  | .lit _ => 1
  | .nil => 1
  | .ptr d => uptoBulk d + 1
  | .slice elems spare => uptoBulkAll elems + uptoBulkAll spare + 1
  | .agg parts => uptoBulkAll parts + 1
  | .iface _ d => uptoBulk d + 1
  | .map entries => uptoBulkEntries entries + 1
  | .held _ => 1
def uptoBulkAll {H : Type} : List (DataW H) → Nat
  | [] => 0
  | d :: r => uptoBulk d + uptoBulkAll r
def uptoBulkEntries {H : Type} : List (Lit × DataW H) → Nat
  | [] => 0
  | x :: r => uptoBulkEntry x + uptoBulkEntries r
def uptoBulkEntry {H : Type} : Lit × DataW H → Nat
  | (.string bytes, d) => bytes.length + uptoBulk d + 1
  | (_, d) => uptoBulk d + 1
 end
def uptoSmall : (H : Type) → List (DataW H) → Bool := fun _ ds => decide (uptoBulkAll ds ≤ 1048576)
def OpenSpec.upto (s : _root_.Go.ChangeSpec) : _root_.Go.OpenSpec := { _root_.Go.OpenSpec.ofChange s with cond := some uptoSmall }

/-- 'laws.FnMoreHyps', WHERE WHAT IT READS IS OF BULK AT MOST 1048576: true; the input reads as it did. -/
def fnMoreHypsUptoRow : OpenClaim := { program := "ytpkeophkdemcpaa", sum := "ebc034e4ffdb37efc067963d8833daa8ade6b5c082f1ccae86bb43da45efd3de", func := "loop.example/g00091/laws.FnMoreHyps", spec := "fnMoreHyps", unfollowed := true, recurses := true, apart := false, narrowed := true }
def FnMoreHypsUptoSaid : Prop := fnMoreHypsUptoRow.holds Try.pinned (OpenSpec.upto fnMoreHypsSpec)

/-- 'laws.FnMoreVars', WHERE WHAT IT READS IS OF BULK AT MOST 1048576: true; the input reads as it did. -/
def fnMoreVarsUptoRow : OpenClaim := { program := "ytpkeophkdemcpaa", sum := "ebc034e4ffdb37efc067963d8833daa8ade6b5c082f1ccae86bb43da45efd3de", func := "loop.example/g00091/laws.FnMoreVars", spec := "fnMoreVars", unfollowed := true, recurses := true, apart := false, narrowed := true }
def FnMoreVarsUptoSaid : Prop := fnMoreVarsUptoRow.holds Try.pinned (OpenSpec.upto fnMoreVarsSpec)

/-- 'laws.FnUntyped', WHERE WHAT IT READS IS OF BULK AT MOST 1048576: true; the input reads as it did. -/
def fnUntypedUptoRow : OpenClaim := { program := "ytpkeophkdemcpaa", sum := "ebc034e4ffdb37efc067963d8833daa8ade6b5c082f1ccae86bb43da45efd3de", func := "loop.example/g00091/laws.FnUntyped", spec := "fnUntyped", unfollowed := true, recurses := true, apart := false, narrowed := true }
def FnUntypedUptoSaid : Prop := fnUntypedUptoRow.holds Try.pinned (OpenSpec.upto fnUntypedSpec)

/-- 'laws.FnExactStepExpr', WHERE WHAT IT READS IS OF BULK AT MOST 1048576: true; the input reads as it did. -/
def fnExactStepExprUptoRow : OpenClaim := { program := "ytpkeophkdemcpaa", sum := "ebc034e4ffdb37efc067963d8833daa8ade6b5c082f1ccae86bb43da45efd3de", func := "loop.example/g00091/laws.FnExactStepExpr", spec := "fnExactStepExpr", unfollowed := true, recurses := true, loops := true, apart := false, narrowed := true }
def FnExactStepExprUptoSaid : Prop := fnExactStepExprUptoRow.holds Try.pinned (OpenSpec.upto fnExactStepExprSpec)

/-- 'laws.FnExactCutProof', WHERE WHAT IT READS IS OF BULK AT MOST 1048576: true; the input reads as it did. -/
def fnExactCutProofUptoRow : OpenClaim := { program := "ytpkeophkdemcpaa", sum := "ebc034e4ffdb37efc067963d8833daa8ade6b5c082f1ccae86bb43da45efd3de", func := "loop.example/g00091/laws.FnExactCutProof", spec := "fnExactCutProof", unfollowed := true, recurses := true, loops := true, apart := false, narrowed := true }
def FnExactCutProofUptoSaid : Prop := fnExactCutProofUptoRow.holds Try.pinned (OpenSpec.upto fnExactCutProofSpec)

/-- 'laws.FnExactEncodeTyping', WHERE WHAT IT READS IS OF BULK AT MOST 1048576: true; the input reads as it did. -/
def fnExactEncodeTypingUptoRow : OpenClaim := { program := "ytpkeophkdemcpaa", sum := "ebc034e4ffdb37efc067963d8833daa8ade6b5c082f1ccae86bb43da45efd3de", func := "loop.example/g00091/laws.FnExactEncodeTyping", spec := "fnExactEncodeTyping", unfollowed := true, recurses := true, loops := true, apart := false, narrowed := true }
def FnExactEncodeTypingUptoSaid : Prop := fnExactEncodeTypingUptoRow.holds Try.pinned (OpenSpec.upto fnExactEncodeTypingSpec)

end Rows
end Go.Proofs.Ytpkeophkdemcpaa
