/-
  NARROWER THAN 'FOR EVERY INPUT', by the rows' own cells (each row's printed sentence says how): FnExactEncodeType: loops · FnExactEncodeForm: loops · FnExactJudgement: loops · FnExactEncodeVars: loops · FnExactEncodeHyps: loops.
  DERIVED. THE GIVEN ROWS OF THIS SEAT. 5 by the template 'for every input the law returns true; each argument reads behind the call as it read before'; 0 by the template 'total and deterministic' (their statements: YtgbmcnmepfpjiaaTotals.lean).
  GIVEN WITH THE SEED: the statements are not yours to turn. If you find one false, say at which input.
  Laid BY PROGRAM, IN A SANDBOX (cutbox-rows.mjs): the forced cells as the released guide's own fill.sh prints them over the translation 46406e1fb6f7bd8f… (all of the seat's roots in one cut). By AI agents, Wed Nov 11 2026. No macro, syntax, notation, axiom, sorry.
-/
import Derived.Test.YtgbmcnmepfpjiaaChecked
import GoSem.Claim
import GoSem.ClaimJoined
import GoSem.ClaimMapViews
import Derived.JoinedTies
import Derived.KernelRfl
namespace Go.Proofs.Ytgbmcnmepfpjiaa
/- THE CELL 'sum', in the pinned program and in every row, IS THE sha256 OF THE DUMP (.gsa) THAT YtgbmcnmepfpjiaaProg.lean LOADS. Nothing in Lean hashes anything: it is a label: what it is worth is what the hold of that sum in a sandbox is worth. -/
noncomputable def Try.pinned : Pinned := { name := "ytgbmcnmepfpjiaa", sum := "46406e1fb6f7bd8ffceb78ac2cc6c6cdeb5d57f16a4c85e3d757d5de050460bf", checked := Try.checked }
namespace Rows
def none {H : Type} : Left H := { results := [], args := [] }

/-- 'laws.FnExactEncodeType': WHATEVER THE INPUT: true; the input reads as it did. -/
def fnExactEncodeTypeSpec : ChangeSpec := { name := "fnExactEncodeType", fn := fun _ => fun
  | [d] => { results := [.lit (.bool true)], args := [d] }
  | _ => none }
def fnExactEncodeTypeRow : OpenClaim := { program := "ytgbmcnmepfpjiaa", sum := "46406e1fb6f7bd8ffceb78ac2cc6c6cdeb5d57f16a4c85e3d757d5de050460bf", func := "loop.example/g00091/laws.FnExactEncodeType", spec := "fnExactEncodeType", unfollowed := true, recurses := true, loops := true, apart := false }
def FnExactEncodeTypeSaid : Prop := fnExactEncodeTypeRow.holds Try.pinned (OpenSpec.ofChange fnExactEncodeTypeSpec)

/-- ITS FALSE NEIGHBOUR: 'it returns false'. Refute it at one input. -/
def fnExactEncodeTypeWrong : ChangeSpec := { name := "fnExactEncodeType", fn := fun _ => fun
  | [d] => { results := [.lit (.bool false)], args := [d] }
  | _ => none }
def FnExactEncodeTypeWrongFalsely : Prop := fnExactEncodeTypeRow.holds Try.pinned (OpenSpec.ofChange fnExactEncodeTypeWrong)

/-- 'laws.FnExactEncodeForm': WHATEVER THE INPUT: true; the input reads as it did. -/
def fnExactEncodeFormSpec : ChangeSpec := { name := "fnExactEncodeForm", fn := fun _ => fun
  | [d] => { results := [.lit (.bool true)], args := [d] }
  | _ => none }
def fnExactEncodeFormRow : OpenClaim := { program := "ytgbmcnmepfpjiaa", sum := "46406e1fb6f7bd8ffceb78ac2cc6c6cdeb5d57f16a4c85e3d757d5de050460bf", func := "loop.example/g00091/laws.FnExactEncodeForm", spec := "fnExactEncodeForm", unfollowed := true, recurses := true, loops := true, apart := false }
def FnExactEncodeFormSaid : Prop := fnExactEncodeFormRow.holds Try.pinned (OpenSpec.ofChange fnExactEncodeFormSpec)

/-- ITS FALSE NEIGHBOUR: 'it returns false'. Refute it at one input. -/
def fnExactEncodeFormWrong : ChangeSpec := { name := "fnExactEncodeForm", fn := fun _ => fun
  | [d] => { results := [.lit (.bool false)], args := [d] }
  | _ => none }
def FnExactEncodeFormWrongFalsely : Prop := fnExactEncodeFormRow.holds Try.pinned (OpenSpec.ofChange fnExactEncodeFormWrong)

/-- 'laws.FnExactJudgement': WHATEVER THE INPUT: true; the input reads as it did. -/
def fnExactJudgementSpec : ChangeSpec := { name := "fnExactJudgement", fn := fun _ => fun
  | [d] => { results := [.lit (.bool true)], args := [d] }
  | _ => none }
def fnExactJudgementRow : OpenClaim := { program := "ytgbmcnmepfpjiaa", sum := "46406e1fb6f7bd8ffceb78ac2cc6c6cdeb5d57f16a4c85e3d757d5de050460bf", func := "loop.example/g00091/laws.FnExactJudgement", spec := "fnExactJudgement", unfollowed := true, recurses := true, loops := true, apart := false }
def FnExactJudgementSaid : Prop := fnExactJudgementRow.holds Try.pinned (OpenSpec.ofChange fnExactJudgementSpec)

/-- ITS FALSE NEIGHBOUR: 'it returns false'. Refute it at one input. -/
def fnExactJudgementWrong : ChangeSpec := { name := "fnExactJudgement", fn := fun _ => fun
  | [d] => { results := [.lit (.bool false)], args := [d] }
  | _ => none }
def FnExactJudgementWrongFalsely : Prop := fnExactJudgementRow.holds Try.pinned (OpenSpec.ofChange fnExactJudgementWrong)

/-- 'laws.FnExactEncodeVars': WHATEVER THE INPUT: true; the input reads as it did. -/
def fnExactEncodeVarsSpec : ChangeSpec := { name := "fnExactEncodeVars", fn := fun _ => fun
  | [d] => { results := [.lit (.bool true)], args := [d] }
  | _ => none }
def fnExactEncodeVarsRow : OpenClaim := { program := "ytgbmcnmepfpjiaa", sum := "46406e1fb6f7bd8ffceb78ac2cc6c6cdeb5d57f16a4c85e3d757d5de050460bf", func := "loop.example/g00091/laws.FnExactEncodeVars", spec := "fnExactEncodeVars", unfollowed := true, recurses := true, loops := true, apart := false }
def FnExactEncodeVarsSaid : Prop := fnExactEncodeVarsRow.holds Try.pinned (OpenSpec.ofChange fnExactEncodeVarsSpec)

/-- ITS FALSE NEIGHBOUR: 'it returns false'. Refute it at one input. -/
def fnExactEncodeVarsWrong : ChangeSpec := { name := "fnExactEncodeVars", fn := fun _ => fun
  | [d] => { results := [.lit (.bool false)], args := [d] }
  | _ => none }
def FnExactEncodeVarsWrongFalsely : Prop := fnExactEncodeVarsRow.holds Try.pinned (OpenSpec.ofChange fnExactEncodeVarsWrong)

/-- 'laws.FnExactEncodeHyps': WHATEVER THE INPUT: true; the input reads as it did. -/
def fnExactEncodeHypsSpec : ChangeSpec := { name := "fnExactEncodeHyps", fn := fun _ => fun
  | [d] => { results := [.lit (.bool true)], args := [d] }
  | _ => none }
def fnExactEncodeHypsRow : OpenClaim := { program := "ytgbmcnmepfpjiaa", sum := "46406e1fb6f7bd8ffceb78ac2cc6c6cdeb5d57f16a4c85e3d757d5de050460bf", func := "loop.example/g00091/laws.FnExactEncodeHyps", spec := "fnExactEncodeHyps", unfollowed := true, recurses := true, loops := true, apart := false }
def FnExactEncodeHypsSaid : Prop := fnExactEncodeHypsRow.holds Try.pinned (OpenSpec.ofChange fnExactEncodeHypsSpec)

/-- ITS FALSE NEIGHBOUR: 'it returns false'. Refute it at one input. -/
def fnExactEncodeHypsWrong : ChangeSpec := { name := "fnExactEncodeHyps", fn := fun _ => fun
  | [d] => { results := [.lit (.bool false)], args := [d] }
  | _ => none }
def FnExactEncodeHypsWrongFalsely : Prop := fnExactEncodeHypsRow.holds Try.pinned (OpenSpec.ofChange fnExactEncodeHypsWrong)

/- THE SECOND FORM. 'bulk': how many values and letters a reading holds, each counted each time it is reached (what is shared counts as often as it is met; a slice's spare places count too). A statement '..UptoSaid' is the law's where the arguments, and the package variables that the reading takes, are together of bulk at most 1048576: NARROWER than '..Said'. Prove '..Said' where nothing that the law and all that it calls make is longer than what came in: it says more and counts as full. Else prove '..UptoSaid'. A law counts once. -/
mutual
def uptoBulk {H : Type} : DataW H → Nat
  | .lit (.string bytes) => bytes.length + 1
  | .lit _ => 1
  | .nil => 1
  | .ptr d => uptoBulk d + 1
  | .slice elems spare => uptoBulkAll elems + uptoBulkAll spare + 1
  | .agg parts => uptoBulkAll parts + 1
  | .iface _ d => uptoBulk d + 1
  | .map entries => uptoBulkEntries entries + 1
  | .held _ => 1
def uptoBulkAll {H : Type} : List (DataW H) → Nat
  | [] => 0
  | d :: r => uptoBulk d + uptoBulkAll r
def uptoBulkEntries {H : Type} : List (Lit × DataW H) → Nat
  | [] => 0
  | x :: r => uptoBulkEntry x + uptoBulkEntries r
def uptoBulkEntry {H : Type} : Lit × DataW H → Nat
  | (.string bytes, d) => bytes.length + uptoBulk d + 1
  | (_, d) => uptoBulk d + 1
 end
def uptoSmall : (H : Type) → List (DataW H) → Bool := fun _ ds => decide (uptoBulkAll ds ≤ 1048576)
def OpenSpec.upto (s : _root_.Go.ChangeSpec) : _root_.Go.OpenSpec := { _root_.Go.OpenSpec.ofChange s with cond := some uptoSmall }

/-- 'laws.FnExactEncodeType', WHERE WHAT IT READS IS OF BULK AT MOST 1048576: true; the input reads as it did. -/
def fnExactEncodeTypeUptoRow : OpenClaim := { program := "ytgbmcnmepfpjiaa", sum := "46406e1fb6f7bd8ffceb78ac2cc6c6cdeb5d57f16a4c85e3d757d5de050460bf", func := "loop.example/g00091/laws.FnExactEncodeType", spec := "fnExactEncodeType", unfollowed := true, recurses := true, loops := true, apart := false, narrowed := true }
def FnExactEncodeTypeUptoSaid : Prop := fnExactEncodeTypeUptoRow.holds Try.pinned (OpenSpec.upto fnExactEncodeTypeSpec)

/-- 'laws.FnExactEncodeForm', WHERE WHAT IT READS IS OF BULK AT MOST 1048576: true; the input reads as it did. -/
def fnExactEncodeFormUptoRow : OpenClaim := { program := "ytgbmcnmepfpjiaa", sum := "46406e1fb6f7bd8ffceb78ac2cc6c6cdeb5d57f16a4c85e3d757d5de050460bf", func := "loop.example/g00091/laws.FnExactEncodeForm", spec := "fnExactEncodeForm", unfollowed := true, recurses := true, loops := true, apart := false, narrowed := true }
def FnExactEncodeFormUptoSaid : Prop := fnExactEncodeFormUptoRow.holds Try.pinned (OpenSpec.upto fnExactEncodeFormSpec)

/-- 'laws.FnExactJudgement', WHERE WHAT IT READS IS OF BULK AT MOST 1048576: true; the input reads as it did. -/
def fnExactJudgementUptoRow : OpenClaim := { program := "ytgbmcnmepfpjiaa", sum := "46406e1fb6f7bd8ffceb78ac2cc6c6cdeb5d57f16a4c85e3d757d5de050460bf", func := "loop.example/g00091/laws.FnExactJudgement", spec := "fnExactJudgement", unfollowed := true, recurses := true, loops := true, apart := false, narrowed := true }
def FnExactJudgementUptoSaid : Prop := fnExactJudgementUptoRow.holds Try.pinned (OpenSpec.upto fnExactJudgementSpec)

/-- 'laws.FnExactEncodeVars', WHERE WHAT IT READS IS OF BULK AT MOST 1048576: true; the input reads as it did. -/
def fnExactEncodeVarsUptoRow : OpenClaim := { program := "ytgbmcnmepfpjiaa", sum := "46406e1fb6f7bd8ffceb78ac2cc6c6cdeb5d57f16a4c85e3d757d5de050460bf", func := "loop.example/g00091/laws.FnExactEncodeVars", spec := "fnExactEncodeVars", unfollowed := true, recurses := true, loops := true, apart := false, narrowed := true }
def FnExactEncodeVarsUptoSaid : Prop := fnExactEncodeVarsUptoRow.holds Try.pinned (OpenSpec.upto fnExactEncodeVarsSpec)

/-- 'laws.FnExactEncodeHyps', WHERE WHAT IT READS IS OF BULK AT MOST 1048576: true; the input reads as it did. -/
def fnExactEncodeHypsUptoRow : OpenClaim := { program := "ytgbmcnmepfpjiaa", sum := "46406e1fb6f7bd8ffceb78ac2cc6c6cdeb5d57f16a4c85e3d757d5de050460bf", func := "loop.example/g00091/laws.FnExactEncodeHyps", spec := "fnExactEncodeHyps", unfollowed := true, recurses := true, loops := true, apart := false, narrowed := true }
def FnExactEncodeHypsUptoSaid : Prop := fnExactEncodeHypsUptoRow.holds Try.pinned (OpenSpec.upto fnExactEncodeHypsSpec)

end Rows
end Go.Proofs.Ytgbmcnmepfpjiaa
