/-
  NARROWER THAN 'FOR EVERY INPUT', by the rows' own cells (each row's printed sentence says how): FnExactSize: loops · FnExactTypeOK: loops · FnExactFormOK: loops · FnExactExprOK: loops · FnExactProofOK: loops.
  DERIVED. THE GIVEN ROWS OF THIS SEAT. 6 by the template 'for every input the law returns true; each argument reads behind the call as it read before'; 0 by the template 'total and deterministic' (their statements: YtklchmkanhpeeaaTotals.lean).
  GIVEN WITH THE SEED: the statements are not yours to turn. If you find one false, say at which input.
  Laid BY PROGRAM, IN A SANDBOX (cutbox-rows.mjs): the forced cells as the released guide's own fill.sh prints them over the translation 541ad46148a92632… (all of the seat's roots in one cut). By AI agents, Wed Nov 11 2026. No macro, syntax, notation, axiom, sorry.
-/
import Derived.Test.YtklchmkanhpeeaaChecked
import GoSem.Claim
import GoSem.ClaimJoined
import GoSem.ClaimMapViews
import Derived.JoinedTies
import Derived.KernelRfl
namespace Go.Proofs.Ytklchmkanhpeeaa
/- THE CELL 'sum', in the pinned program and in every row, IS THE sha256 OF THE DUMP (.gsa) THAT YtklchmkanhpeeaaProg.lean LOADS. Nothing in Lean hashes anything: it is a label: what it is worth is what the hold of that sum in a sandbox is worth. -/
noncomputable def Try.pinned : Pinned := { name := "ytklchmkanhpeeaa", sum := "541ad46148a9263243cbb711b2b1dcea3c18c3dee4d88f4441e7e7bf545b2f49", checked := Try.checked }
namespace Rows
def none {H : Type} : Left H := { results := [], args := [] }

/-- 'laws.FnExactConstants': WHATEVER THE INPUT: true; the input reads as it did. -/
def fnExactConstantsSpec : ChangeSpec := { name := "fnExactConstants", fn := fun _ => fun
  | [] => { results := [.lit (.bool true)], args := [] }
  | _ => none }
def fnExactConstantsRow : OpenClaim := { program := "ytklchmkanhpeeaa", sum := "541ad46148a9263243cbb711b2b1dcea3c18c3dee4d88f4441e7e7bf545b2f49", func := "loop.example/g00091/laws.FnExactConstants", spec := "fnExactConstants", apart := false }
def FnExactConstantsSaid : Prop := fnExactConstantsRow.holds Try.pinned (OpenSpec.ofChange fnExactConstantsSpec)

/-- ITS FALSE NEIGHBOUR: 'it returns false'. Refute it at one input. -/
def fnExactConstantsWrong : ChangeSpec := { name := "fnExactConstants", fn := fun _ => fun
  | [] => { results := [.lit (.bool false)], args := [] }
  | _ => none }
def FnExactConstantsWrongFalsely : Prop := fnExactConstantsRow.holds Try.pinned (OpenSpec.ofChange fnExactConstantsWrong)

/-- 'laws.FnExactSize': WHATEVER THE INPUT: true; the input reads as it did. -/
def fnExactSizeSpec : ChangeSpec := { name := "fnExactSize", fn := fun _ => fun
  | [d] => { results := [.lit (.bool true)], args := [d] }
  | _ => none }
def fnExactSizeRow : OpenClaim := { program := "ytklchmkanhpeeaa", sum := "541ad46148a9263243cbb711b2b1dcea3c18c3dee4d88f4441e7e7bf545b2f49", func := "loop.example/g00091/laws.FnExactSize", spec := "fnExactSize", recurses := true, loops := true, apart := false }
def FnExactSizeSaid : Prop := fnExactSizeRow.holds Try.pinned (OpenSpec.ofChange fnExactSizeSpec)

/-- ITS FALSE NEIGHBOUR: 'it returns false'. Refute it at one input. -/
def fnExactSizeWrong : ChangeSpec := { name := "fnExactSize", fn := fun _ => fun
  | [d] => { results := [.lit (.bool false)], args := [d] }
  | _ => none }
def FnExactSizeWrongFalsely : Prop := fnExactSizeRow.holds Try.pinned (OpenSpec.ofChange fnExactSizeWrong)

/-- 'laws.FnExactTypeOK': WHATEVER THE INPUT: true; the input reads as it did. -/
def fnExactTypeOKSpec : ChangeSpec := { name := "fnExactTypeOK", fn := fun _ => fun
  | [d] => { results := [.lit (.bool true)], args := [d] }
  | _ => none }
def fnExactTypeOKRow : OpenClaim := { program := "ytklchmkanhpeeaa", sum := "541ad46148a9263243cbb711b2b1dcea3c18c3dee4d88f4441e7e7bf545b2f49", func := "loop.example/g00091/laws.FnExactTypeOK", spec := "fnExactTypeOK", recurses := true, loops := true, apart := false }
def FnExactTypeOKSaid : Prop := fnExactTypeOKRow.holds Try.pinned (OpenSpec.ofChange fnExactTypeOKSpec)

/-- ITS FALSE NEIGHBOUR: 'it returns false'. Refute it at one input. -/
def fnExactTypeOKWrong : ChangeSpec := { name := "fnExactTypeOK", fn := fun _ => fun
  | [d] => { results := [.lit (.bool false)], args := [d] }
  | _ => none }
def FnExactTypeOKWrongFalsely : Prop := fnExactTypeOKRow.holds Try.pinned (OpenSpec.ofChange fnExactTypeOKWrong)

/-- 'laws.FnExactFormOK': WHATEVER THE INPUT: true; the input reads as it did. -/
def fnExactFormOKSpec : ChangeSpec := { name := "fnExactFormOK", fn := fun _ => fun
  | [d] => { results := [.lit (.bool true)], args := [d] }
  | _ => none }
def fnExactFormOKRow : OpenClaim := { program := "ytklchmkanhpeeaa", sum := "541ad46148a9263243cbb711b2b1dcea3c18c3dee4d88f4441e7e7bf545b2f49", func := "loop.example/g00091/laws.FnExactFormOK", spec := "fnExactFormOK", recurses := true, loops := true, apart := false }
def FnExactFormOKSaid : Prop := fnExactFormOKRow.holds Try.pinned (OpenSpec.ofChange fnExactFormOKSpec)

/-- ITS FALSE NEIGHBOUR: 'it returns false'. Refute it at one input. -/
def fnExactFormOKWrong : ChangeSpec := { name := "fnExactFormOK", fn := fun _ => fun
  | [d] => { results := [.lit (.bool false)], args := [d] }
  | _ => none }
def FnExactFormOKWrongFalsely : Prop := fnExactFormOKRow.holds Try.pinned (OpenSpec.ofChange fnExactFormOKWrong)

/-- 'laws.FnExactExprOK': WHATEVER THE INPUT: true; the input reads as it did. -/
def fnExactExprOKSpec : ChangeSpec := { name := "fnExactExprOK", fn := fun _ => fun
  | [d] => { results := [.lit (.bool true)], args := [d] }
  | _ => none }
def fnExactExprOKRow : OpenClaim := { program := "ytklchmkanhpeeaa", sum := "541ad46148a9263243cbb711b2b1dcea3c18c3dee4d88f4441e7e7bf545b2f49", func := "loop.example/g00091/laws.FnExactExprOK", spec := "fnExactExprOK", recurses := true, loops := true, apart := false }
def FnExactExprOKSaid : Prop := fnExactExprOKRow.holds Try.pinned (OpenSpec.ofChange fnExactExprOKSpec)

/-- ITS FALSE NEIGHBOUR: 'it returns false'. Refute it at one input. -/
def fnExactExprOKWrong : ChangeSpec := { name := "fnExactExprOK", fn := fun _ => fun
  | [d] => { results := [.lit (.bool false)], args := [d] }
  | _ => none }
def FnExactExprOKWrongFalsely : Prop := fnExactExprOKRow.holds Try.pinned (OpenSpec.ofChange fnExactExprOKWrong)

/-- 'laws.FnExactProofOK': WHATEVER THE INPUT: true; the input reads as it did. -/
def fnExactProofOKSpec : ChangeSpec := { name := "fnExactProofOK", fn := fun _ => fun
  | [d] => { results := [.lit (.bool true)], args := [d] }
  | _ => none }
def fnExactProofOKRow : OpenClaim := { program := "ytklchmkanhpeeaa", sum := "541ad46148a9263243cbb711b2b1dcea3c18c3dee4d88f4441e7e7bf545b2f49", func := "loop.example/g00091/laws.FnExactProofOK", spec := "fnExactProofOK", recurses := true, loops := true, apart := false }
def FnExactProofOKSaid : Prop := fnExactProofOKRow.holds Try.pinned (OpenSpec.ofChange fnExactProofOKSpec)

/-- ITS FALSE NEIGHBOUR: 'it returns false'. Refute it at one input. -/
def fnExactProofOKWrong : ChangeSpec := { name := "fnExactProofOK", fn := fun _ => fun
  | [d] => { results := [.lit (.bool false)], args := [d] }
  | _ => none }
def FnExactProofOKWrongFalsely : Prop := fnExactProofOKRow.holds Try.pinned (OpenSpec.ofChange fnExactProofOKWrong)

/- THE SECOND FORM. 'bulk': how many values and letters a reading holds, each counted each time it is reached (what is shared counts as often as it is met; a slice's spare places count too). A statement '..UptoSaid' is the law's where the arguments, and the package variables that the reading takes, are together of bulk at most 1048576: NARROWER than '..Said'. Prove '..Said' where nothing that the law and all that it calls make is longer than what came in: it says more and counts as full. Else prove '..UptoSaid'. A law counts once. -/
mutual
def uptoBulk {H : Type} : DataW H → Nat
  | .lit (.string bytes) => bytes.length + 1
  | .lit _ => 1
  | .nil => 1
  | .ptr d => uptoBulk d + 1
  | .slice elems spare => uptoBulkAll elems + uptoBulkAll spare + 1
  | .agg parts => uptoBulkAll parts + 1
  | .iface _ d => uptoBulk d + 1
  | .map entries => uptoBulkEntries entries + 1
  | .held _ => 1
def uptoBulkAll {H : Type} : List (DataW H) → Nat
  | [] => 0
  | d :: r => uptoBulk d + uptoBulkAll r
def uptoBulkEntries {H : Type} : List (Lit × DataW H) → Nat
  | [] => 0
  | x :: r => uptoBulkEntry x + uptoBulkEntries r
def uptoBulkEntry {H : Type} : Lit × DataW H → Nat
  | (.string bytes, d) => bytes.length + uptoBulk d + 1
  | (_, d) => uptoBulk d + 1
 end
def uptoSmall : (H : Type) → List (DataW H) → Bool := fun _ ds => decide (uptoBulkAll ds ≤ 1048576)
def OpenSpec.upto (s : _root_.Go.ChangeSpec) : _root_.Go.OpenSpec := { _root_.Go.OpenSpec.ofChange s with cond := some uptoSmall }

/-- 'laws.FnExactConstants', WHERE WHAT IT READS IS OF BULK AT MOST 1048576: true; the input reads as it did. -/
def fnExactConstantsUptoRow : OpenClaim := { program := "ytklchmkanhpeeaa", sum := "541ad46148a9263243cbb711b2b1dcea3c18c3dee4d88f4441e7e7bf545b2f49", func := "loop.example/g00091/laws.FnExactConstants", spec := "fnExactConstants", apart := false, narrowed := true }
def FnExactConstantsUptoSaid : Prop := fnExactConstantsUptoRow.holds Try.pinned (OpenSpec.upto fnExactConstantsSpec)

/-- 'laws.FnExactSize', WHERE WHAT IT READS IS OF BULK AT MOST 1048576: true; the input reads as it did. -/
def fnExactSizeUptoRow : OpenClaim := { program := "ytklchmkanhpeeaa", sum := "541ad46148a9263243cbb711b2b1dcea3c18c3dee4d88f4441e7e7bf545b2f49", func := "loop.example/g00091/laws.FnExactSize", spec := "fnExactSize", recurses := true, loops := true, apart := false, narrowed := true }
def FnExactSizeUptoSaid : Prop := fnExactSizeUptoRow.holds Try.pinned (OpenSpec.upto fnExactSizeSpec)

/-- 'laws.FnExactTypeOK', WHERE WHAT IT READS IS OF BULK AT MOST 1048576: true; the input reads as it did. -/
def fnExactTypeOKUptoRow : OpenClaim := { program := "ytklchmkanhpeeaa", sum := "541ad46148a9263243cbb711b2b1dcea3c18c3dee4d88f4441e7e7bf545b2f49", func := "loop.example/g00091/laws.FnExactTypeOK", spec := "fnExactTypeOK", recurses := true, loops := true, apart := false, narrowed := true }
def FnExactTypeOKUptoSaid : Prop := fnExactTypeOKUptoRow.holds Try.pinned (OpenSpec.upto fnExactTypeOKSpec)

/-- 'laws.FnExactFormOK', WHERE WHAT IT READS IS OF BULK AT MOST 1048576: true; the input reads as it did. -/
def fnExactFormOKUptoRow : OpenClaim := { program := "ytklchmkanhpeeaa", sum := "541ad46148a9263243cbb711b2b1dcea3c18c3dee4d88f4441e7e7bf545b2f49", func := "loop.example/g00091/laws.FnExactFormOK", spec := "fnExactFormOK", recurses := true, loops := true, apart := false, narrowed := true }
def FnExactFormOKUptoSaid : Prop := fnExactFormOKUptoRow.holds Try.pinned (OpenSpec.upto fnExactFormOKSpec)

/-- 'laws.FnExactExprOK', WHERE WHAT IT READS IS OF BULK AT MOST 1048576: true; the input reads as it did. -/
def fnExactExprOKUptoRow : OpenClaim := { program := "ytklchmkanhpeeaa", sum := "541ad46148a9263243cbb711b2b1dcea3c18c3dee4d88f4441e7e7bf545b2f49", func := "loop.example/g00091/laws.FnExactExprOK", spec := "fnExactExprOK", recurses := true, loops := true, apart := false, narrowed := true }
def FnExactExprOKUptoSaid : Prop := fnExactExprOKUptoRow.holds Try.pinned (OpenSpec.upto fnExactExprOKSpec)

/-- 'laws.FnExactProofOK', WHERE WHAT IT READS IS OF BULK AT MOST 1048576: true; the input reads as it did. -/
def fnExactProofOKUptoRow : OpenClaim := { program := "ytklchmkanhpeeaa", sum := "541ad46148a9263243cbb711b2b1dcea3c18c3dee4d88f4441e7e7bf545b2f49", func := "loop.example/g00091/laws.FnExactProofOK", spec := "fnExactProofOK", recurses := true, loops := true, apart := false, narrowed := true }
def FnExactProofOKUptoSaid : Prop := fnExactProofOKUptoRow.holds Try.pinned (OpenSpec.upto fnExactProofOKSpec)

end Rows
end Go.Proofs.Ytklchmkanhpeeaa
