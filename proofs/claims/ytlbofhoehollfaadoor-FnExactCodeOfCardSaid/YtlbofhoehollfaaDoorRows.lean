/-
  NARROWER THAN 'FOR EVERY INPUT', by the rows' own cells (each row's printed sentence says how): FnExactNameOK: laid · FnExactCodeWord: laid · FnExactCodeOf: laid · FnExactSimpleOK: loops, laid · FnExactTermOK: loops, laid · FnExactFamilyOK: loops, laid · FnExactKindOK: loops, laid · FnExactSourceOK: loops, laid · FnExactOccurs: loops, laid · FnExactErase: loops, laid · FnExactLift: loops, laid · FnExactLower: loops, laid.
  DERIVED. THE GIVEN ROWS OF THIS SEAT. 12 by the template 'for every input the law returns true; each argument reads behind the call as it read before'; 0 by the template 'total and deterministic' (their statements: YtlbofhoehollfaaDoorTotals.lean).
  GIVEN WITH THE SEED: the statements are not yours to turn. If you find one false, say at which input.
  Laid BY PROGRAM, IN A SANDBOX (cutbox-rows.mjs): the forced cells as the released guide's own fill.sh prints them over the translation ad994e24138ca1f4… (all of the seat's roots in one cut). By AI agents, Wed Nov 11 2026. No macro, syntax, notation, axiom, sorry.
-/
import Derived.Test.YtlbofhoehollfaaDoorChecked
import GoSem.PinnedTables
import GoSem.Claim
import GoSem.ClaimJoined
import GoSem.ClaimMapViews
import Derived.JoinedTies
import Derived.KernelRfl
namespace Go.Proofs.YtlbofhoehollfaaDoor
/- THE CELL 'sum', in the pinned program and in every row, IS THE sha256 OF THE DUMP (.gsa) THAT YtlbofhoehollfaaDoorProg.lean LOADS. Nothing in Lean hashes anything: it is a label: what it is worth is what the hold of that sum in a sandbox is worth. -/
noncomputable def Tryd.pinned : Pinned := { name := "ytlbofhoehollfaadoor", sum := "ad994e24138ca1f4a18736b76af7cc7ead7e1d90a8efa01535c1a2f1f28c0412", checked := Tryd.checked }
namespace Rows
def none {H : Type} : Left H := { results := [], args := [] }

/- WHAT THE LISTED PACKAGE-LEVEL VARIABLES READ AS WHEN THE CALL BEGINS. Each datum BY PROGRAM (the guide's laid-datum.mjs) off the statement by which the dump's own 'gosem.cut.vars' lays the variable. In a bare row this is a premise. The card (YtlbofhoehollfaaDoorCards.lean) ties it to the program's text. -/
def laid_unicode_utf8_acceptRanges {H : Type} : DataW H := .agg [.agg [.lit (.int .u8 128), .lit (.int .u8 191)], .agg [.lit (.int .u8 160), .lit (.int .u8 191)], .agg [.lit (.int .u8 128), .lit (.int .u8 159)], .agg [.lit (.int .u8 144), .lit (.int .u8 191)], .agg [.lit (.int .u8 128), .lit (.int .u8 143)], .agg [.lit (.int .u8 0), .lit (.int .u8 0)], .agg [.lit (.int .u8 0), .lit (.int .u8 0)], .agg [.lit (.int .u8 0), .lit (.int .u8 0)], .agg [.lit (.int .u8 0), .lit (.int .u8 0)], .agg [.lit (.int .u8 0), .lit (.int .u8 0)], .agg [.lit (.int .u8 0), .lit (.int .u8 0)], .agg [.lit (.int .u8 0), .lit (.int .u8 0)], .agg [.lit (.int .u8 0), .lit (.int .u8 0)], .agg [.lit (.int .u8 0), .lit (.int .u8 0)], .agg [.lit (.int .u8 0), .lit (.int .u8 0)], .agg [.lit (.int .u8 0), .lit (.int .u8 0)]]
/-- One of Go's own tables, pinned by name: the form's constant. -/
def laid_unicode_utf8_first : DataW Unit := Go.Pinned.utf8First

/-- 'laws.FnExactNameOK': WHATEVER THE INPUT: true; the input reads as it did. -/
def fnExactNameOKSpec : ChangeSpec := { name := "fnExactNameOK", fn := fun _ => fun
  | [d] => { results := [.lit (.bool true)], args := [d] }
  | _ => none }
def fnExactNameOKRow : OpenClaim := { program := "ytlbofhoehollfaadoor", sum := "ad994e24138ca1f4a18736b76af7cc7ead7e1d90a8efa01535c1a2f1f28c0412", func := "loop.example/g00091/laws.FnExactNameOK", spec := "fnExactNameOK", inPlace := ["internal/bytealg.IndexByteString", "internal/bytealg.IndexString"], named := ["unicode/utf8.first", "unicode/utf8.acceptRanges", "internal/bytealg.MaxLen"], apart := false, laid := [("unicode/utf8.acceptRanges", laid_unicode_utf8_acceptRanges), ("unicode/utf8.first", laid_unicode_utf8_first)] }
def FnExactNameOKSaid : Prop := fnExactNameOKRow.holds Tryd.pinned (OpenSpec.ofChange fnExactNameOKSpec)

/-- ITS FALSE NEIGHBOUR: 'it returns false'. Refute it at one input. -/
def fnExactNameOKWrong : ChangeSpec := { name := "fnExactNameOK", fn := fun _ => fun
  | [d] => { results := [.lit (.bool false)], args := [d] }
  | _ => none }
def FnExactNameOKWrongFalsely : Prop := fnExactNameOKRow.holds Tryd.pinned (OpenSpec.ofChange fnExactNameOKWrong)

/-- 'laws.FnExactCodeWord': WHATEVER THE INPUT: true; the input reads as it did. -/
def fnExactCodeWordSpec : ChangeSpec := { name := "fnExactCodeWord", fn := fun _ => fun
  | [d] => { results := [.lit (.bool true)], args := [d] }
  | _ => none }
def fnExactCodeWordRow : OpenClaim := { program := "ytlbofhoehollfaadoor", sum := "ad994e24138ca1f4a18736b76af7cc7ead7e1d90a8efa01535c1a2f1f28c0412", func := "loop.example/g00091/laws.FnExactCodeWord", spec := "fnExactCodeWord", inPlace := ["internal/bytealg.CountString", "internal/bytealg.IndexByteString", "internal/bytealg.IndexString"], named := ["unicode/utf8.first", "unicode/utf8.acceptRanges", "internal/bytealg.MaxLen"], apart := false, laid := [("unicode/utf8.acceptRanges", laid_unicode_utf8_acceptRanges), ("unicode/utf8.first", laid_unicode_utf8_first)] }
def FnExactCodeWordSaid : Prop := fnExactCodeWordRow.holds Tryd.pinned (OpenSpec.ofChange fnExactCodeWordSpec)

/-- ITS FALSE NEIGHBOUR: 'it returns false'. Refute it at one input. -/
def fnExactCodeWordWrong : ChangeSpec := { name := "fnExactCodeWord", fn := fun _ => fun
  | [d] => { results := [.lit (.bool false)], args := [d] }
  | _ => none }
def FnExactCodeWordWrongFalsely : Prop := fnExactCodeWordRow.holds Tryd.pinned (OpenSpec.ofChange fnExactCodeWordWrong)

/-- 'laws.FnExactCodeOf': WHATEVER THE INPUT: true; the input reads as it did. -/
def fnExactCodeOfSpec : ChangeSpec := { name := "fnExactCodeOf", fn := fun _ => fun
  | [d] => { results := [.lit (.bool true)], args := [d] }
  | _ => none }
def fnExactCodeOfRow : OpenClaim := { program := "ytlbofhoehollfaadoor", sum := "ad994e24138ca1f4a18736b76af7cc7ead7e1d90a8efa01535c1a2f1f28c0412", func := "loop.example/g00091/laws.FnExactCodeOf", spec := "fnExactCodeOf", inPlace := ["internal/bytealg.CountString", "internal/bytealg.IndexByteString", "internal/bytealg.IndexString"], named := ["unicode/utf8.first", "unicode/utf8.acceptRanges", "internal/bytealg.MaxLen"], apart := false, laid := [("unicode/utf8.acceptRanges", laid_unicode_utf8_acceptRanges), ("unicode/utf8.first", laid_unicode_utf8_first)] }
def FnExactCodeOfSaid : Prop := fnExactCodeOfRow.holds Tryd.pinned (OpenSpec.ofChange fnExactCodeOfSpec)

/-- ITS FALSE NEIGHBOUR: 'it returns false'. Refute it at one input. -/
def fnExactCodeOfWrong : ChangeSpec := { name := "fnExactCodeOf", fn := fun _ => fun
  | [d] => { results := [.lit (.bool false)], args := [d] }
  | _ => none }
def FnExactCodeOfWrongFalsely : Prop := fnExactCodeOfRow.holds Tryd.pinned (OpenSpec.ofChange fnExactCodeOfWrong)

/-- 'laws.FnExactSimpleOK': WHATEVER THE INPUT: true; the input reads as it did. -/
def fnExactSimpleOKSpec : ChangeSpec := { name := "fnExactSimpleOK", fn := fun _ => fun
  | [d] => { results := [.lit (.bool true)], args := [d] }
  | _ => none }
def fnExactSimpleOKRow : OpenClaim := { program := "ytlbofhoehollfaadoor", sum := "ad994e24138ca1f4a18736b76af7cc7ead7e1d90a8efa01535c1a2f1f28c0412", func := "loop.example/g00091/laws.FnExactSimpleOK", spec := "fnExactSimpleOK", inPlace := ["internal/bytealg.IndexByteString", "internal/bytealg.IndexString"], recurses := true, named := ["unicode/utf8.first", "unicode/utf8.acceptRanges", "internal/bytealg.MaxLen"], loops := true, apart := false, laid := [("unicode/utf8.acceptRanges", laid_unicode_utf8_acceptRanges), ("unicode/utf8.first", laid_unicode_utf8_first)] }
def FnExactSimpleOKSaid : Prop := fnExactSimpleOKRow.holds Tryd.pinned (OpenSpec.ofChange fnExactSimpleOKSpec)

/-- ITS FALSE NEIGHBOUR: 'it returns false'. Refute it at one input. -/
def fnExactSimpleOKWrong : ChangeSpec := { name := "fnExactSimpleOK", fn := fun _ => fun
  | [d] => { results := [.lit (.bool false)], args := [d] }
  | _ => none }
def FnExactSimpleOKWrongFalsely : Prop := fnExactSimpleOKRow.holds Tryd.pinned (OpenSpec.ofChange fnExactSimpleOKWrong)

/-- 'laws.FnExactTermOK': WHATEVER THE INPUT: true; the input reads as it did. -/
def fnExactTermOKSpec : ChangeSpec := { name := "fnExactTermOK", fn := fun _ => fun
  | [d] => { results := [.lit (.bool true)], args := [d] }
  | _ => none }
def fnExactTermOKRow : OpenClaim := { program := "ytlbofhoehollfaadoor", sum := "ad994e24138ca1f4a18736b76af7cc7ead7e1d90a8efa01535c1a2f1f28c0412", func := "loop.example/g00091/laws.FnExactTermOK", spec := "fnExactTermOK", inPlace := ["internal/bytealg.IndexByteString", "internal/bytealg.IndexString"], recurses := true, named := ["unicode/utf8.first", "unicode/utf8.acceptRanges", "internal/bytealg.MaxLen"], loops := true, apart := false, laid := [("unicode/utf8.acceptRanges", laid_unicode_utf8_acceptRanges), ("unicode/utf8.first", laid_unicode_utf8_first)] }
def FnExactTermOKSaid : Prop := fnExactTermOKRow.holds Tryd.pinned (OpenSpec.ofChange fnExactTermOKSpec)

/-- ITS FALSE NEIGHBOUR: 'it returns false'. Refute it at one input. -/
def fnExactTermOKWrong : ChangeSpec := { name := "fnExactTermOK", fn := fun _ => fun
  | [d] => { results := [.lit (.bool false)], args := [d] }
  | _ => none }
def FnExactTermOKWrongFalsely : Prop := fnExactTermOKRow.holds Tryd.pinned (OpenSpec.ofChange fnExactTermOKWrong)

/-- 'laws.FnExactFamilyOK': WHATEVER THE INPUT: true; the input reads as it did. -/
def fnExactFamilyOKSpec : ChangeSpec := { name := "fnExactFamilyOK", fn := fun _ => fun
  | [d] => { results := [.lit (.bool true)], args := [d] }
  | _ => none }
def fnExactFamilyOKRow : OpenClaim := { program := "ytlbofhoehollfaadoor", sum := "ad994e24138ca1f4a18736b76af7cc7ead7e1d90a8efa01535c1a2f1f28c0412", func := "loop.example/g00091/laws.FnExactFamilyOK", spec := "fnExactFamilyOK", inPlace := ["internal/bytealg.IndexByteString", "internal/bytealg.IndexString"], recurses := true, named := ["unicode/utf8.first", "unicode/utf8.acceptRanges", "internal/bytealg.MaxLen"], loops := true, apart := false, laid := [("unicode/utf8.acceptRanges", laid_unicode_utf8_acceptRanges), ("unicode/utf8.first", laid_unicode_utf8_first)] }
def FnExactFamilyOKSaid : Prop := fnExactFamilyOKRow.holds Tryd.pinned (OpenSpec.ofChange fnExactFamilyOKSpec)

/-- ITS FALSE NEIGHBOUR: 'it returns false'. Refute it at one input. -/
def fnExactFamilyOKWrong : ChangeSpec := { name := "fnExactFamilyOK", fn := fun _ => fun
  | [d] => { results := [.lit (.bool false)], args := [d] }
  | _ => none }
def FnExactFamilyOKWrongFalsely : Prop := fnExactFamilyOKRow.holds Tryd.pinned (OpenSpec.ofChange fnExactFamilyOKWrong)

/-- 'laws.FnExactKindOK': WHATEVER THE INPUT: true; the input reads as it did. -/
def fnExactKindOKSpec : ChangeSpec := { name := "fnExactKindOK", fn := fun _ => fun
  | [d] => { results := [.lit (.bool true)], args := [d] }
  | _ => none }
def fnExactKindOKRow : OpenClaim := { program := "ytlbofhoehollfaadoor", sum := "ad994e24138ca1f4a18736b76af7cc7ead7e1d90a8efa01535c1a2f1f28c0412", func := "loop.example/g00091/laws.FnExactKindOK", spec := "fnExactKindOK", inPlace := ["internal/bytealg.IndexByteString", "internal/bytealg.IndexString"], recurses := true, named := ["unicode/utf8.first", "unicode/utf8.acceptRanges", "internal/bytealg.MaxLen"], loops := true, apart := false, laid := [("unicode/utf8.acceptRanges", laid_unicode_utf8_acceptRanges), ("unicode/utf8.first", laid_unicode_utf8_first)] }
def FnExactKindOKSaid : Prop := fnExactKindOKRow.holds Tryd.pinned (OpenSpec.ofChange fnExactKindOKSpec)

/-- ITS FALSE NEIGHBOUR: 'it returns false'. Refute it at one input. -/
def fnExactKindOKWrong : ChangeSpec := { name := "fnExactKindOK", fn := fun _ => fun
  | [d] => { results := [.lit (.bool false)], args := [d] }
  | _ => none }
def FnExactKindOKWrongFalsely : Prop := fnExactKindOKRow.holds Tryd.pinned (OpenSpec.ofChange fnExactKindOKWrong)

/-- 'laws.FnExactSourceOK': WHATEVER THE INPUT: true; the input reads as it did. -/
def fnExactSourceOKSpec : ChangeSpec := { name := "fnExactSourceOK", fn := fun _ => fun
  | [d] => { results := [.lit (.bool true)], args := [d] }
  | _ => none }
def fnExactSourceOKRow : OpenClaim := { program := "ytlbofhoehollfaadoor", sum := "ad994e24138ca1f4a18736b76af7cc7ead7e1d90a8efa01535c1a2f1f28c0412", func := "loop.example/g00091/laws.FnExactSourceOK", spec := "fnExactSourceOK", inPlace := ["internal/bytealg.IndexByteString", "internal/bytealg.IndexString"], unfollowed := true, recurses := true, named := ["unicode/utf8.first", "unicode/utf8.acceptRanges", "internal/bytealg.MaxLen"], loops := true, apart := false, laid := [("unicode/utf8.acceptRanges", laid_unicode_utf8_acceptRanges), ("unicode/utf8.first", laid_unicode_utf8_first)] }
def FnExactSourceOKSaid : Prop := fnExactSourceOKRow.holds Tryd.pinned (OpenSpec.ofChange fnExactSourceOKSpec)

/-- ITS FALSE NEIGHBOUR: 'it returns false'. Refute it at one input. -/
def fnExactSourceOKWrong : ChangeSpec := { name := "fnExactSourceOK", fn := fun _ => fun
  | [d] => { results := [.lit (.bool false)], args := [d] }
  | _ => none }
def FnExactSourceOKWrongFalsely : Prop := fnExactSourceOKRow.holds Tryd.pinned (OpenSpec.ofChange fnExactSourceOKWrong)

/-- 'laws.FnExactOccurs': WHATEVER THE INPUT: true; the input reads as it did. -/
def fnExactOccursSpec : ChangeSpec := { name := "fnExactOccurs", fn := fun _ => fun
  | [d1, d2] => { results := [.lit (.bool true)], args := [d1, d2] }
  | _ => none }
def fnExactOccursRow : OpenClaim := { program := "ytlbofhoehollfaadoor", sum := "ad994e24138ca1f4a18736b76af7cc7ead7e1d90a8efa01535c1a2f1f28c0412", func := "loop.example/g00091/laws.FnExactOccurs", spec := "fnExactOccurs", inPlace := ["internal/bytealg.IndexByteString", "internal/bytealg.IndexString"], unfollowed := true, recurses := true, named := ["unicode/utf8.first", "unicode/utf8.acceptRanges", "internal/bytealg.MaxLen"], loops := true, apart := false, laid := [("unicode/utf8.acceptRanges", laid_unicode_utf8_acceptRanges), ("unicode/utf8.first", laid_unicode_utf8_first)] }
def FnExactOccursSaid : Prop := fnExactOccursRow.holds Tryd.pinned (OpenSpec.ofChange fnExactOccursSpec)

/-- ITS FALSE NEIGHBOUR: 'it returns false'. Refute it at one input. -/
def fnExactOccursWrong : ChangeSpec := { name := "fnExactOccurs", fn := fun _ => fun
  | [d1, d2] => { results := [.lit (.bool false)], args := [d1, d2] }
  | _ => none }
def FnExactOccursWrongFalsely : Prop := fnExactOccursRow.holds Tryd.pinned (OpenSpec.ofChange fnExactOccursWrong)

/-- 'laws.FnExactErase': WHATEVER THE INPUT: true; the input reads as it did. -/
def fnExactEraseSpec : ChangeSpec := { name := "fnExactErase", fn := fun _ => fun
  | [d] => { results := [.lit (.bool true)], args := [d] }
  | _ => none }
def fnExactEraseRow : OpenClaim := { program := "ytlbofhoehollfaadoor", sum := "ad994e24138ca1f4a18736b76af7cc7ead7e1d90a8efa01535c1a2f1f28c0412", func := "loop.example/g00091/laws.FnExactErase", spec := "fnExactErase", inPlace := ["internal/bytealg.IndexByteString", "internal/bytealg.IndexString"], recurses := true, named := ["unicode/utf8.first", "unicode/utf8.acceptRanges", "internal/bytealg.MaxLen"], loops := true, apart := false, laid := [("unicode/utf8.acceptRanges", laid_unicode_utf8_acceptRanges), ("unicode/utf8.first", laid_unicode_utf8_first)] }
def FnExactEraseSaid : Prop := fnExactEraseRow.holds Tryd.pinned (OpenSpec.ofChange fnExactEraseSpec)

/-- ITS FALSE NEIGHBOUR: 'it returns false'. Refute it at one input. -/
def fnExactEraseWrong : ChangeSpec := { name := "fnExactErase", fn := fun _ => fun
  | [d] => { results := [.lit (.bool false)], args := [d] }
  | _ => none }
def FnExactEraseWrongFalsely : Prop := fnExactEraseRow.holds Tryd.pinned (OpenSpec.ofChange fnExactEraseWrong)

/-- 'laws.FnExactLift': WHATEVER THE INPUT: true; the input reads as it did. -/
def fnExactLiftSpec : ChangeSpec := { name := "fnExactLift", fn := fun _ => fun
  | [d1, d2, d3] => { results := [.lit (.bool true)], args := [d1, d2, d3] }
  | _ => none }
def fnExactLiftRow : OpenClaim := { program := "ytlbofhoehollfaadoor", sum := "ad994e24138ca1f4a18736b76af7cc7ead7e1d90a8efa01535c1a2f1f28c0412", func := "loop.example/g00091/laws.FnExactLift", spec := "fnExactLift", inPlace := ["internal/bytealg.IndexByteString", "internal/bytealg.IndexString"], unfollowed := true, recurses := true, named := ["unicode/utf8.first", "unicode/utf8.acceptRanges", "internal/bytealg.MaxLen"], loops := true, apart := false, laid := [("unicode/utf8.acceptRanges", laid_unicode_utf8_acceptRanges), ("unicode/utf8.first", laid_unicode_utf8_first)] }
def FnExactLiftSaid : Prop := fnExactLiftRow.holds Tryd.pinned (OpenSpec.ofChange fnExactLiftSpec)

/-- ITS FALSE NEIGHBOUR: 'it returns false'. Refute it at one input. -/
def fnExactLiftWrong : ChangeSpec := { name := "fnExactLift", fn := fun _ => fun
  | [d1, d2, d3] => { results := [.lit (.bool false)], args := [d1, d2, d3] }
  | _ => none }
def FnExactLiftWrongFalsely : Prop := fnExactLiftRow.holds Tryd.pinned (OpenSpec.ofChange fnExactLiftWrong)

/-- 'laws.FnExactLower': WHATEVER THE INPUT: true; the input reads as it did. -/
def fnExactLowerSpec : ChangeSpec := { name := "fnExactLower", fn := fun _ => fun
  | [d1, d2] => { results := [.lit (.bool true)], args := [d1, d2] }
  | _ => none }
def fnExactLowerRow : OpenClaim := { program := "ytlbofhoehollfaadoor", sum := "ad994e24138ca1f4a18736b76af7cc7ead7e1d90a8efa01535c1a2f1f28c0412", func := "loop.example/g00091/laws.FnExactLower", spec := "fnExactLower", inPlace := ["internal/bytealg.IndexByteString", "internal/bytealg.IndexString"], unfollowed := true, recurses := true, named := ["unicode/utf8.first", "unicode/utf8.acceptRanges", "internal/bytealg.MaxLen"], loops := true, apart := false, laid := [("unicode/utf8.acceptRanges", laid_unicode_utf8_acceptRanges), ("unicode/utf8.first", laid_unicode_utf8_first)] }
def FnExactLowerSaid : Prop := fnExactLowerRow.holds Tryd.pinned (OpenSpec.ofChange fnExactLowerSpec)

/-- ITS FALSE NEIGHBOUR: 'it returns false'. Refute it at one input. -/
def fnExactLowerWrong : ChangeSpec := { name := "fnExactLower", fn := fun _ => fun
  | [d1, d2] => { results := [.lit (.bool false)], args := [d1, d2] }
  | _ => none }
def FnExactLowerWrongFalsely : Prop := fnExactLowerRow.holds Tryd.pinned (OpenSpec.ofChange fnExactLowerWrong)

/- THE SECOND FORM. 'bulk': how many values and letters a reading holds, each counted each time it is reached (what is shared counts as often as it is met; a slice's spare places count too). A statement '..UptoSaid' is the law's where the arguments, and the package variables that the reading takes, are together of bulk at most 1048576: NARROWER than '..Said'. Prove '..Said' where nothing that the law and all that it calls make is longer than what came in: it says more and counts as full. Else prove '..UptoSaid'. A law counts once. -/
mutual
def uptoBulk {H : Type} : DataW H → Nat
  | .lit (.string bytes) => bytes.length + 1
  | .lit _ => 1
  | .nil => 1
  | .ptr d => uptoBulk d + 1
  | .slice elems spare => uptoBulkAll elems + uptoBulkAll spare + 1
  | .agg parts => uptoBulkAll parts + 1
  | .iface _ d => uptoBulk d + 1
  | .map entries => uptoBulkEntries entries + 1
  | .held _ => 1
def uptoBulkAll {H : Type} : List (DataW H) → Nat
  | [] => 0
  | d :: r => uptoBulk d + uptoBulkAll r
def uptoBulkEntries {H : Type} : List (Lit × DataW H) → Nat
  | [] => 0
  | x :: r => uptoBulkEntry x + uptoBulkEntries r
def uptoBulkEntry {H : Type} : Lit × DataW H → Nat
  | (.string bytes, d) => bytes.length + uptoBulk d + 1
  | (_, d) => uptoBulk d + 1
 end
def uptoSmall : (H : Type) → List (DataW H) → Bool := fun _ ds => decide (uptoBulkAll ds ≤ 1048576)
def OpenSpec.upto (s : _root_.Go.ChangeSpec) : _root_.Go.OpenSpec := { _root_.Go.OpenSpec.ofChange s with cond := some uptoSmall }

/-- 'laws.FnExactNameOK', WHERE WHAT IT READS IS OF BULK AT MOST 1048576: true; the input reads as it did. -/
def fnExactNameOKUptoRow : OpenClaim := { program := "ytlbofhoehollfaadoor", sum := "ad994e24138ca1f4a18736b76af7cc7ead7e1d90a8efa01535c1a2f1f28c0412", func := "loop.example/g00091/laws.FnExactNameOK", spec := "fnExactNameOK", inPlace := ["internal/bytealg.IndexByteString", "internal/bytealg.IndexString"], named := ["unicode/utf8.first", "unicode/utf8.acceptRanges", "internal/bytealg.MaxLen"], apart := false, laid := [("unicode/utf8.acceptRanges", laid_unicode_utf8_acceptRanges), ("unicode/utf8.first", laid_unicode_utf8_first)], narrowed := true }
def FnExactNameOKUptoSaid : Prop := fnExactNameOKUptoRow.holds Tryd.pinned (OpenSpec.upto fnExactNameOKSpec)

/-- 'laws.FnExactCodeWord', WHERE WHAT IT READS IS OF BULK AT MOST 1048576: true; the input reads as it did. -/
def fnExactCodeWordUptoRow : OpenClaim := { program := "ytlbofhoehollfaadoor", sum := "ad994e24138ca1f4a18736b76af7cc7ead7e1d90a8efa01535c1a2f1f28c0412", func := "loop.example/g00091/laws.FnExactCodeWord", spec := "fnExactCodeWord", inPlace := ["internal/bytealg.CountString", "internal/bytealg.IndexByteString", "internal/bytealg.IndexString"], named := ["unicode/utf8.first", "unicode/utf8.acceptRanges", "internal/bytealg.MaxLen"], apart := false, laid := [("unicode/utf8.acceptRanges", laid_unicode_utf8_acceptRanges), ("unicode/utf8.first", laid_unicode_utf8_first)], narrowed := true }
def FnExactCodeWordUptoSaid : Prop := fnExactCodeWordUptoRow.holds Tryd.pinned (OpenSpec.upto fnExactCodeWordSpec)

/-- 'laws.FnExactCodeOf', WHERE WHAT IT READS IS OF BULK AT MOST 1048576: true; the input reads as it did. -/
def fnExactCodeOfUptoRow : OpenClaim := { program := "ytlbofhoehollfaadoor", sum := "ad994e24138ca1f4a18736b76af7cc7ead7e1d90a8efa01535c1a2f1f28c0412", func := "loop.example/g00091/laws.FnExactCodeOf", spec := "fnExactCodeOf", inPlace := ["internal/bytealg.CountString", "internal/bytealg.IndexByteString", "internal/bytealg.IndexString"], named := ["unicode/utf8.first", "unicode/utf8.acceptRanges", "internal/bytealg.MaxLen"], apart := false, laid := [("unicode/utf8.acceptRanges", laid_unicode_utf8_acceptRanges), ("unicode/utf8.first", laid_unicode_utf8_first)], narrowed := true }
def FnExactCodeOfUptoSaid : Prop := fnExactCodeOfUptoRow.holds Tryd.pinned (OpenSpec.upto fnExactCodeOfSpec)

/-- 'laws.FnExactSimpleOK', WHERE WHAT IT READS IS OF BULK AT MOST 1048576: true; the input reads as it did. -/
def fnExactSimpleOKUptoRow : OpenClaim := { program := "ytlbofhoehollfaadoor", sum := "ad994e24138ca1f4a18736b76af7cc7ead7e1d90a8efa01535c1a2f1f28c0412", func := "loop.example/g00091/laws.FnExactSimpleOK", spec := "fnExactSimpleOK", inPlace := ["internal/bytealg.IndexByteString", "internal/bytealg.IndexString"], recurses := true, named := ["unicode/utf8.first", "unicode/utf8.acceptRanges", "internal/bytealg.MaxLen"], loops := true, apart := false, laid := [("unicode/utf8.acceptRanges", laid_unicode_utf8_acceptRanges), ("unicode/utf8.first", laid_unicode_utf8_first)], narrowed := true }
def FnExactSimpleOKUptoSaid : Prop := fnExactSimpleOKUptoRow.holds Tryd.pinned (OpenSpec.upto fnExactSimpleOKSpec)

/-- 'laws.FnExactTermOK', WHERE WHAT IT READS IS OF BULK AT MOST 1048576: true; the input reads as it did. -/
def fnExactTermOKUptoRow : OpenClaim := { program := "ytlbofhoehollfaadoor", sum := "ad994e24138ca1f4a18736b76af7cc7ead7e1d90a8efa01535c1a2f1f28c0412", func := "loop.example/g00091/laws.FnExactTermOK", spec := "fnExactTermOK", inPlace := ["internal/bytealg.IndexByteString", "internal/bytealg.IndexString"], recurses := true, named := ["unicode/utf8.first", "unicode/utf8.acceptRanges", "internal/bytealg.MaxLen"], loops := true, apart := false, laid := [("unicode/utf8.acceptRanges", laid_unicode_utf8_acceptRanges), ("unicode/utf8.first", laid_unicode_utf8_first)], narrowed := true }
def FnExactTermOKUptoSaid : Prop := fnExactTermOKUptoRow.holds Tryd.pinned (OpenSpec.upto fnExactTermOKSpec)

/-- 'laws.FnExactFamilyOK', WHERE WHAT IT READS IS OF BULK AT MOST 1048576: true; the input reads as it did. -/
def fnExactFamilyOKUptoRow : OpenClaim := { program := "ytlbofhoehollfaadoor", sum := "ad994e24138ca1f4a18736b76af7cc7ead7e1d90a8efa01535c1a2f1f28c0412", func := "loop.example/g00091/laws.FnExactFamilyOK", spec := "fnExactFamilyOK", inPlace := ["internal/bytealg.IndexByteString", "internal/bytealg.IndexString"], recurses := true, named := ["unicode/utf8.first", "unicode/utf8.acceptRanges", "internal/bytealg.MaxLen"], loops := true, apart := false, laid := [("unicode/utf8.acceptRanges", laid_unicode_utf8_acceptRanges), ("unicode/utf8.first", laid_unicode_utf8_first)], narrowed := true }
def FnExactFamilyOKUptoSaid : Prop := fnExactFamilyOKUptoRow.holds Tryd.pinned (OpenSpec.upto fnExactFamilyOKSpec)

/-- 'laws.FnExactKindOK', WHERE WHAT IT READS IS OF BULK AT MOST 1048576: true; the input reads as it did. -/
def fnExactKindOKUptoRow : OpenClaim := { program := "ytlbofhoehollfaadoor", sum := "ad994e24138ca1f4a18736b76af7cc7ead7e1d90a8efa01535c1a2f1f28c0412", func := "loop.example/g00091/laws.FnExactKindOK", spec := "fnExactKindOK", inPlace := ["internal/bytealg.IndexByteString", "internal/bytealg.IndexString"], recurses := true, named := ["unicode/utf8.first", "unicode/utf8.acceptRanges", "internal/bytealg.MaxLen"], loops := true, apart := false, laid := [("unicode/utf8.acceptRanges", laid_unicode_utf8_acceptRanges), ("unicode/utf8.first", laid_unicode_utf8_first)], narrowed := true }
def FnExactKindOKUptoSaid : Prop := fnExactKindOKUptoRow.holds Tryd.pinned (OpenSpec.upto fnExactKindOKSpec)

/-- 'laws.FnExactSourceOK', WHERE WHAT IT READS IS OF BULK AT MOST 1048576: true; the input reads as it did. -/
def fnExactSourceOKUptoRow : OpenClaim := { program := "ytlbofhoehollfaadoor", sum := "ad994e24138ca1f4a18736b76af7cc7ead7e1d90a8efa01535c1a2f1f28c0412", func := "loop.example/g00091/laws.FnExactSourceOK", spec := "fnExactSourceOK", inPlace := ["internal/bytealg.IndexByteString", "internal/bytealg.IndexString"], unfollowed := true, recurses := true, named := ["unicode/utf8.first", "unicode/utf8.acceptRanges", "internal/bytealg.MaxLen"], loops := true, apart := false, laid := [("unicode/utf8.acceptRanges", laid_unicode_utf8_acceptRanges), ("unicode/utf8.first", laid_unicode_utf8_first)], narrowed := true }
def FnExactSourceOKUptoSaid : Prop := fnExactSourceOKUptoRow.holds Tryd.pinned (OpenSpec.upto fnExactSourceOKSpec)

/-- 'laws.FnExactOccurs', WHERE WHAT IT READS IS OF BULK AT MOST 1048576: true; the input reads as it did. -/
def fnExactOccursUptoRow : OpenClaim := { program := "ytlbofhoehollfaadoor", sum := "ad994e24138ca1f4a18736b76af7cc7ead7e1d90a8efa01535c1a2f1f28c0412", func := "loop.example/g00091/laws.FnExactOccurs", spec := "fnExactOccurs", inPlace := ["internal/bytealg.IndexByteString", "internal/bytealg.IndexString"], unfollowed := true, recurses := true, named := ["unicode/utf8.first", "unicode/utf8.acceptRanges", "internal/bytealg.MaxLen"], loops := true, apart := false, laid := [("unicode/utf8.acceptRanges", laid_unicode_utf8_acceptRanges), ("unicode/utf8.first", laid_unicode_utf8_first)], narrowed := true }
def FnExactOccursUptoSaid : Prop := fnExactOccursUptoRow.holds Tryd.pinned (OpenSpec.upto fnExactOccursSpec)

/-- 'laws.FnExactErase', WHERE WHAT IT READS IS OF BULK AT MOST 1048576: true; the input reads as it did. -/
def fnExactEraseUptoRow : OpenClaim := { program := "ytlbofhoehollfaadoor", sum := "ad994e24138ca1f4a18736b76af7cc7ead7e1d90a8efa01535c1a2f1f28c0412", func := "loop.example/g00091/laws.FnExactErase", spec := "fnExactErase", inPlace := ["internal/bytealg.IndexByteString", "internal/bytealg.IndexString"], recurses := true, named := ["unicode/utf8.first", "unicode/utf8.acceptRanges", "internal/bytealg.MaxLen"], loops := true, apart := false, laid := [("unicode/utf8.acceptRanges", laid_unicode_utf8_acceptRanges), ("unicode/utf8.first", laid_unicode_utf8_first)], narrowed := true }
def FnExactEraseUptoSaid : Prop := fnExactEraseUptoRow.holds Tryd.pinned (OpenSpec.upto fnExactEraseSpec)

/-- 'laws.FnExactLift', WHERE WHAT IT READS IS OF BULK AT MOST 1048576: true; the input reads as it did. -/
def fnExactLiftUptoRow : OpenClaim := { program := "ytlbofhoehollfaadoor", sum := "ad994e24138ca1f4a18736b76af7cc7ead7e1d90a8efa01535c1a2f1f28c0412", func := "loop.example/g00091/laws.FnExactLift", spec := "fnExactLift", inPlace := ["internal/bytealg.IndexByteString", "internal/bytealg.IndexString"], unfollowed := true, recurses := true, named := ["unicode/utf8.first", "unicode/utf8.acceptRanges", "internal/bytealg.MaxLen"], loops := true, apart := false, laid := [("unicode/utf8.acceptRanges", laid_unicode_utf8_acceptRanges), ("unicode/utf8.first", laid_unicode_utf8_first)], narrowed := true }
def FnExactLiftUptoSaid : Prop := fnExactLiftUptoRow.holds Tryd.pinned (OpenSpec.upto fnExactLiftSpec)

/-- 'laws.FnExactLower', WHERE WHAT IT READS IS OF BULK AT MOST 1048576: true; the input reads as it did. -/
def fnExactLowerUptoRow : OpenClaim := { program := "ytlbofhoehollfaadoor", sum := "ad994e24138ca1f4a18736b76af7cc7ead7e1d90a8efa01535c1a2f1f28c0412", func := "loop.example/g00091/laws.FnExactLower", spec := "fnExactLower", inPlace := ["internal/bytealg.IndexByteString", "internal/bytealg.IndexString"], unfollowed := true, recurses := true, named := ["unicode/utf8.first", "unicode/utf8.acceptRanges", "internal/bytealg.MaxLen"], loops := true, apart := false, laid := [("unicode/utf8.acceptRanges", laid_unicode_utf8_acceptRanges), ("unicode/utf8.first", laid_unicode_utf8_first)], narrowed := true }
def FnExactLowerUptoSaid : Prop := fnExactLowerUptoRow.holds Tryd.pinned (OpenSpec.upto fnExactLowerSpec)

end Rows
end Go.Proofs.YtlbofhoehollfaaDoor
