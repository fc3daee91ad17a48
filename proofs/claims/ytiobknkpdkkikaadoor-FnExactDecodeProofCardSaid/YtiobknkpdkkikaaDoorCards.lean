/-
  DERIVED. GIVEN WITH THE SEED: THE CARDS: each row of YtiobknkpdkkikaaDoorRows.lean that lists a variable, with what it lists TIED to the program's text (the seventh form; the later family's looks); each row that meets fmt, with fmt's text TOLD by the authors' own Lean function (tested against real Go, not proved from fmt's source: count such statements apart). THE CARD IS WHAT COUNTS. Prove the row's statement (the work); the ties are given (YtiobknkpdkkikaaDoorTie.lean); close each card by the builder's one call (the guide's Derived/Test/ToyasCard.lean, 'card_holds'). Laid BY PROGRAM, IN A SANDBOX (cutbox-door.mjs). By AI agents, Wed Nov 11 2026. No macro, syntax, notation, axiom, sorry.
-/
import Derived.Test.YtiobknkpdkkikaaDoorRows
import GoSem.ClaimSeven
namespace Go.Proofs.YtiobknkpdkkikaaDoor
namespace Rows

/-- THE TIED CARD OF 'laws.FnExactDecodeProof'. -/
def fnExactDecodeProofCard : Claim7 := { stood := { row := fnExactDecodeProofRow, standIns := [], harness := (true, "780050877ff8da113bc4953e05deb5ce3752fafd87238046a0e2da605aa26ab5"), looks := true }, kinds := [], alts := [], laidByText := true, laidKinds := [.data, .pinned], laidTests := true, laidLooks := .later }
def FnExactDecodeProofCardSaid : Prop := Claim7.holds Tryd.pinned (.plain (OpenSpec.ofChange fnExactDecodeProofSpec)) fnExactDecodeProofCard

/-- THE TIED CARD OF 'laws.FnExactDecodeType'. -/
def fnExactDecodeTypeCard : Claim7 := { stood := { row := fnExactDecodeTypeRow, standIns := [], harness := (true, "780050877ff8da113bc4953e05deb5ce3752fafd87238046a0e2da605aa26ab5"), looks := true }, kinds := [], alts := [], laidByText := true, laidKinds := [.data, .pinned], laidTests := true, laidLooks := .later }
def FnExactDecodeTypeCardSaid : Prop := Claim7.holds Tryd.pinned (.plain (OpenSpec.ofChange fnExactDecodeTypeSpec)) fnExactDecodeTypeCard

/-- THE TIED CARD OF 'laws.FnExactDecodeForm'. -/
def fnExactDecodeFormCard : Claim7 := { stood := { row := fnExactDecodeFormRow, standIns := [], harness := (true, "780050877ff8da113bc4953e05deb5ce3752fafd87238046a0e2da605aa26ab5"), looks := true }, kinds := [], alts := [], laidByText := true, laidKinds := [.data, .pinned], laidTests := true, laidLooks := .later }
def FnExactDecodeFormCardSaid : Prop := Claim7.holds Tryd.pinned (.plain (OpenSpec.ofChange fnExactDecodeFormSpec)) fnExactDecodeFormCard

/-- THE TIED CARD OF 'laws.FnExactLong'. -/
def fnExactLongCard : Claim7 := { stood := { row := fnExactLongRow, standIns := [], harness := (true, "780050877ff8da113bc4953e05deb5ce3752fafd87238046a0e2da605aa26ab5"), looks := true }, kinds := [], alts := [], laidByText := true, laidKinds := [.data, .pinned], laidTests := true, laidLooks := .later }
def FnExactLongCardSaid : Prop := Claim7.holds Tryd.pinned (.plain (OpenSpec.ofChange fnExactLongSpec)) fnExactLongCard

/-- THE TIED CARD OF 'laws.FnExactDecodeExpr'. -/
def fnExactDecodeExprCard : Claim7 := { stood := { row := fnExactDecodeExprRow, standIns := [], harness := (true, "780050877ff8da113bc4953e05deb5ce3752fafd87238046a0e2da605aa26ab5"), looks := true }, kinds := [], alts := [], laidByText := true, laidKinds := [.data, .pinned], laidTests := true, laidLooks := .later }
def FnExactDecodeExprCardSaid : Prop := Claim7.holds Tryd.pinned (.plain (OpenSpec.ofChange fnExactDecodeExprSpec)) fnExactDecodeExprCard

/-- THE TIED CARD OF 'laws.FnExactTermText'. -/
def fnExactTermTextCard : Claim7 := { stood := { row := fnExactTermTextRow, standIns := [], harness := (true, "780050877ff8da113bc4953e05deb5ce3752fafd87238046a0e2da605aa26ab5"), looks := true }, kinds := [], alts := [], laidByText := true, laidKinds := [.data, .data, .data, .data, .pinned], laidTests := true, laidLooks := .later }
def FnExactTermTextCardSaid : Prop := Claim7.holds Tryd.pinned (.plain (OpenSpec.ofChange fnExactTermTextSpec)) fnExactTermTextCard

/-- THE SECOND FORM's CARD OF 'laws.FnExactDecodeProof'. -/
def fnExactDecodeProofUptoCard : Claim7 := { stood := { row := fnExactDecodeProofUptoRow, standIns := [], harness := (true, "780050877ff8da113bc4953e05deb5ce3752fafd87238046a0e2da605aa26ab5"), looks := true }, kinds := [], alts := [], laidByText := true, laidKinds := [.data, .pinned], laidTests := true, laidLooks := .later }
def FnExactDecodeProofUptoCardSaid : Prop := Claim7.holds Tryd.pinned (.plain (OpenSpec.upto fnExactDecodeProofSpec)) fnExactDecodeProofUptoCard

/-- THE SECOND FORM's CARD OF 'laws.FnExactDecodeType'. -/
def fnExactDecodeTypeUptoCard : Claim7 := { stood := { row := fnExactDecodeTypeUptoRow, standIns := [], harness := (true, "780050877ff8da113bc4953e05deb5ce3752fafd87238046a0e2da605aa26ab5"), looks := true }, kinds := [], alts := [], laidByText := true, laidKinds := [.data, .pinned], laidTests := true, laidLooks := .later }
def FnExactDecodeTypeUptoCardSaid : Prop := Claim7.holds Tryd.pinned (.plain (OpenSpec.upto fnExactDecodeTypeSpec)) fnExactDecodeTypeUptoCard

/-- THE SECOND FORM's CARD OF 'laws.FnExactDecodeForm'. -/
def fnExactDecodeFormUptoCard : Claim7 := { stood := { row := fnExactDecodeFormUptoRow, standIns := [], harness := (true, "780050877ff8da113bc4953e05deb5ce3752fafd87238046a0e2da605aa26ab5"), looks := true }, kinds := [], alts := [], laidByText := true, laidKinds := [.data, .pinned], laidTests := true, laidLooks := .later }
def FnExactDecodeFormUptoCardSaid : Prop := Claim7.holds Tryd.pinned (.plain (OpenSpec.upto fnExactDecodeFormSpec)) fnExactDecodeFormUptoCard

/-- THE SECOND FORM's CARD OF 'laws.FnExactLong'. -/
def fnExactLongUptoCard : Claim7 := { stood := { row := fnExactLongUptoRow, standIns := [], harness := (true, "780050877ff8da113bc4953e05deb5ce3752fafd87238046a0e2da605aa26ab5"), looks := true }, kinds := [], alts := [], laidByText := true, laidKinds := [.data, .pinned], laidTests := true, laidLooks := .later }
def FnExactLongUptoCardSaid : Prop := Claim7.holds Tryd.pinned (.plain (OpenSpec.upto fnExactLongSpec)) fnExactLongUptoCard

/-- THE SECOND FORM's CARD OF 'laws.FnExactDecodeExpr'. -/
def fnExactDecodeExprUptoCard : Claim7 := { stood := { row := fnExactDecodeExprUptoRow, standIns := [], harness := (true, "780050877ff8da113bc4953e05deb5ce3752fafd87238046a0e2da605aa26ab5"), looks := true }, kinds := [], alts := [], laidByText := true, laidKinds := [.data, .pinned], laidTests := true, laidLooks := .later }
def FnExactDecodeExprUptoCardSaid : Prop := Claim7.holds Tryd.pinned (.plain (OpenSpec.upto fnExactDecodeExprSpec)) fnExactDecodeExprUptoCard

/-- THE SECOND FORM's CARD OF 'laws.FnExactTermText'. -/
def fnExactTermTextUptoCard : Claim7 := { stood := { row := fnExactTermTextUptoRow, standIns := [], harness := (true, "780050877ff8da113bc4953e05deb5ce3752fafd87238046a0e2da605aa26ab5"), looks := true }, kinds := [], alts := [], laidByText := true, laidKinds := [.data, .data, .data, .data, .pinned], laidTests := true, laidLooks := .later }
def FnExactTermTextUptoCardSaid : Prop := Claim7.holds Tryd.pinned (.plain (OpenSpec.upto fnExactTermTextSpec)) fnExactTermTextUptoCard
end Rows
end Go.Proofs.YtiobknkpdkkikaaDoor
