/-
  DERIVED. GIVEN WITH THE SEED: THE CARDS: each row of YtlbofhoehollfaaDoorRows.lean that lists a variable, with what it lists TIED to the program's text (the seventh form; the later family's looks); each row that meets fmt, with fmt's text TOLD by the authors' own Lean function (tested against real Go, not proved from fmt's source: count such statements apart). THE CARD IS WHAT COUNTS. Prove the row's statement (the work); the ties are given (YtlbofhoehollfaaDoorTie.lean); close each card by the builder's one call (the guide's Derived/Test/ToyasCard.lean, 'card_holds'). Laid BY PROGRAM, IN A SANDBOX (cutbox-door.mjs). By AI agents, Wed Nov 11 2026. No macro, syntax, notation, axiom, sorry.
-/
import Derived.Test.YtlbofhoehollfaaDoorRows
import GoSem.ClaimSeven
namespace Go.Proofs.YtlbofhoehollfaaDoor
namespace Rows

/-- THE TIED CARD OF 'laws.FnExactNameOK'. -/
def fnExactNameOKCard : Claim7 := { stood := { row := fnExactNameOKRow, standIns := [], harness := (true, "ebdea459bf3d8322c22cd8aa80490b0a2afa96ed6337dbac254aa1c596988c17"), looks := false }, kinds := [], alts := [], laidByText := true, laidKinds := [.data, .pinned], laidTests := true, laidLooks := .later }
def FnExactNameOKCardSaid : Prop := Claim7.holds Tryd.pinned (.plain (OpenSpec.ofChange fnExactNameOKSpec)) fnExactNameOKCard

/-- THE TIED CARD OF 'laws.FnExactCodeWord'. -/
def fnExactCodeWordCard : Claim7 := { stood := { row := fnExactCodeWordRow, standIns := [], harness := (true, "ebdea459bf3d8322c22cd8aa80490b0a2afa96ed6337dbac254aa1c596988c17"), looks := false }, kinds := [], alts := [], laidByText := true, laidKinds := [.data, .pinned], laidTests := true, laidLooks := .later }
def FnExactCodeWordCardSaid : Prop := Claim7.holds Tryd.pinned (.plain (OpenSpec.ofChange fnExactCodeWordSpec)) fnExactCodeWordCard

/-- THE TIED CARD OF 'laws.FnExactCodeOf'. -/
def fnExactCodeOfCard : Claim7 := { stood := { row := fnExactCodeOfRow, standIns := [], harness := (true, "ebdea459bf3d8322c22cd8aa80490b0a2afa96ed6337dbac254aa1c596988c17"), looks := false }, kinds := [], alts := [], laidByText := true, laidKinds := [.data, .pinned], laidTests := true, laidLooks := .later }
def FnExactCodeOfCardSaid : Prop := Claim7.holds Tryd.pinned (.plain (OpenSpec.ofChange fnExactCodeOfSpec)) fnExactCodeOfCard

/-- THE TIED CARD OF 'laws.FnExactSimpleOK'. -/
def fnExactSimpleOKCard : Claim7 := { stood := { row := fnExactSimpleOKRow, standIns := [], harness := (true, "ebdea459bf3d8322c22cd8aa80490b0a2afa96ed6337dbac254aa1c596988c17"), looks := false }, kinds := [], alts := [], laidByText := true, laidKinds := [.data, .pinned], laidTests := true, laidLooks := .later }
def FnExactSimpleOKCardSaid : Prop := Claim7.holds Tryd.pinned (.plain (OpenSpec.ofChange fnExactSimpleOKSpec)) fnExactSimpleOKCard

/-- THE TIED CARD OF 'laws.FnExactTermOK'. -/
def fnExactTermOKCard : Claim7 := { stood := { row := fnExactTermOKRow, standIns := [], harness := (true, "ebdea459bf3d8322c22cd8aa80490b0a2afa96ed6337dbac254aa1c596988c17"), looks := false }, kinds := [], alts := [], laidByText := true, laidKinds := [.data, .pinned], laidTests := true, laidLooks := .later }
def FnExactTermOKCardSaid : Prop := Claim7.holds Tryd.pinned (.plain (OpenSpec.ofChange fnExactTermOKSpec)) fnExactTermOKCard

/-- THE TIED CARD OF 'laws.FnExactFamilyOK'. -/
def fnExactFamilyOKCard : Claim7 := { stood := { row := fnExactFamilyOKRow, standIns := [], harness := (true, "ebdea459bf3d8322c22cd8aa80490b0a2afa96ed6337dbac254aa1c596988c17"), looks := false }, kinds := [], alts := [], laidByText := true, laidKinds := [.data, .pinned], laidTests := true, laidLooks := .later }
def FnExactFamilyOKCardSaid : Prop := Claim7.holds Tryd.pinned (.plain (OpenSpec.ofChange fnExactFamilyOKSpec)) fnExactFamilyOKCard

/-- THE TIED CARD OF 'laws.FnExactKindOK'. -/
def fnExactKindOKCard : Claim7 := { stood := { row := fnExactKindOKRow, standIns := [], harness := (true, "ebdea459bf3d8322c22cd8aa80490b0a2afa96ed6337dbac254aa1c596988c17"), looks := false }, kinds := [], alts := [], laidByText := true, laidKinds := [.data, .pinned], laidTests := true, laidLooks := .later }
def FnExactKindOKCardSaid : Prop := Claim7.holds Tryd.pinned (.plain (OpenSpec.ofChange fnExactKindOKSpec)) fnExactKindOKCard

/-- THE TIED CARD OF 'laws.FnExactSourceOK'. -/
def fnExactSourceOKCard : Claim7 := { stood := { row := fnExactSourceOKRow, standIns := [], harness := (true, "ebdea459bf3d8322c22cd8aa80490b0a2afa96ed6337dbac254aa1c596988c17"), looks := false }, kinds := [], alts := [], laidByText := true, laidKinds := [.data, .pinned], laidTests := true, laidLooks := .later }
def FnExactSourceOKCardSaid : Prop := Claim7.holds Tryd.pinned (.plain (OpenSpec.ofChange fnExactSourceOKSpec)) fnExactSourceOKCard

/-- THE TIED CARD OF 'laws.FnExactOccurs'. -/
def fnExactOccursCard : Claim7 := { stood := { row := fnExactOccursRow, standIns := [], harness := (true, "ebdea459bf3d8322c22cd8aa80490b0a2afa96ed6337dbac254aa1c596988c17"), looks := false }, kinds := [], alts := [], laidByText := true, laidKinds := [.data, .pinned], laidTests := true, laidLooks := .later }
def FnExactOccursCardSaid : Prop := Claim7.holds Tryd.pinned (.plain (OpenSpec.ofChange fnExactOccursSpec)) fnExactOccursCard

/-- THE TIED CARD OF 'laws.FnExactErase'. -/
def fnExactEraseCard : Claim7 := { stood := { row := fnExactEraseRow, standIns := [], harness := (true, "ebdea459bf3d8322c22cd8aa80490b0a2afa96ed6337dbac254aa1c596988c17"), looks := false }, kinds := [], alts := [], laidByText := true, laidKinds := [.data, .pinned], laidTests := true, laidLooks := .later }
def FnExactEraseCardSaid : Prop := Claim7.holds Tryd.pinned (.plain (OpenSpec.ofChange fnExactEraseSpec)) fnExactEraseCard

/-- THE TIED CARD OF 'laws.FnExactLift'. -/
def fnExactLiftCard : Claim7 := { stood := { row := fnExactLiftRow, standIns := [], harness := (true, "ebdea459bf3d8322c22cd8aa80490b0a2afa96ed6337dbac254aa1c596988c17"), looks := false }, kinds := [], alts := [], laidByText := true, laidKinds := [.data, .pinned], laidTests := true, laidLooks := .later }
def FnExactLiftCardSaid : Prop := Claim7.holds Tryd.pinned (.plain (OpenSpec.ofChange fnExactLiftSpec)) fnExactLiftCard

/-- THE TIED CARD OF 'laws.FnExactLower'. -/
def fnExactLowerCard : Claim7 := { stood := { row := fnExactLowerRow, standIns := [], harness := (true, "ebdea459bf3d8322c22cd8aa80490b0a2afa96ed6337dbac254aa1c596988c17"), looks := false }, kinds := [], alts := [], laidByText := true, laidKinds := [.data, .pinned], laidTests := true, laidLooks := .later }
def FnExactLowerCardSaid : Prop := Claim7.holds Tryd.pinned (.plain (OpenSpec.ofChange fnExactLowerSpec)) fnExactLowerCard

/-- THE SECOND FORM's CARD OF 'laws.FnExactNameOK'. -/
def fnExactNameOKUptoCard : Claim7 := { stood := { row := fnExactNameOKUptoRow, standIns := [], harness := (true, "ebdea459bf3d8322c22cd8aa80490b0a2afa96ed6337dbac254aa1c596988c17"), looks := false }, kinds := [], alts := [], laidByText := true, laidKinds := [.data, .pinned], laidTests := true, laidLooks := .later }
def FnExactNameOKUptoCardSaid : Prop := Claim7.holds Tryd.pinned (.plain (OpenSpec.upto fnExactNameOKSpec)) fnExactNameOKUptoCard

/-- THE SECOND FORM's CARD OF 'laws.FnExactCodeWord'. -/
def fnExactCodeWordUptoCard : Claim7 := { stood := { row := fnExactCodeWordUptoRow, standIns := [], harness := (true, "ebdea459bf3d8322c22cd8aa80490b0a2afa96ed6337dbac254aa1c596988c17"), looks := false }, kinds := [], alts := [], laidByText := true, laidKinds := [.data, .pinned], laidTests := true, laidLooks := .later }
def FnExactCodeWordUptoCardSaid : Prop := Claim7.holds Tryd.pinned (.plain (OpenSpec.upto fnExactCodeWordSpec)) fnExactCodeWordUptoCard

/-- THE SECOND FORM's CARD OF 'laws.FnExactCodeOf'. -/
def fnExactCodeOfUptoCard : Claim7 := { stood := { row := fnExactCodeOfUptoRow, standIns := [], harness := (true, "ebdea459bf3d8322c22cd8aa80490b0a2afa96ed6337dbac254aa1c596988c17"), looks := false }, kinds := [], alts := [], laidByText := true, laidKinds := [.data, .pinned], laidTests := true, laidLooks := .later }
def FnExactCodeOfUptoCardSaid : Prop := Claim7.holds Tryd.pinned (.plain (OpenSpec.upto fnExactCodeOfSpec)) fnExactCodeOfUptoCard

/-- THE SECOND FORM's CARD OF 'laws.FnExactSimpleOK'. -/
def fnExactSimpleOKUptoCard : Claim7 := { stood := { row := fnExactSimpleOKUptoRow, standIns := [], harness := (true, "ebdea459bf3d8322c22cd8aa80490b0a2afa96ed6337dbac254aa1c596988c17"), looks := false }, kinds := [], alts := [], laidByText := true, laidKinds := [.data, .pinned], laidTests := true, laidLooks := .later }
def FnExactSimpleOKUptoCardSaid : Prop := Claim7.holds Tryd.pinned (.plain (OpenSpec.upto fnExactSimpleOKSpec)) fnExactSimpleOKUptoCard

/-- THE SECOND FORM's CARD OF 'laws.FnExactTermOK'. -/
def fnExactTermOKUptoCard : Claim7 := { stood := { row := fnExactTermOKUptoRow, standIns := [], harness := (true, "ebdea459bf3d8322c22cd8aa80490b0a2afa96ed6337dbac254aa1c596988c17"), looks := false }, kinds := [], alts := [], laidByText := true, laidKinds := [.data, .pinned], laidTests := true, laidLooks := .later }
def FnExactTermOKUptoCardSaid : Prop := Claim7.holds Tryd.pinned (.plain (OpenSpec.upto fnExactTermOKSpec)) fnExactTermOKUptoCard

/-- THE SECOND FORM's CARD OF 'laws.FnExactFamilyOK'. -/
def fnExactFamilyOKUptoCard : Claim7 := { stood := { row := fnExactFamilyOKUptoRow, standIns := [], harness := (true, "ebdea459bf3d8322c22cd8aa80490b0a2afa96ed6337dbac254aa1c596988c17"), looks := false }, kinds := [], alts := [], laidByText := true, laidKinds := [.data, .pinned], laidTests := true, laidLooks := .later }
def FnExactFamilyOKUptoCardSaid : Prop := Claim7.holds Tryd.pinned (.plain (OpenSpec.upto fnExactFamilyOKSpec)) fnExactFamilyOKUptoCard

/-- THE SECOND FORM's CARD OF 'laws.FnExactKindOK'. -/
def fnExactKindOKUptoCard : Claim7 := { stood := { row := fnExactKindOKUptoRow, standIns := [], harness := (true, "ebdea459bf3d8322c22cd8aa80490b0a2afa96ed6337dbac254aa1c596988c17"), looks := false }, kinds := [], alts := [], laidByText := true, laidKinds := [.data, .pinned], laidTests := true, laidLooks := .later }
def FnExactKindOKUptoCardSaid : Prop := Claim7.holds Tryd.pinned (.plain (OpenSpec.upto fnExactKindOKSpec)) fnExactKindOKUptoCard

/-- THE SECOND FORM's CARD OF 'laws.FnExactSourceOK'. -/
def fnExactSourceOKUptoCard : Claim7 := { stood := { row := fnExactSourceOKUptoRow, standIns := [], harness := (true, "ebdea459bf3d8322c22cd8aa80490b0a2afa96ed6337dbac254aa1c596988c17"), looks := false }, kinds := [], alts := [], laidByText := true, laidKinds := [.data, .pinned], laidTests := true, laidLooks := .later }
def FnExactSourceOKUptoCardSaid : Prop := Claim7.holds Tryd.pinned (.plain (OpenSpec.upto fnExactSourceOKSpec)) fnExactSourceOKUptoCard

/-- THE SECOND FORM's CARD OF 'laws.FnExactOccurs'. -/
def fnExactOccursUptoCard : Claim7 := { stood := { row := fnExactOccursUptoRow, standIns := [], harness := (true, "ebdea459bf3d8322c22cd8aa80490b0a2afa96ed6337dbac254aa1c596988c17"), looks := false }, kinds := [], alts := [], laidByText := true, laidKinds := [.data, .pinned], laidTests := true, laidLooks := .later }
def FnExactOccursUptoCardSaid : Prop := Claim7.holds Tryd.pinned (.plain (OpenSpec.upto fnExactOccursSpec)) fnExactOccursUptoCard

/-- THE SECOND FORM's CARD OF 'laws.FnExactErase'. -/
def fnExactEraseUptoCard : Claim7 := { stood := { row := fnExactEraseUptoRow, standIns := [], harness := (true, "ebdea459bf3d8322c22cd8aa80490b0a2afa96ed6337dbac254aa1c596988c17"), looks := false }, kinds := [], alts := [], laidByText := true, laidKinds := [.data, .pinned], laidTests := true, laidLooks := .later }
def FnExactEraseUptoCardSaid : Prop := Claim7.holds Tryd.pinned (.plain (OpenSpec.upto fnExactEraseSpec)) fnExactEraseUptoCard

/-- THE SECOND FORM's CARD OF 'laws.FnExactLift'. -/
def fnExactLiftUptoCard : Claim7 := { stood := { row := fnExactLiftUptoRow, standIns := [], harness := (true, "ebdea459bf3d8322c22cd8aa80490b0a2afa96ed6337dbac254aa1c596988c17"), looks := false }, kinds := [], alts := [], laidByText := true, laidKinds := [.data, .pinned], laidTests := true, laidLooks := .later }
def FnExactLiftUptoCardSaid : Prop := Claim7.holds Tryd.pinned (.plain (OpenSpec.upto fnExactLiftSpec)) fnExactLiftUptoCard

/-- THE SECOND FORM's CARD OF 'laws.FnExactLower'. -/
def fnExactLowerUptoCard : Claim7 := { stood := { row := fnExactLowerUptoRow, standIns := [], harness := (true, "ebdea459bf3d8322c22cd8aa80490b0a2afa96ed6337dbac254aa1c596988c17"), looks := false }, kinds := [], alts := [], laidByText := true, laidKinds := [.data, .pinned], laidTests := true, laidLooks := .later }
def FnExactLowerUptoCardSaid : Prop := Claim7.holds Tryd.pinned (.plain (OpenSpec.upto fnExactLowerSpec)) fnExactLowerUptoCard
end Rows
end Go.Proofs.YtlbofhoehollfaaDoor
