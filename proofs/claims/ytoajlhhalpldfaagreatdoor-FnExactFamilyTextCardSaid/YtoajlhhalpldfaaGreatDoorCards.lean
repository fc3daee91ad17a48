/-
  DERIVED. GIVEN WITH THE SEED: THE CARDS: each row of YtoajlhhalpldfaaGreatDoorRows.lean that lists a variable, with what it lists TIED to the program's text (the seventh form; the later family's looks); each row that meets fmt, with fmt's text TOLD by the authors' own Lean function (tested against real Go, not proved from fmt's source: count such statements apart). THE CARD IS WHAT COUNTS. Prove the row's statement (the work); the ties are given (YtoajlhhalpldfaaGreatDoorTie.lean); close each card by the builder's one call (the guide's Derived/Test/ToyasCard.lean, 'card_holds'). Laid BY PROGRAM, IN A SANDBOX (cutbox-door.mjs). By AI agents, Wed Nov 11 2026. No macro, syntax, notation, axiom, sorry.
-/
import Derived.Test.YtoajlhhalpldfaaGreatDoorRows
import GoSem.ClaimSeven
namespace Go.Proofs.YtoajlhhalpldfaaGreatDoor
namespace Rows

/-- THE TIED CARD OF 'laws.FnReduces'. -/
def fnReducesCard : Claim7 := { stood := { row := fnReducesRow, standIns := [], harness := (true, "eb9f06c0f976d7b703a1d3b1f69b1780f85ba48c43ff68c4a6a8df40144509c0"), looks := true }, kinds := [], alts := [], laidByText := true, laidKinds := [.data, .pinned], laidTests := true, laidLooks := .later }
def FnReducesCardSaid : Prop := Claim7.holds Tryz.pinned (.plain (OpenSpec.ofChange fnReducesSpec)) fnReducesCard

/-- THE TIED CARD OF 'laws.FnExactFamilyText'. -/
def fnExactFamilyTextCard : Claim7 := { stood := { row := fnExactFamilyTextRow, standIns := [], harness := (true, "eb9f06c0f976d7b703a1d3b1f69b1780f85ba48c43ff68c4a6a8df40144509c0"), looks := true }, kinds := [], alts := [], laidByText := true, laidKinds := [.data, .data, .data, .data, .pinned], laidTests := true, laidLooks := .later }
def FnExactFamilyTextCardSaid : Prop := Claim7.holds Tryz.pinned (.plain (OpenSpec.ofChange fnExactFamilyTextSpec)) fnExactFamilyTextCard

/-- THE SECOND FORM's CARD OF 'laws.FnReduces'. -/
def fnReducesUptoCard : Claim7 := { stood := { row := fnReducesUptoRow, standIns := [], harness := (true, "eb9f06c0f976d7b703a1d3b1f69b1780f85ba48c43ff68c4a6a8df40144509c0"), looks := true }, kinds := [], alts := [], laidByText := true, laidKinds := [.data, .pinned], laidTests := true, laidLooks := .later }
def FnReducesUptoCardSaid : Prop := Claim7.holds Tryz.pinned (.plain (OpenSpec.upto fnReducesSpec)) fnReducesUptoCard

/-- THE SECOND FORM's CARD OF 'laws.FnExactFamilyText'. -/
def fnExactFamilyTextUptoCard : Claim7 := { stood := { row := fnExactFamilyTextUptoRow, standIns := [], harness := (true, "eb9f06c0f976d7b703a1d3b1f69b1780f85ba48c43ff68c4a6a8df40144509c0"), looks := true }, kinds := [], alts := [], laidByText := true, laidKinds := [.data, .data, .data, .data, .pinned], laidTests := true, laidLooks := .later }
def FnExactFamilyTextUptoCardSaid : Prop := Claim7.holds Tryz.pinned (.plain (OpenSpec.upto fnExactFamilyTextSpec)) fnExactFamilyTextUptoCard
end Rows
end Go.Proofs.YtoajlhhalpldfaaGreatDoor
