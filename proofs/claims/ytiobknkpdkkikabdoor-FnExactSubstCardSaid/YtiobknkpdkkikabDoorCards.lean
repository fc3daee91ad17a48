/-
  DERIVED. GIVEN WITH THE SEED: THE CARDS: each row of YtiobknkpdkkikabDoorRows.lean that lists a variable, with what it lists TIED to the program's text (the seventh form; the later family's looks); each row that meets fmt, with fmt's text TOLD by the authors' own Lean function (tested against real Go, not proved from fmt's source: count such statements apart). THE CARD IS WHAT COUNTS. Prove the row's statement (the work); the ties are given (YtiobknkpdkkikabDoorTie.lean); close each card by the builder's one call (the guide's Derived/Test/ToyasCard.lean, 'card_holds'). Laid BY PROGRAM, IN A SANDBOX (cutbox-door.mjs). By AI agents, Wed Nov 11 2026. No macro, syntax, notation, axiom, sorry.
-/
import Derived.Test.YtiobknkpdkkikabDoorRows
import GoSem.ClaimSeven
namespace Go.Proofs.YtiobknkpdkkikabDoor
namespace Rows

/-- THE TIED CARD OF 'laws.FnExactReduce'. -/
def fnExactReduceCard : Claim7 := { stood := { row := fnExactReduceRow, standIns := [], harness := (true, "8071d36084648d7052085f42eaff20f1ac07342244346f51337bcf7d28e7b8e3"), looks := true }, kinds := [], alts := [], laidByText := true, laidKinds := [.data, .pinned], laidTests := true, laidLooks := .later }
def FnExactReduceCardSaid : Prop := Claim7.holds Tryd.pinned (.plain (OpenSpec.ofChange fnExactReduceSpec)) fnExactReduceCard

/-- THE TIED CARD OF 'laws.FnExactSubst'. -/
def fnExactSubstCard : Claim7 := { stood := { row := fnExactSubstRow, standIns := [], harness := (true, "8071d36084648d7052085f42eaff20f1ac07342244346f51337bcf7d28e7b8e3"), looks := true }, kinds := [], alts := [], laidByText := true, laidKinds := [.data, .pinned], laidTests := true, laidLooks := .later }
def FnExactSubstCardSaid : Prop := Claim7.holds Tryd.pinned (.plain (OpenSpec.ofChange fnExactSubstSpec)) fnExactSubstCard

/-- THE SECOND FORM's CARD OF 'laws.FnExactReduce'. -/
def fnExactReduceUptoCard : Claim7 := { stood := { row := fnExactReduceUptoRow, standIns := [], harness := (true, "8071d36084648d7052085f42eaff20f1ac07342244346f51337bcf7d28e7b8e3"), looks := true }, kinds := [], alts := [], laidByText := true, laidKinds := [.data, .pinned], laidTests := true, laidLooks := .later }
def FnExactReduceUptoCardSaid : Prop := Claim7.holds Tryd.pinned (.plain (OpenSpec.upto fnExactReduceSpec)) fnExactReduceUptoCard

/-- THE SECOND FORM's CARD OF 'laws.FnExactSubst'. -/
def fnExactSubstUptoCard : Claim7 := { stood := { row := fnExactSubstUptoRow, standIns := [], harness := (true, "8071d36084648d7052085f42eaff20f1ac07342244346f51337bcf7d28e7b8e3"), looks := true }, kinds := [], alts := [], laidByText := true, laidKinds := [.data, .pinned], laidTests := true, laidLooks := .later }
def FnExactSubstUptoCardSaid : Prop := Claim7.holds Tryd.pinned (.plain (OpenSpec.upto fnExactSubstSpec)) fnExactSubstUptoCard
end Rows
end Go.Proofs.YtiobknkpdkkikabDoor
