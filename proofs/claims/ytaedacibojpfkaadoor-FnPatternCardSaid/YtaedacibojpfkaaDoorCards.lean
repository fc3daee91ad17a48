/-
  DERIVED. GIVEN WITH THE SEED: THE CARDS: each row of YtaedacibojpfkaaDoorRows.lean that lists a variable, with what it lists TIED to the program's text (the seventh form; the later family's looks); each row that meets fmt, with fmt's text TOLD by the authors' own Lean function (tested against real Go, not proved from fmt's source: count such statements apart). THE CARD IS WHAT COUNTS. Prove the row's statement (the work); the ties are given (YtaedacibojpfkaaDoorTie.lean); close each card by the builder's one call (the guide's Derived/Test/ToyasCard.lean, 'card_holds'). Laid BY PROGRAM, IN A SANDBOX (cutbox-door.mjs). By AI agents, Wed Nov 11 2026. No macro, syntax, notation, axiom, sorry.
-/
import Derived.Test.YtaedacibojpfkaaDoorRows
import GoSem.ClaimSeven
namespace Go.Proofs.YtaedacibojpfkaaDoor
namespace Rows

/-- THE TIED CARD OF 'laws.FnLifts'. -/
def fnLiftsCard : Claim7 := { stood := { row := fnLiftsRow, standIns := [], harness := (true, "3dee77b2478178212c499f5906ffb2c870cefee0fe85643239ce98fa24bd1278"), looks := true }, kinds := [], alts := [], laidByText := true, laidKinds := [.data, .pinned], laidTests := true, laidLooks := .later }
def FnLiftsCardSaid : Prop := Claim7.holds Tryd.pinned (.plain (OpenSpec.ofChange fnLiftsSpec)) fnLiftsCard

/-- THE TIED CARD OF 'laws.FnExactTermText'. -/
def fnExactTermTextCard : Claim7 := { stood := { row := fnExactTermTextRow, standIns := [], harness := (true, "3dee77b2478178212c499f5906ffb2c870cefee0fe85643239ce98fa24bd1278"), looks := true }, kinds := [], alts := [], laidByText := true, laidKinds := [.data, .data, .data, .data, .pinned], laidTests := true, laidLooks := .later }
def FnExactTermTextCardSaid : Prop := Claim7.holds Tryd.pinned (.plain (OpenSpec.ofChange fnExactTermTextSpec)) fnExactTermTextCard

/-- THE TIED CARD OF 'laws.FnPattern'. -/
def fnPatternCard : Claim7 := { stood := { row := fnPatternRow, standIns := [], harness := (true, "3dee77b2478178212c499f5906ffb2c870cefee0fe85643239ce98fa24bd1278"), looks := true }, kinds := [], alts := [], laidByText := true, laidKinds := [.data, .pinned], laidTests := true, laidLooks := .later }
def FnPatternCardSaid : Prop := Claim7.holds Tryd.pinned (.plain (OpenSpec.ofChange fnPatternSpec)) fnPatternCard

/-- THE TIED CARD OF 'laws.FnSelf'. -/
def fnSelfCard : Claim7 := { stood := { row := fnSelfRow, standIns := [], harness := (true, "3dee77b2478178212c499f5906ffb2c870cefee0fe85643239ce98fa24bd1278"), looks := true }, kinds := [], alts := [], laidByText := true, laidKinds := [.data, .pinned], laidTests := true, laidLooks := .later }
def FnSelfCardSaid : Prop := Claim7.holds Tryd.pinned (.plain (OpenSpec.ofChange fnSelfSpec)) fnSelfCard

/-- THE TIED CARD OF 'laws.FnConsts'. -/
def fnConstsCard : Claim7 := { stood := { row := fnConstsRow, standIns := [], harness := (true, "3dee77b2478178212c499f5906ffb2c870cefee0fe85643239ce98fa24bd1278"), looks := true }, kinds := [], alts := [], laidByText := true, laidKinds := [.data, .pinned], laidTests := true, laidLooks := .later }
def FnConstsCardSaid : Prop := Claim7.holds Tryd.pinned (.plain (OpenSpec.ofChange fnConstsSpec)) fnConstsCard

/-- THE SECOND FORM's CARD OF 'laws.FnLifts'. -/
def fnLiftsUptoCard : Claim7 := { stood := { row := fnLiftsUptoRow, standIns := [], harness := (true, "3dee77b2478178212c499f5906ffb2c870cefee0fe85643239ce98fa24bd1278"), looks := true }, kinds := [], alts := [], laidByText := true, laidKinds := [.data, .pinned], laidTests := true, laidLooks := .later }
def FnLiftsUptoCardSaid : Prop := Claim7.holds Tryd.pinned (.plain (OpenSpec.upto fnLiftsSpec)) fnLiftsUptoCard

/-- THE SECOND FORM's CARD OF 'laws.FnExactTermText'. -/
def fnExactTermTextUptoCard : Claim7 := { stood := { row := fnExactTermTextUptoRow, standIns := [], harness := (true, "3dee77b2478178212c499f5906ffb2c870cefee0fe85643239ce98fa24bd1278"), looks := true }, kinds := [], alts := [], laidByText := true, laidKinds := [.data, .data, .data, .data, .pinned], laidTests := true, laidLooks := .later }
def FnExactTermTextUptoCardSaid : Prop := Claim7.holds Tryd.pinned (.plain (OpenSpec.upto fnExactTermTextSpec)) fnExactTermTextUptoCard

/-- THE SECOND FORM's CARD OF 'laws.FnPattern'. -/
def fnPatternUptoCard : Claim7 := { stood := { row := fnPatternUptoRow, standIns := [], harness := (true, "3dee77b2478178212c499f5906ffb2c870cefee0fe85643239ce98fa24bd1278"), looks := true }, kinds := [], alts := [], laidByText := true, laidKinds := [.data, .pinned], laidTests := true, laidLooks := .later }
def FnPatternUptoCardSaid : Prop := Claim7.holds Tryd.pinned (.plain (OpenSpec.upto fnPatternSpec)) fnPatternUptoCard

/-- THE SECOND FORM's CARD OF 'laws.FnSelf'. -/
def fnSelfUptoCard : Claim7 := { stood := { row := fnSelfUptoRow, standIns := [], harness := (true, "3dee77b2478178212c499f5906ffb2c870cefee0fe85643239ce98fa24bd1278"), looks := true }, kinds := [], alts := [], laidByText := true, laidKinds := [.data, .pinned], laidTests := true, laidLooks := .later }
def FnSelfUptoCardSaid : Prop := Claim7.holds Tryd.pinned (.plain (OpenSpec.upto fnSelfSpec)) fnSelfUptoCard

/-- THE SECOND FORM's CARD OF 'laws.FnConsts'. -/
def fnConstsUptoCard : Claim7 := { stood := { row := fnConstsUptoRow, standIns := [], harness := (true, "3dee77b2478178212c499f5906ffb2c870cefee0fe85643239ce98fa24bd1278"), looks := true }, kinds := [], alts := [], laidByText := true, laidKinds := [.data, .pinned], laidTests := true, laidLooks := .later }
def FnConstsUptoCardSaid : Prop := Claim7.holds Tryd.pinned (.plain (OpenSpec.upto fnConstsSpec)) fnConstsUptoCard
end Rows
end Go.Proofs.YtaedacibojpfkaaDoor
