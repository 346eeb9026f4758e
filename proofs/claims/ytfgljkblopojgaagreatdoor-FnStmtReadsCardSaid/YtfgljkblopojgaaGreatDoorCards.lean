/-
  DERIVED. GIVEN WITH THE SEED: THE CARDS: each row of YtfgljkblopojgaaGreatDoorRows.lean that lists a variable, with what it lists TIED to the program's text (the seventh form; the later family's looks); each row that meets fmt, with fmt's text TOLD by the authors' own Lean function (tested against real Go, not proved from fmt's source: count such statements apart). THE CARD IS WHAT COUNTS. Prove the row's statement (the work); the ties are given (YtfgljkblopojgaaGreatDoorTie.lean); close each card by the builder's one call (the guide's Derived/Test/ToyasCard.lean, 'card_holds'). Laid BY PROGRAM, IN A SANDBOX (cutbox-door.mjs). By AI agents, Wed Nov 11 2026. No macro, syntax, notation, axiom, sorry.
-/
import Derived.Test.YtfgljkblopojgaaGreatDoorRows
import GoSem.ClaimSeven
namespace Go.Proofs.YtfgljkblopojgaaGreatDoor
namespace Rows

/-- THE TIED CARD OF 'laws.FnStmtSame'. -/
def fnStmtSameCard : Claim7 := { stood := { row := fnStmtSameRow, standIns := [], harness := (true, "e6cf0f10bcfe772fe3af7cd362ba6cc3c6ecbf1f6459212dcfba166e356cdeb1"), looks := false }, kinds := [], alts := [], laidByText := true, laidKinds := [.data, .data, .data], laidTests := true, laidLooks := .later }
def FnStmtSameCardSaid : Prop := Claim7.holds Tryz.pinned (.plain (OpenSpec.ofChange fnStmtSameSpec)) fnStmtSameCard

/-- THE TIED CARD OF 'laws.FnStmtReads'. -/
def fnStmtReadsCard : Claim7 := { stood := { row := fnStmtReadsRow, standIns := [], harness := (true, "e6cf0f10bcfe772fe3af7cd362ba6cc3c6ecbf1f6459212dcfba166e356cdeb1"), looks := false }, kinds := [], alts := [], laidByText := true, laidKinds := [.data, .data, .data], laidTests := true, laidLooks := .later }
def FnStmtReadsCardSaid : Prop := Claim7.holds Tryz.pinned (.plain (OpenSpec.ofChange fnStmtReadsSpec)) fnStmtReadsCard

/-- THE SECOND FORM's CARD OF 'laws.FnStmtSame'. -/
def fnStmtSameUptoCard : Claim7 := { stood := { row := fnStmtSameUptoRow, standIns := [], harness := (true, "e6cf0f10bcfe772fe3af7cd362ba6cc3c6ecbf1f6459212dcfba166e356cdeb1"), looks := false }, kinds := [], alts := [], laidByText := true, laidKinds := [.data, .data, .data], laidTests := true, laidLooks := .later }
def FnStmtSameUptoCardSaid : Prop := Claim7.holds Tryz.pinned (.plain (OpenSpec.upto fnStmtSameSpec)) fnStmtSameUptoCard

/-- THE SECOND FORM's CARD OF 'laws.FnStmtReads'. -/
def fnStmtReadsUptoCard : Claim7 := { stood := { row := fnStmtReadsUptoRow, standIns := [], harness := (true, "e6cf0f10bcfe772fe3af7cd362ba6cc3c6ecbf1f6459212dcfba166e356cdeb1"), looks := false }, kinds := [], alts := [], laidByText := true, laidKinds := [.data, .data, .data], laidTests := true, laidLooks := .later }
def FnStmtReadsUptoCardSaid : Prop := Claim7.holds Tryz.pinned (.plain (OpenSpec.upto fnStmtReadsSpec)) fnStmtReadsUptoCard
end Rows
end Go.Proofs.YtfgljkblopojgaaGreatDoor
