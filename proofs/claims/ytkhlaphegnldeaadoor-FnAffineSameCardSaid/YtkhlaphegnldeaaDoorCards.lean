/-
  DERIVED. GIVEN WITH THE SEED: THE CARDS: each row of YtkhlaphegnldeaaDoorRows.lean that lists a variable, with what it lists TIED to the program's text (the seventh form; the later family's looks); each row that meets fmt, with fmt's text TOLD by the authors' own Lean function (tested against real Go, not proved from fmt's source: count such statements apart). THE CARD IS WHAT COUNTS. Prove the row's statement (the work); the ties are given (YtkhlaphegnldeaaDoorTie.lean); close each card by the builder's one call (the guide's Derived/Test/ToyasCard.lean, 'card_holds'). Laid BY PROGRAM, IN A SANDBOX (cutbox-door.mjs). By AI agents, Wed Nov 11 2026. No macro, syntax, notation, axiom, sorry.
-/
import Derived.Test.YtkhlaphegnldeaaDoorRows
import GoSem.ClaimSeven
namespace Go.Proofs.YtkhlaphegnldeaaDoor
namespace Rows

/-- THE TIED CARD OF 'laws.FnAffineSame'. -/
def fnAffineSameCard : Claim7 := { stood := { row := fnAffineSameRow, standIns := [], harness := (true, "a8c7aa99539a0b6c59afbf4ab6f356780db905a05244adb4309162e9984e6f6c"), looks := false }, kinds := [], alts := [], laidByText := true, laidKinds := [.data, .data, .data], laidTests := true, laidLooks := .later }
def FnAffineSameCardSaid : Prop := Claim7.holds Tryd.pinned (.plain (OpenSpec.ofChange fnAffineSameSpec)) fnAffineSameCard

/-- THE TIED CARD OF 'laws.FnScaleAffine'. -/
def fnScaleAffineCard : Claim7 := { stood := { row := fnScaleAffineRow, standIns := [], harness := (true, "a8c7aa99539a0b6c59afbf4ab6f356780db905a05244adb4309162e9984e6f6c"), looks := false }, kinds := [], alts := [], laidByText := true, laidKinds := [.data, .data, .data], laidTests := true, laidLooks := .later }
def FnScaleAffineCardSaid : Prop := Claim7.holds Tryd.pinned (.plain (OpenSpec.ofChange fnScaleAffineSpec)) fnScaleAffineCard

/-- THE SECOND FORM's CARD OF 'laws.FnAffineSame'. -/
def fnAffineSameUptoCard : Claim7 := { stood := { row := fnAffineSameUptoRow, standIns := [], harness := (true, "a8c7aa99539a0b6c59afbf4ab6f356780db905a05244adb4309162e9984e6f6c"), looks := false }, kinds := [], alts := [], laidByText := true, laidKinds := [.data, .data, .data], laidTests := true, laidLooks := .later }
def FnAffineSameUptoCardSaid : Prop := Claim7.holds Tryd.pinned (.plain (OpenSpec.upto fnAffineSameSpec)) fnAffineSameUptoCard

/-- THE SECOND FORM's CARD OF 'laws.FnScaleAffine'. -/
def fnScaleAffineUptoCard : Claim7 := { stood := { row := fnScaleAffineUptoRow, standIns := [], harness := (true, "a8c7aa99539a0b6c59afbf4ab6f356780db905a05244adb4309162e9984e6f6c"), looks := false }, kinds := [], alts := [], laidByText := true, laidKinds := [.data, .data, .data], laidTests := true, laidLooks := .later }
def FnScaleAffineUptoCardSaid : Prop := Claim7.holds Tryd.pinned (.plain (OpenSpec.upto fnScaleAffineSpec)) fnScaleAffineUptoCard
end Rows
end Go.Proofs.YtkhlaphegnldeaaDoor
