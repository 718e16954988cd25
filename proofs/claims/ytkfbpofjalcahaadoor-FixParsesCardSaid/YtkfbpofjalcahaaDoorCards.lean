/-
  DERIVED. GIVEN WITH THE SEED: THE CARDS: each row of YtkfbpofjalcahaaDoorRows.lean that lists a variable, with what it lists TIED to the program's text (the seventh form; the later family's looks); each row that meets fmt, with fmt's text TOLD by the authors' own Lean function (tested against real Go, not proved from fmt's source: count such statements apart). THE CARD IS WHAT COUNTS. Prove the row's statement (the work); the ties are given (YtkfbpofjalcahaaDoorTie.lean); close each card by the builder's one call (the guide's Derived/Test/ToyasCard.lean, 'card_holds'). Laid BY PROGRAM, IN A SANDBOX (cutbox-door.mjs). By AI agents, Wed Nov 11 2026. No macro, syntax, notation, axiom, sorry.
-/
import Derived.Test.YtkfbpofjalcahaaDoorRows
import GoSem.ClaimSeven
namespace Go.Proofs.YtkfbpofjalcahaaDoor
namespace Rows

/-- THE TIED CARD OF 'odometerlaw01.FixParses'. -/
def fixParsesCard : Claim7 := { stood := { row := fixParsesRow, standIns := [], harness := (true, "f2735eb41438e2a2adf3c1d0783a8f82c45281ef12c8374a4e88424de0d4fb62"), looks := true }, kinds := [], alts := [], laidByText := true, laidKinds := [.data, .data, .data, .data, .sentinel, .sentinel, .pinned], laidTests := true, laidLooks := .later }
def FixParsesCardSaid : Prop := Claim7.holds Tryd.pinned (.plain (OpenSpec.ofChange fixParsesSpec)) fixParsesCard

/-- THE SECOND FORM's CARD OF 'odometerlaw01.FixParses'. -/
def fixParsesUptoCard : Claim7 := { stood := { row := fixParsesUptoRow, standIns := [], harness := (true, "f2735eb41438e2a2adf3c1d0783a8f82c45281ef12c8374a4e88424de0d4fb62"), looks := true }, kinds := [], alts := [], laidByText := true, laidKinds := [.data, .data, .data, .data, .sentinel, .sentinel, .pinned], laidTests := true, laidLooks := .later }
def FixParsesUptoCardSaid : Prop := Claim7.holds Tryd.pinned (.plain (OpenSpec.upto fixParsesSpec)) fixParsesUptoCard
end Rows
end Go.Proofs.YtkfbpofjalcahaaDoor
