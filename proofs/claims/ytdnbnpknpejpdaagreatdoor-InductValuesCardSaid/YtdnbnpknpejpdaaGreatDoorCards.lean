/-
  DERIVED. GIVEN WITH THE SEED: THE CARDS: each row of YtdnbnpknpejpdaaGreatDoorRows.lean that lists a variable, with what it lists TIED to the program's text (the seventh form; the later family's looks); each row that meets fmt, with fmt's text TOLD by the authors' own Lean function (tested against real Go, not proved from fmt's source: count such statements apart). THE CARD IS WHAT COUNTS. Prove the row's statement (the work); the ties are given (YtdnbnpknpejpdaaGreatDoorTie.lean); close each card by the builder's one call (the guide's Derived/Test/ToyasCard.lean, 'card_holds'). Laid BY PROGRAM, IN A SANDBOX (cutbox-door.mjs). By AI agents, Wed Nov 11 2026. No macro, syntax, notation, axiom, sorry.
-/
import Derived.Test.YtdnbnpknpejpdaaGreatDoorRows
import GoSem.ClaimSeven
namespace Go.Proofs.YtdnbnpknpejpdaaGreatDoor
namespace Rows

/-- THE TIED CARD OF 'swardlaw22.InductValues'. -/
def inductValuesCard : Claim7 := { stood := { row := inductValuesRow, standIns := [], harness := (true, "fbc040df7e5eef4dac345eb94083d4a6828e7cf304df31545402b86c962c7ff3"), looks := true }, kinds := [], alts := [], laidByText := true, laidKinds := [.data, .data, .data, .listed, .data], laidTests := true, laidLooks := .later }
def InductValuesCardSaid : Prop := Claim7.holds Tryz.pinned (.plain (OpenSpec.ofChange inductValuesSpec)) inductValuesCard

/-- THE TIED CARD OF 'swardlaw22.InductKnown'. -/
def inductKnownCard : Claim7 := { stood := { row := inductKnownRow, standIns := [], harness := (true, "fbc040df7e5eef4dac345eb94083d4a6828e7cf304df31545402b86c962c7ff3"), looks := true }, kinds := [], alts := [], laidByText := true, laidKinds := [.data, .data, .data, .listed, .data], laidTests := true, laidLooks := .later }
def InductKnownCardSaid : Prop := Claim7.holds Tryz.pinned (.plain (OpenSpec.ofChange inductKnownSpec)) inductKnownCard

/-- THE SECOND FORM's CARD OF 'swardlaw22.InductValues'. -/
def inductValuesUptoCard : Claim7 := { stood := { row := inductValuesUptoRow, standIns := [], harness := (true, "fbc040df7e5eef4dac345eb94083d4a6828e7cf304df31545402b86c962c7ff3"), looks := true }, kinds := [], alts := [], laidByText := true, laidKinds := [.data, .data, .data, .listed, .data], laidTests := true, laidLooks := .later }
def InductValuesUptoCardSaid : Prop := Claim7.holds Tryz.pinned (.plain (OpenSpec.upto inductValuesSpec)) inductValuesUptoCard

/-- THE SECOND FORM's CARD OF 'swardlaw22.InductKnown'. -/
def inductKnownUptoCard : Claim7 := { stood := { row := inductKnownUptoRow, standIns := [], harness := (true, "fbc040df7e5eef4dac345eb94083d4a6828e7cf304df31545402b86c962c7ff3"), looks := true }, kinds := [], alts := [], laidByText := true, laidKinds := [.data, .data, .data, .listed, .data], laidTests := true, laidLooks := .later }
def InductKnownUptoCardSaid : Prop := Claim7.holds Tryz.pinned (.plain (OpenSpec.upto inductKnownSpec)) inductKnownUptoCard
end Rows
end Go.Proofs.YtdnbnpknpejpdaaGreatDoor
