/-
  DERIVED. GIVEN WITH THE SEED: THE CARDS: each row of YtlcbgidfdkbfcaaGreatDoorRows.lean that lists a variable, with what it lists TIED to the program's text (the seventh form; the later family's looks); each row that meets fmt, with fmt's text TOLD by the authors' own Lean function (tested against real Go, not proved from fmt's source: count such statements apart). THE CARD IS WHAT COUNTS. Prove the row's statement (the work); the ties are given (YtlcbgidfdkbfcaaGreatDoorTie.lean); close each card by the builder's one call (the guide's Derived/Test/ToyasCard.lean, 'card_holds'). Laid BY PROGRAM, IN A SANDBOX (cutbox-door.mjs). By AI agents, Wed Nov 11 2026. No macro, syntax, notation, axiom, sorry.
-/
import Derived.Test.YtlcbgidfdkbfcaaGreatDoorRows
import GoSem.ClaimSeven
namespace Go.Proofs.YtlcbgidfdkbfcaaGreatDoor
namespace Rows

/-- THE TIED CARD OF 'swardlaw19.TxnHistories'. -/
def txnHistoriesCard : Claim7 := { stood := { row := txnHistoriesRow, standIns := [], harness := (true, "0280e9e0ec99d72e0053124f8bd63746bc0118571c9e4c0d2143757e37cf437c"), looks := true }, kinds := [], alts := [], laidByText := true, laidKinds := [.data, .data, .data, .listed, .data], laidTests := true, laidLooks := .later }
def TxnHistoriesCardSaid : Prop := Claim7.holds Tryz.pinned (.plain (OpenSpec.ofChange txnHistoriesSpec)) txnHistoriesCard

/-- THE SECOND FORM's CARD OF 'swardlaw19.TxnHistories'. -/
def txnHistoriesUptoCard : Claim7 := { stood := { row := txnHistoriesUptoRow, standIns := [], harness := (true, "0280e9e0ec99d72e0053124f8bd63746bc0118571c9e4c0d2143757e37cf437c"), looks := true }, kinds := [], alts := [], laidByText := true, laidKinds := [.data, .data, .data, .listed, .data], laidTests := true, laidLooks := .later }
def TxnHistoriesUptoCardSaid : Prop := Claim7.holds Tryz.pinned (.plain (OpenSpec.upto txnHistoriesSpec)) txnHistoriesUptoCard
end Rows
end Go.Proofs.YtlcbgidfdkbfcaaGreatDoor
