/-
  DERIVED. GIVEN WITH THE SEED: THE CARDS: each row of YtceccojmekpneaaGreatDoorRows.lean that lists a variable, with what it lists TIED to the program's text (the seventh form; the later family's looks); each row that meets fmt, with fmt's text TOLD by the authors' own Lean function (tested against real Go, not proved from fmt's source: count such statements apart). THE CARD IS WHAT COUNTS. Prove the row's statement (the work); the ties are given (YtceccojmekpneaaGreatDoorTie.lean); close each card by the builder's one call (the guide's Derived/Test/ToyasCard.lean, 'card_holds'). Laid BY PROGRAM, IN A SANDBOX (cutbox-door.mjs). By AI agents, Wed Nov 11 2026. No macro, syntax, notation, axiom, sorry.
-/
import Derived.Test.YtceccojmekpneaaGreatDoorRows
import GoSem.ClaimSeven
namespace Go.Proofs.YtceccojmekpneaaGreatDoor
namespace Rows

/-- THE TIED CARD OF 'swardlaw21.FindKnown'. -/
def findKnownCard : Claim7 := { stood := { row := findKnownRow, standIns := [], harness := (true, "ee09967197c63ed4b12b565d47179162a336ff013c41dbaf1b3b12b5acb27549"), looks := true }, kinds := [], alts := [], laidByText := true, laidKinds := [.data, .data, .data, .listed, .data], laidTests := true, laidLooks := .later }
def FindKnownCardSaid : Prop := Claim7.holds Tryz.pinned (.plain (OpenSpec.ofChange findKnownSpec)) findKnownCard

/-- THE TIED CARD OF 'swardlaw19.TxnKnown'. -/
def txnKnownCard : Claim7 := { stood := { row := txnKnownRow, standIns := [], harness := (true, "ee09967197c63ed4b12b565d47179162a336ff013c41dbaf1b3b12b5acb27549"), looks := true }, kinds := [], alts := [], laidByText := true, laidKinds := [.data, .data, .data, .listed, .data], laidTests := true, laidLooks := .later }
def TxnKnownCardSaid : Prop := Claim7.holds Tryz.pinned (.plain (OpenSpec.ofChange txnKnownSpec)) txnKnownCard

/-- THE SECOND FORM's CARD OF 'swardlaw21.FindKnown'. -/
def findKnownUptoCard : Claim7 := { stood := { row := findKnownUptoRow, standIns := [], harness := (true, "ee09967197c63ed4b12b565d47179162a336ff013c41dbaf1b3b12b5acb27549"), looks := true }, kinds := [], alts := [], laidByText := true, laidKinds := [.data, .data, .data, .listed, .data], laidTests := true, laidLooks := .later }
def FindKnownUptoCardSaid : Prop := Claim7.holds Tryz.pinned (.plain (OpenSpec.upto findKnownSpec)) findKnownUptoCard

/-- THE SECOND FORM's CARD OF 'swardlaw19.TxnKnown'. -/
def txnKnownUptoCard : Claim7 := { stood := { row := txnKnownUptoRow, standIns := [], harness := (true, "ee09967197c63ed4b12b565d47179162a336ff013c41dbaf1b3b12b5acb27549"), looks := true }, kinds := [], alts := [], laidByText := true, laidKinds := [.data, .data, .data, .listed, .data], laidTests := true, laidLooks := .later }
def TxnKnownUptoCardSaid : Prop := Claim7.holds Tryz.pinned (.plain (OpenSpec.upto txnKnownSpec)) txnKnownUptoCard
end Rows
end Go.Proofs.YtceccojmekpneaaGreatDoor
