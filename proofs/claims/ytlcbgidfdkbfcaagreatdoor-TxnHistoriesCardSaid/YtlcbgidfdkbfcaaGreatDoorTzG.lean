/- Closed facts of the card. -/
import Derived.Test.YtlcbgidfdkbfcaaGreatDoorCards
import Derived.Test.YtlcbgidfdkbfcaaGreatDoorChecked
import Derived.JoinedOf
import Derived.KernelRfl
set_option linter.unusedVariables false
set_option linter.unusedSimpArgs false
namespace Go.Proofs.YtlcbgidfdkbfcaaGreatDoor
open Go
theorem named : Tryz.prog.funcNamed "sward/swardlaw19.TxnHistories" = some 3 := by kernel_rfl
theorem inst : Tryz.f3.isInstance Tryz.prog Rows.txnHistoriesRow.origin Rows.txnHistoriesRow.targs := of_decide_eq_true (by kernel_rfl)
theorem wrapper : Tryz.f3.isWrapper Tryz.prog Rows.txnHistoriesRow.wrapper Rows.txnHistoriesRow.mainSum := by
  unfold Func.isWrapper; first | (rw [if_pos (by decide +kernel)]; kernel_rfl) | (rw [if_neg (by decide +kernel)]; exact ⟨rfl, rfl⟩)
theorem mainIs : Tryz.prog.mainIs = some (true, "0280e9e0ec99d72e0053124f8bd63746bc0118571c9e4c0d2143757e37cf437c".toList) := by kernel_rfl
theorem byText : Rows.txnHistoriesRow.wfByText (OpenSpec.ofChange Rows.txnHistoriesSpec) = true := by kernel_rfl
end Go.Proofs.YtlcbgidfdkbfcaaGreatDoor
