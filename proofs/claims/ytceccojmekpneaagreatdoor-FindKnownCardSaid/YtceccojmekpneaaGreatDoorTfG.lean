/- Closed facts of the card. -/
import Derived.Test.YtceccojmekpneaaGreatDoorCards
import Derived.Test.YtceccojmekpneaaGreatDoorChecked
import Derived.JoinedOf
import Derived.KernelRfl
namespace Go.Proofs.YtceccojmekpneaaGreatDoor
open Go
theorem named : Tryz.prog.funcNamed "sward/swardlaw21.FindKnown" = some 3 := by kernel_rfl
theorem inst : Tryz.f3.isInstance Tryz.prog Rows.findKnownRow.origin Rows.findKnownRow.targs := of_decide_eq_true (by kernel_rfl)
theorem wrapper : Tryz.f3.isWrapper Tryz.prog Rows.findKnownRow.wrapper Rows.findKnownRow.mainSum := by
  unfold Func.isWrapper; first | (rw [if_pos (by decide +kernel)]; kernel_rfl) | (rw [if_neg (by decide +kernel)]; exact ⟨rfl, rfl⟩)
theorem mainIs : Tryz.prog.mainIs = some (true, "ee09967197c63ed4b12b565d47179162a336ff013c41dbaf1b3b12b5acb27549".toList) := by kernel_rfl
theorem byText : Rows.findKnownRow.wfByText (OpenSpec.ofChange Rows.findKnownSpec) = true := by kernel_rfl
end Go.Proofs.YtceccojmekpneaaGreatDoor
