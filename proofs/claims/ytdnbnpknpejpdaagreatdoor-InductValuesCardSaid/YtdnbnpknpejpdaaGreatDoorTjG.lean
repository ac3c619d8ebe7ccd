/- Closed facts of the card. -/
import Derived.Test.YtdnbnpknpejpdaaGreatDoorCards
import Derived.Test.YtdnbnpknpejpdaaGreatDoorChecked
import Derived.JoinedOf
import Derived.KernelRfl
namespace Go.Proofs.YtdnbnpknpejpdaaGreatDoor
open Go
theorem named:Tryz.prog.funcNamed "sward/swardlaw22.InductValues" = some 3:=by kernel_rfl
theorem inst:Tryz.f3.isInstance Tryz.prog Rows.inductValuesRow.origin Rows.inductValuesRow.targs:=of_decide_eq_true (by kernel_rfl)
theorem wrapper:Tryz.f3.isWrapper Tryz.prog Rows.inductValuesRow.wrapper Rows.inductValuesRow.mainSum:=by
  unfold Func.isWrapper; first | (rw [if_pos (by decide +kernel)]; kernel_rfl) | (rw [if_neg (by decide +kernel)]; exact ⟨rfl,rfl⟩)
theorem mainIs:Tryz.prog.mainIs=some (true, "fbc040df7e5eef4dac345eb94083d4a6828e7cf304df31545402b86c962c7ff3".toList):=by kernel_rfl
theorem byText:Rows.inductValuesRow.wfByText (OpenSpec.ofChange Rows.inductValuesSpec)=true:=by kernel_rfl
end Go.Proofs.YtdnbnpknpejpdaaGreatDoor
