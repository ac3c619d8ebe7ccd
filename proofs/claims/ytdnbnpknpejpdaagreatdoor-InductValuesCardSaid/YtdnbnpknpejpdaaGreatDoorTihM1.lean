/- Calls that are known, by evaluation. -/
import Derived.Test.YtdnbnpknpejpdaaGreatDoorTihL1x0
import Derived.Test.YtdnbnpknpejpdaaGreatDoorTihL1x1
namespace Go.Proofs.YtdnbnpknpejpdaaGreatDoor.Tih
open Go Go.Proofs.YtdnbnpknpejpdaaGreatDoor.Sw
set_option maxRecDepth 100000
theorem k145:O e145:=E ok1 (by kernel_rfl)
theorem k146:O e146:=E ok1 (by kernel_rfl)
theorem k147:O e147:=E ok1 (by kernel_rfl)
theorem k148:O e148:=E ok1 (by kernel_rfl)
theorem k149:O e149:=E ok1 (by kernel_rfl)
theorem ok2:t2.Ok Tryz.prog gl:=⟨⟨⟨rfl,k126⟩,⟨⟨rfl,k127⟩,trivial⟩⟩,⟨⟨⟨rfl,k141⟩,⟨⟨rfl,k142⟩,⟨⟨rfl,k144⟩,⟨⟨rfl,k150⟩,⟨⟨rfl,k151⟩,trivial⟩⟩⟩⟩⟩,⟨⟨⟨rfl,k134⟩,⟨⟨rfl,k137⟩,trivial⟩⟩,trivial,trivial⟩,trivial⟩,⟨⟨⟨rfl,k145⟩,⟨⟨rfl,k146⟩,⟨⟨rfl,k147⟩,trivial⟩⟩⟩,trivial,trivial⟩⟩
end Go.Proofs.YtdnbnpknpejpdaaGreatDoor.Tih
