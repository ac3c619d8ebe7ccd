/- Calls that are known, by evaluation. -/
import Derived.Test.YtdnbnpknpejpdaaGreatDoorTihL2x0
import Derived.Test.YtdnbnpknpejpdaaGreatDoorTihL2x1
namespace Go.Proofs.YtdnbnpknpejpdaaGreatDoor.Tih
open Go Go.Proofs.YtdnbnpknpejpdaaGreatDoor.Sw
set_option maxRecDepth 100000
theorem k155:O e155:=E ok2 (by kernel_rfl)
theorem k156:O e156:=E ok2 (by kernel_rfl)
theorem k157:O e157:=E ok2 (by kernel_rfl)
theorem ok3:t3.Ok Tryz.prog gl:=⟨⟨⟨rfl,k155⟩,⟨⟨rfl,k156⟩,⟨⟨rfl,k157⟩,trivial⟩⟩⟩,⟨⟨⟨rfl,k123⟩,⟨⟨rfl,k140⟩,⟨⟨rfl,k152⟩,trivial⟩⟩⟩,⟨⟨⟨rfl,k122⟩,⟨⟨rfl,k129⟩,⟨⟨rfl,k143⟩,⟨⟨rfl,k153⟩,⟨⟨rfl,k154⟩,trivial⟩⟩⟩⟩⟩,trivial,trivial⟩,trivial⟩,⟨⟨⟨rfl,k148⟩,trivial⟩,trivial,trivial⟩⟩
end Go.Proofs.YtdnbnpknpejpdaaGreatDoor.Tih
