/- Calls that are known, by evaluation. -/
import Derived.Test.YtdnbnpknpejpdaaGreatDoorTihL0x0
import Derived.Test.YtdnbnpknpejpdaaGreatDoorTihL0x1
import Derived.Test.YtdnbnpknpejpdaaGreatDoorTihL0x2
import Derived.Test.YtdnbnpknpejpdaaGreatDoorTihL0x3
import Derived.Test.YtdnbnpknpejpdaaGreatDoorTihL0x4
import Derived.Test.YtdnbnpknpejpdaaGreatDoorTihL0x5
import Derived.Test.YtdnbnpknpejpdaaGreatDoorTihL0x6
namespace Go.Proofs.YtdnbnpknpejpdaaGreatDoor.Tih
open Go Go.Proofs.YtdnbnpknpejpdaaGreatDoor.Sw
set_option maxRecDepth 100000
theorem k2:O e2:=E ok0 (by kernel_rfl)
theorem k6:O e6:=E ok0 (by kernel_rfl)
theorem k10:O e10:=E ok0 (by kernel_rfl)
theorem k24:O e24:=E ok0 (by kernel_rfl)
theorem k25:O e25:=E ok0 (by kernel_rfl)
theorem k27:O e27:=E ok0 (by kernel_rfl)
theorem k34:O e34:=E ok0 (by kernel_rfl)
theorem k35:O e35:=E ok0 (by kernel_rfl)
theorem k37:O e37:=E ok0 (by kernel_rfl)
theorem k46:O e46:=E ok0 (by kernel_rfl)
theorem k47:O e47:=E ok0 (by kernel_rfl)
theorem k51:O e51:=E ok0 (by kernel_rfl)
theorem k57:O e57:=E ok0 (by kernel_rfl)
theorem k65:O e65:=E ok0 (by kernel_rfl)
theorem ok1:t1.Ok Tryz.prog gl:=⟨⟨⟨rfl,k132⟩,trivial⟩,⟨⟨⟨rfl,k124⟩,trivial⟩,⟨⟨⟨rfl,k125⟩,⟨⟨rfl,k130⟩,⟨⟨rfl,k131⟩,⟨⟨rfl,k135⟩,⟨⟨rfl,k138⟩,trivial⟩⟩⟩⟩⟩,trivial,trivial⟩,trivial⟩,⟨⟨⟨rfl,k128⟩,⟨⟨rfl,k136⟩,⟨⟨rfl,k139⟩,trivial⟩⟩⟩,trivial,trivial⟩⟩
end Go.Proofs.YtdnbnpknpejpdaaGreatDoor.Tih
