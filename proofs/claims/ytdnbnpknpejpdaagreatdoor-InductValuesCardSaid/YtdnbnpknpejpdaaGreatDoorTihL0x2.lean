/- Calls that are known, by evaluation. -/
import Derived.Test.YtdnbnpknpejpdaaGreatDoorTihD
namespace Go.Proofs.YtdnbnpknpejpdaaGreatDoor.Tih
open Go Go.Proofs.YtdnbnpknpejpdaaGreatDoor.Sw
set_option maxRecDepth 100000
theorem k0:O e0:=E ok0 (by kernel_rfl)
theorem k17:O e17:=E ok0 (by kernel_rfl)
theorem k18:O e18:=E ok0 (by kernel_rfl)
theorem k22:O e22:=E ok0 (by kernel_rfl)
theorem k31:O e31:=E ok0 (by kernel_rfl)
theorem k44:O e44:=E ok0 (by kernel_rfl)
theorem k68:O e68:=E ok0 (by kernel_rfl)
theorem k71:O e71:=E ok0 (by kernel_rfl)
theorem k82:O e82:=E ok0 (by kernel_rfl)
theorem k85:O e85:=E ok0 (by kernel_rfl)
theorem k107:O e107:=E ok0 (by kernel_rfl)
theorem k119:O e119:=E ok0 (by kernel_rfl)
theorem k132:O e132:=K [0] ok0 (by kernel_rfl)
theorem k135:O e135:=E ok0 (by kernel_rfl)
theorem k136:O e136:=E ok0 (by kernel_rfl)
end Go.Proofs.YtdnbnpknpejpdaaGreatDoor.Tih
