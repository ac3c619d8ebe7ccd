/- Calls that are known, by evaluation. -/
import Derived.Test.YtdnbnpknpejpdaaGreatDoorTihD
namespace Go.Proofs.YtdnbnpknpejpdaaGreatDoor.Tih
open Go Go.Proofs.YtdnbnpknpejpdaaGreatDoor.Sw
set_option maxRecDepth 100000
theorem k12:O e12:=E ok0 (by kernel_rfl)
theorem k15:O e15:=E ok0 (by kernel_rfl)
theorem k21:O e21:=E ok0 (by kernel_rfl)
theorem k29:O e29:=E ok0 (by kernel_rfl)
theorem k32:O e32:=E ok0 (by kernel_rfl)
theorem k40:O e40:=E ok0 (by kernel_rfl)
theorem k45:O e45:=E ok0 (by kernel_rfl)
theorem k54:O e54:=E ok0 (by kernel_rfl)
theorem k66:O e66:=E ok0 (by kernel_rfl)
theorem k67:O e67:=E ok0 (by kernel_rfl)
theorem k69:O e69:=E ok0 (by kernel_rfl)
theorem k70:O e70:=E ok0 (by kernel_rfl)
theorem k74:O e74:=E ok0 (by kernel_rfl)
theorem k75:O e75:=E ok0 (by kernel_rfl)
theorem k95:O e95:=E ok0 (by kernel_rfl)
theorem k105:O e105:=E ok0 (by kernel_rfl)
theorem k109:O e109:=E ok0 (by kernel_rfl)
theorem k110:O e110:=E ok0 (by kernel_rfl)
theorem k117:O e117:=E ok0 (by kernel_rfl)
theorem k128:O e128:=K [0] ok0 (by kernel_rfl)
theorem k131:O e131:=E ok0 (by kernel_rfl)
end Go.Proofs.YtdnbnpknpejpdaaGreatDoor.Tih
