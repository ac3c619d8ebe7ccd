/- Calls that are known, by evaluation. -/
import Derived.Test.YtdnbnpknpejpdaaGreatDoorTihD
namespace Go.Proofs.YtdnbnpknpejpdaaGreatDoor.Tih
open Go Go.Proofs.YtdnbnpknpejpdaaGreatDoor.Sw
set_option maxRecDepth 100000
theorem k4:O e4:=E ok0 (by kernel_rfl)
theorem k9:O e9:=E ok0 (by kernel_rfl)
theorem k20:O e20:=E ok0 (by kernel_rfl)
theorem k23:O e23:=E ok0 (by kernel_rfl)
theorem k33:O e33:=E ok0 (by kernel_rfl)
theorem k36:O e36:=E ok0 (by kernel_rfl)
theorem k41:O e41:=E ok0 (by kernel_rfl)
theorem k42:O e42:=E ok0 (by kernel_rfl)
theorem k50:O e50:=E ok0 (by kernel_rfl)
theorem k55:O e55:=E ok0 (by kernel_rfl)
theorem k59:O e59:=E ok0 (by kernel_rfl)
theorem k60:O e60:=E ok0 (by kernel_rfl)
theorem k80:O e80:=E ok0 (by kernel_rfl)
theorem k84:O e84:=E ok0 (by kernel_rfl)
theorem k97:O e97:=E ok0 (by kernel_rfl)
theorem k98:O e98:=E ok0 (by kernel_rfl)
theorem k100:O e100:=E ok0 (by kernel_rfl)
theorem k114:O e114:=E ok0 (by kernel_rfl)
theorem k116:O e116:=E ok0 (by kernel_rfl)
theorem k120:O e120:=E ok0 (by kernel_rfl)
theorem k124:O e124:=E ok0 (by kernel_rfl)
theorem k127:O e127:=K [0] ok0 (by kernel_rfl)
end Go.Proofs.YtdnbnpknpejpdaaGreatDoor.Tih
