/- Calls that are known, by evaluation. -/
import Derived.Test.YtdnbnpknpejpdaaGreatDoorTihD
namespace Go.Proofs.YtdnbnpknpejpdaaGreatDoor.Tih
open Go Go.Proofs.YtdnbnpknpejpdaaGreatDoor.Sw
set_option maxRecDepth 100000
theorem k1:O e1:=E ok0 (by kernel_rfl)
theorem k7:O e7:=E ok0 (by kernel_rfl)
theorem k13:O e13:=E ok0 (by kernel_rfl)
theorem k28:O e28:=E ok0 (by kernel_rfl)
theorem k39:O e39:=E ok0 (by kernel_rfl)
theorem k43:O e43:=E ok0 (by kernel_rfl)
theorem k58:O e58:=E ok0 (by kernel_rfl)
theorem k79:O e79:=E ok0 (by kernel_rfl)
theorem k81:O e81:=E ok0 (by kernel_rfl)
theorem k83:O e83:=E ok0 (by kernel_rfl)
theorem k90:O e90:=E ok0 (by kernel_rfl)
theorem k91:O e91:=E ok0 (by kernel_rfl)
theorem k96:O e96:=E ok0 (by kernel_rfl)
theorem k99:O e99:=E ok0 (by kernel_rfl)
theorem k106:O e106:=E ok0 (by kernel_rfl)
theorem k108:O e108:=E ok0 (by kernel_rfl)
theorem k111:O e111:=E ok0 (by kernel_rfl)
theorem k112:O e112:=E ok0 (by kernel_rfl)
theorem k115:O e115:=E ok0 (by kernel_rfl)
theorem k125:O e125:=E ok0 (by kernel_rfl)
theorem k126:O e126:=K [0] ok0 (by kernel_rfl)
end Go.Proofs.YtdnbnpknpejpdaaGreatDoor.Tih
