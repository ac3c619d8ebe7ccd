/- Calls that are known, by evaluation. -/
import Derived.Test.YtdnbnpknpejpdaaGreatDoorTihD
namespace Go.Proofs.YtdnbnpknpejpdaaGreatDoor.Tih
open Go Go.Proofs.YtdnbnpknpejpdaaGreatDoor.Sw
set_option maxRecDepth 100000
theorem k5:O e5:=E ok0 (by kernel_rfl)
theorem k11:O e11:=E ok0 (by kernel_rfl)
theorem k14:O e14:=E ok0 (by kernel_rfl)
theorem k16:O e16:=E ok0 (by kernel_rfl)
theorem k19:O e19:=E ok0 (by kernel_rfl)
theorem k61:O e61:=E ok0 (by kernel_rfl)
theorem k63:O e63:=E ok0 (by kernel_rfl)
theorem k64:O e64:=E ok0 (by kernel_rfl)
theorem k86:O e86:=E ok0 (by kernel_rfl)
theorem k102:O e102:=E ok0 (by kernel_rfl)
theorem k103:O e103:=E ok0 (by kernel_rfl)
theorem k104:O e104:=E ok0 (by kernel_rfl)
theorem k118:O e118:=E ok0 (by kernel_rfl)
theorem k129:O e129:=E ok0 (by kernel_rfl)
theorem k130:O e130:=E ok0 (by kernel_rfl)
theorem k139:O e139:=E ok0 (by kernel_rfl)
end Go.Proofs.YtdnbnpknpejpdaaGreatDoor.Tih
