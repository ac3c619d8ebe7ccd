/- Calls that are known, by evaluation. -/
import Derived.Test.YtdnbnpknpejpdaaGreatDoorTihD
namespace Go.Proofs.YtdnbnpknpejpdaaGreatDoor.Tih
open Go Go.Proofs.YtdnbnpknpejpdaaGreatDoor.Sw
set_option maxRecDepth 100000
theorem k8:O e8:=E ok0 (by kernel_rfl)
theorem k56:O e56:=E ok0 (by kernel_rfl)
theorem k62:O e62:=E ok0 (by kernel_rfl)
theorem k73:O e73:=E ok0 (by kernel_rfl)
theorem k92:O e92:=E ok0 (by kernel_rfl)
theorem k93:O e93:=E ok0 (by kernel_rfl)
theorem k101:O e101:=E ok0 (by kernel_rfl)
theorem k134:O e134:=K [0] ok0 (by kernel_rfl)
theorem k137:O e137:=K [0] ok0 (by kernel_rfl)
theorem k138:O e138:=E ok0 (by kernel_rfl)
end Go.Proofs.YtdnbnpknpejpdaaGreatDoor.Tih
