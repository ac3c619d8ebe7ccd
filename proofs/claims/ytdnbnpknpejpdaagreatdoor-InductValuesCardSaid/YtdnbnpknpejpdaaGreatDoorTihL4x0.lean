/- Calls that are known, by evaluation. -/
import Derived.Test.YtdnbnpknpejpdaaGreatDoorTihM3
namespace Go.Proofs.YtdnbnpknpejpdaaGreatDoor.Tih
open Go Go.Proofs.YtdnbnpknpejpdaaGreatDoor.Sw
set_option maxRecDepth 100000
theorem k170:O e170:=E ok4 (by kernel_rfl)
theorem k172:O e172:=E ok4 (by kernel_rfl)
theorem k177:O e177:=E ok4 (by kernel_rfl)
theorem k180:O e180:=E ok4 (by kernel_rfl)
end Go.Proofs.YtdnbnpknpejpdaaGreatDoor.Tih
