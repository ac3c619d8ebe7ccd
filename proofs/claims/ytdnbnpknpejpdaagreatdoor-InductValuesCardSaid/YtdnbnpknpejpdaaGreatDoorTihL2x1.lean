/- Calls that are known, by evaluation. -/
import Derived.Test.YtdnbnpknpejpdaaGreatDoorTihM1
namespace Go.Proofs.YtdnbnpknpejpdaaGreatDoor.Tih
open Go Go.Proofs.YtdnbnpknpejpdaaGreatDoor.Sw
set_option maxRecDepth 100000
theorem k152:O e152:=K [0] ok2 (by kernel_rfl)
theorem k153:O e153:=E ok2 (by kernel_rfl)
theorem k158:O e158:=E ok2 (by kernel_rfl)
end Go.Proofs.YtdnbnpknpejpdaaGreatDoor.Tih
