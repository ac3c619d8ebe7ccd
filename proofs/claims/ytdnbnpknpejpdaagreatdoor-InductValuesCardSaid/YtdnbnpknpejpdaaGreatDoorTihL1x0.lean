/- Calls that are known, by evaluation. -/
import Derived.Test.YtdnbnpknpejpdaaGreatDoorTihM0
namespace Go.Proofs.YtdnbnpknpejpdaaGreatDoor.Tih
open Go Go.Proofs.YtdnbnpknpejpdaaGreatDoor.Sw
set_option maxRecDepth 100000
theorem k141:O e141:=E ok1 (by kernel_rfl)
theorem k143:O e143:=E ok1 (by kernel_rfl)
theorem k144:O e144:=E ok1 (by kernel_rfl)
theorem k151:O e151:=E ok1 (by kernel_rfl)
end Go.Proofs.YtdnbnpknpejpdaaGreatDoor.Tih
