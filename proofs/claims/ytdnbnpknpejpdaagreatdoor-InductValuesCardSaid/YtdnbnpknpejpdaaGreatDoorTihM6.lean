/- Calls that are known, by evaluation. -/
import Derived.Test.YtdnbnpknpejpdaaGreatDoorTihL6x0
namespace Go.Proofs.YtdnbnpknpejpdaaGreatDoor.Tih
open Go Go.Proofs.YtdnbnpknpejpdaaGreatDoor.Sw
set_option maxRecDepth 100000
theorem k191:O e191:=K [0] ok6 (by kernel_rfl)
theorem k193:O e193:=E ok6 (by kernel_rfl)
theorem ok7:t7.Ok Tryz.prog gl:=⟨⟨⟨rfl,k190⟩,trivial⟩,trivial,trivial⟩
end Go.Proofs.YtdnbnpknpejpdaaGreatDoor.Tih
