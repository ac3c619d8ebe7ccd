/- Known calls, by evaluation. -/
import Derived.Test.YtdnbnpknpejpdaaGreatDoorTikM9
set_option linter.unusedVariables false
set_option linter.unusedSimpArgs false
namespace Go.Proofs.YtdnbnpknpejpdaaGreatDoor.Tik
open Go Go.Proofs.YtdnbnpknpejpdaaGreatDoor.Sw
set_option maxRecDepth 100000
theorem k772 : e772.Ok Tryz.prog gl := ent_ok (rd := []) ok10 fine (imp := imp) (k := 1000000) (n := 60) (by kernel_rfl)
theorem k773 : e773.Ok Tryz.prog gl := ent_ok (rd := []) ok10 fine (imp := imp) (k := 1000000) (n := 60) (by kernel_rfl)
theorem k774 : e774.Ok Tryz.prog gl := ent_ok (rd := [0]) ok10 fine (imp := imp) (k := 1000000) (n := 60) (by kernel_rfl)
theorem k779 : e779.Ok Tryz.prog gl := ent_ok (rd := []) ok10 fine (imp := imp) (k := 1000000) (n := 60) (by kernel_rfl)
end Go.Proofs.YtdnbnpknpejpdaaGreatDoor.Tik
