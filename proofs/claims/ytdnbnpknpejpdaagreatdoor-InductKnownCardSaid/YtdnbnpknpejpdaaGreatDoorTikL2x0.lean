/- Known calls, by evaluation. -/
import Derived.Test.YtdnbnpknpejpdaaGreatDoorTikM1
set_option linter.unusedVariables false
set_option linter.unusedSimpArgs false
namespace Go.Proofs.YtdnbnpknpejpdaaGreatDoor.Tik
open Go Go.Proofs.YtdnbnpknpejpdaaGreatDoor.Sw
set_option maxRecDepth 100000
theorem k382 : e382.Ok Tryz.prog gl := ent_ok (rd := [0]) ok2 fine (imp := imp) (k := 1000000) (n := 60) (by kernel_rfl)
theorem k383 : e383.Ok Tryz.prog gl := ent_ok (rd := [0]) ok2 fine (imp := imp) (k := 1000000) (n := 60) (by kernel_rfl)
theorem k429 : e429.Ok Tryz.prog gl := ent_ok (rd := []) ok2 fine (imp := imp) (k := 1000000) (n := 60) (by kernel_rfl)
end Go.Proofs.YtdnbnpknpejpdaaGreatDoor.Tik
