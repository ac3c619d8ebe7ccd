/- Known calls, by evaluation. -/
import Derived.Test.YtdnbnpknpejpdaaGreatDoorTikM9
set_option linter.unusedVariables false
set_option linter.unusedSimpArgs false
namespace Go.Proofs.YtdnbnpknpejpdaaGreatDoor.Tik
open Go Go.Proofs.YtdnbnpknpejpdaaGreatDoor.Sw
set_option maxRecDepth 100000
theorem k771 : e771.Ok Tryz.prog gl := ent_ok (rd := []) ok10 fine (imp := imp) (k := 1000000) (n := 60) (by kernel_rfl)
theorem k775 : e775.Ok Tryz.prog gl := ent_ok (rd := []) ok10 fine (imp := imp) (k := 1000000) (n := 60) (by kernel_rfl)
theorem k776 : e776.Ok Tryz.prog gl := ent_ok (rd := []) ok10 fine (imp := imp) (k := 1000000) (n := 60) (by kernel_rfl)
theorem k780 : e780.Ok Tryz.prog gl := ent_ok (rd := []) ok10 fine (imp := imp) (k := 1000000) (n := 60) (by kernel_rfl)
end Go.Proofs.YtdnbnpknpejpdaaGreatDoor.Tik
