/- Known calls, by evaluation. -/
import Derived.Test.YtdnbnpknpejpdaaGreatDoorTikM6
set_option linter.unusedVariables false
set_option linter.unusedSimpArgs false
namespace Go.Proofs.YtdnbnpknpejpdaaGreatDoor.Tik
open Go Go.Proofs.YtdnbnpknpejpdaaGreatDoor.Sw
set_option maxRecDepth 100000
theorem k547 : e547.Ok Tryz.prog gl := ent_ok (rd := [0]) ok7 fine (imp := imp) (k := 1000000) (n := 60) (by kernel_rfl)
theorem k549 : e549.Ok Tryz.prog gl := ent_ok (rd := []) ok7 fine (imp := imp) (k := 1000000) (n := 60) (by kernel_rfl)
theorem k551 : e551.Ok Tryz.prog gl := ent_ok (rd := []) ok7 fine (imp := imp) (k := 1000000) (n := 60) (by kernel_rfl)
theorem k555 : e555.Ok Tryz.prog gl := ent_ok (rd := []) ok7 fine (imp := imp) (k := 1000000) (n := 60) (by kernel_rfl)
theorem k560 : e560.Ok Tryz.prog gl := ent_ok (rd := []) ok7 fine (imp := imp) (k := 1000000) (n := 60) (by kernel_rfl)
theorem k562 : e562.Ok Tryz.prog gl := ent_ok (rd := [0]) ok7 fine (imp := imp) (k := 1000000) (n := 60) (by kernel_rfl)
theorem k565 : e565.Ok Tryz.prog gl := ent_ok (rd := []) ok7 fine (imp := imp) (k := 1000000) (n := 60) (by kernel_rfl)
theorem k567 : e567.Ok Tryz.prog gl := ent_ok (rd := [0]) ok7 fine (imp := imp) (k := 1000000) (n := 60) (by kernel_rfl)
theorem k568 : e568.Ok Tryz.prog gl := ent_ok (rd := [0]) ok7 fine (imp := imp) (k := 1000000) (n := 60) (by kernel_rfl)
theorem k571 : e571.Ok Tryz.prog gl := ent_ok (rd := [0]) ok7 fine (imp := imp) (k := 1000000) (n := 60) (by kernel_rfl)
theorem k572 : e572.Ok Tryz.prog gl := ent_ok (rd := []) ok7 fine (imp := imp) (k := 1000000) (n := 60) (by kernel_rfl)
end Go.Proofs.YtdnbnpknpejpdaaGreatDoor.Tik
