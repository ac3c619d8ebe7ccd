/- Known calls, by evaluation. -/
import Derived.Test.YtdnbnpknpejpdaaGreatDoorTikM6
set_option linter.unusedVariables false
set_option linter.unusedSimpArgs false
namespace Go.Proofs.YtdnbnpknpejpdaaGreatDoor.Tik
open Go Go.Proofs.YtdnbnpknpejpdaaGreatDoor.Sw
set_option maxRecDepth 100000
theorem k546 : e546.Ok Tryz.prog gl := ent_ok (rd := []) ok7 fine (imp := imp) (k := 1000000) (n := 60) (by kernel_rfl)
theorem k548 : e548.Ok Tryz.prog gl := ent_ok (rd := [0]) ok7 fine (imp := imp) (k := 1000000) (n := 60) (by kernel_rfl)
theorem k557 : e557.Ok Tryz.prog gl := ent_ok (rd := []) ok7 fine (imp := imp) (k := 1000000) (n := 60) (by kernel_rfl)
theorem k558 : e558.Ok Tryz.prog gl := ent_ok (rd := []) ok7 fine (imp := imp) (k := 1000000) (n := 60) (by kernel_rfl)
theorem k561 : e561.Ok Tryz.prog gl := ent_ok (rd := []) ok7 fine (imp := imp) (k := 1000000) (n := 60) (by kernel_rfl)
theorem k563 : e563.Ok Tryz.prog gl := ent_ok (rd := [0]) ok7 fine (imp := imp) (k := 1000000) (n := 60) (by kernel_rfl)
theorem k566 : e566.Ok Tryz.prog gl := ent_ok (rd := [0]) ok7 fine (imp := imp) (k := 1000000) (n := 60) (by kernel_rfl)
theorem k569 : e569.Ok Tryz.prog gl := ent_ok (rd := [0]) ok7 fine (imp := imp) (k := 1000000) (n := 60) (by kernel_rfl)
theorem k570 : e570.Ok Tryz.prog gl := ent_ok (rd := [0]) ok7 fine (imp := imp) (k := 1000000) (n := 60) (by kernel_rfl)
theorem k573 : e573.Ok Tryz.prog gl := ent_ok (rd := []) ok7 fine (imp := imp) (k := 1000000) (n := 60) (by kernel_rfl)
theorem k574 : e574.Ok Tryz.prog gl := ent_ok (rd := []) ok7 fine (imp := imp) (k := 1000000) (n := 60) (by kernel_rfl)
theorem k575 : e575.Ok Tryz.prog gl := ent_ok (rd := []) ok7 fine (imp := imp) (k := 1000000) (n := 60) (by kernel_rfl)
theorem k577 : e577.Ok Tryz.prog gl := ent_ok (rd := []) ok7 fine (imp := imp) (k := 1000000) (n := 60) (by kernel_rfl)
end Go.Proofs.YtdnbnpknpejpdaaGreatDoor.Tik
