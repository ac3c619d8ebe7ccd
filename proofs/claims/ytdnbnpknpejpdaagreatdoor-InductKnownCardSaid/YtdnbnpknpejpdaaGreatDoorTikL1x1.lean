/- Known calls, by evaluation. -/
import Derived.Test.YtdnbnpknpejpdaaGreatDoorTikM0
set_option linter.unusedVariables false
set_option linter.unusedSimpArgs false
namespace Go.Proofs.YtdnbnpknpejpdaaGreatDoor.Tik
open Go Go.Proofs.YtdnbnpknpejpdaaGreatDoor.Sw
set_option maxRecDepth 100000
theorem k289 : e289.Ok Tryz.prog gl := ent_ok (rd := []) ok1 fine (imp := imp) (k := 1000000) (n := 60) (by kernel_rfl)
theorem k307 : e307.Ok Tryz.prog gl := ent_ok (rd := []) ok1 fine (imp := imp) (k := 1000000) (n := 60) (by kernel_rfl)
theorem k324 : e324.Ok Tryz.prog gl := ent_ok (rd := []) ok1 fine (imp := imp) (k := 1000000) (n := 60) (by kernel_rfl)
theorem k326 : e326.Ok Tryz.prog gl := ent_ok (rd := []) ok1 fine (imp := imp) (k := 1000000) (n := 60) (by kernel_rfl)
theorem k339 : e339.Ok Tryz.prog gl := ent_ok (rd := []) ok1 fine (imp := imp) (k := 1000000) (n := 60) (by kernel_rfl)
theorem k340 : e340.Ok Tryz.prog gl := ent_ok (rd := []) ok1 fine (imp := imp) (k := 1000000) (n := 60) (by kernel_rfl)
theorem k341 : e341.Ok Tryz.prog gl := ent_ok (rd := []) ok1 fine (imp := imp) (k := 1000000) (n := 60) (by kernel_rfl)
theorem k347 : e347.Ok Tryz.prog gl := ent_ok (rd := []) ok1 fine (imp := imp) (k := 1000000) (n := 60) (by kernel_rfl)
theorem k362 : e362.Ok Tryz.prog gl := ent_ok (rd := []) ok1 fine (imp := imp) (k := 1000000) (n := 60) (by kernel_rfl)
theorem k363 : e363.Ok Tryz.prog gl := ent_ok (rd := []) ok1 fine (imp := imp) (k := 1000000) (n := 60) (by kernel_rfl)
theorem k368 : e368.Ok Tryz.prog gl := ent_ok (rd := [3]) ok1 fine (imp := imp) (k := 1000000) (n := 60) (by kernel_rfl)
theorem k372 : e372.Ok Tryz.prog gl := ent_ok (rd := []) ok1 fine (imp := imp) (k := 1000000) (n := 60) (by kernel_rfl)
theorem k375 : e375.Ok Tryz.prog gl := ent_ok (rd := [0]) ok1 fine (imp := imp) (k := 1000000) (n := 60) (by kernel_rfl)
theorem k379 : e379.Ok Tryz.prog gl := ent_ok (rd := [4]) ok1 fine (imp := imp) (k := 1000000) (n := 60) (by kernel_rfl)
theorem k380 : e380.Ok Tryz.prog gl := ent_ok (rd := []) ok1 fine (imp := imp) (k := 1000000) (n := 60) (by kernel_rfl)
end Go.Proofs.YtdnbnpknpejpdaaGreatDoor.Tik
