/- Known calls, by evaluation. -/
import Derived.Test.YtdnbnpknpejpdaaGreatDoorTikM0
set_option linter.unusedVariables false
set_option linter.unusedSimpArgs false
namespace Go.Proofs.YtdnbnpknpejpdaaGreatDoor.Tik
open Go Go.Proofs.YtdnbnpknpejpdaaGreatDoor.Sw
set_option maxRecDepth 100000
theorem k286 : e286.Ok Tryz.prog gl := ent_ok (rd := []) ok1 fine (imp := imp) (k := 1000000) (n := 60) (by kernel_rfl)
theorem k287 : e287.Ok Tryz.prog gl := ent_ok (rd := []) ok1 fine (imp := imp) (k := 1000000) (n := 60) (by kernel_rfl)
theorem k294 : e294.Ok Tryz.prog gl := ent_ok (rd := []) ok1 fine (imp := imp) (k := 1000000) (n := 60) (by kernel_rfl)
theorem k300 : e300.Ok Tryz.prog gl := ent_ok (rd := []) ok1 fine (imp := imp) (k := 1000000) (n := 60) (by kernel_rfl)
theorem k309 : e309.Ok Tryz.prog gl := ent_ok (rd := []) ok1 fine (imp := imp) (k := 1000000) (n := 60) (by kernel_rfl)
theorem k312 : e312.Ok Tryz.prog gl := ent_ok (rd := []) ok1 fine (imp := imp) (k := 1000000) (n := 60) (by kernel_rfl)
theorem k315 : e315.Ok Tryz.prog gl := ent_ok (rd := []) ok1 fine (imp := imp) (k := 1000000) (n := 60) (by kernel_rfl)
theorem k322 : e322.Ok Tryz.prog gl := ent_ok (rd := []) ok1 fine (imp := imp) (k := 1000000) (n := 60) (by kernel_rfl)
theorem k323 : e323.Ok Tryz.prog gl := ent_ok (rd := [0]) ok1 fine (imp := imp) (k := 1000000) (n := 60) (by kernel_rfl)
theorem k338 : e338.Ok Tryz.prog gl := ent_ok (rd := []) ok1 fine (imp := imp) (k := 1000000) (n := 60) (by kernel_rfl)
theorem k352 : e352.Ok Tryz.prog gl := ent_ok (rd := []) ok1 fine (imp := imp) (k := 1000000) (n := 60) (by kernel_rfl)
theorem k361 : e361.Ok Tryz.prog gl := ent_ok (rd := []) ok1 fine (imp := imp) (k := 1000000) (n := 60) (by kernel_rfl)
theorem k371 : e371.Ok Tryz.prog gl := ent_ok (rd := [0]) ok1 fine (imp := imp) (k := 1000000) (n := 60) (by kernel_rfl)
theorem k373 : e373.Ok Tryz.prog gl := ent_ok (rd := []) ok1 fine (imp := imp) (k := 1000000) (n := 60) (by kernel_rfl)
theorem k378 : e378.Ok Tryz.prog gl := ent_ok (rd := []) ok1 fine (imp := imp) (k := 1000000) (n := 60) (by kernel_rfl)
end Go.Proofs.YtdnbnpknpejpdaaGreatDoor.Tik
