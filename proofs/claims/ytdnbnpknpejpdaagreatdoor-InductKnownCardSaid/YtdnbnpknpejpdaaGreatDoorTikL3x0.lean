/- Known calls, by evaluation. -/
import Derived.Test.YtdnbnpknpejpdaaGreatDoorTikM2
set_option linter.unusedVariables false
set_option linter.unusedSimpArgs false
namespace Go.Proofs.YtdnbnpknpejpdaaGreatDoor.Tik
open Go Go.Proofs.YtdnbnpknpejpdaaGreatDoor.Sw
set_option maxRecDepth 100000
theorem k440 : e440.Ok Tryz.prog gl := ent_ok (rd := []) ok3 fine (imp := imp) (k := 1000000) (n := 60) (by kernel_rfl)
theorem k441 : e441.Ok Tryz.prog gl := ent_ok (rd := []) ok3 fine (imp := imp) (k := 1000000) (n := 60) (by kernel_rfl)
theorem k442 : e442.Ok Tryz.prog gl := ent_ok (rd := []) ok3 fine (imp := imp) (k := 1000000) (n := 60) (by kernel_rfl)
theorem k448 : e448.Ok Tryz.prog gl := ent_ok (rd := []) ok3 fine (imp := imp) (k := 1000000) (n := 60) (by kernel_rfl)
theorem k455 : e455.Ok Tryz.prog gl := ent_ok (rd := []) ok3 fine (imp := imp) (k := 1000000) (n := 60) (by kernel_rfl)
theorem k459 : e459.Ok Tryz.prog gl := ent_ok (rd := []) ok3 fine (imp := imp) (k := 1000000) (n := 60) (by kernel_rfl)
theorem k460 : e460.Ok Tryz.prog gl := ent_ok (rd := []) ok3 fine (imp := imp) (k := 1000000) (n := 60) (by kernel_rfl)
theorem k463 : e463.Ok Tryz.prog gl := ent_ok (rd := []) ok3 fine (imp := imp) (k := 1000000) (n := 60) (by kernel_rfl)
theorem k469 : e469.Ok Tryz.prog gl := ent_ok (rd := []) ok3 fine (imp := imp) (k := 1000000) (n := 60) (by kernel_rfl)
theorem k473 : e473.Ok Tryz.prog gl := ent_ok (rd := []) ok3 fine (imp := imp) (k := 1000000) (n := 60) (by kernel_rfl)
theorem k480 : e480.Ok Tryz.prog gl := ent_ok (rd := []) ok3 fine (imp := imp) (k := 1000000) (n := 60) (by kernel_rfl)
theorem k481 : e481.Ok Tryz.prog gl := ent_ok (rd := []) ok3 fine (imp := imp) (k := 1000000) (n := 60) (by kernel_rfl)
theorem k485 : e485.Ok Tryz.prog gl := ent_ok (rd := []) ok3 fine (imp := imp) (k := 1000000) (n := 60) (by kernel_rfl)
theorem k486 : e486.Ok Tryz.prog gl := ent_ok (rd := []) ok3 fine (imp := imp) (k := 1000000) (n := 60) (by kernel_rfl)
theorem k487 : e487.Ok Tryz.prog gl := ent_ok (rd := []) ok3 fine (imp := imp) (k := 1000000) (n := 60) (by kernel_rfl)
theorem k490 : e490.Ok Tryz.prog gl := ent_ok (rd := []) ok3 fine (imp := imp) (k := 1000000) (n := 60) (by kernel_rfl)
theorem k492 : e492.Ok Tryz.prog gl := ent_ok (rd := []) ok3 fine (imp := imp) (k := 1000000) (n := 60) (by kernel_rfl)
theorem k493 : e493.Ok Tryz.prog gl := ent_ok (rd := []) ok3 fine (imp := imp) (k := 1000000) (n := 60) (by kernel_rfl)
theorem k494 : e494.Ok Tryz.prog gl := ent_ok (rd := []) ok3 fine (imp := imp) (k := 1000000) (n := 60) (by kernel_rfl)
theorem k495 : e495.Ok Tryz.prog gl := ent_ok (rd := []) ok3 fine (imp := imp) (k := 1000000) (n := 60) (by kernel_rfl)
theorem k498 : e498.Ok Tryz.prog gl := ent_ok (rd := []) ok3 fine (imp := imp) (k := 1000000) (n := 60) (by kernel_rfl)
theorem k499 : e499.Ok Tryz.prog gl := ent_ok (rd := []) ok3 fine (imp := imp) (k := 1000000) (n := 60) (by kernel_rfl)
theorem k500 : e500.Ok Tryz.prog gl := ent_ok (rd := []) ok3 fine (imp := imp) (k := 1000000) (n := 60) (by kernel_rfl)
theorem k501 : e501.Ok Tryz.prog gl := ent_ok (rd := []) ok3 fine (imp := imp) (k := 1000000) (n := 60) (by kernel_rfl)
theorem k503 : e503.Ok Tryz.prog gl := ent_ok (rd := []) ok3 fine (imp := imp) (k := 1000000) (n := 60) (by kernel_rfl)
theorem k504 : e504.Ok Tryz.prog gl := ent_ok (rd := []) ok3 fine (imp := imp) (k := 1000000) (n := 60) (by kernel_rfl)
theorem k505 : e505.Ok Tryz.prog gl := ent_ok (rd := []) ok3 fine (imp := imp) (k := 1000000) (n := 60) (by kernel_rfl)
theorem k508 : e508.Ok Tryz.prog gl := ent_ok (rd := []) ok3 fine (imp := imp) (k := 1000000) (n := 60) (by kernel_rfl)
end Go.Proofs.YtdnbnpknpejpdaaGreatDoor.Tik
