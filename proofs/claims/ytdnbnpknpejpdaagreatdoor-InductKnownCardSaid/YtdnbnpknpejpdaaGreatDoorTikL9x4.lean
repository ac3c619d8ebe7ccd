/- Known calls, by evaluation. -/
import Derived.Test.YtdnbnpknpejpdaaGreatDoorTikM8
set_option linter.unusedVariables false
set_option linter.unusedSimpArgs false
namespace Go.Proofs.YtdnbnpknpejpdaaGreatDoor.Tik
open Go Go.Proofs.YtdnbnpknpejpdaaGreatDoor.Sw
set_option maxRecDepth 100000
theorem k634 : e634.Ok Tryz.prog gl := ent_ok (rd := []) ok9 fine (imp := imp) (k := 1000000) (n := 60) (by kernel_rfl)
theorem k636 : e636.Ok Tryz.prog gl := ent_ok (rd := []) ok9 fine (imp := imp) (k := 1000000) (n := 60) (by kernel_rfl)
theorem k642 : e642.Ok Tryz.prog gl := ent_ok (rd := []) ok9 fine (imp := imp) (k := 1000000) (n := 60) (by kernel_rfl)
theorem k647 : e647.Ok Tryz.prog gl := ent_ok (rd := []) ok9 fine (imp := imp) (k := 1000000) (n := 60) (by kernel_rfl)
theorem k649 : e649.Ok Tryz.prog gl := ent_ok (rd := []) ok9 fine (imp := imp) (k := 1000000) (n := 60) (by kernel_rfl)
theorem k658 : e658.Ok Tryz.prog gl := ent_ok (rd := []) ok9 fine (imp := imp) (k := 1000000) (n := 60) (by kernel_rfl)
theorem k664 : e664.Ok Tryz.prog gl := ent_ok (rd := []) ok9 fine (imp := imp) (k := 1000000) (n := 60) (by kernel_rfl)
theorem k675 : e675.Ok Tryz.prog gl := ent_ok (rd := []) ok9 fine (imp := imp) (k := 1000000) (n := 60) (by kernel_rfl)
theorem k678 : e678.Ok Tryz.prog gl := ent_ok (rd := []) ok9 fine (imp := imp) (k := 1000000) (n := 60) (by kernel_rfl)
theorem k685 : e685.Ok Tryz.prog gl := ent_ok (rd := []) ok9 fine (imp := imp) (k := 1000000) (n := 60) (by kernel_rfl)
theorem k693 : e693.Ok Tryz.prog gl := ent_ok (rd := []) ok9 fine (imp := imp) (k := 1000000) (n := 60) (by kernel_rfl)
theorem k695 : e695.Ok Tryz.prog gl := ent_ok (rd := []) ok9 fine (imp := imp) (k := 1000000) (n := 60) (by kernel_rfl)
theorem k699 : e699.Ok Tryz.prog gl := ent_ok (rd := []) ok9 fine (imp := imp) (k := 1000000) (n := 60) (by kernel_rfl)
theorem k703 : e703.Ok Tryz.prog gl := ent_ok (rd := []) ok9 fine (imp := imp) (k := 1000000) (n := 60) (by kernel_rfl)
theorem k714 : e714.Ok Tryz.prog gl := ent_ok (rd := []) ok9 fine (imp := imp) (k := 1000000) (n := 60) (by kernel_rfl)
theorem k720 : e720.Ok Tryz.prog gl := ent_ok (rd := []) ok9 fine (imp := imp) (k := 1000000) (n := 60) (by kernel_rfl)
theorem k723 : e723.Ok Tryz.prog gl := ent_ok (rd := []) ok9 fine (imp := imp) (k := 1000000) (n := 60) (by kernel_rfl)
theorem k727 : e727.Ok Tryz.prog gl := ent_ok (rd := []) ok9 fine (imp := imp) (k := 1000000) (n := 60) (by kernel_rfl)
theorem k728 : e728.Ok Tryz.prog gl := ent_ok (rd := []) ok9 fine (imp := imp) (k := 1000000) (n := 60) (by kernel_rfl)
theorem k734 : e734.Ok Tryz.prog gl := ent_ok (rd := []) ok9 fine (imp := imp) (k := 1000000) (n := 60) (by kernel_rfl)
theorem k741 : e741.Ok Tryz.prog gl := ent_ok (rd := []) ok9 fine (imp := imp) (k := 1000000) (n := 60) (by kernel_rfl)
theorem k744 : e744.Ok Tryz.prog gl := ent_ok (rd := []) ok9 fine (imp := imp) (k := 1000000) (n := 60) (by kernel_rfl)
theorem k748 : e748.Ok Tryz.prog gl := ent_ok (rd := []) ok9 fine (imp := imp) (k := 1000000) (n := 60) (by kernel_rfl)
theorem k754 : e754.Ok Tryz.prog gl := ent_ok (rd := []) ok9 fine (imp := imp) (k := 1000000) (n := 60) (by kernel_rfl)
theorem k758 : e758.Ok Tryz.prog gl := ent_ok (rd := []) ok9 fine (imp := imp) (k := 1000000) (n := 60) (by kernel_rfl)
theorem k761 : e761.Ok Tryz.prog gl := ent_ok (rd := []) ok9 fine (imp := imp) (k := 1000000) (n := 60) (by kernel_rfl)
theorem k764 : e764.Ok Tryz.prog gl := ent_ok (rd := []) ok9 fine (imp := imp) (k := 1000000) (n := 60) (by kernel_rfl)
theorem k765 : e765.Ok Tryz.prog gl := ent_ok (rd := []) ok9 fine (imp := imp) (k := 1000000) (n := 60) (by kernel_rfl)
end Go.Proofs.YtdnbnpknpejpdaaGreatDoor.Tik
