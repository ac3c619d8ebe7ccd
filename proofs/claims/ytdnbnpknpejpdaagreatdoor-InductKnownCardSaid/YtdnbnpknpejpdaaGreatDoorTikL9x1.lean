/- Known calls, by evaluation. -/
import Derived.Test.YtdnbnpknpejpdaaGreatDoorTikM8
set_option linter.unusedVariables false
set_option linter.unusedSimpArgs false
namespace Go.Proofs.YtdnbnpknpejpdaaGreatDoor.Tik
open Go Go.Proofs.YtdnbnpknpejpdaaGreatDoor.Sw
set_option maxRecDepth 100000
theorem k633 : e633.Ok Tryz.prog gl := ent_ok (rd := []) ok9 fine (imp := imp) (k := 1000000) (n := 60) (by kernel_rfl)
theorem k637 : e637.Ok Tryz.prog gl := ent_ok (rd := []) ok9 fine (imp := imp) (k := 1000000) (n := 60) (by kernel_rfl)
theorem k645 : e645.Ok Tryz.prog gl := ent_ok (rd := []) ok9 fine (imp := imp) (k := 1000000) (n := 60) (by kernel_rfl)
theorem k648 : e648.Ok Tryz.prog gl := ent_ok (rd := []) ok9 fine (imp := imp) (k := 1000000) (n := 60) (by kernel_rfl)
theorem k653 : e653.Ok Tryz.prog gl := ent_ok (rd := []) ok9 fine (imp := imp) (k := 1000000) (n := 60) (by kernel_rfl)
theorem k657 : e657.Ok Tryz.prog gl := ent_ok (rd := []) ok9 fine (imp := imp) (k := 1000000) (n := 60) (by kernel_rfl)
theorem k670 : e670.Ok Tryz.prog gl := ent_ok (rd := []) ok9 fine (imp := imp) (k := 1000000) (n := 60) (by kernel_rfl)
theorem k677 : e677.Ok Tryz.prog gl := ent_ok (rd := []) ok9 fine (imp := imp) (k := 1000000) (n := 60) (by kernel_rfl)
theorem k681 : e681.Ok Tryz.prog gl := ent_ok (rd := []) ok9 fine (imp := imp) (k := 1000000) (n := 60) (by kernel_rfl)
theorem k682 : e682.Ok Tryz.prog gl := ent_ok (rd := []) ok9 fine (imp := imp) (k := 1000000) (n := 60) (by kernel_rfl)
theorem k691 : e691.Ok Tryz.prog gl := ent_ok (rd := []) ok9 fine (imp := imp) (k := 1000000) (n := 60) (by kernel_rfl)
theorem k698 : e698.Ok Tryz.prog gl := ent_ok (rd := []) ok9 fine (imp := imp) (k := 1000000) (n := 60) (by kernel_rfl)
theorem k701 : e701.Ok Tryz.prog gl := ent_ok (rd := []) ok9 fine (imp := imp) (k := 1000000) (n := 60) (by kernel_rfl)
theorem k706 : e706.Ok Tryz.prog gl := ent_ok (rd := []) ok9 fine (imp := imp) (k := 1000000) (n := 60) (by kernel_rfl)
theorem k709 : e709.Ok Tryz.prog gl := ent_ok (rd := []) ok9 fine (imp := imp) (k := 1000000) (n := 60) (by kernel_rfl)
theorem k712 : e712.Ok Tryz.prog gl := ent_ok (rd := []) ok9 fine (imp := imp) (k := 1000000) (n := 60) (by kernel_rfl)
theorem k718 : e718.Ok Tryz.prog gl := ent_ok (rd := []) ok9 fine (imp := imp) (k := 1000000) (n := 60) (by kernel_rfl)
theorem k719 : e719.Ok Tryz.prog gl := ent_ok (rd := []) ok9 fine (imp := imp) (k := 1000000) (n := 60) (by kernel_rfl)
theorem k730 : e730.Ok Tryz.prog gl := ent_ok (rd := []) ok9 fine (imp := imp) (k := 1000000) (n := 60) (by kernel_rfl)
theorem k731 : e731.Ok Tryz.prog gl := ent_ok (rd := []) ok9 fine (imp := imp) (k := 1000000) (n := 60) (by kernel_rfl)
theorem k738 : e738.Ok Tryz.prog gl := ent_ok (rd := []) ok9 fine (imp := imp) (k := 1000000) (n := 60) (by kernel_rfl)
theorem k739 : e739.Ok Tryz.prog gl := ent_ok (rd := []) ok9 fine (imp := imp) (k := 1000000) (n := 60) (by kernel_rfl)
theorem k740 : e740.Ok Tryz.prog gl := ent_ok (rd := []) ok9 fine (imp := imp) (k := 1000000) (n := 60) (by kernel_rfl)
theorem k743 : e743.Ok Tryz.prog gl := ent_ok (rd := []) ok9 fine (imp := imp) (k := 1000000) (n := 60) (by kernel_rfl)
theorem k747 : e747.Ok Tryz.prog gl := ent_ok (rd := []) ok9 fine (imp := imp) (k := 1000000) (n := 60) (by kernel_rfl)
theorem k757 : e757.Ok Tryz.prog gl := ent_ok (rd := []) ok9 fine (imp := imp) (k := 1000000) (n := 60) (by kernel_rfl)
theorem k763 : e763.Ok Tryz.prog gl := ent_ok (rd := []) ok9 fine (imp := imp) (k := 1000000) (n := 60) (by kernel_rfl)
theorem k770 : e770.Ok Tryz.prog gl := ent_ok (rd := []) ok9 fine (imp := imp) (k := 1000000) (n := 60) (by kernel_rfl)
end Go.Proofs.YtdnbnpknpejpdaaGreatDoor.Tik
