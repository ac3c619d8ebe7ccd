/- Known calls, by evaluation. -/
import Derived.Test.YtdnbnpknpejpdaaGreatDoorTikM8
set_option linter.unusedVariables false
set_option linter.unusedSimpArgs false
namespace Go.Proofs.YtdnbnpknpejpdaaGreatDoor.Tik
open Go Go.Proofs.YtdnbnpknpejpdaaGreatDoor.Sw
set_option maxRecDepth 100000
theorem k631 : e631.Ok Tryz.prog gl := ent_ok (rd := []) ok9 fine (imp := imp) (k := 1000000) (n := 60) (by kernel_rfl)
theorem k639 : e639.Ok Tryz.prog gl := ent_ok (rd := []) ok9 fine (imp := imp) (k := 1000000) (n := 60) (by kernel_rfl)
theorem k640 : e640.Ok Tryz.prog gl := ent_ok (rd := []) ok9 fine (imp := imp) (k := 1000000) (n := 60) (by kernel_rfl)
theorem k644 : e644.Ok Tryz.prog gl := ent_ok (rd := []) ok9 fine (imp := imp) (k := 1000000) (n := 60) (by kernel_rfl)
theorem k652 : e652.Ok Tryz.prog gl := ent_ok (rd := []) ok9 fine (imp := imp) (k := 1000000) (n := 60) (by kernel_rfl)
theorem k655 : e655.Ok Tryz.prog gl := ent_ok (rd := []) ok9 fine (imp := imp) (k := 1000000) (n := 60) (by kernel_rfl)
theorem k666 : e666.Ok Tryz.prog gl := ent_ok (rd := []) ok9 fine (imp := imp) (k := 1000000) (n := 60) (by kernel_rfl)
theorem k669 : e669.Ok Tryz.prog gl := ent_ok (rd := []) ok9 fine (imp := imp) (k := 1000000) (n := 60) (by kernel_rfl)
theorem k676 : e676.Ok Tryz.prog gl := ent_ok (rd := []) ok9 fine (imp := imp) (k := 1000000) (n := 60) (by kernel_rfl)
theorem k680 : e680.Ok Tryz.prog gl := ent_ok (rd := []) ok9 fine (imp := imp) (k := 1000000) (n := 60) (by kernel_rfl)
theorem k683 : e683.Ok Tryz.prog gl := ent_ok (rd := []) ok9 fine (imp := imp) (k := 1000000) (n := 60) (by kernel_rfl)
theorem k688 : e688.Ok Tryz.prog gl := ent_ok (rd := []) ok9 fine (imp := imp) (k := 1000000) (n := 60) (by kernel_rfl)
theorem k690 : e690.Ok Tryz.prog gl := ent_ok (rd := []) ok9 fine (imp := imp) (k := 1000000) (n := 60) (by kernel_rfl)
theorem k697 : e697.Ok Tryz.prog gl := ent_ok (rd := []) ok9 fine (imp := imp) (k := 1000000) (n := 60) (by kernel_rfl)
theorem k705 : e705.Ok Tryz.prog gl := ent_ok (rd := []) ok9 fine (imp := imp) (k := 1000000) (n := 60) (by kernel_rfl)
theorem k708 : e708.Ok Tryz.prog gl := ent_ok (rd := []) ok9 fine (imp := imp) (k := 1000000) (n := 60) (by kernel_rfl)
theorem k710 : e710.Ok Tryz.prog gl := ent_ok (rd := []) ok9 fine (imp := imp) (k := 1000000) (n := 60) (by kernel_rfl)
theorem k717 : e717.Ok Tryz.prog gl := ent_ok (rd := []) ok9 fine (imp := imp) (k := 1000000) (n := 60) (by kernel_rfl)
theorem k729 : e729.Ok Tryz.prog gl := ent_ok (rd := []) ok9 fine (imp := imp) (k := 1000000) (n := 60) (by kernel_rfl)
theorem k732 : e732.Ok Tryz.prog gl := ent_ok (rd := []) ok9 fine (imp := imp) (k := 1000000) (n := 60) (by kernel_rfl)
theorem k736 : e736.Ok Tryz.prog gl := ent_ok (rd := []) ok9 fine (imp := imp) (k := 1000000) (n := 60) (by kernel_rfl)
theorem k746 : e746.Ok Tryz.prog gl := ent_ok (rd := []) ok9 fine (imp := imp) (k := 1000000) (n := 60) (by kernel_rfl)
theorem k753 : e753.Ok Tryz.prog gl := ent_ok (rd := []) ok9 fine (imp := imp) (k := 1000000) (n := 60) (by kernel_rfl)
theorem k755 : e755.Ok Tryz.prog gl := ent_ok (rd := []) ok9 fine (imp := imp) (k := 1000000) (n := 60) (by kernel_rfl)
theorem k760 : e760.Ok Tryz.prog gl := ent_ok (rd := []) ok9 fine (imp := imp) (k := 1000000) (n := 60) (by kernel_rfl)
theorem k762 : e762.Ok Tryz.prog gl := ent_ok (rd := []) ok9 fine (imp := imp) (k := 1000000) (n := 60) (by kernel_rfl)
theorem k767 : e767.Ok Tryz.prog gl := ent_ok (rd := []) ok9 fine (imp := imp) (k := 1000000) (n := 60) (by kernel_rfl)
theorem k769 : e769.Ok Tryz.prog gl := ent_ok (rd := []) ok9 fine (imp := imp) (k := 1000000) (n := 60) (by kernel_rfl)
end Go.Proofs.YtdnbnpknpejpdaaGreatDoor.Tik
