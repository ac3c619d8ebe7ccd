/- Known calls, by evaluation. -/
import Derived.Test.YtdnbnpknpejpdaaGreatDoorTikM8
set_option linter.unusedVariables false
set_option linter.unusedSimpArgs false
namespace Go.Proofs.YtdnbnpknpejpdaaGreatDoor.Tik
open Go Go.Proofs.YtdnbnpknpejpdaaGreatDoor.Sw
set_option maxRecDepth 100000
theorem k635 : e635.Ok Tryz.prog gl := ent_ok (rd := []) ok9 fine (imp := imp) (k := 1000000) (n := 60) (by kernel_rfl)
theorem k643 : e643.Ok Tryz.prog gl := ent_ok (rd := []) ok9 fine (imp := imp) (k := 1000000) (n := 60) (by kernel_rfl)
theorem k650 : e650.Ok Tryz.prog gl := ent_ok (rd := []) ok9 fine (imp := imp) (k := 1000000) (n := 60) (by kernel_rfl)
theorem k651 : e651.Ok Tryz.prog gl := ent_ok (rd := []) ok9 fine (imp := imp) (k := 1000000) (n := 60) (by kernel_rfl)
theorem k654 : e654.Ok Tryz.prog gl := ent_ok (rd := []) ok9 fine (imp := imp) (k := 1000000) (n := 60) (by kernel_rfl)
theorem k659 : e659.Ok Tryz.prog gl := ent_ok (rd := []) ok9 fine (imp := imp) (k := 1000000) (n := 60) (by kernel_rfl)
theorem k662 : e662.Ok Tryz.prog gl := ent_ok (rd := []) ok9 fine (imp := imp) (k := 1000000) (n := 60) (by kernel_rfl)
theorem k668 : e668.Ok Tryz.prog gl := ent_ok (rd := []) ok9 fine (imp := imp) (k := 1000000) (n := 60) (by kernel_rfl)
theorem k679 : e679.Ok Tryz.prog gl := ent_ok (rd := []) ok9 fine (imp := imp) (k := 1000000) (n := 60) (by kernel_rfl)
theorem k686 : e686.Ok Tryz.prog gl := ent_ok (rd := []) ok9 fine (imp := imp) (k := 1000000) (n := 60) (by kernel_rfl)
theorem k687 : e687.Ok Tryz.prog gl := ent_ok (rd := []) ok9 fine (imp := imp) (k := 1000000) (n := 60) (by kernel_rfl)
theorem k696 : e696.Ok Tryz.prog gl := ent_ok (rd := []) ok9 fine (imp := imp) (k := 1000000) (n := 60) (by kernel_rfl)
theorem k700 : e700.Ok Tryz.prog gl := ent_ok (rd := []) ok9 fine (imp := imp) (k := 1000000) (n := 60) (by kernel_rfl)
theorem k707 : e707.Ok Tryz.prog gl := ent_ok (rd := []) ok9 fine (imp := imp) (k := 1000000) (n := 60) (by kernel_rfl)
theorem k715 : e715.Ok Tryz.prog gl := ent_ok (rd := []) ok9 fine (imp := imp) (k := 1000000) (n := 60) (by kernel_rfl)
theorem k716 : e716.Ok Tryz.prog gl := ent_ok (rd := []) ok9 fine (imp := imp) (k := 1000000) (n := 60) (by kernel_rfl)
theorem k721 : e721.Ok Tryz.prog gl := ent_ok (rd := []) ok9 fine (imp := imp) (k := 1000000) (n := 60) (by kernel_rfl)
theorem k724 : e724.Ok Tryz.prog gl := ent_ok (rd := []) ok9 fine (imp := imp) (k := 1000000) (n := 60) (by kernel_rfl)
theorem k726 : e726.Ok Tryz.prog gl := ent_ok (rd := []) ok9 fine (imp := imp) (k := 1000000) (n := 60) (by kernel_rfl)
theorem k735 : e735.Ok Tryz.prog gl := ent_ok (rd := []) ok9 fine (imp := imp) (k := 1000000) (n := 60) (by kernel_rfl)
theorem k737 : e737.Ok Tryz.prog gl := ent_ok (rd := []) ok9 fine (imp := imp) (k := 1000000) (n := 60) (by kernel_rfl)
theorem k742 : e742.Ok Tryz.prog gl := ent_ok (rd := []) ok9 fine (imp := imp) (k := 1000000) (n := 60) (by kernel_rfl)
theorem k745 : e745.Ok Tryz.prog gl := ent_ok (rd := []) ok9 fine (imp := imp) (k := 1000000) (n := 60) (by kernel_rfl)
theorem k750 : e750.Ok Tryz.prog gl := ent_ok (rd := []) ok9 fine (imp := imp) (k := 1000000) (n := 60) (by kernel_rfl)
theorem k751 : e751.Ok Tryz.prog gl := ent_ok (rd := []) ok9 fine (imp := imp) (k := 1000000) (n := 60) (by kernel_rfl)
theorem k752 : e752.Ok Tryz.prog gl := ent_ok (rd := []) ok9 fine (imp := imp) (k := 1000000) (n := 60) (by kernel_rfl)
theorem k759 : e759.Ok Tryz.prog gl := ent_ok (rd := []) ok9 fine (imp := imp) (k := 1000000) (n := 60) (by kernel_rfl)
theorem k766 : e766.Ok Tryz.prog gl := ent_ok (rd := []) ok9 fine (imp := imp) (k := 1000000) (n := 60) (by kernel_rfl)
theorem k768 : e768.Ok Tryz.prog gl := ent_ok (rd := []) ok9 fine (imp := imp) (k := 1000000) (n := 60) (by kernel_rfl)
end Go.Proofs.YtdnbnpknpejpdaaGreatDoor.Tik
