/- Known calls, by evaluation. -/
import Derived.Test.YtdnbnpknpejpdaaGreatDoorTikM8
set_option linter.unusedVariables false
set_option linter.unusedSimpArgs false
namespace Go.Proofs.YtdnbnpknpejpdaaGreatDoor.Tik
open Go Go.Proofs.YtdnbnpknpejpdaaGreatDoor.Sw
set_option maxRecDepth 100000
theorem k630 : e630.Ok Tryz.prog gl := ent_ok (rd := []) ok9 fine (imp := imp) (k := 1000000) (n := 60) (by kernel_rfl)
theorem k632 : e632.Ok Tryz.prog gl := ent_ok (rd := []) ok9 fine (imp := imp) (k := 1000000) (n := 60) (by kernel_rfl)
theorem k638 : e638.Ok Tryz.prog gl := ent_ok (rd := []) ok9 fine (imp := imp) (k := 1000000) (n := 60) (by kernel_rfl)
theorem k641 : e641.Ok Tryz.prog gl := ent_ok (rd := []) ok9 fine (imp := imp) (k := 1000000) (n := 60) (by kernel_rfl)
theorem k646 : e646.Ok Tryz.prog gl := ent_ok (rd := []) ok9 fine (imp := imp) (k := 1000000) (n := 60) (by kernel_rfl)
theorem k656 : e656.Ok Tryz.prog gl := ent_ok (rd := []) ok9 fine (imp := imp) (k := 1000000) (n := 60) (by kernel_rfl)
theorem k663 : e663.Ok Tryz.prog gl := ent_ok (rd := []) ok9 fine (imp := imp) (k := 1000000) (n := 60) (by kernel_rfl)
theorem k665 : e665.Ok Tryz.prog gl := ent_ok (rd := []) ok9 fine (imp := imp) (k := 1000000) (n := 60) (by kernel_rfl)
theorem k667 : e667.Ok Tryz.prog gl := ent_ok (rd := []) ok9 fine (imp := imp) (k := 1000000) (n := 60) (by kernel_rfl)
theorem k673 : e673.Ok Tryz.prog gl := ent_ok (rd := []) ok9 fine (imp := imp) (k := 1000000) (n := 60) (by kernel_rfl)
theorem k674 : e674.Ok Tryz.prog gl := ent_ok (rd := []) ok9 fine (imp := imp) (k := 1000000) (n := 60) (by kernel_rfl)
theorem k684 : e684.Ok Tryz.prog gl := ent_ok (rd := []) ok9 fine (imp := imp) (k := 1000000) (n := 60) (by kernel_rfl)
theorem k689 : e689.Ok Tryz.prog gl := ent_ok (rd := []) ok9 fine (imp := imp) (k := 1000000) (n := 60) (by kernel_rfl)
theorem k692 : e692.Ok Tryz.prog gl := ent_ok (rd := []) ok9 fine (imp := imp) (k := 1000000) (n := 60) (by kernel_rfl)
theorem k694 : e694.Ok Tryz.prog gl := ent_ok (rd := []) ok9 fine (imp := imp) (k := 1000000) (n := 60) (by kernel_rfl)
theorem k702 : e702.Ok Tryz.prog gl := ent_ok (rd := []) ok9 fine (imp := imp) (k := 1000000) (n := 60) (by kernel_rfl)
theorem k704 : e704.Ok Tryz.prog gl := ent_ok (rd := []) ok9 fine (imp := imp) (k := 1000000) (n := 60) (by kernel_rfl)
theorem k711 : e711.Ok Tryz.prog gl := ent_ok (rd := []) ok9 fine (imp := imp) (k := 1000000) (n := 60) (by kernel_rfl)
theorem k713 : e713.Ok Tryz.prog gl := ent_ok (rd := []) ok9 fine (imp := imp) (k := 1000000) (n := 60) (by kernel_rfl)
theorem k722 : e722.Ok Tryz.prog gl := ent_ok (rd := []) ok9 fine (imp := imp) (k := 1000000) (n := 60) (by kernel_rfl)
theorem k733 : e733.Ok Tryz.prog gl := ent_ok (rd := []) ok9 fine (imp := imp) (k := 1000000) (n := 60) (by kernel_rfl)
theorem k749 : e749.Ok Tryz.prog gl := ent_ok (rd := []) ok9 fine (imp := imp) (k := 1000000) (n := 60) (by kernel_rfl)
theorem k756 : e756.Ok Tryz.prog gl := ent_ok (rd := []) ok9 fine (imp := imp) (k := 1000000) (n := 60) (by kernel_rfl)
end Go.Proofs.YtdnbnpknpejpdaaGreatDoor.Tik
