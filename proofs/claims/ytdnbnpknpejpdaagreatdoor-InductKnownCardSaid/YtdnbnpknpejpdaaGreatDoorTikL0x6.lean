/- Known calls, by evaluation. -/
import Derived.Test.YtdnbnpknpejpdaaGreatDoorTikD
set_option linter.unusedVariables false
set_option linter.unusedSimpArgs false
namespace Go.Proofs.YtdnbnpknpejpdaaGreatDoor.Tik
open Go Go.Proofs.YtdnbnpknpejpdaaGreatDoor.Sw
set_option maxRecDepth 100000
theorem k0 : e0.Ok Tryz.prog gl := ent_ok (rd := []) ok0 fine (imp := imp) (k := 1000000) (n := 60) (by kernel_rfl)
theorem k5 : e5.Ok Tryz.prog gl := ent_ok (rd := []) ok0 fine (imp := imp) (k := 1000000) (n := 60) (by kernel_rfl)
theorem k7 : e7.Ok Tryz.prog gl := ent_ok (rd := []) ok0 fine (imp := imp) (k := 1000000) (n := 60) (by kernel_rfl)
theorem k18 : e18.Ok Tryz.prog gl := ent_ok (rd := []) ok0 fine (imp := imp) (k := 1000000) (n := 60) (by kernel_rfl)
theorem k20 : e20.Ok Tryz.prog gl := ent_ok (rd := []) ok0 fine (imp := imp) (k := 1000000) (n := 60) (by kernel_rfl)
theorem k34 : e34.Ok Tryz.prog gl := ent_ok (rd := []) ok0 fine (imp := imp) (k := 1000000) (n := 60) (by kernel_rfl)
theorem k45 : e45.Ok Tryz.prog gl := ent_ok (rd := []) ok0 fine (imp := imp) (k := 1000000) (n := 60) (by kernel_rfl)
theorem k97 : e97.Ok Tryz.prog gl := ent_ok (rd := []) ok0 fine (imp := imp) (k := 1000000) (n := 60) (by kernel_rfl)
theorem k99 : e99.Ok Tryz.prog gl := ent_ok (rd := []) ok0 fine (imp := imp) (k := 1000000) (n := 60) (by kernel_rfl)
theorem k101 : e101.Ok Tryz.prog gl := ent_ok (rd := []) ok0 fine (imp := imp) (k := 1000000) (n := 60) (by kernel_rfl)
theorem k109 : e109.Ok Tryz.prog gl := ent_ok (rd := []) ok0 fine (imp := imp) (k := 1000000) (n := 60) (by kernel_rfl)
theorem k126 : e126.Ok Tryz.prog gl := ent_ok (rd := []) ok0 fine (imp := imp) (k := 1000000) (n := 60) (by kernel_rfl)
theorem k143 : e143.Ok Tryz.prog gl := ent_ok (rd := []) ok0 fine (imp := imp) (k := 1000000) (n := 60) (by kernel_rfl)
theorem k148 : e148.Ok Tryz.prog gl := ent_ok (rd := []) ok0 fine (imp := imp) (k := 1000000) (n := 60) (by kernel_rfl)
theorem k150 : e150.Ok Tryz.prog gl := ent_ok (rd := []) ok0 fine (imp := imp) (k := 1000000) (n := 60) (by kernel_rfl)
theorem k167 : e167.Ok Tryz.prog gl := ent_ok (rd := []) ok0 fine (imp := imp) (k := 1000000) (n := 60) (by kernel_rfl)
theorem k170 : e170.Ok Tryz.prog gl := ent_ok (rd := [0]) ok0 fine (imp := imp) (k := 1000000) (n := 60) (by kernel_rfl)
theorem k182 : e182.Ok Tryz.prog gl := ent_ok (rd := []) ok0 fine (imp := imp) (k := 1000000) (n := 60) (by kernel_rfl)
theorem k191 : e191.Ok Tryz.prog gl := ent_ok (rd := [0]) ok0 fine (imp := imp) (k := 1000000) (n := 60) (by kernel_rfl)
theorem k196 : e196.Ok Tryz.prog gl := ent_ok (rd := []) ok0 fine (imp := imp) (k := 1000000) (n := 60) (by kernel_rfl)
theorem k210 : e210.Ok Tryz.prog gl := ent_ok (rd := []) ok0 fine (imp := imp) (k := 1000000) (n := 60) (by kernel_rfl)
theorem k217 : e217.Ok Tryz.prog gl := ent_ok (rd := []) ok0 fine (imp := imp) (k := 1000000) (n := 60) (by kernel_rfl)
theorem k227 : e227.Ok Tryz.prog gl := ent_ok (rd := []) ok0 fine (imp := imp) (k := 1000000) (n := 60) (by kernel_rfl)
theorem k240 : e240.Ok Tryz.prog gl := ent_ok (rd := [0, 1]) ok0 fine (imp := imp) (k := 1000000) (n := 60) (by kernel_rfl)
theorem k246 : e246.Ok Tryz.prog gl := ent_ok (rd := [0]) ok0 fine (imp := imp) (k := 1000000) (n := 60) (by kernel_rfl)
theorem k257 : e257.Ok Tryz.prog gl := ent_ok (rd := [4]) ok0 fine (imp := imp) (k := 1000000) (n := 60) (by kernel_rfl)
theorem k267 : e267.Ok Tryz.prog gl := ent_ok (rd := []) ok0 fine (imp := imp) (k := 1000000) (n := 60) (by kernel_rfl)
theorem k276 : e276.Ok Tryz.prog gl := ent_ok (rd := []) ok0 fine (imp := imp) (k := 1000000) (n := 60) (by kernel_rfl)
end Go.Proofs.YtdnbnpknpejpdaaGreatDoor.Tik
