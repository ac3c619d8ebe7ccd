/- Known calls, by evaluation. -/
import Derived.Test.YtdnbnpknpejpdaaGreatDoorTikM0
set_option linter.unusedVariables false
set_option linter.unusedSimpArgs false
namespace Go.Proofs.YtdnbnpknpejpdaaGreatDoor.Tik
open Go Go.Proofs.YtdnbnpknpejpdaaGreatDoor.Sw
set_option maxRecDepth 100000
theorem k290 : e290.Ok Tryz.prog gl := ent_ok (rd := []) ok1 fine (imp := imp) (k := 1000000) (n := 60) (by kernel_rfl)
theorem k303 : e303.Ok Tryz.prog gl := ent_ok (rd := []) ok1 fine (imp := imp) (k := 1000000) (n := 60) (by kernel_rfl)
theorem k310 : e310.Ok Tryz.prog gl := ent_ok (rd := []) ok1 fine (imp := imp) (k := 1000000) (n := 60) (by kernel_rfl)
theorem k314 : e314.Ok Tryz.prog gl := ent_ok (rd := []) ok1 fine (imp := imp) (k := 1000000) (n := 60) (by kernel_rfl)
theorem k325 : e325.Ok Tryz.prog gl := ent_ok (rd := []) ok1 fine (imp := imp) (k := 1000000) (n := 60) (by kernel_rfl)
theorem k327 : e327.Ok Tryz.prog gl := ent_ok (rd := []) ok1 fine (imp := imp) (k := 1000000) (n := 60) (by kernel_rfl)
theorem k331 : e331.Ok Tryz.prog gl := ent_ok (rd := []) ok1 fine (imp := imp) (k := 1000000) (n := 60) (by kernel_rfl)
theorem k333 : e333.Ok Tryz.prog gl := ent_ok (rd := [0]) ok1 fine (imp := imp) (k := 1000000) (n := 60) (by kernel_rfl)
theorem k349 : e349.Ok Tryz.prog gl := ent_ok (rd := []) ok1 fine (imp := imp) (k := 1000000) (n := 60) (by kernel_rfl)
theorem k351 : e351.Ok Tryz.prog gl := ent_ok (rd := []) ok1 fine (imp := imp) (k := 1000000) (n := 60) (by kernel_rfl)
theorem k353 : e353.Ok Tryz.prog gl := ent_ok (rd := []) ok1 fine (imp := imp) (k := 1000000) (n := 60) (by kernel_rfl)
theorem k381 : e381.Ok Tryz.prog gl := ent_ok (rd := []) ok1 fine (imp := imp) (k := 1000000) (n := 60) (by kernel_rfl)
end Go.Proofs.YtdnbnpknpejpdaaGreatDoor.Tik
