/- Known calls, by evaluation. -/
import Derived.Test.YtdnbnpknpejpdaaGreatDoorTikM1
set_option linter.unusedVariables false
set_option linter.unusedSimpArgs false
namespace Go.Proofs.YtdnbnpknpejpdaaGreatDoor.Tik
open Go Go.Proofs.YtdnbnpknpejpdaaGreatDoor.Sw
set_option maxRecDepth 100000
theorem k384 : e384.Ok Tryz.prog gl := ent_ok (rd := []) ok2 fine (imp := imp) (k := 1000000) (n := 60) (by kernel_rfl)
theorem k385 : e385.Ok Tryz.prog gl := ent_ok (rd := []) ok2 fine (imp := imp) (k := 1000000) (n := 60) (by kernel_rfl)
theorem k390 : e390.Ok Tryz.prog gl := ent_ok (rd := []) ok2 fine (imp := imp) (k := 1000000) (n := 60) (by kernel_rfl)
theorem k420 : e420.Ok Tryz.prog gl := ent_ok (rd := []) ok2 fine (imp := imp) (k := 1000000) (n := 60) (by kernel_rfl)
theorem k421 : e421.Ok Tryz.prog gl := ent_ok (rd := []) ok2 fine (imp := imp) (k := 1000000) (n := 60) (by kernel_rfl)
theorem k423 : e423.Ok Tryz.prog gl := ent_ok (rd := []) ok2 fine (imp := imp) (k := 1000000) (n := 60) (by kernel_rfl)
theorem k424 : e424.Ok Tryz.prog gl := ent_ok (rd := []) ok2 fine (imp := imp) (k := 1000000) (n := 60) (by kernel_rfl)
theorem k434 : e434.Ok Tryz.prog gl := ent_ok (rd := []) ok2 fine (imp := imp) (k := 1000000) (n := 60) (by kernel_rfl)
end Go.Proofs.YtdnbnpknpejpdaaGreatDoor.Tik
