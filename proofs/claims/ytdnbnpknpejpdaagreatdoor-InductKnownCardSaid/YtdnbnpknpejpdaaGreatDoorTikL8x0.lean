/- Known calls, by evaluation. -/
import Derived.Test.YtdnbnpknpejpdaaGreatDoorTikM7
set_option linter.unusedVariables false
set_option linter.unusedSimpArgs false
namespace Go.Proofs.YtdnbnpknpejpdaaGreatDoor.Tik
open Go Go.Proofs.YtdnbnpknpejpdaaGreatDoor.Sw
set_option maxRecDepth 100000
theorem k580 : e580.Ok Tryz.prog gl := ent_ok (rd := []) ok8 fine (imp := imp) (k := 1000000) (n := 60) (by kernel_rfl)
theorem k581 : e581.Ok Tryz.prog gl := ent_ok (rd := []) ok8 fine (imp := imp) (k := 1000000) (n := 60) (by kernel_rfl)
theorem k583 : e583.Ok Tryz.prog gl := ent_ok (rd := []) ok8 fine (imp := imp) (k := 1000000) (n := 60) (by kernel_rfl)
theorem k587 : e587.Ok Tryz.prog gl := ent_ok (rd := []) ok8 fine (imp := imp) (k := 1000000) (n := 60) (by kernel_rfl)
theorem k588 : e588.Ok Tryz.prog gl := ent_ok (rd := []) ok8 fine (imp := imp) (k := 1000000) (n := 60) (by kernel_rfl)
theorem k589 : e589.Ok Tryz.prog gl := ent_ok (rd := []) ok8 fine (imp := imp) (k := 1000000) (n := 60) (by kernel_rfl)
theorem k591 : e591.Ok Tryz.prog gl := ent_ok (rd := []) ok8 fine (imp := imp) (k := 1000000) (n := 60) (by kernel_rfl)
theorem k593 : e593.Ok Tryz.prog gl := ent_ok (rd := []) ok8 fine (imp := imp) (k := 1000000) (n := 60) (by kernel_rfl)
theorem k595 : e595.Ok Tryz.prog gl := ent_ok (rd := []) ok8 fine (imp := imp) (k := 1000000) (n := 60) (by kernel_rfl)
theorem k603 : e603.Ok Tryz.prog gl := ent_ok (rd := []) ok8 fine (imp := imp) (k := 1000000) (n := 60) (by kernel_rfl)
theorem k604 : e604.Ok Tryz.prog gl := ent_ok (rd := []) ok8 fine (imp := imp) (k := 1000000) (n := 60) (by kernel_rfl)
theorem k606 : e606.Ok Tryz.prog gl := ent_ok (rd := []) ok8 fine (imp := imp) (k := 1000000) (n := 60) (by kernel_rfl)
theorem k611 : e611.Ok Tryz.prog gl := ent_ok (rd := []) ok8 fine (imp := imp) (k := 1000000) (n := 60) (by kernel_rfl)
theorem k612 : e612.Ok Tryz.prog gl := ent_ok (rd := []) ok8 fine (imp := imp) (k := 1000000) (n := 60) (by kernel_rfl)
theorem k621 : e621.Ok Tryz.prog gl := ent_ok (rd := []) ok8 fine (imp := imp) (k := 1000000) (n := 60) (by kernel_rfl)
end Go.Proofs.YtdnbnpknpejpdaaGreatDoor.Tik
