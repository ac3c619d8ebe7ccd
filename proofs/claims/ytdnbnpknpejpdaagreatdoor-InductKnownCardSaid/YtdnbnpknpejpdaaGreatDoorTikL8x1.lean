/- Known calls, by evaluation. -/
import Derived.Test.YtdnbnpknpejpdaaGreatDoorTikM7
set_option linter.unusedVariables false
set_option linter.unusedSimpArgs false
namespace Go.Proofs.YtdnbnpknpejpdaaGreatDoor.Tik
open Go Go.Proofs.YtdnbnpknpejpdaaGreatDoor.Sw
set_option maxRecDepth 100000
theorem k582 : e582.Ok Tryz.prog gl := ent_ok (rd := []) ok8 fine (imp := imp) (k := 1000000) (n := 60) (by kernel_rfl)
theorem k585 : e585.Ok Tryz.prog gl := ent_ok (rd := []) ok8 fine (imp := imp) (k := 1000000) (n := 60) (by kernel_rfl)
theorem k586 : e586.Ok Tryz.prog gl := ent_ok (rd := []) ok8 fine (imp := imp) (k := 1000000) (n := 60) (by kernel_rfl)
theorem k590 : e590.Ok Tryz.prog gl := ent_ok (rd := []) ok8 fine (imp := imp) (k := 1000000) (n := 60) (by kernel_rfl)
theorem k592 : e592.Ok Tryz.prog gl := ent_ok (rd := []) ok8 fine (imp := imp) (k := 1000000) (n := 60) (by kernel_rfl)
theorem k594 : e594.Ok Tryz.prog gl := ent_ok (rd := []) ok8 fine (imp := imp) (k := 1000000) (n := 60) (by kernel_rfl)
theorem k597 : e597.Ok Tryz.prog gl := ent_ok (rd := []) ok8 fine (imp := imp) (k := 1000000) (n := 60) (by kernel_rfl)
theorem k600 : e600.Ok Tryz.prog gl := ent_ok (rd := []) ok8 fine (imp := imp) (k := 1000000) (n := 60) (by kernel_rfl)
theorem k601 : e601.Ok Tryz.prog gl := ent_ok (rd := []) ok8 fine (imp := imp) (k := 1000000) (n := 60) (by kernel_rfl)
theorem k605 : e605.Ok Tryz.prog gl := ent_ok (rd := []) ok8 fine (imp := imp) (k := 1000000) (n := 60) (by kernel_rfl)
theorem k608 : e608.Ok Tryz.prog gl := ent_ok (rd := []) ok8 fine (imp := imp) (k := 1000000) (n := 60) (by kernel_rfl)
theorem k609 : e609.Ok Tryz.prog gl := ent_ok (rd := []) ok8 fine (imp := imp) (k := 1000000) (n := 60) (by kernel_rfl)
theorem k610 : e610.Ok Tryz.prog gl := ent_ok (rd := []) ok8 fine (imp := imp) (k := 1000000) (n := 60) (by kernel_rfl)
theorem k613 : e613.Ok Tryz.prog gl := ent_ok (rd := []) ok8 fine (imp := imp) (k := 1000000) (n := 60) (by kernel_rfl)
theorem k614 : e614.Ok Tryz.prog gl := ent_ok (rd := []) ok8 fine (imp := imp) (k := 1000000) (n := 60) (by kernel_rfl)
theorem k615 : e615.Ok Tryz.prog gl := ent_ok (rd := []) ok8 fine (imp := imp) (k := 1000000) (n := 60) (by kernel_rfl)
theorem k616 : e616.Ok Tryz.prog gl := ent_ok (rd := []) ok8 fine (imp := imp) (k := 1000000) (n := 60) (by kernel_rfl)
theorem k617 : e617.Ok Tryz.prog gl := ent_ok (rd := []) ok8 fine (imp := imp) (k := 1000000) (n := 60) (by kernel_rfl)
theorem k618 : e618.Ok Tryz.prog gl := ent_ok (rd := []) ok8 fine (imp := imp) (k := 1000000) (n := 60) (by kernel_rfl)
theorem k625 : e625.Ok Tryz.prog gl := ent_ok (rd := []) ok8 fine (imp := imp) (k := 1000000) (n := 60) (by kernel_rfl)
theorem k627 : e627.Ok Tryz.prog gl := ent_ok (rd := []) ok8 fine (imp := imp) (k := 1000000) (n := 60) (by kernel_rfl)
theorem k628 : e628.Ok Tryz.prog gl := ent_ok (rd := []) ok8 fine (imp := imp) (k := 1000000) (n := 60) (by kernel_rfl)
theorem k629 : e629.Ok Tryz.prog gl := ent_ok (rd := []) ok8 fine (imp := imp) (k := 1000000) (n := 60) (by kernel_rfl)
end Go.Proofs.YtdnbnpknpejpdaaGreatDoor.Tik
