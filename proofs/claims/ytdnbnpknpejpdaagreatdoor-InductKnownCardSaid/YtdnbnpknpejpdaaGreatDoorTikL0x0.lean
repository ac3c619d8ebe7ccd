/- Known calls, by evaluation. -/
import Derived.Test.YtdnbnpknpejpdaaGreatDoorTikD
set_option linter.unusedVariables false
set_option linter.unusedSimpArgs false
namespace Go.Proofs.YtdnbnpknpejpdaaGreatDoor.Tik
open Go Go.Proofs.YtdnbnpknpejpdaaGreatDoor.Sw
set_option maxRecDepth 100000
theorem k3 : e3.Ok Tryz.prog gl := ent_ok (rd := []) ok0 fine (imp := imp) (k := 1000000) (n := 60) (by kernel_rfl)
theorem k22 : e22.Ok Tryz.prog gl := ent_ok (rd := []) ok0 fine (imp := imp) (k := 1000000) (n := 60) (by kernel_rfl)
theorem k44 : e44.Ok Tryz.prog gl := ent_ok (rd := []) ok0 fine (imp := imp) (k := 1000000) (n := 60) (by kernel_rfl)
theorem k52 : e52.Ok Tryz.prog gl := ent_ok (rd := []) ok0 fine (imp := imp) (k := 1000000) (n := 60) (by kernel_rfl)
theorem k61 : e61.Ok Tryz.prog gl := ent_ok (rd := []) ok0 fine (imp := imp) (k := 1000000) (n := 60) (by kernel_rfl)
theorem k71 : e71.Ok Tryz.prog gl := ent_ok (rd := []) ok0 fine (imp := imp) (k := 1000000) (n := 60) (by kernel_rfl)
theorem k90 : e90.Ok Tryz.prog gl := ent_ok (rd := []) ok0 fine (imp := imp) (k := 1000000) (n := 60) (by kernel_rfl)
theorem k92 : e92.Ok Tryz.prog gl := ent_ok (rd := []) ok0 fine (imp := imp) (k := 1000000) (n := 60) (by kernel_rfl)
theorem k108 : e108.Ok Tryz.prog gl := ent_ok (rd := []) ok0 fine (imp := imp) (k := 1000000) (n := 60) (by kernel_rfl)
theorem k117 : e117.Ok Tryz.prog gl := ent_ok (rd := []) ok0 fine (imp := imp) (k := 1000000) (n := 60) (by kernel_rfl)
theorem k119 : e119.Ok Tryz.prog gl := ent_ok (rd := []) ok0 fine (imp := imp) (k := 1000000) (n := 60) (by kernel_rfl)
theorem k123 : e123.Ok Tryz.prog gl := ent_ok (rd := []) ok0 fine (imp := imp) (k := 1000000) (n := 60) (by kernel_rfl)
theorem k127 : e127.Ok Tryz.prog gl := ent_ok (rd := []) ok0 fine (imp := imp) (k := 1000000) (n := 60) (by kernel_rfl)
theorem k134 : e134.Ok Tryz.prog gl := ent_ok (rd := []) ok0 fine (imp := imp) (k := 1000000) (n := 60) (by kernel_rfl)
theorem k136 : e136.Ok Tryz.prog gl := ent_ok (rd := []) ok0 fine (imp := imp) (k := 1000000) (n := 60) (by kernel_rfl)
theorem k141 : e141.Ok Tryz.prog gl := ent_ok (rd := []) ok0 fine (imp := imp) (k := 1000000) (n := 60) (by kernel_rfl)
theorem k146 : e146.Ok Tryz.prog gl := ent_ok (rd := []) ok0 fine (imp := imp) (k := 1000000) (n := 60) (by kernel_rfl)
theorem k153 : e153.Ok Tryz.prog gl := ent_ok (rd := []) ok0 fine (imp := imp) (k := 1000000) (n := 60) (by kernel_rfl)
theorem k164 : e164.Ok Tryz.prog gl := ent_ok (rd := []) ok0 fine (imp := imp) (k := 1000000) (n := 60) (by kernel_rfl)
theorem k173 : e173.Ok Tryz.prog gl := ent_ok (rd := []) ok0 fine (imp := imp) (k := 1000000) (n := 60) (by kernel_rfl)
theorem k176 : e176.Ok Tryz.prog gl := ent_ok (rd := []) ok0 fine (imp := imp) (k := 1000000) (n := 60) (by kernel_rfl)
theorem k184 : e184.Ok Tryz.prog gl := ent_ok (rd := []) ok0 fine (imp := imp) (k := 1000000) (n := 60) (by kernel_rfl)
theorem k192 : e192.Ok Tryz.prog gl := ent_ok (rd := []) ok0 fine (imp := imp) (k := 1000000) (n := 60) (by kernel_rfl)
theorem k200 : e200.Ok Tryz.prog gl := ent_ok (rd := []) ok0 fine (imp := imp) (k := 1000000) (n := 60) (by kernel_rfl)
theorem k212 : e212.Ok Tryz.prog gl := ent_ok (rd := [0]) ok0 fine (imp := imp) (k := 1000000) (n := 60) (by kernel_rfl)
theorem k214 : e214.Ok Tryz.prog gl := ent_ok (rd := []) ok0 fine (imp := imp) (k := 1000000) (n := 60) (by kernel_rfl)
theorem k230 : e230.Ok Tryz.prog gl := ent_ok (rd := []) ok0 fine (imp := imp) (k := 1000000) (n := 60) (by kernel_rfl)
theorem k237 : e237.Ok Tryz.prog gl := ent_ok (rd := [0, 1]) ok0 fine (imp := imp) (k := 1000000) (n := 60) (by kernel_rfl)
theorem k238 : e238.Ok Tryz.prog gl := ent_ok (rd := [0]) ok0 fine (imp := imp) (k := 1000000) (n := 60) (by kernel_rfl)
theorem k258 : e258.Ok Tryz.prog gl := ent_ok (rd := [0]) ok0 fine (imp := imp) (k := 1000000) (n := 60) (by kernel_rfl)
theorem k261 : e261.Ok Tryz.prog gl := ent_ok (rd := [0]) ok0 fine (imp := imp) (k := 1000000) (n := 60) (by kernel_rfl)
theorem k266 : e266.Ok Tryz.prog gl := ent_ok (rd := []) ok0 fine (imp := imp) (k := 1000000) (n := 60) (by kernel_rfl)
theorem k270 : e270.Ok Tryz.prog gl := ent_ok (rd := []) ok0 fine (imp := imp) (k := 1000000) (n := 60) (by kernel_rfl)
end Go.Proofs.YtdnbnpknpejpdaaGreatDoor.Tik
