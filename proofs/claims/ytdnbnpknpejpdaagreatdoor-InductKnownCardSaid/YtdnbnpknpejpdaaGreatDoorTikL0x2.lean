/- Known calls, by evaluation. -/
import Derived.Test.YtdnbnpknpejpdaaGreatDoorTikD
set_option linter.unusedVariables false
set_option linter.unusedSimpArgs false
namespace Go.Proofs.YtdnbnpknpejpdaaGreatDoor.Tik
open Go Go.Proofs.YtdnbnpknpejpdaaGreatDoor.Sw
set_option maxRecDepth 100000
theorem k24 : e24.Ok Tryz.prog gl := ent_ok (rd := []) ok0 fine (imp := imp) (k := 1000000) (n := 60) (by kernel_rfl)
theorem k43 : e43.Ok Tryz.prog gl := ent_ok (rd := []) ok0 fine (imp := imp) (k := 1000000) (n := 60) (by kernel_rfl)
theorem k62 : e62.Ok Tryz.prog gl := ent_ok (rd := []) ok0 fine (imp := imp) (k := 1000000) (n := 60) (by kernel_rfl)
theorem k78 : e78.Ok Tryz.prog gl := ent_ok (rd := []) ok0 fine (imp := imp) (k := 1000000) (n := 60) (by kernel_rfl)
theorem k91 : e91.Ok Tryz.prog gl := ent_ok (rd := []) ok0 fine (imp := imp) (k := 1000000) (n := 60) (by kernel_rfl)
theorem k95 : e95.Ok Tryz.prog gl := ent_ok (rd := []) ok0 fine (imp := imp) (k := 1000000) (n := 60) (by kernel_rfl)
theorem k105 : e105.Ok Tryz.prog gl := ent_ok (rd := []) ok0 fine (imp := imp) (k := 1000000) (n := 60) (by kernel_rfl)
theorem k106 : e106.Ok Tryz.prog gl := ent_ok (rd := []) ok0 fine (imp := imp) (k := 1000000) (n := 60) (by kernel_rfl)
theorem k110 : e110.Ok Tryz.prog gl := ent_ok (rd := []) ok0 fine (imp := imp) (k := 1000000) (n := 60) (by kernel_rfl)
theorem k129 : e129.Ok Tryz.prog gl := ent_ok (rd := []) ok0 fine (imp := imp) (k := 1000000) (n := 60) (by kernel_rfl)
theorem k135 : e135.Ok Tryz.prog gl := ent_ok (rd := []) ok0 fine (imp := imp) (k := 1000000) (n := 60) (by kernel_rfl)
theorem k151 : e151.Ok Tryz.prog gl := ent_ok (rd := []) ok0 fine (imp := imp) (k := 1000000) (n := 60) (by kernel_rfl)
theorem k154 : e154.Ok Tryz.prog gl := ent_ok (rd := []) ok0 fine (imp := imp) (k := 1000000) (n := 60) (by kernel_rfl)
theorem k157 : e157.Ok Tryz.prog gl := ent_ok (rd := []) ok0 fine (imp := imp) (k := 1000000) (n := 60) (by kernel_rfl)
theorem k158 : e158.Ok Tryz.prog gl := ent_ok (rd := []) ok0 fine (imp := imp) (k := 1000000) (n := 60) (by kernel_rfl)
theorem k159 : e159.Ok Tryz.prog gl := ent_ok (rd := []) ok0 fine (imp := imp) (k := 1000000) (n := 60) (by kernel_rfl)
theorem k160 : e160.Ok Tryz.prog gl := ent_ok (rd := []) ok0 fine (imp := imp) (k := 1000000) (n := 60) (by kernel_rfl)
theorem k172 : e172.Ok Tryz.prog gl := ent_ok (rd := []) ok0 fine (imp := imp) (k := 1000000) (n := 60) (by kernel_rfl)
theorem k179 : e179.Ok Tryz.prog gl := ent_ok (rd := []) ok0 fine (imp := imp) (k := 1000000) (n := 60) (by kernel_rfl)
theorem k183 : e183.Ok Tryz.prog gl := ent_ok (rd := [0]) ok0 fine (imp := imp) (k := 1000000) (n := 60) (by kernel_rfl)
theorem k188 : e188.Ok Tryz.prog gl := ent_ok (rd := [0]) ok0 fine (imp := imp) (k := 1000000) (n := 60) (by kernel_rfl)
theorem k199 : e199.Ok Tryz.prog gl := ent_ok (rd := []) ok0 fine (imp := imp) (k := 1000000) (n := 60) (by kernel_rfl)
theorem k232 : e232.Ok Tryz.prog gl := ent_ok (rd := [0]) ok0 fine (imp := imp) (k := 1000000) (n := 60) (by kernel_rfl)
theorem k243 : e243.Ok Tryz.prog gl := ent_ok (rd := [0, 1]) ok0 fine (imp := imp) (k := 1000000) (n := 60) (by kernel_rfl)
theorem k250 : e250.Ok Tryz.prog gl := ent_ok (rd := []) ok0 fine (imp := imp) (k := 1000000) (n := 60) (by kernel_rfl)
theorem k251 : e251.Ok Tryz.prog gl := ent_ok (rd := []) ok0 fine (imp := imp) (k := 1000000) (n := 60) (by kernel_rfl)
theorem k256 : e256.Ok Tryz.prog gl := ent_ok (rd := [0]) ok0 fine (imp := imp) (k := 1000000) (n := 60) (by kernel_rfl)
theorem k265 : e265.Ok Tryz.prog gl := ent_ok (rd := []) ok0 fine (imp := imp) (k := 1000000) (n := 60) (by kernel_rfl)
theorem k279 : e279.Ok Tryz.prog gl := ent_ok (rd := []) ok0 fine (imp := imp) (k := 1000000) (n := 60) (by kernel_rfl)
end Go.Proofs.YtdnbnpknpejpdaaGreatDoor.Tik
