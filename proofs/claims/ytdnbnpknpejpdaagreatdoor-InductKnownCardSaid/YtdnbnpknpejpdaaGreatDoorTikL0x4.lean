/- Known calls, by evaluation. -/
import Derived.Test.YtdnbnpknpejpdaaGreatDoorTikD
set_option linter.unusedVariables false
set_option linter.unusedSimpArgs false
namespace Go.Proofs.YtdnbnpknpejpdaaGreatDoor.Tik
open Go Go.Proofs.YtdnbnpknpejpdaaGreatDoor.Sw
set_option maxRecDepth 100000
theorem k25 : e25.Ok Tryz.prog gl := ent_ok (rd := []) ok0 fine (imp := imp) (k := 1000000) (n := 60) (by kernel_rfl)
theorem k27 : e27.Ok Tryz.prog gl := ent_ok (rd := []) ok0 fine (imp := imp) (k := 1000000) (n := 60) (by kernel_rfl)
theorem k32 : e32.Ok Tryz.prog gl := ent_ok (rd := []) ok0 fine (imp := imp) (k := 1000000) (n := 60) (by kernel_rfl)
theorem k58 : e58.Ok Tryz.prog gl := ent_ok (rd := []) ok0 fine (imp := imp) (k := 1000000) (n := 60) (by kernel_rfl)
theorem k74 : e74.Ok Tryz.prog gl := ent_ok (rd := []) ok0 fine (imp := imp) (k := 1000000) (n := 60) (by kernel_rfl)
theorem k94 : e94.Ok Tryz.prog gl := ent_ok (rd := []) ok0 fine (imp := imp) (k := 1000000) (n := 60) (by kernel_rfl)
theorem k102 : e102.Ok Tryz.prog gl := ent_ok (rd := []) ok0 fine (imp := imp) (k := 1000000) (n := 60) (by kernel_rfl)
theorem k107 : e107.Ok Tryz.prog gl := ent_ok (rd := []) ok0 fine (imp := imp) (k := 1000000) (n := 60) (by kernel_rfl)
theorem k121 : e121.Ok Tryz.prog gl := ent_ok (rd := []) ok0 fine (imp := imp) (k := 1000000) (n := 60) (by kernel_rfl)
theorem k128 : e128.Ok Tryz.prog gl := ent_ok (rd := []) ok0 fine (imp := imp) (k := 1000000) (n := 60) (by kernel_rfl)
theorem k133 : e133.Ok Tryz.prog gl := ent_ok (rd := []) ok0 fine (imp := imp) (k := 1000000) (n := 60) (by kernel_rfl)
theorem k138 : e138.Ok Tryz.prog gl := ent_ok (rd := []) ok0 fine (imp := imp) (k := 1000000) (n := 60) (by kernel_rfl)
theorem k147 : e147.Ok Tryz.prog gl := ent_ok (rd := []) ok0 fine (imp := imp) (k := 1000000) (n := 60) (by kernel_rfl)
theorem k171 : e171.Ok Tryz.prog gl := ent_ok (rd := [0]) ok0 fine (imp := imp) (k := 1000000) (n := 60) (by kernel_rfl)
theorem k174 : e174.Ok Tryz.prog gl := ent_ok (rd := []) ok0 fine (imp := imp) (k := 1000000) (n := 60) (by kernel_rfl)
theorem k187 : e187.Ok Tryz.prog gl := ent_ok (rd := []) ok0 fine (imp := imp) (k := 1000000) (n := 60) (by kernel_rfl)
theorem k189 : e189.Ok Tryz.prog gl := ent_ok (rd := [0]) ok0 fine (imp := imp) (k := 1000000) (n := 60) (by kernel_rfl)
theorem k197 : e197.Ok Tryz.prog gl := ent_ok (rd := []) ok0 fine (imp := imp) (k := 1000000) (n := 60) (by kernel_rfl)
theorem k203 : e203.Ok Tryz.prog gl := ent_ok (rd := []) ok0 fine (imp := imp) (k := 1000000) (n := 60) (by kernel_rfl)
theorem k215 : e215.Ok Tryz.prog gl := ent_ok (rd := []) ok0 fine (imp := imp) (k := 1000000) (n := 60) (by kernel_rfl)
theorem k216 : e216.Ok Tryz.prog gl := ent_ok (rd := []) ok0 fine (imp := imp) (k := 1000000) (n := 60) (by kernel_rfl)
theorem k220 : e220.Ok Tryz.prog gl := ent_ok (rd := []) ok0 fine (imp := imp) (k := 1000000) (n := 60) (by kernel_rfl)
theorem k235 : e235.Ok Tryz.prog gl := ent_ok (rd := []) ok0 fine (imp := imp) (k := 1000000) (n := 60) (by kernel_rfl)
theorem k241 : e241.Ok Tryz.prog gl := ent_ok (rd := [0, 1]) ok0 fine (imp := imp) (k := 1000000) (n := 60) (by kernel_rfl)
theorem k247 : e247.Ok Tryz.prog gl := ent_ok (rd := []) ok0 fine (imp := imp) (k := 1000000) (n := 60) (by kernel_rfl)
theorem k259 : e259.Ok Tryz.prog gl := ent_ok (rd := []) ok0 fine (imp := imp) (k := 1000000) (n := 60) (by kernel_rfl)
theorem k268 : e268.Ok Tryz.prog gl := ent_ok (rd := []) ok0 fine (imp := imp) (k := 1000000) (n := 60) (by kernel_rfl)
end Go.Proofs.YtdnbnpknpejpdaaGreatDoor.Tik
