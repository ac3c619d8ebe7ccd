/- Known calls, by evaluation. -/
import Derived.Test.YtceccojmekpneaaGreatDoorTfkL1
namespace Go.Proofs.YtceccojmekpneaaGreatDoor.Tfk
open Go Go.Proofs.YtceccojmekpneaaGreatDoor.Sw
set_option maxRecDepth 100000
theorem k21 : e21.Ok Tryz.prog gl := ent_ok (rd := []) ok0 fine (imp := imp) (k := 1000000) (n := 60) (by kernel_rfl)
theorem k22 : e22.Ok Tryz.prog gl := ent_ok (rd := []) ok0 fine (imp := imp) (k := 1000000) (n := 60) (by kernel_rfl)
theorem k23 : e23.Ok Tryz.prog gl := ent_ok (rd := []) ok0 fine (imp := imp) (k := 1000000) (n := 60) (by kernel_rfl)
theorem k24 : e24.Ok Tryz.prog gl := ent_ok (rd := []) ok0 fine (imp := imp) (k := 1000000) (n := 60) (by kernel_rfl)
theorem k25 : e25.Ok Tryz.prog gl := ent_ok (rd := []) ok0 fine (imp := imp) (k := 1000000) (n := 60) (by kernel_rfl)
theorem k26 : e26.Ok Tryz.prog gl := ent_ok (rd := []) ok0 fine (imp := imp) (k := 1000000) (n := 60) (by kernel_rfl)
theorem k27 : e27.Ok Tryz.prog gl := ent_ok (rd := []) ok0 fine (imp := imp) (k := 1000000) (n := 60) (by kernel_rfl)
theorem k28 : e28.Ok Tryz.prog gl := ent_ok (rd := []) ok0 fine (imp := imp) (k := 1000000) (n := 60) (by kernel_rfl)
theorem k29 : e29.Ok Tryz.prog gl := ent_ok (rd := []) ok0 fine (imp := imp) (k := 1000000) (n := 60) (by kernel_rfl)
end Go.Proofs.YtceccojmekpneaaGreatDoor.Tfk
