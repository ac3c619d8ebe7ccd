/- Known calls, by evaluation. -/
import Derived.Test.YtlcbgidfdkbfcaaGreatDoorThkL1
set_option linter.unusedVariables false
set_option linter.unusedSimpArgs false
namespace Go.Proofs.YtlcbgidfdkbfcaaGreatDoor.Thk
open Go Go.Proofs.YtlcbgidfdkbfcaaGreatDoor.Sw
set_option maxRecDepth 100000
theorem k17 : e17.Ok Tryz.prog gl := ent_ok (rd := []) ok3 fine (imp := imp) (k := 1000000) (n := 60) (by kernel_rfl)
theorem k18 : e18.Ok Tryz.prog gl := ent_ok (rd := []) ok3 fine (imp := imp) (k := 1000000) (n := 60) (by kernel_rfl)
theorem k19 : e19.Ok Tryz.prog gl := ent_ok (rd := []) ok3 fine (imp := imp) (k := 1000000) (n := 60) (by kernel_rfl)
theorem k20 : e20.Ok Tryz.prog gl := ent_ok (rd := []) ok3 fine (imp := imp) (k := 1000000) (n := 60) (by kernel_rfl)
theorem k21 : e21.Ok Tryz.prog gl := ent_ok (rd := []) ok3 fine (imp := imp) (k := 1000000) (n := 60) (by kernel_rfl)
theorem ok4 : t4.Ok Tryz.prog gl := ⟨⟨⟨rfl, k13⟩, ⟨⟨rfl, k14⟩, trivial⟩⟩, ⟨⟨⟨rfl, k3⟩, ⟨⟨rfl, k11⟩, trivial⟩⟩, ⟨⟨⟨rfl, k8⟩, trivial⟩, ⟨⟨⟨rfl, k17⟩, trivial⟩, trivial, trivial⟩, trivial⟩, ⟨⟨⟨rfl, k21⟩, trivial⟩, ⟨⟨⟨rfl, k15⟩, ⟨⟨rfl, k16⟩, ⟨⟨rfl, k18⟩, ⟨⟨rfl, k19⟩, ⟨⟨rfl, k20⟩, trivial⟩⟩⟩⟩⟩, trivial, trivial⟩, trivial⟩⟩, ⟨⟨⟨rfl, k12⟩, trivial⟩, ⟨⟨⟨rfl, k0⟩, ⟨⟨rfl, k1⟩, ⟨⟨rfl, k4⟩, ⟨⟨rfl, k5⟩, trivial⟩⟩⟩⟩, ⟨⟨⟨rfl, k6⟩, ⟨⟨rfl, k7⟩, ⟨⟨rfl, k9⟩, ⟨⟨rfl, k10⟩, trivial⟩⟩⟩⟩, trivial, trivial⟩, trivial⟩, ⟨⟨⟨rfl, k2⟩, trivial⟩, trivial, trivial⟩⟩⟩
theorem k22 : e22.Ok Tryz.prog gl := ent_ok (rd := [0, 1]) ok4 fine (imp := imp) (k := 1000000) (n := 60) (by kernel_rfl)
theorem k23 : e23.Ok Tryz.prog gl := ent_ok (rd := []) ok4 fine (imp := imp) (k := 1000000) (n := 60) (by kernel_rfl)
theorem k24 : e24.Ok Tryz.prog gl := ent_ok (rd := []) ok4 fine (imp := imp) (k := 1000000) (n := 60) (by kernel_rfl)
theorem k25 : e25.Ok Tryz.prog gl := ent_ok (rd := []) ok4 fine (imp := imp) (k := 1000000) (n := 60) (by kernel_rfl)
theorem ok5 : t5.Ok Tryz.prog gl := ⟨⟨⟨rfl, k15⟩, ⟨⟨rfl, k16⟩, ⟨⟨rfl, k18⟩, ⟨⟨rfl, k19⟩, ⟨⟨rfl, k20⟩, trivial⟩⟩⟩⟩⟩, ⟨⟨⟨rfl, k23⟩, trivial⟩, ⟨⟨⟨rfl, k17⟩, trivial⟩, ⟨⟨⟨rfl, k22⟩, trivial⟩, trivial, trivial⟩, ⟨⟨⟨rfl, k8⟩, trivial⟩, trivial, trivial⟩⟩, ⟨⟨⟨rfl, k24⟩, ⟨⟨rfl, k25⟩, trivial⟩⟩, ⟨⟨⟨rfl, k3⟩, ⟨⟨rfl, k11⟩, trivial⟩⟩, trivial, trivial⟩, trivial⟩⟩, ⟨⟨⟨rfl, k0⟩, ⟨⟨rfl, k1⟩, ⟨⟨rfl, k4⟩, ⟨⟨rfl, k5⟩, trivial⟩⟩⟩⟩, ⟨⟨⟨rfl, k13⟩, ⟨⟨rfl, k14⟩, trivial⟩⟩, ⟨⟨⟨rfl, k21⟩, trivial⟩, trivial, trivial⟩, ⟨⟨⟨rfl, k6⟩, ⟨⟨rfl, k7⟩, ⟨⟨rfl, k9⟩, ⟨⟨rfl, k10⟩, trivial⟩⟩⟩⟩, trivial, trivial⟩⟩, ⟨⟨⟨rfl, k2⟩, trivial⟩, ⟨⟨⟨rfl, k12⟩, trivial⟩, trivial, trivial⟩, trivial⟩⟩⟩
theorem k26 : e26.Ok Tryz.prog gl := ent_ok (rd := [0]) ok5 fine (imp := imp) (k := 1000000) (n := 60) (by kernel_rfl)
theorem k27 : e27.Ok Tryz.prog gl := ent_ok (rd := []) ok5 fine (imp := imp) (k := 1000000) (n := 60) (by kernel_rfl)
theorem k28 : e28.Ok Tryz.prog gl := ent_ok (rd := [0]) ok5 fine (imp := imp) (k := 1000000) (n := 60) (by kernel_rfl)
theorem ok6 : t6.Ok Tryz.prog gl := ⟨⟨⟨rfl, k24⟩, ⟨⟨rfl, k25⟩, trivial⟩⟩, ⟨⟨⟨rfl, k3⟩, ⟨⟨rfl, k11⟩, trivial⟩⟩, ⟨⟨⟨rfl, k8⟩, trivial⟩, ⟨⟨⟨rfl, k17⟩, trivial⟩, ⟨⟨⟨rfl, k22⟩, trivial⟩, trivial, trivial⟩, trivial⟩, ⟨⟨⟨rfl, k23⟩, trivial⟩, trivial, trivial⟩⟩, ⟨⟨⟨rfl, k28⟩, trivial⟩, ⟨⟨⟨rfl, k26⟩, trivial⟩, trivial, trivial⟩, ⟨⟨⟨rfl, k27⟩, trivial⟩, trivial, trivial⟩⟩⟩, ⟨⟨⟨rfl, k6⟩, ⟨⟨rfl, k7⟩, ⟨⟨rfl, k9⟩, ⟨⟨rfl, k10⟩, trivial⟩⟩⟩⟩, ⟨⟨⟨rfl, k21⟩, trivial⟩, ⟨⟨⟨rfl, k15⟩, ⟨⟨rfl, k16⟩, ⟨⟨rfl, k18⟩, ⟨⟨rfl, k19⟩, ⟨⟨rfl, k20⟩, trivial⟩⟩⟩⟩⟩, trivial, trivial⟩, ⟨⟨⟨rfl, k13⟩, ⟨⟨rfl, k14⟩, trivial⟩⟩, trivial, trivial⟩⟩, ⟨⟨⟨rfl, k12⟩, trivial⟩, ⟨⟨⟨rfl, k0⟩, ⟨⟨rfl, k1⟩, ⟨⟨rfl, k4⟩, ⟨⟨rfl, k5⟩, trivial⟩⟩⟩⟩, trivial, trivial⟩, ⟨⟨⟨rfl, k2⟩, trivial⟩, trivial, trivial⟩⟩⟩⟩
theorem k29 : e29.Ok Tryz.prog gl := ent_ok (rd := [1]) ok6 fine (imp := imp) (k := 1000000) (n := 60) (by kernel_rfl)
theorem k30 : e30.Ok Tryz.prog gl := ent_ok (rd := [0]) ok6 fine (imp := imp) (k := 1000000) (n := 60) (by kernel_rfl)
theorem ok7 : t7.Ok Tryz.prog gl := ⟨⟨⟨rfl, k27⟩, trivial⟩, ⟨⟨⟨rfl, k30⟩, trivial⟩, ⟨⟨⟨rfl, k8⟩, trivial⟩, ⟨⟨⟨rfl, k17⟩, trivial⟩, ⟨⟨⟨rfl, k22⟩, trivial⟩, trivial, trivial⟩, trivial⟩, ⟨⟨⟨rfl, k29⟩, trivial⟩, trivial, trivial⟩⟩, ⟨⟨⟨rfl, k26⟩, trivial⟩, ⟨⟨⟨rfl, k3⟩, ⟨⟨rfl, k11⟩, trivial⟩⟩, ⟨⟨⟨rfl, k23⟩, trivial⟩, trivial, trivial⟩, trivial⟩, ⟨⟨⟨rfl, k28⟩, trivial⟩, trivial, trivial⟩⟩⟩, ⟨⟨⟨rfl, k6⟩, ⟨⟨rfl, k7⟩, ⟨⟨rfl, k9⟩, ⟨⟨rfl, k10⟩, trivial⟩⟩⟩⟩, ⟨⟨⟨rfl, k21⟩, trivial⟩, ⟨⟨⟨rfl, k15⟩, ⟨⟨rfl, k16⟩, ⟨⟨rfl, k18⟩, ⟨⟨rfl, k19⟩, ⟨⟨rfl, k20⟩, trivial⟩⟩⟩⟩⟩, ⟨⟨⟨rfl, k24⟩, ⟨⟨rfl, k25⟩, trivial⟩⟩, trivial, trivial⟩, trivial⟩, ⟨⟨⟨rfl, k13⟩, ⟨⟨rfl, k14⟩, trivial⟩⟩, trivial, trivial⟩⟩, ⟨⟨⟨rfl, k12⟩, trivial⟩, ⟨⟨⟨rfl, k0⟩, ⟨⟨rfl, k1⟩, ⟨⟨rfl, k4⟩, ⟨⟨rfl, k5⟩, trivial⟩⟩⟩⟩, trivial, trivial⟩, ⟨⟨⟨rfl, k2⟩, trivial⟩, trivial, trivial⟩⟩⟩⟩
theorem k31 : e31.Ok Tryz.prog gl := ent_ok (rd := []) ok7 fine (imp := imp) (k := 1000000) (n := 60) (by kernel_rfl)
end Go.Proofs.YtlcbgidfdkbfcaaGreatDoor.Thk
