/- Known calls, by evaluation. -/
import Derived.Test.YtlcbgidfdkbfcaaGreatDoorThkL0
set_option linter.unusedVariables false
set_option linter.unusedSimpArgs false
namespace Go.Proofs.YtlcbgidfdkbfcaaGreatDoor.Thk
open Go Go.Proofs.YtlcbgidfdkbfcaaGreatDoor.Sw
set_option maxRecDepth 100000
theorem k4 : e4.Ok Tryz.prog gl := ent_ok (rd := []) ok1 fine (imp := imp) (k := 1000000) (n := 60) (by kernel_rfl)
theorem k5 : e5.Ok Tryz.prog gl := ent_ok (rd := []) ok1 fine (imp := imp) (k := 1000000) (n := 60) (by kernel_rfl)
theorem k6 : e6.Ok Tryz.prog gl := ent_ok (rd := []) ok1 fine (imp := imp) (k := 1000000) (n := 60) (by kernel_rfl)
theorem k7 : e7.Ok Tryz.prog gl := ent_ok (rd := []) ok1 fine (imp := imp) (k := 1000000) (n := 60) (by kernel_rfl)
theorem k8 : e8.Ok Tryz.prog gl := ent_ok (rd := []) ok1 fine (imp := imp) (k := 1000000) (n := 60) (by kernel_rfl)
theorem k9 : e9.Ok Tryz.prog gl := ent_ok (rd := []) ok1 fine (imp := imp) (k := 1000000) (n := 60) (by kernel_rfl)
theorem k10 : e10.Ok Tryz.prog gl := ent_ok (rd := []) ok1 fine (imp := imp) (k := 1000000) (n := 60) (by kernel_rfl)
theorem ok2 : t2.Ok Tryz.prog gl := ⟨⟨⟨rfl, k6⟩, ⟨⟨rfl, k7⟩, ⟨⟨rfl, k9⟩, ⟨⟨rfl, k10⟩, trivial⟩⟩⟩⟩, ⟨⟨⟨rfl, k3⟩, trivial⟩, ⟨⟨⟨rfl, k8⟩, trivial⟩, trivial, trivial⟩, trivial⟩, ⟨⟨⟨rfl, k2⟩, trivial⟩, ⟨⟨⟨rfl, k0⟩, ⟨⟨rfl, k1⟩, ⟨⟨rfl, k4⟩, ⟨⟨rfl, k5⟩, trivial⟩⟩⟩⟩, trivial, trivial⟩, trivial⟩⟩
theorem k11 : e11.Ok Tryz.prog gl := ent_ok (rd := []) ok2 fine (imp := imp) (k := 1000000) (n := 60) (by kernel_rfl)
theorem k12 : e12.Ok Tryz.prog gl := ent_ok (rd := []) ok2 fine (imp := imp) (k := 1000000) (n := 60) (by kernel_rfl)
theorem k13 : e13.Ok Tryz.prog gl := ent_ok (rd := []) ok2 fine (imp := imp) (k := 1000000) (n := 60) (by kernel_rfl)
theorem k14 : e14.Ok Tryz.prog gl := ent_ok (rd := []) ok2 fine (imp := imp) (k := 1000000) (n := 60) (by kernel_rfl)
theorem k15 : e15.Ok Tryz.prog gl := ent_ok (rd := []) ok2 fine (imp := imp) (k := 1000000) (n := 60) (by kernel_rfl)
theorem k16 : e16.Ok Tryz.prog gl := ent_ok (rd := []) ok2 fine (imp := imp) (k := 1000000) (n := 60) (by kernel_rfl)
theorem ok3 : t3.Ok Tryz.prog gl := ⟨⟨⟨rfl, k6⟩, ⟨⟨rfl, k7⟩, ⟨⟨rfl, k9⟩, ⟨⟨rfl, k10⟩, trivial⟩⟩⟩⟩, ⟨⟨⟨rfl, k15⟩, ⟨⟨rfl, k16⟩, trivial⟩⟩, ⟨⟨⟨rfl, k3⟩, ⟨⟨rfl, k11⟩, trivial⟩⟩, ⟨⟨⟨rfl, k8⟩, trivial⟩, trivial, trivial⟩, trivial⟩, ⟨⟨⟨rfl, k13⟩, ⟨⟨rfl, k14⟩, trivial⟩⟩, trivial, trivial⟩⟩, ⟨⟨⟨rfl, k12⟩, trivial⟩, ⟨⟨⟨rfl, k0⟩, ⟨⟨rfl, k1⟩, ⟨⟨rfl, k4⟩, ⟨⟨rfl, k5⟩, trivial⟩⟩⟩⟩, trivial, trivial⟩, ⟨⟨⟨rfl, k2⟩, trivial⟩, trivial, trivial⟩⟩⟩
end Go.Proofs.YtlcbgidfdkbfcaaGreatDoor.Thk
