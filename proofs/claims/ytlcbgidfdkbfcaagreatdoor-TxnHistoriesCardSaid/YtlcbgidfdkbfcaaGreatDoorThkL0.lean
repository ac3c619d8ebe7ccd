/- Known calls, by evaluation. -/
import Derived.Test.YtlcbgidfdkbfcaaGreatDoorThkD
set_option linter.unusedVariables false
set_option linter.unusedSimpArgs false
namespace Go.Proofs.YtlcbgidfdkbfcaaGreatDoor.Thk
open Go Go.Proofs.YtlcbgidfdkbfcaaGreatDoor.Sw
set_option maxRecDepth 100000
theorem ok0 : t0.Ok Tryz.prog gl := trivial
theorem k0 : e0.Ok Tryz.prog gl := ent_ok (rd := []) ok0 fine (imp := imp) (k := 1000000) (n := 60) (by kernel_rfl)
theorem k1 : e1.Ok Tryz.prog gl := ent_ok (rd := []) ok0 fine (imp := imp) (k := 1000000) (n := 60) (by kernel_rfl)
theorem k2 : e2.Ok Tryz.prog gl := ent_ok (rd := [0]) ok0 fine (imp := imp) (k := 1000000) (n := 60) (by kernel_rfl)
theorem k3 : e3.Ok Tryz.prog gl := ent_ok (rd := []) ok0 fine (imp := imp) (k := 1000000) (n := 60) (by kernel_rfl)
theorem ok1 : t1.Ok Tryz.prog gl := ⟨⟨⟨rfl, k0⟩, ⟨⟨rfl, k1⟩, trivial⟩⟩, ⟨⟨⟨rfl, k3⟩, trivial⟩, trivial, trivial⟩, ⟨⟨⟨rfl, k2⟩, trivial⟩, trivial, trivial⟩⟩
end Go.Proofs.YtlcbgidfdkbfcaaGreatDoor.Thk
