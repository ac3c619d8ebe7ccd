/- Known calls, by evaluation. -/
import Derived.Test.YtceccojmekpneaaGreatDoorTxkL0
namespace Go.Proofs.YtceccojmekpneaaGreatDoor.Txk
open Go Go.Proofs.YtceccojmekpneaaGreatDoor.Sw
set_option maxRecDepth 100000
theorem k14 : e14.Ok Tryz.prog gl := ent_ok (rd := []) ok0 fine (imp := imp) (k := 1000000) (n := 60) (by kernel_rfl)
theorem k15 : e15.Ok Tryz.prog gl := ent_ok (rd := []) ok0 fine (imp := imp) (k := 1000000) (n := 60) (by kernel_rfl)
theorem k16 : e16.Ok Tryz.prog gl := ent_ok (rd := []) ok0 fine (imp := imp) (k := 1000000) (n := 60) (by kernel_rfl)
theorem k17 : e17.Ok Tryz.prog gl := ent_ok (rd := []) ok0 fine (imp := imp) (k := 1000000) (n := 60) (by kernel_rfl)
theorem k18 : e18.Ok Tryz.prog gl := ent_ok (rd := []) ok0 fine (imp := imp) (k := 1000000) (n := 60) (by kernel_rfl)
theorem ok1 : t1.Ok Tryz.prog gl := ⟨⟨⟨rfl, k1⟩, ⟨⟨rfl, k2⟩, ⟨⟨rfl, k4⟩, ⟨⟨rfl, k5⟩, ⟨⟨rfl, k6⟩, ⟨⟨rfl, k8⟩, ⟨⟨rfl, k9⟩, ⟨⟨rfl, k11⟩, ⟨⟨rfl, k12⟩, trivial⟩⟩⟩⟩⟩⟩⟩⟩⟩, ⟨⟨⟨rfl, k0⟩, ⟨⟨rfl, k3⟩, ⟨⟨rfl, k10⟩, trivial⟩⟩⟩, ⟨⟨⟨rfl, k14⟩, ⟨⟨rfl, k15⟩, ⟨⟨rfl, k16⟩, ⟨⟨rfl, k17⟩, ⟨⟨rfl, k18⟩, trivial⟩⟩⟩⟩⟩, trivial, trivial⟩, trivial⟩, ⟨⟨⟨rfl, k7⟩, trivial⟩, ⟨⟨⟨rfl, k13⟩, trivial⟩, trivial, trivial⟩, trivial⟩⟩
theorem k19 : e19.Ok Tryz.prog gl := ent_ok (rd := []) ok1 fine (imp := imp) (k := 1000000) (n := 60) (by kernel_rfl)
theorem k20 : e20.Ok Tryz.prog gl := ent_ok (rd := []) ok1 fine (imp := imp) (k := 1000000) (n := 60) (by kernel_rfl)
theorem k21 : e21.Ok Tryz.prog gl := ent_ok (rd := []) ok1 fine (imp := imp) (k := 1000000) (n := 60) (by kernel_rfl)
theorem k22 : e22.Ok Tryz.prog gl := ent_ok (rd := []) ok1 fine (imp := imp) (k := 1000000) (n := 60) (by kernel_rfl)
theorem k23 : e23.Ok Tryz.prog gl := ent_ok (rd := []) ok1 fine (imp := imp) (k := 1000000) (n := 60) (by kernel_rfl)
theorem k24 : e24.Ok Tryz.prog gl := ent_ok (rd := [0]) ok1 fine (imp := imp) (k := 1000000) (n := 60) (by kernel_rfl)
theorem k25 : e25.Ok Tryz.prog gl := ent_ok (rd := []) ok1 fine (imp := imp) (k := 1000000) (n := 60) (by kernel_rfl)
theorem k26 : e26.Ok Tryz.prog gl := ent_ok (rd := []) ok1 fine (imp := imp) (k := 1000000) (n := 60) (by kernel_rfl)
theorem k27 : e27.Ok Tryz.prog gl := ent_ok (rd := []) ok1 fine (imp := imp) (k := 1000000) (n := 60) (by kernel_rfl)
theorem k28 : e28.Ok Tryz.prog gl := ent_ok (rd := []) ok1 fine (imp := imp) (k := 1000000) (n := 60) (by kernel_rfl)
theorem k29 : e29.Ok Tryz.prog gl := ent_ok (rd := []) ok1 fine (imp := imp) (k := 1000000) (n := 60) (by kernel_rfl)
theorem ok2 : t2.Ok Tryz.prog gl := ⟨⟨⟨rfl, k1⟩, ⟨⟨rfl, k2⟩, ⟨⟨rfl, k4⟩, ⟨⟨rfl, k5⟩, ⟨⟨rfl, k6⟩, ⟨⟨rfl, k8⟩, ⟨⟨rfl, k9⟩, ⟨⟨rfl, k11⟩, ⟨⟨rfl, k12⟩, ⟨⟨rfl, k19⟩, ⟨⟨rfl, k20⟩, ⟨⟨rfl, k21⟩, ⟨⟨rfl, k22⟩, ⟨⟨rfl, k23⟩, ⟨⟨rfl, k25⟩, ⟨⟨rfl, k26⟩, ⟨⟨rfl, k27⟩, ⟨⟨rfl, k28⟩, trivial⟩⟩⟩⟩⟩⟩⟩⟩⟩⟩⟩⟩⟩⟩⟩⟩⟩⟩, ⟨⟨⟨rfl, k14⟩, ⟨⟨rfl, k15⟩, ⟨⟨rfl, k16⟩, ⟨⟨rfl, k17⟩, ⟨⟨rfl, k18⟩, trivial⟩⟩⟩⟩⟩, ⟨⟨⟨rfl, k29⟩, trivial⟩, trivial, trivial⟩, ⟨⟨⟨rfl, k0⟩, ⟨⟨rfl, k3⟩, ⟨⟨rfl, k10⟩, trivial⟩⟩⟩, trivial, trivial⟩⟩, ⟨⟨⟨rfl, k24⟩, trivial⟩, ⟨⟨⟨rfl, k13⟩, trivial⟩, trivial, trivial⟩, ⟨⟨⟨rfl, k7⟩, trivial⟩, trivial, trivial⟩⟩⟩
theorem k30 : e30.Ok Tryz.prog gl := ent_ok (rd := []) ok2 fine (imp := imp) (k := 1000000) (n := 60) (by kernel_rfl)
end Go.Proofs.YtceccojmekpneaaGreatDoor.Txk
