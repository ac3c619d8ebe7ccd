/- Known calls, by evaluation. -/
import Derived.Test.YtceccojmekpneaaGreatDoorTfkL2
namespace Go.Proofs.YtceccojmekpneaaGreatDoor.Tfk
open Go Go.Proofs.YtceccojmekpneaaGreatDoor.Sw
set_option maxRecDepth 100000
theorem k30 : e30.Ok Tryz.prog gl := ent_ok (rd := []) ok0 fine (imp := imp) (k := 1000000) (n := 60) (by kernel_rfl)
theorem k31 : e31.Ok Tryz.prog gl := ent_ok (rd := []) ok0 fine (imp := imp) (k := 1000000) (n := 60) (by kernel_rfl)
theorem k32 : e32.Ok Tryz.prog gl := ent_ok (rd := []) ok0 fine (imp := imp) (k := 1000000) (n := 60) (by kernel_rfl)
theorem k33 : e33.Ok Tryz.prog gl := ent_ok (rd := []) ok0 fine (imp := imp) (k := 1000000) (n := 60) (by kernel_rfl)
theorem k34 : e34.Ok Tryz.prog gl := ent_ok (rd := []) ok0 fine (imp := imp) (k := 1000000) (n := 60) (by kernel_rfl)
theorem k35 : e35.Ok Tryz.prog gl := ent_ok (rd := [1]) ok0 fine (imp := imp) (k := 1000000) (n := 60) (by kernel_rfl)
theorem k36 : e36.Ok Tryz.prog gl := ent_ok (rd := []) ok0 fine (imp := imp) (k := 1000000) (n := 60) (by kernel_rfl)
theorem ok1 : t1.Ok Tryz.prog gl := ⟨⟨⟨rfl, k21⟩, trivial⟩, ⟨⟨⟨rfl, k32⟩, trivial⟩, ⟨⟨⟨rfl, k4⟩, ⟨⟨rfl, k11⟩, ⟨⟨rfl, k22⟩, ⟨⟨rfl, k36⟩, trivial⟩⟩⟩⟩, ⟨⟨⟨rfl, k34⟩, trivial⟩, trivial, trivial⟩, trivial⟩, ⟨⟨⟨rfl, k31⟩, ⟨⟨rfl, k35⟩, trivial⟩⟩, trivial, trivial⟩⟩, ⟨⟨⟨rfl, k23⟩, ⟨⟨rfl, k24⟩, ⟨⟨rfl, k25⟩, ⟨⟨rfl, k26⟩, ⟨⟨rfl, k27⟩, ⟨⟨rfl, k28⟩, ⟨⟨rfl, k29⟩, ⟨⟨rfl, k30⟩, trivial⟩⟩⟩⟩⟩⟩⟩⟩, ⟨⟨⟨rfl, k1⟩, ⟨⟨rfl, k2⟩, ⟨⟨rfl, k6⟩, ⟨⟨rfl, k7⟩, ⟨⟨rfl, k9⟩, ⟨⟨rfl, k10⟩, ⟨⟨rfl, k13⟩, ⟨⟨rfl, k14⟩, ⟨⟨rfl, k15⟩, ⟨⟨rfl, k17⟩, ⟨⟨rfl, k18⟩, ⟨⟨rfl, k19⟩, ⟨⟨rfl, k20⟩, ⟨⟨rfl, k33⟩, trivial⟩⟩⟩⟩⟩⟩⟩⟩⟩⟩⟩⟩⟩⟩, ⟨⟨⟨rfl, k0⟩, ⟨⟨rfl, k5⟩, ⟨⟨rfl, k8⟩, ⟨⟨rfl, k12⟩, ⟨⟨rfl, k16⟩, trivial⟩⟩⟩⟩⟩, trivial, trivial⟩, trivial⟩, ⟨⟨⟨rfl, k3⟩, trivial⟩, trivial, trivial⟩⟩⟩
theorem k37 : e37.Ok Tryz.prog gl := ent_ok (rd := []) ok1 fine (imp := imp) (k := 1000000) (n := 60) (by kernel_rfl)
theorem k38 : e38.Ok Tryz.prog gl := ent_ok (rd := []) ok1 fine (imp := imp) (k := 1000000) (n := 60) (by kernel_rfl)
theorem k39 : e39.Ok Tryz.prog gl := ent_ok (rd := [0]) ok1 fine (imp := imp) (k := 1000000) (n := 60) (by kernel_rfl)
theorem k40 : e40.Ok Tryz.prog gl := ent_ok (rd := []) ok1 fine (imp := imp) (k := 1000000) (n := 60) (by kernel_rfl)
end Go.Proofs.YtceccojmekpneaaGreatDoor.Tfk
