/- A known call, by pieces: joined. -/
import Derived.Test.YtdnbnpknpejpdaaGreatDoorTikP781
set_option linter.unusedVariables false
set_option linter.unusedSimpArgs false
namespace Go.Proofs.YtdnbnpknpejpdaaGreatDoor.Tik
open Go Go.Proofs.YtdnbnpknpejpdaaGreatDoor.Sw
set_option maxRecDepth 100000
theorem k781 : e781.Ok Tryz.prog gl := ent_pieces (k := 1000000) (n := 60) (imp := imp) (c := bd) (fn := fnD) (n2 := 411520) (id := 7648) (ep := 3) (off := 0) (len := 2) (cc := false) (y := (I 0)) (sz := 1) (m := 4) (cur := 3) (lost := 3) (fz := 0) (ys := [(I 0), (I 3), (I 0), (I 0)]) (v1 := e781.v) ok11 fine
  (by kernel_rfl) (by kernel_rfl) (by kernel_rfl) (by kernel_rfl) (by kernel_rfl) (by kernel_rfl) (by kernel_rfl) goesD (.inl rfl) (by kernel_rfl) (by kernel_rfl) (by kernel_rfl) (by kernel_rfl) (by kernel_rfl)
end Go.Proofs.YtdnbnpknpejpdaaGreatDoor.Tik
