/- Calls that are known, by evaluation. -/
import Derived.Test.YtdnbnpknpejpdaaGreatDoorTihM7
namespace Go.Proofs.YtdnbnpknpejpdaaGreatDoor.Tih
open Go Go.Proofs.YtdnbnpknpejpdaaGreatDoor.Sw
set_option maxRecDepth 100000
theorem k196:O e196:=E ok8 (by kernel_rfl)
theorem ok9:t9.Ok Tryz.prog gl:=⟨⟨⟨rfl,k190⟩,trivial⟩,⟨⟨⟨rfl,k194⟩,trivial⟩,⟨⟨⟨rfl,k196⟩,trivial⟩,⟨⟨⟨rfl,k170⟩,trivial⟩,trivial,trivial⟩,⟨⟨⟨rfl,k158⟩,⟨⟨rfl,k159⟩,trivial⟩⟩,trivial,trivial⟩⟩,⟨⟨⟨rfl,k183⟩,trivial⟩,⟨⟨⟨rfl,k195⟩,trivial⟩,trivial,trivial⟩,trivial⟩⟩,⟨⟨⟨rfl,k182⟩,trivial⟩,⟨⟨⟨rfl,k172⟩,trivial⟩,⟨⟨⟨rfl,k163⟩,trivial⟩,trivial,trivial⟩,⟨⟨⟨rfl,k191⟩,trivial⟩,trivial,trivial⟩⟩,⟨⟨⟨rfl,k133⟩,trivial⟩,⟨⟨⟨rfl,k145⟩,trivial⟩,trivial,trivial⟩,trivial⟩⟩⟩
end Go.Proofs.YtdnbnpknpejpdaaGreatDoor.Tih
