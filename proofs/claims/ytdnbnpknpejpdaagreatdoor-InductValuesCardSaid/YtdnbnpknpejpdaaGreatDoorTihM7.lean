/- Calls that are known, by evaluation. -/
import Derived.Test.YtdnbnpknpejpdaaGreatDoorTihM6
namespace Go.Proofs.YtdnbnpknpejpdaaGreatDoor.Tih
open Go Go.Proofs.YtdnbnpknpejpdaaGreatDoor.Sw
set_option maxRecDepth 100000
theorem k194:O e194:=K [0] ok7 (by kernel_rfl)
theorem k195:O e195:=E ok7 (by kernel_rfl)
theorem ok8:t8.Ok Tryz.prog gl:=⟨⟨⟨rfl,k192⟩,trivial⟩,⟨⟨⟨rfl,k168⟩,trivial⟩,⟨⟨⟨rfl,k195⟩,trivial⟩,trivial,trivial⟩,⟨⟨⟨rfl,k169⟩,⟨⟨rfl,k180⟩,trivial⟩⟩,trivial,trivial⟩⟩,⟨⟨⟨rfl,k173⟩,⟨⟨rfl,k179⟩,⟨⟨rfl,k182⟩,⟨⟨rfl,k193⟩,trivial⟩⟩⟩⟩,⟨⟨⟨rfl,k191⟩,trivial⟩,trivial,trivial⟩,⟨⟨⟨rfl,k146⟩,⟨⟨rfl,k148⟩,⟨⟨rfl,k149⟩,trivial⟩⟩⟩,trivial,trivial⟩⟩⟩
end Go.Proofs.YtdnbnpknpejpdaaGreatDoor.Tih
