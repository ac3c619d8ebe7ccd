/- Calls that are known, by evaluation. -/
import Derived.Test.YtdnbnpknpejpdaaGreatDoorTihM4
namespace Go.Proofs.YtdnbnpknpejpdaaGreatDoor.Tih
open Go Go.Proofs.YtdnbnpknpejpdaaGreatDoor.Sw
set_option maxRecDepth 100000
theorem k181:O e181:=E ok5 (by kernel_rfl)
theorem k182:O e182:=E ok5 (by kernel_rfl)
theorem k183:O e183:=E ok5 (by kernel_rfl)
theorem k184:O e184:=E ok5 (by kernel_rfl)
theorem k185:O e185:=E ok5 (by kernel_rfl)
theorem k186:O e186:=E ok5 (by kernel_rfl)
theorem k187:O e187:=E ok5 (by kernel_rfl)
theorem k188:O e188:=E ok5 (by kernel_rfl)
theorem k189:O e189:=E ok5 (by kernel_rfl)
theorem ok6:t6.Ok Tryz.prog gl:=⟨⟨⟨rfl,k145⟩,⟨⟨rfl,k146⟩,⟨⟨rfl,k148⟩,⟨⟨rfl,k149⟩,trivial⟩⟩⟩⟩,⟨⟨⟨rfl,k181⟩,trivial⟩,⟨⟨⟨rfl,k167⟩,⟨⟨rfl,k176⟩,⟨⟨rfl,k177⟩,⟨⟨rfl,k178⟩,trivial⟩⟩⟩⟩,⟨⟨⟨rfl,k164⟩,⟨⟨rfl,k188⟩,⟨⟨rfl,k189⟩,trivial⟩⟩⟩,trivial,trivial⟩,trivial⟩,⟨⟨⟨rfl,k165⟩,⟨⟨rfl,k174⟩,⟨⟨rfl,k182⟩,⟨⟨rfl,k187⟩,trivial⟩⟩⟩⟩,trivial,trivial⟩⟩,⟨⟨⟨rfl,k185⟩,⟨⟨rfl,k186⟩,trivial⟩⟩,⟨⟨⟨rfl,k133⟩,trivial⟩,trivial,trivial⟩,⟨⟨⟨rfl,k184⟩,trivial⟩,trivial,trivial⟩⟩⟩
end Go.Proofs.YtdnbnpknpejpdaaGreatDoor.Tih
