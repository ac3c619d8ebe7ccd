/- Calls that are known, by evaluation. -/
import Derived.Test.YtdnbnpknpejpdaaGreatDoorTihD
namespace Go.Proofs.YtdnbnpknpejpdaaGreatDoor.Tih
open Go Go.Proofs.YtdnbnpknpejpdaaGreatDoor.Sw
set_option maxRecDepth 100000
theorem k3:O e3:=E ok0 (by kernel_rfl)
theorem k26:O e26:=E ok0 (by kernel_rfl)
theorem k30:O e30:=E ok0 (by kernel_rfl)
theorem k38:O e38:=E ok0 (by kernel_rfl)
theorem k48:O e48:=E ok0 (by kernel_rfl)
theorem k49:O e49:=E ok0 (by kernel_rfl)
theorem k52:O e52:=E ok0 (by kernel_rfl)
theorem k53:O e53:=E ok0 (by kernel_rfl)
theorem k72:O e72:=E ok0 (by kernel_rfl)
theorem k76:O e76:=E ok0 (by kernel_rfl)
theorem k77:O e77:=E ok0 (by kernel_rfl)
theorem k78:O e78:=E ok0 (by kernel_rfl)
theorem k87:O e87:=E ok0 (by kernel_rfl)
theorem k88:O e88:=E ok0 (by kernel_rfl)
theorem k89:O e89:=E ok0 (by kernel_rfl)
theorem k94:O e94:=E ok0 (by kernel_rfl)
theorem k113:O e113:=E ok0 (by kernel_rfl)
theorem k121:O e121:=E ok0 (by kernel_rfl)
theorem k122:O e122:=E ok0 (by kernel_rfl)
theorem k123:O e123:=K [0] ok0 (by kernel_rfl)
theorem k133:O e133:=K [0] ok0 (by kernel_rfl)
end Go.Proofs.YtdnbnpknpejpdaaGreatDoor.Tih
