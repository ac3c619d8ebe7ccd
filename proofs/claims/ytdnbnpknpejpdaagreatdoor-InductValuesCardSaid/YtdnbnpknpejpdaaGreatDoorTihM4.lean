/- Calls that are known, by evaluation. -/
import Derived.Test.YtdnbnpknpejpdaaGreatDoorTihL4x0
namespace Go.Proofs.YtdnbnpknpejpdaaGreatDoor.Tih
open Go Go.Proofs.YtdnbnpknpejpdaaGreatDoor.Sw
set_option maxRecDepth 100000
theorem k171:O e171:=E ok4 (by kernel_rfl)
theorem k173:O e173:=E ok4 (by kernel_rfl)
theorem k174:O e174:=E ok4 (by kernel_rfl)
theorem k175:O e175:=E ok4 (by kernel_rfl)
theorem k176:O e176:=E ok4 (by kernel_rfl)
theorem k178:O e178:=E ok4 (by kernel_rfl)
theorem k179:O e179:=E ok4 (by kernel_rfl)
theorem ok5:t5.Ok Tryz.prog gl:=⟨⟨⟨rfl,k145⟩,⟨⟨rfl,k146⟩,⟨⟨rfl,k147⟩,trivial⟩⟩⟩,⟨⟨⟨rfl,k156⟩,⟨⟨rfl,k157⟩,⟨⟨rfl,k162⟩,trivial⟩⟩⟩,⟨⟨⟨rfl,k161⟩,⟨⟨rfl,k171⟩,⟨⟨rfl,k172⟩,⟨⟨rfl,k176⟩,⟨⟨rfl,k177⟩,⟨⟨rfl,k178⟩,trivial⟩⟩⟩⟩⟩⟩,trivial,trivial⟩,⟨⟨⟨rfl,k174⟩,trivial⟩,trivial,trivial⟩⟩,⟨⟨⟨rfl,k175⟩,trivial⟩,⟨⟨⟨rfl,k132⟩,trivial⟩,trivial,trivial⟩,trivial⟩⟩
end Go.Proofs.YtdnbnpknpejpdaaGreatDoor.Tih
