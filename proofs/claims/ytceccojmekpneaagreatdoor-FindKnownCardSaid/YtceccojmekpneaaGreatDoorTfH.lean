/- Closed facts of the card, of the whole program. -/
import Derived.Test.YtceccojmekpneaaGreatDoorCards
import Derived.Test.YtceccojmekpneaaGreatDoorChecked
import Derived.JoinedOf
import Derived.KernelRfl
namespace Go.Proofs.YtceccojmekpneaaGreatDoor
open Go
theorem looks : true = Tryz.prog.looks [] := by kernel_rfl
theorem goes : false = Rows.findKnownRow.goesBy Tryz.prog := by kernel_rfl
end Go.Proofs.YtceccojmekpneaaGreatDoor
