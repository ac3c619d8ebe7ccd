/- Closed facts of the card. -/
import Derived.Test.YtdnbnpknpejpdaaGreatDoorRows
import Derived.Test.YtdnbnpknpejpdaaGreatDoorChecked
import Derived.JoinedOf
import Derived.Handed
import Derived.KernelRfl
namespace Go.Proofs.YtdnbnpknpejpdaaGreatDoor
open Go
theorem fact0:(Rows.inductValuesRow.wf (OpenSpec.ofChange (OpenSpec.ofChange Rows.inductValuesSpec).bare))=true:=by kernel_rfl
theorem fact1:(laidOutB Tryz.prog)=true:=by kernel_rfl
theorem fact2:(mapsRowed Tryz.prog)=true:=by kernel_rfl
theorem fact3:(Tryz.f3.params.all (Tryz.prog.readableRec ·))=true:=by kernel_rfl
theorem fact4:(namedTie Tryz.prog Rows.inductValuesRow.named (OpenSpec.ofChange Rows.inductValuesSpec).bare.vars)=true:=by kernel_rfl
theorem fact5:((Rows.inductValuesRow.stops == []))=true:=by kernel_rfl
theorem fact6:((Tryz.prog.stops == []))=true:=by kernel_rfl
theorem fact7:((Rows.inductValuesRow.knobs == []))=true:=by kernel_rfl
theorem fact8:((Tryz.prog.stopKnobs == []))=true:=by kernel_rfl
theorem fact9:((Rows.inductValuesRow.inPlace == Tryz.prog.inPlace 3))=true:=by kernel_rfl
theorem fact10:((Rows.inductValuesRow.unfollowed == Tryz.prog.unfollowed 3))=true:=by kernel_rfl
theorem fact11:((Rows.inductValuesRow.recurses == Tryz.prog.recurses 3))=true:=by kernel_rfl
theorem fact12:((Rows.inductValuesRow.named == Tryz.prog.varsNamed 3))=true:=by kernel_rfl
theorem fact13:((Rows.inductValuesRow.maps == (Tryz.f3.params.toList ++ (OpenSpec.ofChange Rows.inductValuesSpec).bare.plain.varTypes Tryz.prog).any (Tryz.prog.mapsRec ·)))=true:=by kernel_rfl
theorem fact14:((Rows.inductValuesRow.ifaces == (Tryz.f3.params.toList ++ (OpenSpec.ofChange Rows.inductValuesSpec).bare.plain.varTypes Tryz.prog).any (Tryz.prog.ifacesRec ·)))=true:=by kernel_rfl
theorem fact15:((Rows.inductValuesRow.mapsOut == Tryz.prog.mapsAmong Tryz.f3.resultTypes.toList))=true:=by kernel_rfl
theorem fact16:((Rows.inductValuesRow.loops == (Tryz.f3.params.toList ++ (OpenSpec.ofChange Rows.inductValuesSpec).bare.plain.varTypes Tryz.prog).any (Tryz.prog.loopsFrom ·)))=true:=by kernel_rfl
theorem fact17:((Rows.inductValuesRow.wideKeys == (Tryz.f3.params.toList ++ (OpenSpec.ofChange Rows.inductValuesSpec).bare.plain.varTypes Tryz.prog ++ Tryz.f3.resultTypes.toList).any (Tryz.prog.wideKeysFrom ·)))=true:=by kernel_rfl
theorem fact18:((OpenSpec.ofChange Rows.inductValuesSpec).bare.vars.all (Tryz.prog.varReadable ·))=true:=by kernel_rfl
theorem fact19:(Tryz.f3.resultTypes.all (fun t=>Tryz.prog.readableRec t && decide (t < Tryz.prog.types.size)))=true:=by kernel_rfl
theorem fact20:((Rows.inductValuesRow.ifacesOut == Tryz.f3.resultTypes.toList.any (Tryz.prog.ifacesRec ·)))=true:=by kernel_rfl
theorem fact21:((Rows.inductValuesRow.loopsOut == Tryz.f3.resultTypes.toList.any (Tryz.prog.loopsFrom ·)))=true:=by kernel_rfl
theorem fact22:((Rows.inductValuesRow.plainKeys == Tryz.prog.plainKeys))=true:=by kernel_rfl
theorem fact23:(Rows.inductValuesRow.shortTexts.isNone)=true:=by kernel_rfl
theorem fact24:(Tryz.prog.stopsHeard)=true:=by kernel_rfl
theorem fact25:(Tryz.prog.mayEnter)=true:=by kernel_rfl
theorem fact26:((Rows.inductValuesRow.lifted == Tryz.prog.liftsFinal))=true:=by kernel_rfl
theorem fact27:((Tryz.prog.make == some Rows.inductValuesRow.make))=true:=by kernel_rfl
theorem fact29:((Rows.inductValuesRow.pinned == Rows.inductValuesRow.pinnedBy))=true:=by kernel_rfl
theorem fact30:((Rows.inductValuesRow.veiled == (Tryz.f3.params.toList ++ (OpenSpec.ofChange Rows.inductValuesSpec).bare.plain.varTypes Tryz.prog ++ Tryz.f3.resultTypes.toList).any (Tryz.prog.veiledRec ·)))=true:=by kernel_rfl
theorem fact31:(Rows.inductValuesRow.veiledFits Tryz.prog Tryz.f3.params.toList (Tryz.f3.params.toList ++ (OpenSpec.ofChange Rows.inductValuesSpec).bare.plain.varTypes Tryz.prog ++ Tryz.f3.resultTypes.toList))=true:=by kernel_rfl
theorem band {a b:Bool} (h:a=true) (k:b=true):(a && b)=true:=by rw [h,k]; rfl
theorem facts:joinedFacts Tryz.prog 3 Tryz.f3 (OpenSpec.ofChange Rows.inductValuesSpec).bare Rows.inductValuesRow=true:=band (band (band (band (band (band (band (band (band (band (band (band (band (band (band (band (band (band (band (band (band (band (band (band (band (band (band (band (band (band (band (fact0) fact1) fact2) fact3) fact4) fact5) fact6) fact7) fact8) fact9) fact10) fact11) fact12) fact13) fact14) fact15) fact16) fact17) fact18) fact19) fact20) fact21) fact22) fact23) fact24) fact25) fact26) fact27) (by kernel_rfl)) fact29) fact30) fact31
end Go.Proofs.YtdnbnpknpejpdaaGreatDoor
