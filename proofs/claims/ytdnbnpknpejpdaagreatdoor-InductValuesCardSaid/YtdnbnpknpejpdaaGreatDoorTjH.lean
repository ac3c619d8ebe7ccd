/- Closed facts of the card. -/
import Derived.Test.YtdnbnpknpejpdaaGreatDoorCards
import Derived.Test.YtdnbnpknpejpdaaGreatDoorChecked
import Derived.JoinedOf
import Derived.KernelRfl
import GoSem.ClaimSeven
namespace Go.Proofs.YtdnbnpknpejpdaaGreatDoor
open Go
theorem goes_none {P:Program} (h:P.funcs.toList.all (fun fn=>!fn.goes)=true) (c:OpenClaim):c.goesBy P=false:=by
  have key:∀ (fn:Func),fn ∈ P.funcs.toList→fn.goes=false:=fun fn hfn=>by
    have:=(List.all_eq_true.1 h) fn hfn
    simpa using this
  have k1:∀ g:Nat,(P.funcs[g]?).any Func.goes=false:=fun g=>by
    cases hg:P.funcs[g]? with
    | none=>rfl
    | some fn=>exact key fn (Array.mem_toList_iff.2 (Array.mem_of_getElem? hg))
  have k2:P.funcs.any Func.goes=false:=by
    rw [← Array.any_toList]
    rw [List.any_eq_false]
    intro fn hfn
    rw [key fn hfn]
    simp
  have k3:∀ f,P.goes f=false:=fun f=>by
    simp [Program.goes,k1,k2]
  unfold OpenClaim.goesBy Program.goesAt Program.goesFrom
  have k4:∀ o:Option FuncId,o.any P.goes=false:=fun o=>by cases o <;> simp [k3]
  rw [k4]
  cases c.start <;> simp [k3]
theorem looks:true=Tryz.prog.looks []:=by kernel_rfl
theorem noneGoes:Tryz.prog.funcs.toList.all (fun fn=>!fn.goes)=true:=by kernel_rfl
theorem cardGoes:false=Rows.inductValuesRow.goesBy Tryz.prog:=(goes_none noneGoes _).symm
end Go.Proofs.YtdnbnpknpejpdaaGreatDoor
