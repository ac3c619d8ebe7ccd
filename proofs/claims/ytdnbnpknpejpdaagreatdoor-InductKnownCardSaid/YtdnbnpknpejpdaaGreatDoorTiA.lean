/- The program is fine for the evaluator. -/
import Derived.Test.YtdnbnpknpejpdaaGreatDoorProg
import Derived.Test.YtdnbnpknpejpdaaGreatDoorEvC
import Derived.KernelRfl
set_option linter.unusedVariables false
set_option linter.unusedSimpArgs false
namespace Go.Proofs.YtdnbnpknpejpdaaGreatDoor
open Go Go.Proofs.YtdnbnpknpejpdaaGreatDoor.Sw
def fnOk (fn : Func) : Bool := !(fn.name == "runtime.NumGoroutine") && (match fn.body with | some c => codeOk c | none => true)
theorem fine_of {P : Program} (h1 : P.follows .mixedOrders = true) (h2 : P.funcs.toList.all fnOk = true) : Fine P := by
  have key : ∀ (f : Nat) (fn : Func), P.funcs[f]? = some fn → fnOk fn = true := fun f fn h => by
    rw [List.all_eq_true] at h2
    exact h2 fn (Array.mem_toList_iff.2 (Array.mem_of_getElem? h))
  refine ⟨fun f fn h => ?_, h1, fun f fn c h hb => ?_⟩
  · have := key f fn h
    simp only [fnOk, Bool.and_eq_true, Bool.not_eq_true'] at this
    exact this.1
  · have := key f fn h
    simp only [fnOk, Bool.and_eq_true, hb] at this
    exact this.2
theorem funcsOk : Tryz.prog.funcs.toList.all fnOk = true := by kernel_rfl
theorem fine : Fine Tryz.prog := fine_of (by kernel_rfl) funcsOk
end Go.Proofs.YtdnbnpknpejpdaaGreatDoor
