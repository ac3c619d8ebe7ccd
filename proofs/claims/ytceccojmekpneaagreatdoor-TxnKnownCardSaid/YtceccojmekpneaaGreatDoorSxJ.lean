/- Closed calls: what is known of one, said of the model; tables that are package variables. -/
import Derived.Test.YtceccojmekpneaaGreatDoorSxI
import Derived.Lib.LaidTab
import Derived.RowKit3
namespace Go.Proofs.YtceccojmekpneaaGreatDoor.Sw
open Go.RowKit

theorem keptBut_of_below {w w' : World} (h : Below w.heap.size w w') (may : MemPlace → Prop) : w.keptBut w' may := by
  refine ⟨h.os, h.output, fun i hi => ?_⟩
  rw [h.block i hi]
  split
  · rename_i e1 e2
    rw [e1] at e2
    simp only [Option.some.injEq, Obj.cells.injEq] at e2
    obtain ⟨rfl, rfl, rfl⟩ := e2
    exact ⟨rfl, rfl, rfl, fun _ _ => rfl⟩
  · rename_i e1 e2
    rw [e1] at e2
    simp only [Option.some.injEq, Obj.map.injEq] at e2
    obtain ⟨rfl, rfl⟩ := e2
    exact .inr ⟨rfl, rfl⟩
  · rfl

/-- a closed call that is known to return true. -/
theorem known_true {P : Program} {gl : Tr AVal} {f : Nat} {w : World} (hk : Known P gl f [] (.p (.bool true)) []) (hG : Glob gl (fun b _ => b < w.heap.size) w) :
    Calls P f #[] w (fun e w' => e = .returned (.bool true) ∧ Below w.heap.size w w') := by
  obtain ⟨_, hc⟩ := hk _ w [] (inv_empty (I := fun b _ => b < w.heap.size) fun _ _ h => h) hG rfl
  refine (callsIn_wide (n := 0)).1 (CallsIn.mono hc fun e w' hcm => ?_)
  cases e with
  | returned u =>
    obtain ⟨g', e1, e2, e3⟩ := hcm
    have e3 : u = .bool true := e3
    rw [e3]
    exact ⟨rfl, e1.below⟩
  | panicked _ => exact hcm.elim
  | outgrown => exact hcm.elim

/-- a table of numbers behind a pointer. -/
def tabP (k : IntKind) (zs : List Int) : PVal := .ip (.agg (zs.map (.int k)))

theorem reps_ints {I : Nat → Nat → Prop} {w : World} {k : IntKind} : ∀ (zs : List Int), RepPs I w (zs.map (.int k)) (zs.map fun z => Value.int k z)
  | [] => rfl
  | _z :: zs => ⟨_, _, rfl, rfl, reps_ints zs⟩

theorem rep_tab {P : Program} {w : World} {name : String} {k : IntKind} {zs : List Int} {g : Nat} (h : Lib.TabIs P w name k zs) (hg : P.globalNamed name = some g) :
    RepP (fun b _ => b < w.heap.size) w (tabP k zs) (.pointer (some ⟨g, 0, none⟩)) := by
  refine ⟨g, 0, .agg (zs.map fun z => Value.int k z).toArray, rfl, ⟨_, rfl, reps_ints zs, fun x hx => ?_⟩, fun i c hc => ?_⟩
  · obtain ⟨z, _, rfl⟩ := List.mem_map.1 hx
    rfl
  · have hc : (zs.map fun z => Value.int k z)[i]? = some c := hc
    have hi : i < zs.length := by
      have := (List.getElem?_eq_some_iff.1 hc).1
      simpa using this
    have h1 := h.cell hg i hi
    rw [Nat.zero_add]
    refine ⟨?_, ?_⟩
    · rw [h1]
      simp only [List.getElem?_map, Option.map_eq_some_iff] at hc
      obtain ⟨z, hz, rfl⟩ := hc
      simp [List.getD, hz]
    · simp only [World.cell?] at h1
      by_cases hs : g < w.heap.size
      · exact hs
      · simp [Array.getElem?_eq_none (by omega : w.heap.size ≤ g)] at h1

theorem glob_empty {I : Nat → Nat → Prop} {w : World} : Glob .lf I w := fun t x h => by
  rw [Tr.get_lf] at h
  simp at h

theorem glob_set {gl : Tr AVal} {I : Nat → Nat → Prop} {w : World} (h : Glob gl I w) {g : Nat} {y : PVal} (hr : RepP I w y (.pointer (some ⟨g, 0, none⟩))) : Glob (gl.set (glBase + g) (.p y)) I w := fun t x hx => by
  by_cases e : t = glBase + g
  · subst e
    rw [Tr.get_set, if_pos rfl] at hx
    simp at hx
    subst hx
    exact ⟨Nat.le_add_right _ _, y, rfl, by rw [Nat.add_sub_cancel_left]; exact hr⟩
  · rw [Tr.get_set, if_neg (fun h => e h.symm)] at hx
    exact h t x hx


end Go.Proofs.YtceccojmekpneaaGreatDoor.Sw
