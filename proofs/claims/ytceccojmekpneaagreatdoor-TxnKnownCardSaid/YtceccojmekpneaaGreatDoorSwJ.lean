/- Building structs and arrays; function values. -/
import Derived.Test.YtceccojmekpneaaGreatDoorSwI
namespace Go.Proofs.YtceccojmekpneaaGreatDoor.Sw

section
variable {P : Program} {g : Sg} {s : Sto} {w : World}

theorem run_sizes : ∀ (fs : List Field), (fs.all fun f => (szT P f.type).isSome) = true →
    (fs.mapM fun f => (do pure (f.offset, ← Go.sizeOf f.type) : Sem (Nat × Nat))).run P w = .ok (fs.map fun f => (f.offset, (szT P f.type).getD 0)) w
  | [], _ => rfl
  | f :: fs, h => by
    simp only [List.all_cons, Bool.and_eq_true] at h
    obtain ⟨n, hn⟩ := Option.isSome_iff_exists.1 h.1
    have ih := run_sizes fs h.2
    simp only [List.mapM_cons, Sem.run_bind, run_sizeOf' hn, Result.andThen_ok, Sem.run_pure, ih, List.map_cons, hn, Option.getD_some]

theorem run_sizesA (fs : Array Field) (h : (fs.toList.all fun f => (szT P f.type).isSome) = true) :
    (fs.mapM fun f => (do pure (f.offset, ← Go.sizeOf f.type) : Sem (Nat × Nat))).run P w = .ok (fs.map fun f => (f.offset, (szT P f.type).getD 0)) w := by
  rw [Array.mapM_eq_mapM_toList]
  simp only [Sem.run_map, run_sizes fs.toList h, Result.andThen_ok]
  congr 1
  apply Array.ext'
  simp

/-- parts with their values. -/
def RepParts (g : Sg) (s : Sto) (w : World) : List (Nat × AVal) → List (Nat × Value) → Prop
  | [], l => l = []
  | (i, x) :: r, l => ∃ v t, l = (i, v) :: t ∧ RepA g s w x v ∧ RepParts g s w r t

theorem put_fold {cs : Array Value} {v : Value} {off : Nat} (h : off + v.cells.size ≤ cs.size) :
    (v.cells.zipIdx.foldl (fun (cs : Array Value) (x : Value × Nat) => cs.setIfInBounds (off + x.2) x.1) cs) = (cs.toList.take off ++ v.cells.toList ++ cs.toList.drop (off + v.cells.toList.length)).toArray := by
  have := foldl_put v.cells.toList off cs 0 (by simpa using h)
  rw [← Array.foldl_toList, Array.toList_zipIdx]
  simpa using this

theorem fill_struct {fs : Array Field} : ∀ {parts : List (Nat × AVal)} {vals : List (Nat × Value)} {cs cs' : List AVal} {vs : List Value}, RepParts g s w parts vals → RepAs g s w cs vs →
    (∀ v ∈ vs, isCell v = true) → fillStruct P fs cs parts = some cs' → ∃ vs', Instr.fill ((fs.map fun f => (f.offset, (szT P f.type).getD 0))[·]?) vs.toArray vals = some vs'.toArray ∧ RepAs g s w cs' vs' ∧ (∀ v ∈ vs', isCell v = true)
  | [], vals, cs, cs', vs, hp, hr, hc, h => by
    simp [fillStruct] at h; subst h
    have e : vals = [] := hp
    subst e
    exact ⟨vs, rfl, hr, hc⟩
  | (i, x) :: parts, vals, cs, cs', vs, hp, hr, hc, h => by
    obtain ⟨v, t, rfl, hx, ht⟩ := hp
    simp only [fillStruct] at h
    split at h
    · rename_i f hf
      split at h
      · rename_i n gg hn hg
        split at h
        · rename_i new hnew
          split at h
          · rename_i cs2 hput
            obtain ⟨k1, k2, k3, _, _⟩ := cells_rep hx hnew
            obtain ⟨k4, k5⟩ := putCells_rep hr k1 hput
            have hc2 : ∀ u ∈ vs.take f.offset ++ v.cells.toList ++ vs.drop (f.offset + v.cells.toList.length), isCell u = true := by
              intro u hu
              simp only [List.mem_append] at hu
              rcases hu with (hu | hu) | hu
              · exact hc u (List.mem_of_mem_take hu)
              · exact k3 u hu
              · exact hc u (List.mem_of_mem_drop hu)
            obtain ⟨vs', h1, h2, h3⟩ := fill_struct ht k5 hc2 h
            refine ⟨vs', ?_, h2, h3⟩
            have hsz : v.cells.toList.length = n := by simpa using k2
            simp only [Instr.fill, Array.getElem?_map, hf, Option.map_some, hn, Option.getD_some]
            have hno : ¬ ((decide (v.cells.size ≠ n) || decide (f.offset + v.cells.size > vs.toArray.size)) = true) := by
              have : v.cells.size = n := k2
              simp at k4
              simp [this]; omega
            rw [if_neg hno, put_fold (by simp at k4; simpa using k4)]
            simp only [Array.getElem?_map] at h1
            exact h1
          · simp at h
        · simp at h
      · simp at h
    · simp at h

theorem fill_row {gg : Bool} {n : Nat} : ∀ {parts : List (Nat × AVal)} {vals : List (Nat × Value)} {cs cs' : List AVal} {vs : List Value}, RepParts g s w parts vals → RepAs g s w cs vs →
    (∀ v ∈ vs, isCell v = true) → fillRow gg n cs parts = some cs' → ∃ vs', Instr.fill (fun i => some (i * n, n)) vs.toArray vals = some vs'.toArray ∧ RepAs g s w cs' vs' ∧ (∀ v ∈ vs', isCell v = true)
  | [], vals, cs, cs', vs, hp, hr, hc, h => by
    simp [fillRow] at h; subst h
    have e : vals = [] := hp
    subst e
    exact ⟨vs, rfl, hr, hc⟩
  | (i, x) :: parts, vals, cs, cs', vs, hp, hr, hc, h => by
    obtain ⟨v, t, rfl, hx, ht⟩ := hp
    simp only [fillRow] at h
    split at h
    · rename_i new hnew
      split at h
      · rename_i cs2 hput
        obtain ⟨k1, k2, k3, _, _⟩ := cells_rep hx hnew
        obtain ⟨k4, k5⟩ := putCells_rep hr k1 hput
        have hc2 : ∀ u ∈ vs.take (i * n) ++ v.cells.toList ++ vs.drop (i * n + v.cells.toList.length), isCell u = true := by
          intro u hu
          simp only [List.mem_append] at hu
          rcases hu with (hu | hu) | hu
          · exact hc u (List.mem_of_mem_take hu)
          · exact k3 u hu
          · exact hc u (List.mem_of_mem_drop hu)
        obtain ⟨vs', h1, h2, h3⟩ := fill_row ht k5 hc2 h
        refine ⟨vs', ?_, h2, h3⟩
        simp only [Instr.fill]
        have hno : ¬ ((decide (v.cells.size ≠ n) || decide (i * n + v.cells.size > vs.toArray.size)) = true) := by
          have : v.cells.size = n := k2
          simp at k4
          simp [this]; omega
        rw [if_neg hno, put_fold (by simp at k4; simpa using k4)]
        exact h1
      · simp at h
    · simp at h

theorem build_run {t : Nat} {parts : List (Nat × AVal)} {vals : List (Nat × Value)} {z : AVal} (hp : RepParts g s w parts vals) (h : buildOp P t parts = some z) :
    ∃ u, (Instr.build t vals.toArray).run P w = .ok u w ∧ RepA g s w z u := by
  unfold buildOp at h
  split at h
  · rename_i zs hz
    obtain ⟨zv, hzr, hzo⟩ := run_zeroValue' (P := P) (w := w) hz
    obtain ⟨us, rfl, hzs, hzc⟩ := ofValue_rep (I := g.imm) (w := w) hzo
    split at h
    · rename_i fs hu
      split at h
      · rename_i hall
        simp only [Option.map_eq_some_iff] at h
        obtain ⟨cs', h1, rfl⟩ := h
        obtain ⟨vs', k1, k2, k3⟩ := fill_struct hp (mapP_rep (s := s) hzs) hzc h1
        refine ⟨.agg vs'.toArray, ?_, mkAgg_rep k2 k3⟩
        simp only [Instr.build, Sem.run_bind, hzr, Result.andThen_ok, run_underlying' hu, run_sizesA fs hall, Value.cells, k1, Sem.run_pure]
      · simp at h
    · rename_i len e hu
      split at h
      · rename_i n gg hn hg
        simp only [Option.map_eq_some_iff] at h
        obtain ⟨cs', h1, rfl⟩ := h
        obtain ⟨vs', k1, k2, k3⟩ := fill_row hp (mapP_rep (s := s) hzs) hzc h1
        refine ⟨.agg vs'.toArray, ?_, mkAgg_rep k2 k3⟩
        simp only [Instr.build, Sem.run_bind, hzr, Result.andThen_ok, run_underlying' hu, run_sizeOf' hn, Value.cells, k1, Sem.run_pure]
      · simp at h
    · simp at h
  · simp at h

theorem makeInterface_run {t : Nat} {x : AVal} {v : Value} (hx : RepA g s w x v) (hi : ifaceT P t = false) (hd : (P.underlying t).isSome = true) :
    (Instr.makeInterface t v).run P w = .ok (.iface t v) w ∧ RepA g s w (mkIface t x) (.iface t v) := by
  refine ⟨?_, mkIface_rep hx⟩
  obtain ⟨d, hd⟩ := Option.isSome_iff_exists.1 hd
  simp only [ifaceT, hd] at hi
  simp only [Instr.makeInterface, Sem.run_bind, run_underlying' hd, Result.andThen_ok]
  cases d <;> first | (simp at hi; done) | rfl

end
end Go.Proofs.YtceccojmekpneaaGreatDoor.Sw
