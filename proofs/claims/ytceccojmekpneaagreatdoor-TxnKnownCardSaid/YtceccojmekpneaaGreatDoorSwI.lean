/- Assertions, least and greatest, building. -/
import Derived.Test.YtceccojmekpneaaGreatDoorSwH
namespace Go.Proofs.YtceccojmekpneaaGreatDoor.Sw

section
variable {P : Program} {g : Sg} {s : Sto} {w : World}

theorem ifOf_rep {x : AVal} {v : Value} {d : Option (Nat × AVal)} (hx : RepA g s w x v) (h : ifOf x = some d) :
    (d = none ∧ v = .nilIface) ∨ ∃ t y u, d = some (t, y) ∧ v = .iface t u ∧ RepA g s w y u := by
  unfold ifOf at h
  split at h <;> simp at h <;> subst h
  · exact .inl ⟨rfl, hx⟩
  · obtain ⟨u, rfl, h1⟩ := hx
    exact .inr ⟨_, _, u, rfl, rfl, h1⟩
  · obtain ⟨u, rfl, h1⟩ := hx
    exact .inr ⟨_, _, u, rfl, rfl, h1⟩

theorem assert_run {x z : AVal} {v : Value} {xt as : Nat} {ok : Bool} (hx : RepA g s w x v) (h : assertOp P x as ok = some z) :
    ∃ u, (Instr.typeAssert v xt as ok).run P w = .ok u w ∧ RepA g s w z u := by
  unfold assertOp at h
  split at h
  · rename_i d hd
    have hr := ifOf_rep hx hd
    split at h
    · rename_i hf
      split at h
      · rename_i t y
        rcases hr with ⟨h0, _⟩ | ⟨t', y', u, e1, rfl, hy⟩
        · simp at h0
        · simp only [Option.some.injEq, Prod.mk.injEq] at e1
          obtain ⟨rfl, rfl⟩ := e1
          simp only [fitsD, fitsT] at hf
          split at hf
          · rename_i want hu
            split at hf
            · rename_i i hi
              split at hf <;> simp at hf
              rename_i hm
              have hi' : ifaceT P as = true := by simp [ifaceT, hu]
              have hrun : ∀ f : Value → Sem Value, True := fun _ => trivial
              cases ok <;> simp [hi'] at h <;> subst h
              · exact ⟨_, by simp [Instr.typeAssert, run_underlying' hu, run_typeInfo' hi, hm], hx⟩
              · exact ⟨_, by simp [Instr.typeAssert, run_underlying' hu, run_typeInfo' hi, hm], mkTup_rep (vs := [_, _]) ⟨_, _, rfl, hx, _, _, rfl, rfl, rfl⟩⟩
            · simp at hf
          · rename_i d' hni hu
            simp at hf
            have ht : t = as := hf
            subst ht
            have hi' : ifaceT P t = false := by
              unfold ifaceT
              rw [hu]
              split
              · rename_i m he; simp at he; exact (hni _ he).elim
              · rfl
            cases ok <;> simp [hi'] at h <;> subst h
            · refine ⟨u, ?_, hy⟩
              simp only [Instr.typeAssert, Sem.run_bind, run_underlying' hu, Result.andThen_ok]
              cases d' <;> first | (exact absurd rfl (hni _)) | simp
            · refine ⟨.tuple #[u, .bool true], ?_, mkTup_rep (vs := [_, _]) ⟨_, _, rfl, hy, _, _, rfl, rfl, rfl⟩⟩
              simp only [Instr.typeAssert, Sem.run_bind, run_underlying' hu, Result.andThen_ok]
              cases d' <;> first | (exact absurd rfl (hni _)) | simp
          · simp at hf
      · simp at h
    · rename_i hf
      split at h
      · rename_i z' hz
        simp at h
        subst h
        obtain ⟨zv, hzr, hzo⟩ := run_zeroValue' (P := P) (w := w) hz
        have hzrep := ofValue_rep (I := g.imm) (w := w) hzo
        refine ⟨.tuple #[zv, .bool false], ?_, [_, _], rfl, _, _, rfl, hzrep, _, _, rfl, rfl, rfl⟩
        rcases hr with ⟨rfl, rfl⟩ | ⟨t', y', u, rfl, rfl, hy⟩
        · simp only [fitsD] at hf
          split at hf
          · rename_i d' hu
            simp only [Instr.typeAssert, Sem.run_bind, run_underlying' hu, Result.andThen_ok]
            cases d' <;> simp [hzr]
          · simp at hf
        · simp only [fitsD, fitsT] at hf
          split at hf
          · rename_i want hu
            split at hf
            · rename_i i hi
              split at hf <;> simp at hf
              rename_i m hm
              simp [Instr.typeAssert, run_underlying' hu, run_typeInfo' hi, hm, hzr]
            · simp at hf
          · rename_i d' hni hu
            simp at hf
            have ht : ¬ t' = as := Nat.ne_of_beq_eq_false hf
            simp only [Instr.typeAssert, Sem.run_bind, run_underlying' hu, Result.andThen_ok]
            cases d' <;> first | (exact absurd rfl (hni _)) | simp [ht, hzr]
          · simp at hf
      · simp at h
    · simp at h
  · simp at h


theorem min_go {k : IntKind} : ∀ {l : List AVal} {vs : List Value} {a : Int} {z : AVal}, RepAs g s w l vs → minmax.go false k a l = some z →
    ∃ u, (vs.foldlM Builtin.min2 (.int k a)).run P w = .ok u w ∧ RepA g s w z u
  | [], _, a, z, hr, h => by
    simp [minmax.go] at h; subst h
    rw [hr]
    exact ⟨.int k a, rfl, rfl⟩
  | x :: l, _, a, z, hr, h => by
    obtain ⟨v, vs, rfl, h1, h2⟩ := hr
    cases x with
    | p x => cases x with
      | int k' b =>
        simp only [minmax.go] at h
        have e : v = .int k' b := h1
        subst e
        obtain ⟨u, a1, a2⟩ := min_go h2 h
        exact ⟨u, by simp only [List.foldlM_cons, Sem.run_bind, Builtin.min2, Sem.run_pure, Result.andThen_ok]; exact a1, a2⟩
      | _ => simp [minmax.go] at h
    | _ => simp [minmax.go] at h

theorem max_go {k : IntKind} : ∀ {l : List AVal} {vs : List Value} {a : Int} {z : AVal}, RepAs g s w l vs → minmax.go true k a l = some z →
    ∃ u, (vs.foldlM Builtin.max2 (.int k a)).run P w = .ok u w ∧ RepA g s w z u
  | [], _, a, z, hr, h => by
    simp [minmax.go] at h; subst h
    rw [hr]
    exact ⟨.int k a, rfl, rfl⟩
  | x :: l, _, a, z, hr, h => by
    obtain ⟨v, vs, rfl, h1, h2⟩ := hr
    cases x with
    | p x => cases x with
      | int k' b =>
        simp only [minmax.go] at h
        have e : v = .int k' b := h1
        subst e
        obtain ⟨u, a1, a2⟩ := max_go h2 h
        exact ⟨u, by simp only [List.foldlM_cons, Sem.run_bind, Builtin.max2, Sem.run_pure, Result.andThen_ok]; exact a1, a2⟩
      | _ => simp [minmax.go] at h
    | _ => simp [minmax.go] at h

theorem min_run {l : List AVal} {vs : List Value} {z : AVal} {ts : Array TypeId} {t : TypeId} (hr : RepAs g s w l vs) (h : minmax false l = some z) :
    ∃ u, (Builtin.min_ ts t vs.toArray).run P w = .ok u w ∧ RepA g s w z u := by
  cases l with
  | nil => simp [minmax] at h
  | cons x l =>
    obtain ⟨v, vs, rfl, h1, h2⟩ := hr
    cases x with
    | p x => cases x with
      | int k a =>
        simp only [minmax] at h
        have e : v = .int k a := h1
        subst e
        exact min_go h2 h
      | _ => simp [minmax] at h
    | _ => simp [minmax] at h

theorem max_run {l : List AVal} {vs : List Value} {z : AVal} {ts : Array TypeId} {t : TypeId} (hr : RepAs g s w l vs) (h : minmax true l = some z) :
    ∃ u, (Builtin.max_ ts t vs.toArray).run P w = .ok u w ∧ RepA g s w z u := by
  cases l with
  | nil => simp [minmax] at h
  | cons x l =>
    obtain ⟨v, vs, rfl, h1, h2⟩ := hr
    cases x with
    | p x => cases x with
      | int k a =>
        simp only [minmax] at h
        have e : v = .int k a := h1
        subst e
        exact max_go h2 h
      | _ => simp [minmax] at h
    | _ => simp [minmax] at h

/-! ### The cells of a value -/
theorem cells_rep {gg : Bool} {n : Nat} {x : AVal} {v : Value} {cs : List AVal} (hx : RepA g s w x v) (h : cellsAs gg n x = some cs) :
    RepAs g s w cs v.cells.toList ∧ v.cells.size = n ∧ (∀ c ∈ v.cells.toList, isCell c = true) ∧ (gg = true → ∃ l, v = .agg l) ∧ (gg = false → isCell v = true) := by
  unfold cellsAs at h
  split at h
  · split at h
    · split at h <;> simp at h
      rename_i hb
      subst h
      obtain ⟨vs, rfl, h1, h2⟩ := hx
      have := Nat.eq_of_beq_eq_true hb
      refine ⟨by simpa [Value.cells] using mapP_rep h1, by simp [Value.cells, RepPs.length h1, this], by simpa [Value.cells] using h2, fun _ => ⟨_, rfl⟩, by simp⟩
    · split at h <;> simp at h
      rename_i hb
      subst h
      obtain ⟨vs, rfl, h1, h2⟩ := hx
      have := Nat.eq_of_beq_eq_true hb
      refine ⟨by simpa [Value.cells] using h1, by simp [Value.cells, RepAs.length h1, this], by simpa [Value.cells] using h2, fun _ => ⟨_, rfl⟩, by simp⟩
    · simp at h
  · have key : ∀ {x : AVal} {v : Value}, RepA g s w x v → isCell v = true → (match Nat.beq n 1 with | true => some [x] | false => none) = some cs →
        RepAs g s w cs v.cells.toList ∧ v.cells.size = n ∧ (∀ c ∈ v.cells.toList, isCell c = true) ∧ (false = true → ∃ l, v = .agg l) ∧ (false = false → isCell v = true) := by
      intro x v hx hc h
      split at h <;> simp at h
      rename_i hb
      subst h
      have := Nat.eq_of_beq_eq_true hb
      subst this
      have hcv : v.cells = #[v] := by cases v <;> first | rfl | (simp [isCell] at hc)
      rw [hcv]
      exact ⟨⟨v, [], rfl, hx, rfl⟩, rfl, by simp [hc], by simp, fun _ => hc⟩
    cases x with
    | p x =>
      cases x with
      | agg _ => simp at h
      | tup _ => simp at h
      | bool _ => have e : v = _ := hx; subst e; exact key (x := .p (.bool _)) rfl rfl h
      | int _ _ => have e : v = _ := hx; subst e; exact key (x := .p (.int _ _)) rfl rfl h
      | str _ => have hx' := hx; obtain ⟨_, rfl, _⟩ := hx'; exact key (x := .p (.str _)) hx rfl h
      | nilp => have e : v = _ := hx; subst e; exact key (x := .p .nilp) rfl rfl h
      | nils => have e : v = _ := hx; subst e; exact key (x := .p .nils) rfl rfl h
      | nilm => have e : v = _ := hx; subst e; exact key (x := .p .nilm) rfl rfl h
      | nilf => have e : v = _ := hx; subst e; exact key (x := .p .nilf) rfl rfl h
      | nili => have e : v = _ := hx; subst e; exact key (x := .p .nili) rfl rfl h
      | iface _ _ => have hx' := hx; obtain ⟨_, rfl, _⟩ := hx'; exact key (x := .p (.iface _ _)) hx rfl h
      | sl _ => have hx' := hx; obtain ⟨_, _, _, _, _, rfl, _⟩ := hx'; exact key (x := .p (.sl _)) hx rfl h
      | ip _ => have hx' := hx; obtain ⟨_, _, _, rfl, _⟩ := hx'; exact key (x := .p (.ip _)) hx rfl h
      | fn _ _ => have hx' := hx; obtain ⟨_, rfl, _⟩ := hx'; exact key (x := .p (.fn _ _)) hx rfl h
    | agg _ => simp at h
    | tup _ => simp at h
    | own _ _ => simp at h
    | ownm _ => simp at h
    | junk => simp at h
    | iface _ _ => have hx' := hx; obtain ⟨_, rfl, _⟩ := hx'; exact key (x := .iface _ _) hx rfl h
    | cl _ => have hx' := hx; obtain ⟨_, _, _, _, rfl, _⟩ := hx'; exact key (x := .cl _) hx rfl h
    | box _ _ => have hx' := hx; obtain ⟨_, _, rfl⟩ := hx'; exact key (x := .box _ _) hx rfl h
    | arr _ _ _ _ _ => have hx' := hx; obtain ⟨_, _, _, rfl, _⟩ := hx'; exact key (x := .arr _ _ _ _ _) hx rfl h
    | el _ _ _ _ => have hx' := hx; obtain ⟨_, _, rfl, _⟩ := hx'; exact key (x := .el _ _ _ _) hx rfl h
    | fn _ _ => have hx' := hx; obtain ⟨_, rfl, _⟩ := hx'; exact key (x := .fn _ _) hx rfl h
    | rf k _ => have hx' := hx; obtain ⟨_, _, rfl⟩ := hx'; exact key (x := .rf k _) hx (by cases k <;> rfl) h

theorem putCells_rep {cs new cs' : List AVal} {vs us : List Value} {off : Nat} (h1 : RepAs g s w cs vs) (h2 : RepAs g s w new us) (h : putCells cs off new = some cs') :
    off + us.length ≤ vs.length ∧ RepAs g s w cs' (vs.take off ++ us ++ vs.drop (off + us.length)) := by
  unfold putCells at h
  split at h <;> simp at h
  rename_i hb
  have := Nat.le_of_ble_eq_true hb
  subst h
  have e1 := RepAs.length h1
  have e2 := RepAs.length h2
  refine ⟨by omega, ?_⟩
  rw [e2]
  simpa using ((h1.take off).append h2).append (h1.drop _)

/-- the model's way to lay cells. -/
theorem foldl_put (new : List Value) : ∀ (off : Nat) (cs : Array Value) (k : Nat), off + k + new.length ≤ cs.size →
    (new.zipIdx k).foldl (fun (cs : Array Value) (x : Value × Nat) => cs.setIfInBounds (off + x.2) x.1) cs = (cs.toList.take (off + k) ++ new ++ cs.toList.drop (off + k + new.length)).toArray := by
  induction new with
  | nil => intro off cs k h; simp
  | cons v new ih =>
    intro off cs k h
    simp only [List.length_cons] at h
    simp only [List.zipIdx_cons, List.foldl_cons]
    rw [ih off _ (k + 1) (by simp; omega)]
    have hlt : off + k < cs.toList.length := by simp; omega
    have l1 : (cs.toList.take (off + k)).length = off + k := by simp; omega
    have hs : cs.toList.set (off + k) v = cs.toList.take (off + k) ++ ([v] ++ cs.toList.drop (off + k + 1)) := by
      rw [List.set_eq_take_append_cons_drop, if_pos hlt]; rfl
    apply congrArg List.toArray
    rw [Array.toList_setIfInBounds, hs]
    have e1 : (cs.toList.take (off + k) ++ ([v] ++ cs.toList.drop (off + k + 1))).take (off + (k + 1)) = cs.toList.take (off + k) ++ [v] := by
      rw [List.take_append, l1, List.take_of_length_le (by omega)]
      rw [show off + (k + 1) - (off + k) = 1 by omega]
      simp
    have e2 : (cs.toList.take (off + k) ++ ([v] ++ cs.toList.drop (off + k + 1))).drop (off + (k + 1) + new.length) = cs.toList.drop (off + k + (new.length + 1)) := by
      rw [List.drop_append, l1, List.drop_of_length_le (by omega)]
      rw [show off + (k + 1) + new.length - (off + k) = new.length + 1 by omega]
      simp
      congr 1
      omega
    rw [e1, e2]
    simp

end
end Go.Proofs.YtceccojmekpneaaGreatDoor.Sw
