/- Every operation that calls no function. -/
import Derived.Test.YtceccojmekpneaaGreatDoorSyB
namespace Go.Proofs.YtceccojmekpneaaGreatDoor.Sw
open Go.RowKit

section
variable {P : Program} {g : Sg} {s : Sto} {w : World}

theorem Does.of_yields {e : Eff} {r : Result Value} {r' : Result Next} (h : Yields g s w e r) (hr : ∀ u w', r = .ok u w' → r' = .ok (.value u) w') : Does g s w e r' := by
  obtain ⟨u, g', w', h1, h2⟩ := h
  exact ⟨u, g', w', .inl (hr u w' h1), h2⟩

theorem Does.of_pure (hi : Inv g s w) {x : AVal} {v : Value} (hx : RepA g s w x v) {rd : List Nat} {r : Result Next} (hr : r = .ok (.value v) w) : Does g s w ⟨x, rd, []⟩ r :=
  ⟨v, g, w, .inl hr, .refl _ _ _, hi, hx⟩

theorem Does.of_eff (hi : Inv g s w) {e : Eff} {v : Value} (hw : e.wr = []) (hx : RepA g s w e.v v) {r : Result Next} (hr : r = .ok (.value v) w) : Does g s w e r := by
  obtain ⟨x, rd, wr⟩ := e
  simp at hw; subst hw
  exact .of_pure hi hx hr

theorem someP_eq {x : Option AVal} {e : Eff} (h : someP x = some e) : ∃ z, x = some z ∧ e = .pure z := by
  unfold someP at h
  split at h <;> simp at h
  exact ⟨_, rfl, h.symm⟩

theorem operandParts_rep {tm : Tr AVal} {a : Act} (hf : Frm g s w tm a.tmps) : ∀ {l : List (Nat × Operand)} {xs : List (Nat × AVal)}, operandParts tm l = some xs →
    RepParts g s w xs (l.map fun (i, o) => (i, a.eval o))
  | [], xs, h => by simp [operandParts] at h; subst h; rfl
  | (i, o) :: l, xs, h => by
    simp only [operandParts] at h
    split at h <;> simp at h
    rename_i v vs h1 h2
    subst h
    exact ⟨_, _, rfl, operand_rep hf h1, operandParts_rep hf h2⟩

theorem operand?_rep {tm : Tr AVal} {a : Act} (hf : Frm g s w tm a.tmps) {o : Option Operand} {x : Option AVal} (h : operand? tm o = some x) : RepO g s w x (o.map a.eval) := by
  cases o with
  | none => simp [operand?] at h; subst h; trivial
  | some o =>
    simp only [operand?] at h
    split at h <;> simp at h
    subst h
    rename_i v hv
    exact operand_rep hf hv

theorem sliceAt_slice {t : Nat} {v : Value} {lo hi mx : Option Value} {u : Value} (h : (Instr.slice t v lo hi mx).run P w = .ok u w) (hn : ∀ n e, P.underlying t ≠ some (.array n e)) :
    (Instr.sliceAt t v lo hi mx).run P w = .ok u w := by
  unfold Instr.sliceAt
  cases hu : P.underlying t with
  | none =>
    exfalso
    unfold Instr.slice at h
    simp [Go.underlying, hu] at h
  | some d =>
    simp only [Sem.run_bind, run_underlying' hu, Result.andThen_ok]
    cases d <;> first | exact h | exact absurd hu (hn _ _)

theorem plainOp_sound {S : St} (hs : ∀ id, s id = S.get id) (hi : Inv g s w) {tm : Tr AVal} {a : Act} (hf : Frm g s w tm a.tmps) {b : Nat} {o : Oper} {e : Eff} (h : plainOp P tm S b o.op = some e) :
    Does g s w e ((execOp a.eval o).run P w) := by
  unfold plainOp at h
  split at h
  · -- move
    rename_i x ho
    obtain ⟨z, h1, rfl⟩ := someP_eq h
    exact .of_pure hi (operand_rep hf h1) (by simp [execOp, ho])
  · rename_i x ho
    obtain ⟨z, h1, rfl⟩ := someP_eq h
    exact .of_pure hi (operand_rep hf h1) (by simp [execOp, ho])
  · -- pick
    rename_i c x y ho
    split at h <;> try (simp at h; done)
    · rename_i hc
      have := operand_rep hf hc
      have e1 : a.eval c = .bool true := this
      obtain ⟨z, h1, rfl⟩ := someP_eq h
      exact .of_pure hi (operand_rep hf h1) (by simp [execOp, ho, e1, asBool])
    · rename_i hc
      have := operand_rep hf hc
      have e1 : a.eval c = .bool false := this
      obtain ⟨z, h1, rfl⟩ := someP_eq h
      exact .of_pure hi (operand_rep hf h1) (by simp [execOp, ho, e1, asBool])
  · -- alloc
    rename_i t ho
    exact .of_yields (alloc_run hs hi h) (fun u w' hr => by simp [execOp, ho, hr])
  · -- box
    rename_i t x ho
    split at h <;> try (simp at h; done)
    rename_i v hv
    exact .of_yields (box_run hs hi (operand_rep hf hv) h) (fun u w' hr => by simp [execOp, ho, hr])
  · -- build
    rename_i t parts ho
    split at h <;> try (simp at h; done)
    rename_i ps hps
    obtain ⟨z, h1, rfl⟩ := someP_eq h
    obtain ⟨u, h2, h3⟩ := build_run (operandParts_rep hf hps) h1
    exact .of_pure hi h3 (by
      have : (parts.map fun (i, x) => (i, a.eval x)) = (parts.toList.map fun (i, o) => (i, a.eval o)).toArray := by apply Array.ext'; rw [Array.toList_map]
      simp only [execOp, ho, this, Sem.run_bind, h2, Result.andThen_ok, Sem.run_pure])
  · -- buildSlice
    rename_i t len parts ho
    split at h <;> try (simp at h; done)
    rename_i ps hps
    exact .of_yields (buildSlice_run hs hi (operandParts_rep hf hps) h) (fun u w' hr => by
      have : (parts.map fun (i, x) => (i, a.eval x)) = (parts.toList.map fun (i, o) => (i, a.eval o)).toArray := by apply Array.ext'; rw [Array.toList_map]
      simp only [execOp, ho, this, Sem.run_bind, hr, Result.andThen_ok, Sem.run_pure])
  · -- load
    rename_i t x ho
    split at h <;> try (simp at h; done)
    rename_i v hv
    obtain ⟨h1, u, h2, h3⟩ := load_run hs hi (operand_rep hf hv) h
    exact .of_eff hi h1 h3 (by simp [execOp, ho, h2])
  · -- store
    rename_i t x y ho
    split at h <;> try (simp at h; done)
    rename_i v u hv hu
    obtain ⟨g', w', h1, h2, h3, h4⟩ := store_run hs hi (operand_rep hf hv) (operand_rep hf hu) h
    exact ⟨undef, g', w', .inr ⟨by simp [execOp, ho, h1], rfl⟩, h2, h3, by rw [h4]; exact ⟨[], rfl, rfl⟩⟩
  · -- nilCheck
    rename_i x ho
    split at h <;> try (simp at h; done)
    rename_i v hv
    split at h <;> simp at h
    rename_i hn
    subst h
    have hr := operand_rep hf hv
    have : ∃ ad, a.eval x = .pointer (some ad) := by
      cases v with
      | p q => cases q <;> simp [nilPt] at hn; obtain ⟨_, _, _, e1, _⟩ := hr; exact ⟨_, e1⟩
      | box id off => obtain ⟨_, _, e1⟩ := hr; exact ⟨_, e1⟩
      | el id ep i off => obtain ⟨_, _, e1, _⟩ := hr; exact ⟨_, e1⟩
      | _ => simp [nilPt] at hn
    obtain ⟨ad, e1⟩ := this
    exact .of_pure hi hr (by simp [execOp, ho, e1])
  · -- binOp
    rename_i op t x y ty ho
    split at h <;> try (simp at h; done)
    rename_i v u hv hu
    obtain ⟨z, h1, rfl⟩ := someP_eq h
    obtain ⟨r, h2, h3⟩ := binary_run ho (operand_rep hf hv) (operand_rep hf hu) h1
    exact .of_pure hi h3 h2
  · -- unOp
    rename_i op t x ho
    split at h <;> try (simp at h; done)
    rename_i v hv
    obtain ⟨z, h1, rfl⟩ := someP_eq h
    obtain ⟨u, h2, h3⟩ := unary_run (P := P) (operand_rep hf hv) h1
    exact .of_pure hi h3 (by simp [execOp, ho, h2])
  · -- convert
    rename_i src dst x ho
    split at h <;> try (simp at h; done)
    rename_i v hv
    split at h
    · rename_i z h1
      simp at h
      subst h
      obtain ⟨u, h2, h3⟩ := conv_run (operand_rep hf hv) h1
      exact .of_pure hi h3 (by simp [execOp, ho, h2])
    · obtain ⟨h1, u, h2, h3⟩ := convBytes_run hs hi (operand_rep hf hv) h
      exact .of_eff hi h1 h3 (by simp [execOp, ho, h2])
  · -- makeMap
    rename_i t ho
    exact .of_yields (makeMap_run (P := P) (t := t) hs hi h) (fun u w' hr => by simp [execOp, ho, hr])
  · -- lookup
    rename_i t x k ok ho
    split at h <;> try (simp at h; done)
    rename_i v u hv hu
    obtain ⟨h1, r, h2, h3⟩ := lookup_run hs hi (operand_rep hf hv) (operand_rep hf hu) h
    exact .of_eff hi h1 h3 (by simp [execOp, ho, h2])
  · -- mapUpdate
    rename_i t m k x ho
    split at h <;> try (simp at h; done)
    rename_i v u y hv hu hy
    obtain ⟨g', w', h1, h2, h3, h4⟩ := mapUpdate_run hs hi (operand_rep hf hv) (operand_rep hf hu) (operand_rep hf hy) h
    exact ⟨undef, g', w', .inr ⟨by simp [execOp, ho, h1], rfl⟩, h2, h3, by rw [h4]; exact ⟨[], rfl, rfl⟩⟩
  · -- range
    rename_i t x ho
    split at h <;> try (simp at h; done)
    rename_i v hv
    exact .of_yields (range_run (P := P) hs hi (operand_rep hf hv) h) (fun u w' hr => by simp [execOp, ho, hr])
  · -- next
    rename_i x is ho
    split at h <;> try (simp at h; done)
    rename_i v hv
    exact .of_yields (next_run (P := P) (ty := o.type) hs hi (operand_rep hf hv) h) (fun u w' hr => by simp [execOp, ho, hr])
  · -- makeInterface
    rename_i t x ho
    split at h <;> simp at h
    rename_i v hv hif hd
    subst h
    obtain ⟨h2, h3⟩ := makeInterface_run (operand_rep hf hv) hif hd
    exact .of_pure hi h3 (by simp [execOp, ho, h2])
  · -- makeFunc
    rename_i f first cap ho
    split at h <;> simp at h
    rename_i vs hfst hvs
    subst h
    have e1 : first = #[] := by simpa using hfst
    subst e1
    refine .of_pure hi (mkFn_rep (operands_rep hf hvs)) ?_
    have : cap.map a.eval = (cap.toList.map a.eval).toArray := by apply Array.ext'; rw [Array.toList_map]
    simp [execOp, ho, Instr.makeFunc, this]
  · -- makeSlice
    rename_i t l c ho
    split at h <;> try (simp at h; done)
    rename_i v u hv hu
    exact .of_yields (makeSlice_run hs hi (operand_rep hf hv) (operand_rep hf hu) h) (fun u w' hr => by simp [execOp, ho, hr])
  · -- slice
    rename_i t x lo hi' mx ho
    split at h <;> try (simp at h; done)
    rename_i v l1 l2 l3 hv h1 h2 h3
    obtain ⟨h4, u, h5, h6⟩ := sliceOp_run hs (operand_rep hf hv) (operand?_rep hf h1) (operand?_rep hf h2) (operand?_rep hf h3) h
    refine .of_eff hi h4 h6 ?_
    have : (Instr.sliceAt t (a.eval x) (lo.map a.eval) (hi'.map a.eval) (mx.map a.eval)).run P w = .ok u w := by
      refine sliceAt_slice h5 (fun n e hu => ?_)
      simp [sliceOp, hu] at h
    simp [execOp, ho, this]
  · -- fieldAddr
    rename_i t x f ho
    split at h <;> try (simp at h; done)
    rename_i v hv
    obtain ⟨z, h1, rfl⟩ := someP_eq h
    obtain ⟨u, h2, h3⟩ := fieldAddr_run (P := P) (operand_rep hf hv) h1
    exact .of_pure hi h3 (by simp [execOp, ho, h2])
  · -- field
    rename_i t x f ho
    split at h <;> try (simp at h; done)
    rename_i v hv
    obtain ⟨z, h1, rfl⟩ := someP_eq h
    obtain ⟨u, h2, h3⟩ := field_run (P := P) (operand_rep hf hv) h1
    exact .of_pure hi h3 (by simp [execOp, ho, h2])
  · -- indexAddr
    rename_i t x i ho
    split at h <;> try (simp at h; done)
    rename_i v u hv hu
    obtain ⟨h1, r, h2, h3⟩ := indexAddr_run (P := P) hs (operand_rep hf hv) (operand_rep hf hu) h
    exact .of_eff hi h1 h3 (by simp [execOp, ho, h2])
  · -- index
    rename_i t x i ho
    split at h <;> try (simp at h; done)
    rename_i v u hv hu
    obtain ⟨z, h1, rfl⟩ := someP_eq h
    obtain ⟨r, h2, h3⟩ := index_run (P := P) (operand_rep hf hv) (operand_rep hf hu) h1
    exact .of_pure hi h3 (by simp [execOp, ho, h2])
  · -- typeAssert
    rename_i x xt as ok ho
    split at h <;> try (simp at h; done)
    rename_i v hv
    obtain ⟨z, h1, rfl⟩ := someP_eq h
    obtain ⟨r, h2, h3⟩ := assert_run (P := P) (xt := xt) (operand_rep hf hv) h1
    exact .of_pure hi h3 (by simp [execOp, ho, h2])
  · -- extract
    rename_i x i ho
    split at h <;> try (simp at h; done)
    rename_i v hv
    obtain ⟨z, h1, rfl⟩ := someP_eq h
    obtain ⟨r, h2, h3⟩ := extract_run (P := P) (operand_rep hf hv) h1
    exact .of_pure hi h3 (by simp [execOp, ho, h2])
  · -- len
    rename_i args ats ho
    split at h <;> try (simp at h; done)
    rename_i x t hx ht
    split at h <;> try (simp at h; done)
    rename_i v hv
    obtain ⟨z, h1, rfl⟩ := someP_eq h
    have e1 : args = #[x] := by rw [← Array.toArray_toList (xs := args), hx]
    have e2 : ats = #[t] := by rw [← Array.toArray_toList (xs := ats), ht]
    subst e1; subst e2
    obtain ⟨r, h2, h3⟩ := len_run (P := P) (ty := o.type) (operand_rep hf hv) h1
    exact .of_pure hi h3 (by simp [execOp, ho, resolve, invoke, builtin, h2])
  · -- append
    rename_i args ats ho
    split at h <;> try (simp at h; done)
    rename_i x y t t2 hx ht
    split at h <;> try (simp at h; done)
    rename_i v u hv hu hni
    have e1 : args = #[x, y] := by rw [← Array.toArray_toList (xs := args), hx]
    have e2 : ats = #[t, t2] := by rw [← Array.toArray_toList (xs := ats), ht]
    subst e1; subst e2
    exact .of_yields (appendOp_run (ty := o.type) hs hi (operand_rep hf hv) (operand_rep hf hu) hni h) (fun u w' hr => by simp [execOp, ho, resolve, invoke, builtin, hr])
  · -- delete
    rename_i args ats ho
    split at h <;> try (simp at h; done)
    rename_i x y t t2 hx ht
    split at h <;> try (simp at h; done)
    rename_i v u hv hu
    have e1 : args = #[x, y] := by rw [← Array.toArray_toList (xs := args), hx]
    have e2 : ats = #[t, t2] := by rw [← Array.toArray_toList (xs := ats), ht]
    subst e1; subst e2
    exact .of_yields (delete_run (ty := o.type) (t2 := t2) hs hi (operand_rep hf hv) (operand_rep hf hu) h) (fun u w' hr => by simp [execOp, ho, resolve, invoke, builtin, hr])
  · -- clear
    rename_i args ats ho
    split at h <;> try (simp at h; done)
    rename_i x t hx ht
    split at h <;> try (simp at h; done)
    rename_i v hv
    obtain ⟨z, h1, rfl⟩ := someP_eq h
    have e1 : args = #[x] := by rw [← Array.toArray_toList (xs := args), hx]
    have e2 : ats = #[t] := by rw [← Array.toArray_toList (xs := ats), ht]
    subst e1; subst e2
    obtain ⟨r, h2, h3⟩ := clear_run (P := P) (ty := o.type) (operand_rep hf hv) h1
    exact .of_pure hi h3 (by simp [execOp, ho, resolve, invoke, builtin, h2])
  · -- min
    rename_i args ats ho
    split at h <;> try (simp at h; done)
    rename_i vs hvs
    obtain ⟨z, h1, rfl⟩ := someP_eq h
    obtain ⟨r, h2, h3⟩ := min_run (P := P) (ts := ats) (t := o.type) (operands_rep hf hvs) h1
    refine .of_pure hi h3 ?_
    have : args.map a.eval = (args.toList.map a.eval).toArray := by apply Array.ext'; rw [Array.toList_map]
    simp [execOp, ho, resolve, invoke, builtin, this, h2]
  · -- max
    rename_i args ats ho
    split at h <;> try (simp at h; done)
    rename_i vs hvs
    obtain ⟨z, h1, rfl⟩ := someP_eq h
    obtain ⟨r, h2, h3⟩ := max_run (P := P) (ts := ats) (t := o.type) (operands_rep hf hvs) h1
    refine .of_pure hi h3 ?_
    have : args.map a.eval = (args.toList.map a.eval).toArray := by apply Array.ext'; rw [Array.toList_map]
    simp [execOp, ho, resolve, invoke, builtin, this, h2]
  · simp at h

end
end Go.Proofs.YtceccojmekpneaaGreatDoor.Sw
