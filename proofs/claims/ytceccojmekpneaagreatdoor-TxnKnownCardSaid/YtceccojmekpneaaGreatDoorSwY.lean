/- What an operation does rests on its operands, and on what it looks at. -/
import Derived.Test.YtceccojmekpneaaGreatDoorSwX
namespace Go.Proofs.YtceccojmekpneaaGreatDoor.Sw

section
variable {P : Program} {S S' : St} {tm tm' : Tr AVal}

/-- the same, where it is looked at. -/
def Same (S S' : St) (ids : List Nat) : Prop := ∀ id ∈ ids, S'.get id = S.get id

theorem Same.mono {ids ids' : List Nat} (h : Same S S' ids') (hs : ∀ i ∈ ids, i ∈ ids') : Same S S' ids := fun i hi => h i (hs i hi)

theorem at_same {x : AVal} {r : List AVal × Nat × List Nat} (h : at_ S x = some r) (hs : Same S S' r.2.2) : at_ S' x = some r := by
  unfold at_ at h ⊢
  repeat' split at h
  all_goals (try (simp at h; done))
  all_goals (
    simp only [Option.some.injEq] at h
    subst h
    simp only [Same, List.mem_cons, List.not_mem_nil, or_false, forall_eq] at hs
    simp only [*])

theorem loadOp_same {t : Nat} {x : AVal} {e : Eff} (h : loadOp P S t x = some e) (hs : Same S S' e.rd) : loadOp P S' t x = some e := by
  unfold loadOp at h ⊢
  split at h <;> try (simp at h; done)
  rename_i g n hg hn
  split at h
  · exact h
  · split at h <;> try (simp at h; done)
    rename_i cs off ids hat
    have h' := h
    simp only [Option.map_eq_some_iff] at h
    obtain ⟨v, h1, rfl⟩ := h
    rw [at_same hat hs]
    exact h'

theorem storeOp_same {t : Nat} {x v : AVal} {e : Eff} (h : storeOp P S t x v = some e) (hs : Same S S' e.rd) : storeOp P S' t x v = some e := by
  unfold storeOp at h ⊢
  split at h <;> try (simp at h; done)
  split at h <;> try (simp at h; done)
  split at h
  · rename_i id off
    split at h <;> try (simp at h; done)
    rename_i cs hid
    have h' := h
    simp only [Option.map_eq_some_iff] at h
    obtain ⟨_, _, rfl⟩ := h
    rw [hs id (by simp), hid]
    exact h'
  · rename_i id ep i off
    split at h <;> try (simp at h; done)
    rename_i hid
    have h' := h
    have : id ∈ e.rd := by
      repeat' split at h
      all_goals (try (simp at h; done))
      simp at h
      subst h
      simp
    rw [hs id this, hid]
    exact h'
  · simp at h

theorem viewed_same {id ep off len : Nat} {r : List AVal} (h : viewed S id ep off len = some r) (hs : S'.get id = S.get id) : viewed S' id ep off len = some r := by
  unfold viewed at h ⊢
  rw [hs]
  exact h

theorem source_same {x : AVal} {r : List AVal × List Nat} (h : source S x = some r) (hs : Same S S' r.2) : source S' x = some r := by
  unfold source at h ⊢
  split at h <;> try exact h
  rename_i id ep off len c
  split at h <;> simp at h
  rename_i xs hv
  subst h
  rw [viewed_same hv (hs id (by simp))]

theorem indexAddr_same {t : Nat} {x i : AVal} {e : Eff} (h : indexAddrOp P S t x i = some e) (hs : Same S S' e.rd) : indexAddrOp P S' t x i = some e := by
  unfold indexAddrOp at h ⊢
  repeat' split at h
  all_goals first
    | exact h
    | (simp at h; done)
    | skip
  all_goals (
    have h' := h
    simp only [Option.some.injEq] at h
    subst h
    simp only [Same, List.mem_cons, List.not_mem_nil, or_false, forall_eq] at hs
    simp only [*])

theorem slice_same {t : Nat} {x : AVal} {lo hi mx : Option AVal} {e : Eff} (h : sliceOp P S t x lo hi mx = some e) (hs : Same S S' e.rd) : sliceOp P S' t x lo hi mx = some e := by
  unfold sliceOp at h ⊢
  repeat' split at h
  all_goals first
    | exact h
    | (simp at h; done)
    | skip
  all_goals (
    have h' := h
    simp only [Option.some.injEq] at h
    subst h
    simp only [Same, List.mem_cons, List.not_mem_nil, or_false, forall_eq] at hs
    simp only [*])

theorem alloc_same {b t : Nat} {e : Eff} (h : allocOp P b t S = some e) (hs : Same S S' e.rd) : allocOp P b t S' = some e := by
  unfold allocOp at h ⊢
  repeat' split at h
  all_goals (try (simp at h; done))
  simp only [Option.some.injEq] at h
  subst h
  simp only [Same, List.mem_cons, List.not_mem_nil, or_false, forall_eq] at hs
  simp only [*]

theorem box_same {b t : Nat} {x : AVal} {e : Eff} (h : boxOp P b t x S = some e) (hs : Same S S' e.rd) : boxOp P b t x S' = some e := by
  unfold boxOp at h ⊢
  repeat' split at h
  all_goals (try (simp at h; done))
  simp only [Option.some.injEq] at h
  subst h
  simp only [Same, List.mem_cons, List.not_mem_nil, or_false, forall_eq] at hs
  simp only [*]

theorem buildSlice_same {b t len : Nat} {ps : List (Nat × AVal)} {e : Eff} (h : buildSliceOp P b t len ps S = some e) (hs : Same S S' e.rd) : buildSliceOp P b t len ps S' = some e := by
  unfold buildSliceOp at h ⊢
  repeat' split at h
  all_goals (try (simp at h; done))
  all_goals (
    simp only [Option.some.injEq] at h
    subst h
    try simp only [Same, List.mem_cons, List.not_mem_nil, or_false, forall_eq] at hs
    simp only [*])

theorem makeSlice_same {b t : Nat} {l c : AVal} {e : Eff} (h : makeSliceOp P b t l c S = some e) (hs : Same S S' e.rd) : makeSliceOp P b t l c S' = some e := by
  unfold makeSliceOp at h ⊢
  repeat' split at h
  all_goals (try (simp at h; done))
  simp only [Option.some.injEq] at h
  subst h
  simp only [Same, List.mem_cons, List.not_mem_nil, or_false, forall_eq] at hs
  simp only [*]

theorem append_same {b t : Nat} {x y : AVal} {e : Eff} (h : appendOp P b t x y S = some e) (hs : Same S S' e.rd) : appendOp P b t x y S' = some e := by
  unfold appendOp at h ⊢
  split at h <;> try (simp at h; done)
  split at h <;> try (simp at h; done)
  rename_i e1 e2 e3 hsrc
  have key : ∀ {rd : List Nat} {ys : List AVal}, source S y = some (ys, rd) → (∀ i ∈ rd, i ∈ e.rd) → source S' y = some (ys, rd) := fun h hr => source_same h (fun i hi => hs i (hr i hi))
  repeat' split at h
  all_goals (try (simp at h; done))
  all_goals (
    have h' := h
    simp only [Option.some.injEq] at h
    subst h
    have k1 := key hsrc (fun i hi => by simp [hi])
    simp only [Same, List.mem_cons, forall_eq_or_imp] at hs
    simp only [*])

theorem entries_same {x : AVal} {r : List (PVal × AVal) × List Nat} (h : entriesOf S x = some r) (hs : Same S S' r.2) : entriesOf S' x = some r := by
  unfold entriesOf at h ⊢
  split at h <;> try exact h
  split at h <;> simp at h
  rename_i es hid
  subst h
  rw [hs _ (by simp), hid]

theorem lookup_same {t : Nat} {x k : AVal} {ok : Bool} {e : Eff} (h : lookupOp P S t x k ok = some e) (hs : Same S S' e.rd) : lookupOp P S' t x k ok = some e := by
  unfold lookupOp at h ⊢
  split at h <;> try (simp at h; done)
  split at h <;> try (simp at h; done)
  rename_i es rd h1 h2
  have hrd : e.rd = rd := by
    repeat' split at h
    all_goals (try (simp at h; done))
    all_goals (simp only [Option.some.injEq] at h; subst h; rfl)
  rw [h1, entries_same h2 (fun i hi => hs i (by rw [hrd]; exact hi))]
  exact h

theorem makeMap_same {b : Nat} {e : Eff} (h : makeMapOp b S = some e) (hs : Same S S' e.rd) : makeMapOp b S' = some e := by
  unfold makeMapOp at h ⊢
  split at h <;> simp only [Option.some.injEq, reduceCtorEq] at h
  rename_i hb
  subst h
  rw [hs b (by simp), hb]

theorem mapUpdate_same {t : Nat} {x k y : AVal} {e : Eff} (h : mapUpdateOp P S t x k y = some e) (hs : Same S S' e.rd) : mapUpdateOp P S' t x k y = some e := by
  unfold mapUpdateOp at h ⊢
  repeat' split at h
  all_goals (try (simp at h; done))
  all_goals (
    simp only [Option.some.injEq] at h
    subst h
    simp only [Same, List.mem_cons, List.not_mem_nil, or_false, forall_eq] at hs
    simp only [*])

theorem delete_same {t : Nat} {x k : AVal} {e : Eff} (h : deleteOp P S t x k = some e) (hs : Same S S' e.rd) : deleteOp P S' t x k = some e := by
  unfold deleteOp at h ⊢
  repeat' split at h
  all_goals (try (simp at h; done))
  all_goals (
    simp only [Option.some.injEq] at h
    subst h
    simp only [Same, List.mem_cons, List.not_mem_nil, or_false, forall_eq] at hs
    simp only [*])

theorem range_same {b t : Nat} {x : AVal} {e : Eff} (h : rangeOp P b t x S = some e) (hs : Same S S' e.rd) : rangeOp P b t x S' = some e := by
  unfold rangeOp at h ⊢
  repeat' split at h
  all_goals (try (simp at h; done))
  all_goals (
    simp only [Option.some.injEq] at h
    subst h
    simp only [Same, List.mem_cons, List.not_mem_nil, or_false, forall_eq] at hs
    simp only [*])

theorem next_same {x : AVal} {is : Bool} {e : Eff} (h : nextOp S x is = some e) (hs : Same S S' e.rd) : nextOp S' x is = some e := by
  unfold nextOp at h ⊢
  repeat' split at h
  all_goals (try (simp at h; done))
  all_goals (
    simp only [Option.some.injEq] at h
    subst h
    simp only [Same, List.mem_cons, List.not_mem_nil, or_false, forall_eq] at hs
    simp only [*])

theorem convBytes_same {src dst : Nat} {x : AVal} {e : Eff} (h : convBytes P S src dst x = some e) (hs : Same S S' e.rd) : convBytes P S' src dst x = some e := by
  unfold convBytes at h ⊢
  split at h <;> try (simp at h; done)
  split at h <;> try (simp at h; done)
  · exact h
  · exact h
  · exact h
  · rename_i id ep off len c hel
    split at h <;> try (simp at h; done)
    rename_i ys hv
    have hid : id ∈ e.rd := by
      split at h <;> simp only [Option.some.injEq, reduceCtorEq] at h
      subst h
      simp
    rw [viewed_same hv (hs _ hid)]
    exact h

theorem plainOp_same {b : Nat} {op : Op} {e : Eff} (h : plainOp P tm S b op = some e) (hs : Same S S' e.rd) : plainOp P tm S' b op = some e := by
  unfold plainOp at h ⊢
  split at h
  all_goals try exact h
  all_goals (try simp only at h ⊢)
  · exact alloc_same h hs
  · split at h <;> try (simp at h; done)
    exact box_same h hs
  · split at h <;> try (simp at h; done)
    exact buildSlice_same h hs
  · split at h <;> try (simp at h; done)
    exact loadOp_same h hs
  · split at h <;> try (simp at h; done)
    exact storeOp_same h hs
  · split at h <;> try (simp at h; done)
    split at h
    · exact h
    · exact convBytes_same h hs
  · exact makeMap_same h hs
  · split at h <;> try (simp at h; done)
    exact lookup_same h hs
  · split at h <;> try (simp at h; done)
    exact mapUpdate_same h hs
  · split at h <;> try (simp at h; done)
    exact range_same h hs
  · split at h <;> try (simp at h; done)
    exact next_same h hs
  · split at h <;> try (simp at h; done)
    exact makeSlice_same h hs
  · split at h <;> try (simp at h; done)
    exact slice_same h hs
  · split at h <;> try (simp at h; done)
    exact indexAddr_same h hs
  · split at h <;> try (simp at h; done)
    split at h <;> try (simp at h; done)
    exact append_same h hs
  · split at h <;> try (simp at h; done)
    split at h <;> try (simp at h; done)
    exact delete_same h hs

end
end Go.Proofs.YtceccojmekpneaaGreatDoor.Sw
