/- Slices that are made. -/
import Derived.Test.YtceccojmekpneaaGreatDoorSwP
import Derived.Laws.Bits64
namespace Go.Proofs.YtceccojmekpneaaGreatDoor.Sw
open Go.RowKit

section
variable {P : Program} {g : Sg} {s : Sto} {w : World}

/-- a new block that stays. -/
theorem new_imm (hi : Inv g s w) (c : Array Value) (t : TypeId) :
    ∃ g', Ext g s w g' s (w.alloc (.cells c t)) ∧ Inv g' s (w.alloc (.cells c t)) ∧ (∀ o, g'.imm w.heap.size o) := by
  have hrgn : g.rg w.heap.size = none := by
    cases hr' : g.rg w.heap.size with
    | none => rfl
    | some r => obtain ⟨a, b, c⟩ := r; have := (hi.rgS _ _ _ _ hr').2.2; omega
  let g' : Sg := { g with imm := fun b o => g.imm b o ∨ b = w.heap.size }
  have e : Ext g s w g' s (w.alloc (.cells c t)) := Ext.alloc hi _ (fun _ _ h => h) (fun _ _ h => .inl h) (fun _ _ h => h) (fun _ _ h => h) (fun _ _ _ => rfl) rfl
    (fun b o hb h => h.resolve_right (fun e => by subst e; have := hi.baseS; omega))
  refine ⟨g', e, ⟨?_, ?_, ?_, ?_, hi.inj, ?_, ?_, ho_keep hi.ho e (fun _ _ h => h) (fun i b' hb' _ => heap_alloc_lt _ _ (hi.bxS _ _ hb').2.1)⟩, fun _ => .inr rfl⟩
  · intro i cs' h
    obtain ⟨b, c', t', h1, h2, h3, h4⟩ := hi.box i cs' h
    exact ⟨b, c', t', h1, by rw [heap_alloc_lt _ _ (hi.bxS _ _ h1).2.1]; exact h2, RepAs.ext e _ _ h3, h4⟩
  · intro i sz' n xs' cur lost fz h
    obtain ⟨h1, h2, h3, h4⟩ := hi.arr i sz' n xs' cur lost fz h
    refine ⟨h1, h2, h3, fun b st m hb => ?_⟩
    have hlt := (hi.rgS _ _ _ _ hb).2.2
    obtain ⟨h5, c', t', vs', h6, h7, h8, h9, h10, h11⟩ := h4 b st m hb
    refine ⟨h5, c', t', vs', by rw [heap_alloc_lt _ _ hlt]; exact h6, RepAs.ext e _ _ h7, h8, h9, fun o ho => ?_, h11⟩
    rcases ho with ho | ho
    · exact h10 o ho
    · omega
  · intro b i st m hb
    obtain ⟨h1, h2, h3⟩ := hi.rgS b i st m hb
    exact ⟨h1, h2, by simp; omega⟩
  · intro i b hb
    obtain ⟨h1, h2, h3, h4, h5⟩ := hi.bxS i b hb
    refine ⟨h1, by simp; omega, h3, fun o ho => ?_, h5⟩
    rcases ho with ho | ho
    · exact h4 o ho
    · omega
  · intro b o h
    rcases h with h | h
    · have := hi.immS b o h; simp; omega
    · simp; omega
  · simp; have := hi.baseS; show g.base ≤ _; omega

theorem fill_elems {gg : Bool} {n : Nat} : ∀ {parts : List (Nat × AVal)} {vals : List (Nat × Value)} {xs : List AVal} {k : Nat} {A Z : List Value}, RepParts g s w parts vals →
    elemsIn gg n k parts = some xs → A.length = k * n → Z.length = parts.length * n →
    ∃ us, RepAs g s w xs us ∧ (∀ u ∈ us, u.cells.size = n ∧ ∀ x ∈ u.cells.toList, isCell x = true) ∧ us.length = parts.length ∧
      Instr.fill (fun i => some (i * n, n)) (A ++ Z).toArray vals = some (A ++ us.flatMap (·.cells.toList)).toArray
  | [], vals, xs, k, A, Z, hp, h, hA, hZ => by
    simp [elemsIn] at h; subst h
    have e : vals = [] := hp
    subst e
    have : Z = [] := by simpa using hZ
    subst this
    exact ⟨[], rfl, by simp, rfl, by simp [Instr.fill]⟩
  | (i, x) :: parts, vals, xs, k, A, Z, hp, h, hA, hZ => by
    obtain ⟨v, t, rfl, hx, ht⟩ := hp
    simp only [elemsIn] at h
    split at h
    · rename_i cs hb hcs
      have hb := Nat.eq_of_beq_eq_true hb
      subst hb
      split at h <;> simp at h
      rename_i ys hys
      subst h
      obtain ⟨_, k2, k3, _, _⟩ := cells_rep hx hcs
      have hsz : v.cells.toList.length = n := by simpa using k2
      simp only [List.length_cons, Nat.add_mul, Nat.one_mul] at hZ
      obtain ⟨us, h1, h2, h3, h4⟩ := fill_elems (A := A ++ v.cells.toList) (Z := Z.drop n) (k := i + 1) ht hys (by rw [List.length_append, hA, hsz, Nat.add_mul]; omega) (by rw [List.length_drop]; omega)
      refine ⟨v :: us, ⟨_, _, rfl, hx, h1⟩, ?_, by simp [h3], ?_⟩
      · intro u hu
        cases hu with
        | head => exact ⟨k2, k3⟩
        | tail _ hu => exact h2 u hu
      · simp only [Instr.fill]
        have hno : ¬ ((decide (v.cells.size ≠ n) || decide (i * n + v.cells.size > (A ++ Z).toArray.size)) = true) := by
          simp [k2, hA]; omega
        rw [if_neg hno, put_fold (by simp [k2, hA]; omega)]
        have e1 : (A ++ Z).toArray.toList.take (i * n) = A := by simp [← hA]
        have e2 : (A ++ Z).toArray.toList.drop (i * n + v.cells.toList.length) = Z.drop n := by
          rw [hsz, ← hA]; simp [List.drop_append]
        rw [e1, e2, h4, List.flatMap_cons, List.append_assoc]
    · simp at h

theorem run_zeroCells' {e n : Nat} {gg : Bool} (h : zeroOk P e gg n = true) : ∃ v, (Go.zeroValue e).run P w = .ok v w ∧ v.cells.size = n := by
  obtain ⟨i, v, h1, h2, h3⟩ := zeroOk_rep h
  exact ⟨v, by simp [Go.zeroValue, run_typeInfo' h1, h2], h3⟩

theorem buildSlice_run {S : St} (hs : ∀ id, s id = S.get id) (hi : Inv g s w) {t len b : Nat} {parts : List (Nat × AVal)} {vals : List (Nat × Value)} {e : Eff} (hp : RepParts g s w parts vals)
    (h : buildSliceOp P b t len parts S = some e) : Yields g s w e ((Instr.buildSlice t len vals.toArray).run P w) := by
  unfold buildSliceOp at h
  split at h
  · rename_i et hel
    have ht : P.underlying t = some (.slice et) := by
      unfold elemT at hel
      split at hel <;> simp at hel
      subst hel; assumption
    split at h
    · rename_i n gg hn hg
      split at h
      · simp at h
      · rename_i hzo
        split at h
        · rename_i xs hxs hl hb
          have hl := Nat.eq_of_beq_eq_true hl
          have hb := Nat.le_of_ble_eq_true hb
          obtain ⟨zv, z1, z2⟩ := run_zeroCells' (w := w) hzo
          have key : ∃ us, RepAs g s w xs us ∧ (∀ u ∈ us, u.cells.size = n ∧ ∀ x ∈ u.cells.toList, isCell x = true) ∧ us.length = len ∧
              (Instr.buildSlice t len vals.toArray).run P w = .ok (.slice (some ⟨w.heap.size, 0, none⟩) len len) (w.alloc (.cells (us.flatMap (·.cells.toList)).toArray et)) := by
            have hno : ¬ (len * n > 2 ^ 24) := by
              have : (2 : Nat) ^ 24 = 16777216 := by decide
              omega
            by_cases h0 : len * n = 0
            · obtain ⟨us, h1, h2, h3, h4⟩ := fill_elems (A := []) (Z := []) (k := 0) hp hxs (by simp) (by rw [hl]; simpa using h0.symm)
              refine ⟨us, h1, h2, by rw [h3, hl], ?_⟩
              simp only [List.nil_append] at h4
              have e0 : ((Array.range (len * n)).map fun x => (#[] : Array Value)[x % (#[] : Array Value).size]!) = [].toArray := by rw [h0]; simp
              simp only [Instr.buildSlice, Sem.run_bind, run_underlying' ht, Result.andThen_ok, run_sizeOf' hn]
              rw [if_neg hno, if_pos h0]
              simp only [Sem.run_pure, Sem.run_bind, Result.andThen_ok]
              rw [e0, h4]
              simp [newRow]
            · obtain ⟨us, h1, h2, h3, h4⟩ := fill_elems (A := []) (Z := ((Array.range (len * n)).map fun x => zv.cells[x % zv.cells.size]!).toList) (k := 0) hp hxs (by simp) (by simp [hl])
              refine ⟨us, h1, h2, by rw [h3, hl], ?_⟩
              simp only [List.nil_append, Array.toArray_toList] at h4
              simp only [Instr.buildSlice, Sem.run_bind, run_underlying' ht, Result.andThen_ok, run_sizeOf' hn]
              rw [if_neg hno, if_neg h0]
              simp only [Sem.run_pure, Sem.run_bind, Result.andThen_ok, z1]
              rw [h4]
              simp [newRow]
          obtain ⟨us, h1, h2, h3, h4⟩ := key
          have hxl : xs.length = len := by rw [← h3, RepAs.length h1]
          split at h
          · rename_i ps hps
            simp at h; subst h
            obtain ⟨g', e1, e2, e3⟩ := new_imm hi (us.flatMap (·.cells.toList)).toArray et
            have hr : RepPs g'.imm _ ps us := RepPs.keeps e1.keeps _ _ (unP_rep hps h1)
            have hpl : ps.length = len := by rw [← h3, RepPs.length hr]
            refine ⟨_, g', _, h4, e1, e2, w.heap.size, 0, n, us, by rw [hpl], hr, fun x hx => (h2 x hx).1, fun i c hc => ⟨?_, e3 _⟩⟩
            rw [cell_of_block (heap_alloc_new w _)]
            simpa using hc
          · split at h <;> simp at h
            rename_i hfree
            subst h
            obtain ⟨g', e1, e2, e3⟩ := new_arr hi (id := b) ((hs b).trans hfree) (rest := []) (t := et) (cap := len) (capd := true) h1 h2 (by omega) (fun _ => hxl.symm) (by simp)
            simp only [List.append_nil, hxl] at e1 e2 e3
            exact ⟨_, g', _, h4, e1, e2, e3⟩
        · simp at h
    · simp at h
  · simp at h

theorem rep_get {α β : Type} {f : α → List β} {v : α} {n : Nat} (hn : (f v).length = n) : ∀ (c i : Nat), i < c * n → ((List.replicate c v).flatMap f)[i]? = (f v)[i % n]?
  | 0, i, h => by simp at h
  | c + 1, i, h => by
    rw [List.replicate_succ, List.flatMap_cons]
    by_cases hi : i < n
    · rw [List.getElem?_append_left (by omega), Nat.mod_eq_of_lt hi]
    · rw [List.getElem?_append_right (by omega), hn, rep_get hn c (i - n) (by rw [Nat.add_mul] at h; omega)]
      rw [← Nat.mod_eq_sub_mod (by omega)]

theorem range_cells {v : Value} {n c : Nat} (hn : v.cells.size = n) : ((Array.range (c * n)).map fun x => v.cells[x % v.cells.size]!) = ((List.replicate c v).flatMap (·.cells.toList)).toArray := by
  apply Array.ext'
  apply List.ext_getElem?
  intro i
  have hl : ((List.replicate c v).flatMap (·.cells.toList)).length = c * n := by
    rw [flat_length (sz := n) (fun x hx => by rw [List.eq_of_mem_replicate hx]; exact hn)]; simp
  by_cases h : i < c * n
  · rw [rep_get (n := n) (by simpa using hn) c i h]
    subst hn
    have hm : i % v.cells.size < v.cells.size := Nat.mod_lt _ (by rcases Nat.eq_zero_or_pos v.cells.size with h0 | h0
                                                                  · rw [h0] at h; simp at h
                                                                  · exact h0)
    have e1 : v.cells[i % v.cells.size]! = v.cells[i % v.cells.size]'hm := getElem!_pos _ _ _
    simp only [Array.toList_map, Array.toList_range, List.getElem?_map, List.getElem?_range h, Option.map_some, e1]
    simp [hm]
  · rw [List.getElem?_eq_none (by simp; omega), List.getElem?_eq_none (by rw [hl]; omega)]

theorem makeSlice_run {S : St} (hs : ∀ id, s id = S.get id) (hi : Inv g s w) {t b : Nat} {x y : AVal} {vx vy : Value} {e : Eff} (hx : RepA g s w x vx) (hy : RepA g s w y vy)
    (h : makeSliceOp P b t x y S = some e) : Yields g s w e ((Instr.makeSlice t vx vy).run P w) := by
  unfold makeSliceOp at h
  split at h
  · rename_i et l c hel hl hc
    have ht : P.underlying t = some (.slice et) := by
      unfold elemT at hel
      split at hel <;> simp at hel
      subst hel; assumption
    split at h
    · rename_i n by_ z gg hn hby hz hg
      split at h <;> simp at h
      rename_i cs k1 k2 k3 hcs hfree
      have k1 := Nat.le_of_ble_eq_true k1
      have k2 := Nat.le_of_ble_eq_true k2
      have k3 := Nat.le_of_ble_eq_true k3
      subst h
      obtain ⟨kx, rfl⟩ := natOf_rep hx hl
      obtain ⟨ky, rfl⟩ := natOf_rep hy hc
      obtain ⟨zv, z1, z2⟩ := run_zeroValue' (P := P) (w := w) hz
      have zr : RepA g s w (.p z) zv := ofValue_rep (I := g.imm) (w := w) z2
      obtain ⟨_, z3, z4, _, _⟩ := cells_rep zr hcs
      obtain ⟨i, hi1, rfl⟩ : ∃ i, P.info? et = some i ∧ i.bytes = by_ := by
        simpa [bytesT] using hby
      have hrep : ∀ m : Nat, RepAs g s w (List.replicate m (.p z)) (List.replicate m zv) := by
        intro m
        induction m with
        | zero => rfl
        | succ m ih => exact ⟨_, _, rfl, zr, ih⟩
      have hsz : ∀ v ∈ List.replicate l zv, v.cells.size = n ∧ ∀ x ∈ v.cells.toList, isCell x = true := fun v hv => by rw [List.eq_of_mem_replicate hv]; exact ⟨z3, z4⟩
      have hcl : (List.replicate c zv).flatMap (·.cells.toList) = (List.replicate l zv).flatMap (·.cells.toList) ++ (List.replicate (c - l) zv).flatMap (·.cells.toList) := by
        rw [← List.flatMap_append, List.replicate_append_replicate, Nat.add_sub_cancel' k1]
      have hrun : (Instr.makeSlice t (.int kx (l : Int)) (.int ky (c : Int))).run P w = .ok (.slice (some ⟨w.heap.size, 0, none⟩) l c)
          (w.alloc (.cells ((List.replicate l zv).flatMap (·.cells.toList) ++ (List.replicate (c - l) zv).flatMap (·.cells.toList)).toArray et)) := by
        have w1 : IntKind.i64.wrap (l : Int) = l := by rw [IntKind.wrap_i64]; omega
        have w2 : IntKind.i64.wrap (c : Int) = c := by rw [IntKind.wrap_i64]; omega
        have a1 : (asInt (.int kx (l : Int))).run P w = .ok (l : Int) w := by simp [asInt, asIntOf]
        have a2 : (asInt (.int ky (c : Int))).run P w = .ok (c : Int) w := by simp [asInt, asIntOf]
        have b4 : ¬ ((i.bytes : Int) * (c : Int) > 2 ^ 48) := by
          have : ((c * i.bytes : Nat) : Int) ≤ ((1099511627776 : Nat) : Int) := Int.ofNat_le.2 k2
          rw [Int.natCast_mul, Int.mul_comm] at this
          have h48 : (2 : Int) ^ 48 = 281474976710656 := by decide
          omega
        have bb : ¬ (((decide ((c : Int) < 0) || decide ((i.bytes : Int) * (c : Int) > 2 ^ 48)) || decide ((l : Int) < 0) || decide ((l : Int) > (c : Int))) = true) := by
          simp only [Bool.or_eq_true, decide_eq_true_eq]
          rintro (((h | h) | h) | h)
          · omega
          · exact b4 h
          · omega
          · omega
        rw [← hcl]
        by_cases h0 : c * n = 0
        · have e0 : (List.replicate c zv).flatMap (·.cells.toList) = [] := by
            apply List.eq_nil_of_length_eq_zero
            rw [flat_length (sz := n) (fun x hx => by rw [List.eq_of_mem_replicate hx]; exact z3), List.length_replicate]; exact h0
          have e1 : ((Array.range (c * n)).map fun x => (#[] : Array Value)[x % (#[] : Array Value).size]!) = [].toArray := by rw [h0]; simp
          simp only [Instr.makeSlice, Sem.run_bind, run_underlying' ht, Result.andThen_ok, a1, a2, run_typeInfo' hi1, w1, w2]
          rw [if_neg bb]
          simp only [Sem.run_bind, run_askRoom, Sem.run_pure, Result.andThen_ok, run_sizeOf' hn, Int.toNat_natCast, if_pos h0, e0, e1, newRow, run_newObj]
          rfl
        · have := range_cells (v := zv) (n := n) (c := c) z3
          simp only [Instr.makeSlice, Sem.run_bind, run_underlying' ht, Result.andThen_ok, a1, a2, run_typeInfo' hi1, w1, w2]
          rw [if_neg bb]
          simp only [Sem.run_bind, run_askRoom, Sem.run_pure, Result.andThen_ok, run_sizeOf' hn, Int.toNat_natCast, if_neg h0, z1, this, newRow, run_newObj]
          rfl
      obtain ⟨g', e1, e2, e3⟩ := new_arr hi (id := b) ((hs b).trans hfree) (xs := List.replicate l (.p z)) (rest := (List.replicate (c - l) zv).flatMap (·.cells.toList)) (t := et) (cap := c) (capd := false) (hrep l) hsz (by simpa using k1) (by simp) (fun _ => by
        rw [← hcl, flat_length (sz := n) (fun x hx => by rw [List.eq_of_mem_replicate hx]; exact z3)]; simp)
      rw [List.length_replicate] at e1 e2 e3
      exact ⟨_, g', _, hrun, e1, e2, e3⟩
    · simp at h
  · simp at h

end
end Go.Proofs.YtceccojmekpneaaGreatDoor.Sw
