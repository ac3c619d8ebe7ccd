/- What makes memory: the operations. -/
import Derived.Test.YtceccojmekpneaaGreatDoorSwN
namespace Go.Proofs.YtceccojmekpneaaGreatDoor.Sw
open Go.RowKit

section
variable {P : Program} {g : Sg} {s : Sto} {w : World}

theorem alloc_run {S : St} (hs : ∀ id, s id = S.get id) (hi : Inv g s w) {t b : Nat} {e : Eff} (h : allocOp P b t S = some e) :
    ∃ u g' w', (Instr.alloc t true (.tuple #[])).run P w = .ok u w' ∧ Ext g s w g' (e.wr.foldl (fun s x => upd s x.1 x.2) s) w' ∧
      Inv g' (e.wr.foldl (fun s x => upd s x.1 x.2) s) w' ∧ RepA g' (e.wr.foldl (fun s x => upd s x.1 x.2) s) w' e.v u := by
  unfold allocOp at h
  split at h
  · rename_i z gg n hz hg hn
    split at h <;> simp at h
    rename_i cs hcs hb
    subst h
    obtain ⟨v, h1, h2⟩ := run_zeroValue' (P := P) (w := w) hz
    obtain ⟨h3, h4, h5, _, _⟩ := cells_rep (s := s) (x := .p z) (ofValue_rep (I := g.imm) (w := w) h2) hcs
    obtain ⟨g', h6, h7, h8⟩ := new_box hi ((hs b).trans hb) (t := t) h3 h5
    refine ⟨_, g', _, ?_, h6, h7, h8⟩
    simp [Instr.alloc, h1, newVar, newRow]
  · simp at h

theorem box_run {S : St} (hs : ∀ id, s id = S.get id) (hi : Inv g s w) {t b : Nat} {x : AVal} {v : Value} {e : Eff} (hx : RepA g s w x v) (h : boxOp P b t x S = some e) :
    ∃ u g' w', (Instr.box t v).run P w = .ok u w' ∧ Ext g s w g' (e.wr.foldl (fun s x => upd s x.1 x.2) s) w' ∧
      Inv g' (e.wr.foldl (fun s x => upd s x.1 x.2) s) w' ∧ RepA g' (e.wr.foldl (fun s x => upd s x.1 x.2) s) w' e.v u := by
  unfold boxOp at h
  split at h
  · rename_i gg n hg hn
    split at h <;> simp at h
    rename_i cs hcs hb
    subst h
    obtain ⟨h3, h4, h5, _, _⟩ := cells_rep hx hcs
    obtain ⟨g', h6, h7, h8⟩ := new_box hi ((hs b).trans hb) (t := t) h3 h5
    refine ⟨_, g', _, ?_, h6, h7, h8⟩
    simp [Instr.box, newVar, newRow]
  · simp at h

theorem allCells_rep {gg : Bool} {n : Nat} : ∀ {xs : List AVal} {vs : List Value}, RepAs g s w xs vs → allCells gg n xs = true → ∀ v ∈ vs, v.cells.size = n ∧ ∀ x ∈ v.cells.toList, isCell x = true
  | [], vs, hr, _, v, hv => by rw [hr] at hv; simp at hv
  | x :: xs, vs, hr, h, v, hv => by
    obtain ⟨u, us, rfl, h1, h2⟩ := hr
    simp only [allCells] at h
    split at h
    · rename_i cs hcs
      obtain ⟨_, h3, h4, _, _⟩ := cells_rep h1 hcs
      cases hv with
      | head => exact ⟨h3, h4⟩
      | tail _ hv => exact allCells_rep h2 h v hv
    · simp at h

theorem viewed_rep {S : St} (hs : ∀ id, s id = S.get id) (hi : Inv g s w) {id ep off len b o cap : Nat} {capd : Bool} {xs : List AVal} (hv : ViewOk g s w id ep off len capd b o cap) (h : viewed S id ep off len = some xs) :
    ∃ vs, RepAs g s w xs vs ∧ vs.length = len ∧ CellsIn w b o (vs.flatMap (·.cells.toList)) ∧
      ∀ sz n xs cur lost fz, S.get id = some (.arr sz n xs cur lost fz) → ∀ v ∈ vs, v.cells.size = sz ∧ ∀ x ∈ v.cells.toList, isCell x = true := by
  unfold viewed at h
  split at h
  · rename_i sz n ys cur lost fz hid
    split at h <;> simp at h
    rename_i hb1 hb2
    subst h
    have hle := Nat.le_of_ble_eq_true hb1
    obtain ⟨sz2, n2, xs2, cur2, lost2, fz2, h1, h2⟩ := hv
    have h1' := h1
    rw [hs id, hid] at h1
    simp at h1
    obtain ⟨rfl, rfl, rfl, rfl, rfl, rfl⟩ := h1
    obtain ⟨_, st, m, h3, h4, h5, _⟩ := h2 hle
    obtain ⟨hn, _, _, harr⟩ := hi.arr id _ _ _ _ _ _ h1'
    obtain ⟨hm, c, t, vs, h6, h7, h8, h9, _⟩ := harr b st m h3
    have hvl : vs.length = m := by rw [RepAs.length h7]; simp; omega
    refine ⟨(vs.drop off).take len, ?_, by simp; omega, ?_, fun _ _ _ _ _ _ e v hv => by
      rw [hid] at e; simp at e
      obtain ⟨rfl, _⟩ := e
      exact h8 v (List.mem_of_mem_drop (List.mem_of_mem_take hv))⟩
    · have := (h7.drop off).take len
      rw [List.drop_take, List.take_take, Nat.min_eq_left (by omega)] at this
      exact this
    · intro i c' hc
      rw [cell_of_block h6]
      have hsz : ∀ x ∈ vs, x.cells.size = sz := fun x hx => (h8 x hx).1
      rw [flat_take _ (fun x hx => hsz x (List.mem_of_mem_drop hx)), flat_drop _ hsz, List.getElem?_take] at hc
      split at hc
      · rw [List.getElem?_drop] at hc
        rw [h4, show st + off * sz + i = st + (off * sz + i) by omega]
        exact h9 _ _ hc
      · simp at hc
  · simp at h

theorem mapInt_rep : ∀ (l : List UInt8), RepAs g s w ((l.map UInt8.toNat).map fun b => AVal.p (.int .u8 (Int.ofNat b))) (l.map fun b => Value.int .u8 b.toNat)
  | [] => rfl
  | _ :: l => ⟨_, _, rfl, rfl, mapInt_rep l⟩

/-- what is appended: how many, and their cells, now and behind a draw. -/
theorem source_run {S : St} (hs : ∀ id, s id = S.get id) (hi : Inv g s w) {x : AVal} {v : Value} {ys : List AVal} {rd : List Nat} {gg : Bool} {sz : Nat} (hx : RepA g s w x v)
    (h : source S x = some (ys, rd)) (ha : allCells gg sz ys = true) :
    ∃ us, RepAs g s w ys us ∧ (Builtin.lenOf v).run P w = .ok ys.length w ∧ (Builtin.firstCells sz ys.length v).run P w = .ok (us.flatMap (·.cells.toList)).toArray w ∧
      (Builtin.firstCells sz ys.length v).run P w.drew = .ok (us.flatMap (·.cells.toList)).toArray w.drew := by
  have fin : ∀ {b o cap : Nat} {us : List Value}, v = .slice (some ⟨b, o, none⟩) ys.length cap → RepAs g s w ys us → CellsIn w b o (us.flatMap (·.cells.toList)) →
      ∃ us, RepAs g s w ys us ∧ (Builtin.lenOf v).run P w = .ok ys.length w ∧ (Builtin.firstCells sz ys.length v).run P w = .ok (us.flatMap (·.cells.toList)).toArray w ∧
      (Builtin.firstCells sz ys.length v).run P w.drew = .ok (us.flatMap (·.cells.toList)).toArray w.drew := by
    intro b o cap us hv hr hc
    subst hv
    have hl : (us.flatMap (·.cells.toList)).length = ys.length * sz := by
      rw [flat_length (fun y hy => (allCells_rep hr ha y hy).1), RepAs.length hr]
    exact ⟨us, hr, by simp [Builtin.lenOf], run_firstCells_some w sz _ _ _ _ _ hl (fun j c hj => by rw [Addr.add_lit]; exact hc j c hj),
      run_firstCells_some w.drew sz _ _ _ _ _ hl (fun j c hj => by rw [Addr.add_lit]; exact hc j c hj)⟩
  unfold source at h
  split at h
  · simp at h
    obtain ⟨rfl, rfl⟩ := h
    have e : v = .slice none 0 0 := hx
    subst e
    exact ⟨[], rfl, by simp [Builtin.lenOf], by simp [Builtin.firstCells], by simp [Builtin.firstCells]⟩
  · simp at h
    obtain ⟨rfl, rfl⟩ := h
    obtain ⟨b, o, cap, sz', vs, rfl, _, h1, _, h2⟩ := hx
    exact fin (cap := cap) (by rw [List.length_map]) (mapP_rep h1) h2.in
  · simp at h
    obtain ⟨rfl, rfl⟩ := h
    obtain ⟨b, o, sz', vs, rfl, h1, _, h2⟩ := hx
    exact fin (by rw [List.length_map]) (mapP_rep h1) h2.in
  · simp only [Option.some.injEq, Prod.mk.injEq] at h
    obtain ⟨rfl, rfl⟩ := h
    obtain ⟨t, rfl, rfl⟩ := hx
    have e1 : ((t.data.toList.map UInt8.toNat).map fun b => AVal.p (.int .u8 (Int.ofNat b))).length = t.size := by simp
    have e2 : ∀ l : List UInt8, ((l.map fun b => Value.int .u8 (b.toNat : Int)).flatMap (·.cells.toList)) = l.map fun b => Value.int .u8 (b.toNat : Int) := by
      intro l; induction l with
      | nil => rfl
      | cons a l ih => simp only [List.map_cons, List.flatMap_cons, ih]; rfl
    have e3 : (t.extract 0 t.size) = t := by
      have : t.size = t.data.size := rfl
      cases t with
      | mk d => simp [ByteArray.extract, ByteArray.copySlice, ByteArray.size]
    refine ⟨_, mapInt_rep t.data.toList, ?_, ?_, ?_⟩
    · rw [e1]; simp [Builtin.lenOf]
    · rw [e1, e2]
      simp only [Builtin.firstCells, Sem.run_pure, e3]
      congr 1
      apply Array.ext'; simp
    · rw [e1, e2]
      simp only [Builtin.firstCells, Sem.run_pure, e3]
      congr 1
      apply Array.ext'; simp
  · rename_i id ep off len c
    split at h <;> simp at h
    rename_i xs hv
    obtain ⟨rfl, rfl⟩ := h
    obtain ⟨b, o, cap, rfl, _, _, h1⟩ := hx
    obtain ⟨vs, h2, h3, h4, _⟩ := viewed_rep hs hi h1 hv
    exact fin (by rw [← h3, RepAs.length h2]) h2 h4
  · simp at h


theorem zeroOk_rep {e sz : Nat} {gg : Bool} (h : zeroOk P e gg sz = true) : ∃ i v, P.info? e = some i ∧ i.zero = some v ∧ v.cells.size = sz := by
  unfold zeroOk at h
  split at h
  · rename_i z hz
    split at h
    · rename_i cs hcs
      unfold zeroT at hz
      split at hz
      · rename_i i hi
        split at hz
        · rename_i v hv
          obtain ⟨_, h3, _⟩ := cells_rep (g := { imm := fun _ _ => False, bx := fun _ => none, rg := fun _ => none, cb := fun _ => 0, base := 0 }) (s := fun _ => none) (w := default) (x := .p z)
            (ofValue_rep (I := fun _ _ => False) (w := default) hz) hcs
          exact ⟨i, v, hi, hv, h3⟩
        · simp at hz
      · simp at hz
    · simp at h
  · simp at h

theorem notInt_spec {t : Nat} (h : notInt P t = true) : ∃ d, P.underlying t = some d ∧ (∀ k, d ≠ .int k) := by
  unfold notInt at h
  split at h <;> simp at h
  rename_i d hni hu
  exact ⟨d, hu, fun k e => hni k e⟩

/-- append, in the room that there is. -/
theorem append_in {t t2 ty e sz n sLen cap : Nat} {b o : Nat} {c : Array Value} {et : TypeId} {v : Value} {us : List Value} (ht : P.underlying t = some (.slice e)) (ht2 : notInt P t2 = true) (hsz : szT P e = some sz)
    (h1 : (Builtin.lenOf v).run P w = .ok n w) (h2 : (Builtin.firstCells sz n v).run P w = .ok us.toArray w) (hc : ∀ x ∈ us, isCell x = true)
    (hroom : sLen + n ≤ cap) (hblk : w.heap[b]? = some (.cells c et (0, 0))) (hle : o + sLen * sz + us.length ≤ c.size) :
    (Builtin.append_ #[t, t2] ty #[.slice (some ⟨b, o, none⟩) sLen cap, v]).run P w = .ok (.slice (some ⟨b, o, none⟩) (sLen + n) cap) (w.setRow b (splice c.toList (o + sLen * sz) us).toArray) := by
  obtain ⟨d, hd, hni⟩ := notInt_spec ht2
  have hst := run_storeCells_at P b (o + sLen * sz) et us 0 c w hblk (by simpa using hle) (fun x hx => by rw [← isCell_eq]; exact hc x hx)
  simp only [Nat.add_zero] at hst
  have hst' : (storeCells ⟨b, o + sLen * sz, none⟩ us).run P w = .ok () (w.setRow b (splice c.toList (o + sLen * sz) us).toArray) := hst
  simp [Builtin.append_, run_underlying' ht, run_sizeOf' hsz, run_underlying' hd, h1, h2, hroom, Addr.add_lit, hst']

/-- append, into new memory. -/
theorem append_new {t t2 ty e sz n sLen cap by_ : Nat} {base : Option Addr} {gg : Bool} {v : Value} {os us : List Value} (ht : P.underlying t = some (.slice e)) (ht2 : notInt P t2 = true) (hsz : szT P e = some sz)
    (hby : bytesT P e = some by_) (hzo : zeroOk P e gg sz = true)
    (h1 : (Builtin.lenOf v).run P w = .ok n w) (h2 : (Builtin.firstCells sz n v).run P w.drew = .ok us.toArray w.drew)
    (h3 : (Builtin.firstCells sz sLen (.slice base sLen cap)).run P w.drew = .ok os.toArray w.drew)
    (hroom : cap < sLen + n) (hbound : (sLen + n) * by_ ≤ 1099511627776) (hn : sLen + n ≤ 4611686018427387904) :
    ∃ cap' rest, sLen + n ≤ cap' ∧ rest.length = (cap' - (sLen + n)) * sz ∧ (Builtin.append_ #[t, t2] ty #[.slice base sLen cap, v]).run P w =
      .ok (.slice (some ⟨w.heap.size, 0, none⟩) (sLen + n) cap') (w.drew.alloc (.cells (os ++ us ++ rest).toArray e)) := by
  obtain ⟨d, hd, hni⟩ := notInt_spec ht2
  obtain ⟨i, zv, hi, hzv, hzs⟩ := zeroOk_rep hzo
  have hib : i.bytes = by_ := by simp [bytesT, hi] at hby; exact hby
  refine ⟨grownCap w (sLen + n) cap e, (Builtin.zeroCells zv.cells (grownCap w (sLen + n) cap e - (sLen + n))).toList, grownCap_ge _ _ _ _, ?_, ?_⟩
  · rw [Array.length_toList, size_zeroCells, hzs]
  · have hne : ¬ (sLen + n ≤ cap) := by omega
    have h63 : ¬ (9223372036854775807 < ((sLen : Int) + (n : Int))) := by omega
    have hfit : Builtin.nextslicecap (sLen + n) cap * i.bytes ≤ 281474976710656 := growslice_fits hroom (by rw [hib]; omega)
    have h48 : ¬ (281474976710656 < Builtin.nextslicecap (sLen + n) cap * i.bytes) := by omega
    simp [Builtin.append_, run_underlying' ht, run_sizeOf' hsz, run_underlying' hd, h1, hne, h63, h48, Go.typeInfo, Go.zeroValue, hi, hzv, Question.forced, h2, h3, newRow, grownCap]
    congr 2
    apply Array.ext'
    simp

end
end Go.Proofs.YtceccojmekpneaaGreatDoor.Sw
