/- Loads, addresses, stores: the operations. -/
import Derived.Test.YtceccojmekpneaaGreatDoorSwL
namespace Go.Proofs.YtceccojmekpneaaGreatDoor.Sw
open Go.RowKit

section
variable {P : Program} {g : Sg} {s : Sto} {w : World}

/-- the cells from there on. -/
def CellsIn (w : World) (b o : Nat) (vs : List Value) : Prop := ∀ (i : Nat) (c : Value), vs[i]? = some c → w.cell? ⟨b, o + i, none⟩ = some c

theorem CellsAt.in {I : Nat → Nat → Prop} {b o : Nat} {vs : List Value} (h : CellsAt I w b o vs) : CellsIn w b o vs := fun i c hi => (h i c hi).1

theorem loadCells_run {b o : Nat} {vs : List Value} (h : CellsIn w b o vs) : (loadCells ⟨b, o, none⟩ vs.length).run P w = .ok vs.toArray w :=
  run_loadCells_list w ⟨b, o, none⟩ vs fun j v hj => by rw [Addr.add_lit]; exact h j v hj

theorem loadVar_run {t n : Nat} {gg : Bool} {b o off : Nat} {cs : List AVal} {vs : List Value} {x : AVal} (hg : aggT P t = some gg) (hn : szT P t = some n) (hr : RepAs g s w cs vs)
    (hc : ∀ v ∈ vs, isCell v = true) (hin : CellsIn w b o vs) (h : part gg cs off n = some x) : ∃ u, (loadVar t ⟨b, o + off, none⟩).run P w = .ok u w ∧ RepA g s w x u := by
  obtain ⟨u, h1, h2, h3⟩ := part_rep hr hc h
  refine ⟨u, ?_, h1⟩
  unfold loadVar
  simp only [Sem.run_bind, run_isAgg' hg, Result.andThen_ok]
  cases gg with
  | true =>
    obtain ⟨h4, rfl⟩ := h2 rfl
    have hl : ((vs.drop off).take n).length = n := by simp; omega
    have hin2 : CellsIn w b (o + off) ((vs.drop off).take n) := by
      intro i c hi
      rw [List.getElem?_take] at hi
      split at hi
      · have := hin (off + i) c (by simpa using hi)
        rw [show o + off + i = o + (off + i) by omega]; exact this
      · simp at hi
    have := loadCells_run (P := P) hin2
    rw [hl] at this
    simp only [if_true, Sem.run_bind, run_sizeOf' hn, Result.andThen_ok, this, Sem.run_pure]
  | false =>
    have := hin off u (h3 rfl)
    simp [this]

theorem at_rep {S : St} (hs : ∀ id, s id = S.get id) (hi : Inv g s w) {x : AVal} {v : Value} {cs : List AVal} {off : Nat} {ids : List Nat} (hx : RepA g s w x v) (h : at_ S x = some (cs, off, ids)) :
    ∃ b o vs, v = .pointer (some ⟨b, o + off, none⟩) ∧ RepAs g s w cs vs ∧ (∀ c ∈ vs, isCell c = true) ∧ CellsIn w b o vs := by
  unfold at_ at h
  split at h
  · rename_i id off'
    split at h <;> simp at h
    rename_i ds hid
    obtain ⟨rfl, rfl, rfl⟩ := h
    obtain ⟨b, hb, rfl⟩ := hx
    obtain ⟨b2, c, t, h1, h2, h3, h4⟩ := hi.box id _ ((hs id).trans hid)
    rw [hb] at h1
    simp at h1; subst h1
    exact ⟨b, 0, c.toList, by simp, h3, h4, fun i c' hc => by rw [cell_of_block h2]; simpa using hc⟩
  · rename_i id ep i off'
    split at h
    · rename_i sz n xs cur lost fz hid
      split at h
      · rename_i hle
        have hle := Nat.le_of_ble_eq_true hle
        simp only [nth_eq] at h
        split at h <;> simp at h
        rename_i e hne he
        obtain ⟨rfl, rfl, rfl⟩ := h
        obtain ⟨b, o, rfl, sz2, n2, xs2, cur2, lost2, fz2, h1, h2⟩ := hx
        have h1' := h1
        rw [hs id, hid] at h1
        simp at h1
        obtain ⟨rfl, rfl, rfl, rfl, rfl, rfl⟩ := h1
        obtain ⟨_, st, m, h3, h4, h5, _⟩ := h2 hle
        obtain ⟨hn, _, _, harr⟩ := hi.arr id _ _ _ _ _ _ h1'
        obtain ⟨hm, c, t, vs, h6, h7, h8, h9, _⟩ := harr b st m h3
        have het : (xs.take m)[i]? = some e := by rw [List.getElem?_take, if_pos h4]; exact he
        obtain ⟨v, h10, h11⟩ := h7.get het
        have hvm := List.mem_of_getElem? h10
        refine ⟨b, st + i * sz, v.cells.toList, by rw [h5], cells_of h11 (fun e => hne e), (h8 v hvm).2, ?_⟩
        intro j x hj
        rw [cell_of_block h6]
        have hlt := (List.getElem?_eq_some_iff.1 h10).1
        have : (vs.flatMap (·.cells.toList))[i * sz + j]? = some x := by
          have e1 := flat_drop (vs := vs) i (fun y hy => (h8 y hy).1)
          have e2 : vs.drop i = v :: vs.drop (i + 1) := by
            rw [List.drop_eq_getElem_cons hlt, (List.getElem?_eq_some_iff.1 h10).2]
          rw [e2, List.flatMap_cons] at e1
          rw [← List.getElem?_drop, ← e1, List.getElem?_append_left (List.getElem?_eq_some_iff.1 hj).1]
          exact hj
        rw [show st + i * sz + j = st + (i * sz + j) by omega]
        exact h9 _ _ this
      · simp at h
    · simp at h
  · simp at h

/-- what is no aggregate has one cell: itself. -/
theorem one_cell {I : Nat → Nat → Prop} {x : PVal} {v : Value} (hx : RepP I w x v) (hn : isAggP x = false) : v.cells = #[v] := by
  cases x with
  | agg _ => simp [isAggP] at hn
  | bool _ => have e : v = _ := hx; subst e; rfl
  | int _ _ => have e : v = _ := hx; subst e; rfl
  | str _ => obtain ⟨_, rfl, _⟩ := hx; rfl
  | nilp => have e : v = _ := hx; subst e; rfl
  | nils => have e : v = _ := hx; subst e; rfl
  | nilm => have e : v = _ := hx; subst e; rfl
  | nilf => have e : v = _ := hx; subst e; rfl
  | nili => have e : v = _ := hx; subst e; rfl
  | tup _ => obtain ⟨_, rfl, _⟩ := hx; rfl
  | iface _ _ => obtain ⟨_, rfl, _⟩ := hx; rfl
  | sl _ => obtain ⟨_, _, _, _, _, rfl, _⟩ := hx; rfl
  | ip _ => obtain ⟨_, _, _, rfl, _⟩ := hx; rfl
  | fn _ _ => obtain ⟨_, rfl, _⟩ := hx; rfl

theorem load_run {S : St} (hs : ∀ id, s id = S.get id) (hi : Inv g s w) {t : Nat} {x : AVal} {v : Value} {e : Eff} (hx : RepA g s w x v) (h : loadOp P S t x = some e) :
    e.wr = [] ∧ ∃ u, (Instr.loadAt t v).run P w = .ok u w ∧ RepA g s w e.v u := by
  unfold loadOp at h
  split at h
  · rename_i gg n hg hn
    split at h
    · rename_i y
      obtain ⟨b, o, u, rfl, h1, h2⟩ := hx
      have hin := h2.in
      split at h
      · split at h
        · rename_i cs
          split at h <;> simp at h
          rename_i hl
          have hl := Nat.eq_of_beq_eq_true hl
          subst h
          obtain ⟨vs, rfl, h3, h4⟩ := h1
          refine ⟨rfl, .agg vs.toArray, ?_, vs, rfl, h3, h4⟩
          have hin' : CellsIn w b o vs := by simpa [Value.cells] using hin
          have := loadCells_run (P := P) hin'
          rw [RepPs.length h3, hl] at this
          simp only [Instr.loadAt, Instr.sureAddr, loadVar, Sem.run_bind, Sem.run_pure, Result.andThen_ok, run_isAgg' hg, if_true, run_sizeOf' hn, this]
        · simp at h
      · split at h
        · simp at h
        · rename_i hna
          simp at h; subst h
          have hna' : isAggP y = false := by cases y <;> first | rfl | exact absurd rfl (hna _)
          have hc := one_cell h1 hna'
          have := hin 0 u (by rw [hc]; rfl)
          refine ⟨rfl, u, ?_, h1⟩
          simp only [Nat.add_zero] at this
          simp [Instr.loadAt, Instr.sureAddr, loadVar, run_isAgg' hg, this]
    · split at h
      · rename_i cs off ids hat
        simp only [Option.map_eq_some_iff] at h
        obtain ⟨y, h1, rfl⟩ := h
        obtain ⟨b, o, vs, rfl, h2, h3, h4⟩ := at_rep hs hi hx hat
        obtain ⟨u, h5, h6⟩ := loadVar_run hg hn h2 h3 h4 h1
        refine ⟨rfl, u, ?_, h6⟩
        simp only [Instr.loadAt, Instr.sureAddr, Sem.run_bind, Sem.run_pure, Result.andThen_ok, h5]
      · simp at h
  · simp at h

/-- a part of what stays, as a place. -/
theorem ip_part {gg : Bool} {cs : List PVal} {off n : Nat} {x : PVal} {b o : Nat} {y : Value} (hr : RepP g.imm w (.agg cs) y) (hc : CellsAt g.imm w b o y.cells.toList) (h : partP gg cs off n = some x) :
    RepP g.imm w (.ip x) (.pointer (some ⟨b, o + off, none⟩)) := by
  obtain ⟨vs, rfl, h1, h2⟩ := hr
  obtain ⟨u, h3, h4, h5⟩ := partP_rep h1 h2 h
  refine ⟨b, o + off, u, rfl, h3, ?_⟩
  have hc' : CellsAt g.imm w b o vs := by simpa [Value.cells] using hc
  cases gg with
  | true =>
    obtain ⟨h6, rfl⟩ := h4 rfl
    simpa [Value.cells] using hc'.sub off n
  | false =>
    have h6 := h5 rfl
    have hcu := h2 u (List.mem_of_getElem? h6)
    have : u.cells = #[u] := by cases u <;> first | rfl | (simp [isCell] at hcu)
    rw [this]
    intro i c hi
    cases i with
    | zero => simp at hi; subst hi; exact hc' off u h6
    | succ i => simp at hi

theorem fieldAddr_run {t f : Nat} {x z : AVal} {v : Value} (hx : RepA g s w x v) (h : fieldAddrOp P t f x = some z) : ∃ u, (Instr.fieldAt t v f).run P w = .ok u w ∧ RepA g s w z u := by
  unfold fieldAddrOp at h
  split at h
  · rename_i fd hf
    split at h
    · rename_i n gg hn hg
      split at h
      · simp at h
      · rename_i hn0
        unfold fieldT at hf
        split at hf
        · rename_i fs hu
          have run : ∀ a : Addr, (Instr.fieldAt t (.pointer (some a)) f).run P w = .ok (.pointer (some (a.add fd.offset))) w := by
            intro a
            simp only [Instr.fieldAt, Sem.run_bind, run_underlying' hu, Result.andThen_ok, hf, Instr.sureAddr, Sem.run_pure, fieldPlace, run_sizeOf' hn]
            rw [if_neg (by simpa using hn0)]
            rfl
          split at h <;> simp at h
          · subst h
            obtain ⟨b, hb, rfl⟩ := hx
            exact ⟨_, run _, b, hb, by rw [Addr.add_lit]⟩
          · subst h
            obtain ⟨b, o, rfl, sz2, n2, xs2, cur2, lost2, fz2, h1, h2⟩ := hx
            refine ⟨_, run _, b, o + fd.offset, by rw [Addr.add_lit], sz2, n2, xs2, cur2, lost2, fz2, h1, fun hl => ?_⟩
            obtain ⟨h3, st, m, h4, h5, h6, h7⟩ := h2 hl
            exact ⟨h3, st, m, h4, h5, by omega, h7⟩
          · obtain ⟨y, h1, rfl⟩ := h
            obtain ⟨b, o, u, rfl, h2, h3⟩ := hx
            exact ⟨_, run _, by rw [Addr.add_lit]; exact ip_part h2 h3 h1⟩
        · simp at hf
    · simp at h
  · simp at h

theorem cellsP_size {I : Nat → Nat → Prop} {x : PVal} {v : Value} (hx : RepP I w x v) : v.cells.size = (cellsP x).length := by
  cases x with
  | agg cs => obtain ⟨us, rfl, h3, _⟩ := hx; simp [Value.cells, cellsP, RepPs.length h3]
  | bool _ => have e : v = _ := hx; subst e; rfl
  | int _ _ => have e : v = _ := hx; subst e; rfl
  | str _ => obtain ⟨_, rfl, _⟩ := hx; rfl
  | nilp => have e : v = _ := hx; subst e; rfl
  | nils => have e : v = _ := hx; subst e; rfl
  | nilm => have e : v = _ := hx; subst e; rfl
  | nilf => have e : v = _ := hx; subst e; rfl
  | nili => have e : v = _ := hx; subst e; rfl
  | tup _ => obtain ⟨_, rfl, _⟩ := hx; rfl
  | iface _ _ => obtain ⟨_, rfl, _⟩ := hx; rfl
  | sl _ => obtain ⟨_, _, _, _, _, rfl, _⟩ := hx; rfl
  | ip _ => obtain ⟨_, _, _, rfl, _⟩ := hx; rfl
  | fn _ _ => obtain ⟨_, rfl, _⟩ := hx; rfl

/-- an element of a list that stays, as a place. -/
theorem ip_elem {xs : List PVal} {vs : List Value} {b o sz sz' n : Nat} {x : PVal} (hr : RepPs g.imm w xs vs) (hs : ∀ y ∈ vs, y.cells.size = sz) (hc : CellsAt g.imm w b o (vs.flatMap (·.cells.toList)))
    (h : xs[n]? = some x) (hl : (cellsP x).length = sz') : RepP g.imm w (.ip x) (.pointer (some ⟨b, o + n * sz', none⟩)) := by
  obtain ⟨v, h1, h2⟩ := hr.get h
  have hvm := List.mem_of_getElem? h1
  have e0 : sz = sz' := by rw [← hs v hvm, cellsP_size h2, hl]
  subst e0
  refine ⟨b, o + n * sz, v, rfl, h2, ?_⟩
  intro j c hj
  have hlt := (List.getElem?_eq_some_iff.1 h1).1
  have : (vs.flatMap (·.cells.toList))[n * sz + j]? = some c := by
    have e1 := flat_drop (vs := vs) n hs
    have e2 : vs.drop n = v :: vs.drop (n + 1) := by
      rw [List.drop_eq_getElem_cons hlt, (List.getElem?_eq_some_iff.1 h1).2]
    rw [e2, List.flatMap_cons] at e1
    rw [← List.getElem?_drop, ← e1, List.getElem?_append_left (List.getElem?_eq_some_iff.1 hj).1]
    exact hj
  rw [show o + n * sz + j = o + (n * sz + j) by omega]
  exact hc _ _ this

theorem indexAddr_run {S : St} (hs : ∀ id, s id = S.get id) {t : Nat} {x i : AVal} {v vi : Value} {e : Eff} (hx : RepA g s w x v) (hi : RepA g s w i vi) (h : indexAddrOp P S t x i = some e) :
    e.wr = [] ∧ ∃ u, (Instr.indexAt t v vi).run P w = .ok u w ∧ RepA g s w e.v u := by
  unfold indexAddrOp at h
  split at h
  · rename_i n hn
    obtain ⟨k, rfl⟩ := natOf_rep hi hn
    split at h
    · rename_i el hu
      split at h
      · rename_i sz hsz
        have run : ∀ (a : Addr) (len cap : Nat), n < len → (Instr.indexAt t (.slice (some a) len cap) (.int k (n : Int))).run P w = .ok (.pointer (some (a.add (n * sz)))) w := by
          intro a len cap hlt
          have hc : (0 : Int) ≤ (n : Int) ∧ (n : Int) < (len : Int) := by omega
          simp only [Instr.indexAt, asIntOf, Sem.run_bind, Sem.run_pure, Result.andThen_ok, run_underlying' hu]
          rw [if_pos hc]
          simp only [Sem.run_bind, run_sizeOf' hsz, Result.andThen_ok, Int.toNat_natCast, Sem.run_pure]
        split at h
        · rename_i xs
          simp only [nth_eq] at h
          obtain ⟨b, o, cap, sz', vs, rfl, hcap, hr, hss, hcell⟩ := hx
          split at h
          · rename_i y hy
            split at h <;> simp at h
            rename_i hl
            subst h
            have hlt := (List.getElem?_eq_some_iff.1 hy).1
            exact ⟨rfl, _, run _ _ _ hlt, by rw [Addr.add_lit]; exact ip_elem hr hss hcell hy (Nat.eq_of_beq_eq_true hl)⟩
          · simp at h
        · rename_i xs
          simp only [nth_eq] at h
          obtain ⟨b, o, sz', vs, rfl, hr, hss, hcell⟩ := hx
          split at h
          · rename_i y hy
            split at h <;> simp at h
            rename_i hl
            subst h
            have hlt := (List.getElem?_eq_some_iff.1 hy).1
            exact ⟨rfl, _, run _ _ _ hlt, by rw [Addr.add_lit]; exact ip_elem hr hss hcell hy (Nat.eq_of_beq_eq_true hl)⟩
          · simp at h
        · rename_i id ep off len capd
          obtain ⟨b, o, cap, rfl, hcap, hcd, sz2, n2, xs2, cur2, lost2, fz2, h1, h2⟩ := hx
          split at h
          · rename_i sz' n' xs' cur' lost' fz' hobj
            split at h <;> simp at h
            rename_i hb1 hb2 hb3
            subst h
            have h1' := h1
            rw [hs id, hobj] at h1
            simp at h1
            obtain ⟨rfl, rfl, rfl, rfl, rfl, rfl⟩ := h1
            have hlt : n < len := by
              have : Nat.ble (n + 1) len = true := hb1
              exact Nat.le_of_ble_eq_true this
            have hsz' : sz = sz' := Nat.eq_of_beq_eq_true hb2
            subst hsz'
            refine ⟨rfl, _, run _ _ _ hlt, b, o + n * sz, by rw [Addr.add_lit], sz, n', xs', cur', lost', fz', h1', fun hl => ?_⟩
            obtain ⟨h3, st, m, h4, h5, h6, h7, h8⟩ := h2 hl
            refine ⟨h3, st, m, h4, by omega, ?_, h8⟩
            rw [h5, Nat.add_mul]; omega
          · simp at h
        · simp at h
      · simp at h
    · rename_i len el hu
      split at h
      · rename_i sz hsz
        split at h
        · rename_i hb
          have hlt : n < len := by
            have : Nat.ble (n + 1) len = true := hb
            exact Nat.le_of_ble_eq_true this
          have run : ∀ (a : Addr), (Instr.indexAt t (.pointer (some a)) (.int k (n : Int))).run P w = .ok (.pointer (some (a.add (n * sz)))) w := by
            intro a
            have hc : (0 : Int) ≤ (n : Int) ∧ (n : Int) < (len : Int) := by omega
            simp only [Instr.indexAt, asIntOf, Sem.run_bind, Sem.run_pure, Result.andThen_ok, run_underlying' hu, Instr.sureAddr]
            rw [if_pos hc]
            simp only [Sem.run_bind, run_sizeOf' hsz, Result.andThen_ok, Int.toNat_natCast, Sem.run_pure]
          split at h
          · simp at h; subst h
            obtain ⟨b, hb, rfl⟩ := hx
            exact ⟨rfl, _, run _, b, hb, by rw [Addr.add_lit]⟩
          · simp at h; subst h
            obtain ⟨b, o, rfl, sz2, n2, xs2, cur2, lost2, fz2, h1, h2⟩ := hx
            refine ⟨rfl, _, run _, b, o + n * sz, by rw [Addr.add_lit], sz2, n2, xs2, cur2, lost2, fz2, h1, fun hl => ?_⟩
            obtain ⟨h3, st, m, h4, h5, h6, h7⟩ := h2 hl
            exact ⟨h3, st, m, h4, h5, by omega, h7⟩
          · split at h
            · simp only [Option.map_eq_some_iff] at h
              obtain ⟨y, h1, rfl⟩ := h
              obtain ⟨b, o, u, rfl, h2, h3⟩ := hx
              exact ⟨rfl, _, run _, by rw [Addr.add_lit]; exact ip_part h2 h3 h1⟩
            · simp at h
          · simp at h
        · simp at h
      · simp at h
    · simp at h
  · simp at h

/-- what an operation does to the store and the memory. -/
def Does (g : Sg) (s : Sto) (w : World) (e : Eff) (r : Result Next) : Prop :=
  ∃ u g' w', (r = .ok (.value u) w' ∨ (r = .ok .skip w' ∧ u = undef)) ∧ Ext g s w g' (e.wr.foldl (fun s x => upd s x.1 x.2) s) w' ∧
    Inv g' (e.wr.foldl (fun s x => upd s x.1 x.2) s) w' ∧ RepA g' (e.wr.foldl (fun s x => upd s x.1 x.2) s) w' e.v u

theorem storeVar_run {t n : Nat} {b o : Nat} {c : Array Value} {ty : TypeId} {v : Value} (hn : szT P t = some n) (hsz : v.cells.size = n) (hblk : w.heap[b]? = some (.cells c ty (0, 0)))
    (hc : ∀ x ∈ v.cells.toList, isCell x = true) (hle : o + v.cells.toList.length ≤ c.size) :
    (Instr.storeAt t (.pointer (some ⟨b, o, none⟩)) v).run P w = .ok () (w.setRow b (splice c.toList o v.cells.toList).toArray) := by
  have := run_storeCells_at P b o ty v.cells.toList 0 c w hblk (by simpa using hle) (fun x hx => by rw [← isCell_eq]; exact hc x hx)
  simp only [Nat.add_zero] at this
  simp only [Instr.storeAt, Instr.sureAddr, Sem.run_bind, Sem.run_pure, Result.andThen_ok, storeVar, run_sizeOf' hn]
  rw [if_neg (by simp [hsz])]
  exact this

theorem store_run {S : St} (hs : ∀ id, s id = S.get id) (hi : Inv g s w) {t : Nat} {x y : AVal} {vx vy : Value} {e : Eff} (hx : RepA g s w x vx) (hy : RepA g s w y vy) (h : storeOp P S t x y = some e) :
    ∃ g' w', (Instr.storeAt t vx vy).run P w = .ok () w' ∧ Ext g s w g' (e.wr.foldl (fun s x => upd s x.1 x.2) s) w' ∧ Inv g' (e.wr.foldl (fun s x => upd s x.1 x.2) s) w' ∧ e.v = .p (.tup []) := by
  unfold storeOp at h
  split at h
  · rename_i gg n hg hn
    split at h
    · rename_i new hnew
      obtain ⟨k1, k2, k3, _, _⟩ := cells_rep hy hnew
      split at h
      · rename_i id off
        split at h
        · rename_i cs hid
          simp only [Option.map_eq_some_iff] at h
          obtain ⟨cs', h1, rfl⟩ := h
          obtain ⟨b, hb, rfl⟩ := hx
          obtain ⟨b2, c, ty, h2, h3, h4, h5, h6⟩ := store_box hi ((hs id).trans hid) k1 k3 h1
          rw [hb] at h2
          simp at h2; subst h2
          exact ⟨g, _, storeVar_run hn k2 h3 k3 h4, h5, h6, rfl⟩
        · simp at h
      · rename_i id ep i off
        split at h
        · rename_i sz m xs ep' lost fz hid
          split at h
          · rename_i hb1 hb2
            have hb1 := Nat.eq_of_beq_eq_true hb1
            subst hb1
            have hb2 := Nat.le_of_ble_eq_true hb2
            simp only [nth_eq] at h
            split at h
            · simp at h
            · rename_i el hne he
              split at h
              · rename_i cs' hcs
                rw [setNth_eq] at h
                have hlt := (List.getElem?_eq_some_iff.1 he).1
                rw [if_pos hlt] at h
                simp at h
                subst h
                obtain ⟨b, o, rfl, hel⟩ := hx
                obtain ⟨c, ty, g', h2, h3, h4, h5⟩ := store_el hi ((hs id).trans hid) hel k1 k3 hb2 he (fun e => hne e) hcs rfl
                exact ⟨g', _, storeVar_run hn k2 h2 k3 h3, h4, h5, rfl⟩
              · simp at h
            · simp at h
          · simp at h
        · simp at h
      · simp at h
    · simp at h
  · simp at h

end
end Go.Proofs.YtceccojmekpneaaGreatDoor.Sw
