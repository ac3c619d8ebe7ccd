/- Stores. -/
import Derived.Test.YtceccojmekpneaaGreatDoorSwK
import Derived.Laws.AppendOwn
namespace Go.Proofs.YtceccojmekpneaaGreatDoor.Sw
open Go.RowKit

theorem isCell_eq (v : Value) : isCell v = v.oneCell' := by cases v <;> rfl

def splice {α : Type} (l : List α) (p : Nat) (us : List α) : List α := l.take p ++ us ++ l.drop (p + us.length)

theorem splice_get {α : Type} {l us : List α} {p : Nat} (h : p + us.length ≤ l.length) (j : Nat) :
    (splice l p us)[j]? = if j < p then l[j]? else if j < p + us.length then us[j - p]? else l[j]? := by
  unfold splice
  have l1 : (l.take p).length = p := by simp; omega
  by_cases h1 : j < p
  · rw [if_pos h1, List.append_assoc, List.getElem?_append_left (by omega), List.getElem?_take, if_pos h1]
  · rw [if_neg h1]
    by_cases h2 : j < p + us.length
    · rw [if_pos h2, List.append_assoc, List.getElem?_append_right (by omega), l1, List.getElem?_append_left (by omega)]
    · rw [if_neg h2, List.getElem?_append_right (by simp; omega)]
      simp only [List.length_append, l1, List.getElem?_drop]
      congr 1
      omega

theorem splice_length {α : Type} {l us : List α} {p : Nat} (h : p + us.length ≤ l.length) : (splice l p us).length = l.length := by
  unfold splice; simp; omega

theorem splice_mid {α : Type} (A V B us : List α) (off : Nat) (h : off + us.length ≤ V.length) : splice (A ++ V ++ B) (A.length + off) us = A ++ splice V off us ++ B := by
  unfold splice
  rw [List.append_assoc A V B, List.take_append, List.take_of_length_le (by omega), show A.length + off - A.length = off by omega, List.take_append_of_le_length (by omega)]
  rw [show A.length + off + us.length = A.length + (off + us.length) by omega, List.drop_append, List.drop_of_length_le (l := A) (by omega)]
  rw [show A.length + (off + us.length) - A.length = off + us.length by omega, List.drop_append_of_le_length h]
  simp

/-- a part that is spliced in both lies where it lay. -/
theorem splice_within {α : Type} {l c us : List α} {st p : Nat} (hl : p + us.length ≤ l.length) (hc : st + p + us.length ≤ c.length)
    (h : ∀ (j : Nat) (x : α), l[j]? = some x → c[st + j]? = some x) : ∀ (j : Nat) (x : α), (splice l p us)[j]? = some x → (splice c (st + p) us)[st + j]? = some x := by
  intro j x hj
  rw [splice_get hl] at hj
  rw [splice_get hc]
  split at hj
  · rw [if_pos (by omega)]; exact h j x hj
  · rw [if_neg (by omega)]
    split at hj
    · rw [if_pos (by omega)]
      rw [show st + j - (st + p) = j - p by omega]; exact hj
    · rw [if_neg (by omega)]; exact h j x hj

theorem setRow_bsize {w : World} {g : Nat} {old cs : Array Value} {t : TypeId} {fr : Nat × Nat} (hg : w.heap[g]? = some (.cells old t fr)) (hs : cs.size = old.size) (b : Nat) :
    World.bsize (w.setRow g cs) b = World.bsize w b := by
  unfold World.bsize
  by_cases h : b = g
  · subst h; rw [setRow_heap w b old cs t fr hg, hg]; exact hs
  · rw [setRow_other w g b cs h]

theorem cell_setRow {w : World} {g o : Nat} {old cs : Array Value} {t : TypeId} {fr : Nat × Nat} (hg : w.heap[g]? = some (.cells old t fr)) : (w.setRow g cs).cell? ⟨g, o, none⟩ = cs[o]? :=
  cell_of_block (setRow_heap w g old cs t fr hg)

theorem cell_setRow_ne {w : World} {g b o : Nat} {cs : Array Value} (h : b ≠ g) : (w.setRow g cs).cell? ⟨b, o, none⟩ = w.cell? ⟨b, o, none⟩ :=
  World.cell?_of_block (setRow_other w g b cs h)

theorem Below.setRow {B : Nat} {w : World} {g : Nat} {cs : Array Value} (h : B ≤ g) : Below B w (w.setRow g cs) :=
  ⟨rfl, rfl, rfl, by simp, fun k hk => setRow_other w g k cs (by omega)⟩

theorem setNth_eq {α : Type} : ∀ (l : List α) (n : Nat) (x : α), setNth l n x = if n < l.length then some (l.set n x) else none
  | [], n, x => by simp [setNth]
  | y :: l, 0, x => by simp [setNth]
  | y :: l, n + 1, x => by
    simp only [setNth, setNth_eq l n x, List.length_cons, List.set_cons_succ]
    by_cases h : n < l.length
    · simp [h]
    · simp [h]

theorem RepAs.set {g : Sg} {s : Sto} {w : World} : ∀ {xs : List AVal} {vs : List Value} {n : Nat} {x : AVal} {v : Value}, RepAs g s w xs vs → RepA g s w x v → RepAs g s w (xs.set n x) (vs.set n v)
  | [], _, _, _, _, h, _ => by rw [h]; simp [RepAs]
  | y :: xs, _, 0, x, v, h, hx => by
    obtain ⟨u, us, rfl, a, b⟩ := h
    exact ⟨v, us, rfl, hx, b⟩
  | y :: xs, _, n + 1, x, v, h, hx => by
    obtain ⟨u, us, rfl, a, b⟩ := h
    exact ⟨u, us.set n v, rfl, a, RepAs.set b hx⟩

section
variable {g : Sg} {s : Sto} {w : World}

/-- what is written into a box. -/
theorem store_box (hi : Inv g s w) {id off : Nat} {cs new cs' : List AVal} (hid : s id = some (.box cs)) {us : List Value} (hr : RepAs g s w new us) (hc : ∀ x ∈ us, isCell x = true)
    (hp : putCells cs off new = some cs') :
    ∃ b c t, g.bx id = some b ∧ w.heap[b]? = some (.cells c t (0, 0)) ∧ off + us.length ≤ c.size ∧
      Ext g s w g (upd s id (.box cs')) (w.setRow b (splice c.toList off us).toArray) ∧ Inv g (upd s id (.box cs')) (w.setRow b (splice c.toList off us).toArray) := by
  obtain ⟨b, c, t, hb, hblk, hrep, hcell⟩ := hi.box id cs hid
  obtain ⟨hle, hrep'⟩ := putCells_rep hrep hr hp
  have hle' : off + us.length ≤ c.toList.length := hle
  refine ⟨b, c, t, hb, hblk, by simpa using hle, ?_⟩
  obtain ⟨hbb, hbs, hrgn, himm, _⟩ := hi.bxS id b hb
  have hsize : (splice c.toList off us).toArray.size = c.size := by simp [splice_length hle']
  have hs : ∀ i sz n xs cur lost fz, s i = some (.arr sz n xs cur lost fz) ↔ upd s id (.box cs') i = some (.arr sz n xs cur lost fz) := by
    intro i sz n xs cur lost fz
    by_cases h : i = id
    · subst h; simp [hid]
    · rw [upd_other _ _ h]
  have e : Ext g s w g (upd s id (.box cs')) (w.setRow b (splice c.toList off us).toArray) := by
    refine ⟨?_, fun _ _ h => h, ?_, ?_, rfl, Below.setRow hbb, fun _ _ _ h => h⟩
    · intro b' o' x h hx
      have : b' ≠ b := fun e => by subst e; exact himm _ h
      exact ⟨h, by rw [cell_setRow_ne this]; exact hx⟩
    · rintro i ep off' len capd b' o' cap ⟨sz, n, xs, cur, lost, fz, h1, h2⟩
      refine ⟨sz, n, xs, cur, lost, fz, (hs ..).1 h1, fun hl => ?_⟩
      obtain ⟨h3, st, m, h4, h5, h6, h7, h8⟩ := h2 hl
      exact ⟨h3, st, m, h4, h5, h6, fun hcd => by rw [setRow_bsize hblk hsize]; exact h7 hcd, h8⟩
    · rintro i ep j off' b' o' ⟨sz, n, xs, cur, lost, fz, h1, h2⟩
      exact ⟨sz, n, xs, cur, lost, fz, (hs ..).1 h1, h2⟩
  refine ⟨e, ?_, ?_, ?_, ?_, hi.inj, fun b' o' h => by simpa using hi.immS b' o' h, by simpa using hi.baseS,
    ho_keep hi.ho e (fun i h hh => upd_ho hh (by simp)) (fun i b' hb' hh => setRow_other _ _ _ _ (fun e => by subst e; have := hi.inj _ _ _ hb' hb; subst this; obtain ⟨_, hh⟩ := hh; rw [hid] at hh; simp at hh))⟩
  · intro i ds h
    by_cases hii : i = id
    · subst hii
      simp at h; subst h
      refine ⟨b, _, t, hb, setRow_heap w b c _ t _ hblk, by simpa [splice] using RepAs.ext e _ _ hrep', ?_⟩
      intro x hx
      have hx' : x ∈ splice c.toList off us := by simpa using hx
      unfold splice at hx'
      simp only [List.mem_append] at hx'
      rcases hx' with (hx' | hx') | hx'
      · exact hcell x (List.mem_of_mem_take hx')
      · exact hc x hx'
      · exact hcell x (List.mem_of_mem_drop hx')
    · rw [upd_other _ _ hii] at h
      obtain ⟨b2, c2, t2, h1, h2, h3, h4⟩ := hi.box i ds h
      have : b2 ≠ b := fun e => by subst e; exact hii (hi.inj _ _ _ h1 hb)
      exact ⟨b2, c2, t2, h1, by rw [setRow_other _ _ _ _ this]; exact h2, RepAs.ext e _ _ h3, h4⟩
  · intro i sz n xs cur lost fz h
    obtain ⟨h1, h2, h3, h4⟩ := hi.arr i sz n xs cur lost fz ((hs ..).2 h)
    refine ⟨h1, h2, h3, fun b2 st m hb2 => ?_⟩
    have : b2 ≠ b := fun e => by subst e; rw [hrgn] at hb2; simp at hb2
    obtain ⟨h5, c2, t2, vs, h6, h7, h8⟩ := h4 b2 st m hb2
    exact ⟨h5, c2, t2, vs, by rw [setRow_other _ _ _ _ this]; exact h6, RepAs.ext e _ _ h7, h8⟩
  · intro b2 i st m h
    obtain ⟨⟨sz, n, xs, cur, lost, fz, h1⟩, h2, h3⟩ := hi.rgS b2 i st m h
    exact ⟨⟨sz, n, xs, cur, lost, fz, (hs ..).1 h1⟩, h2, by simpa using h3⟩
  · intro i b2 h
    obtain ⟨h1, h2, h3, h4, h5⟩ := hi.bxS i b2 h
    refine ⟨h1, by simpa using h2, h3, h4, ?_⟩
    by_cases hii : i = id
    · subst hii; exact .inl ⟨cs', by simp⟩
    · rw [upd_other _ _ hii]; exact h5

/-- the cells of a value. -/
theorem cells_of {x : AVal} {v : Value} (hx : RepA g s w x v) (hj : x ≠ .junk) : RepAs g s w (cells x) v.cells.toList := by
  have one : ∀ {x : AVal} {v : Value}, RepA g s w x v → v.cells = #[v] → RepAs g s w [x] v.cells.toList := by
    intro x v hx hv
    rw [hv]
    exact ⟨v, [], rfl, hx, rfl⟩
  cases x with
  | junk => exact absurd rfl hj
  | p x =>
    cases x with
    | agg _ => obtain ⟨vs, rfl, h1, _⟩ := hx; simpa [cells, Value.cells] using mapP_rep h1
    | bool _ => have e : v = _ := hx; subst e; exact one (x := .p (.bool _)) rfl rfl
    | int _ _ => have e : v = _ := hx; subst e; exact one (x := .p (.int _ _)) rfl rfl
    | str _ => have hx' := hx; obtain ⟨_, rfl, _⟩ := hx'; exact one (x := .p (.str _)) hx rfl
    | nilp => have e : v = _ := hx; subst e; exact one (x := .p .nilp) rfl rfl
    | nils => have e : v = _ := hx; subst e; exact one (x := .p .nils) rfl rfl
    | nilm => have e : v = _ := hx; subst e; exact one (x := .p .nilm) rfl rfl
    | nilf => have e : v = _ := hx; subst e; exact one (x := .p .nilf) rfl rfl
    | nili => have e : v = _ := hx; subst e; exact one (x := .p .nili) rfl rfl
    | tup _ => have hx' := hx; obtain ⟨_, rfl, _⟩ := hx'; exact one (x := .p (.tup _)) hx rfl
    | iface _ _ => have hx' := hx; obtain ⟨_, rfl, _⟩ := hx'; exact one (x := .p (.iface _ _)) hx rfl
    | sl _ => have hx' := hx; obtain ⟨_, _, _, _, _, rfl, _⟩ := hx'; exact one (x := .p (.sl _)) hx rfl
    | ip _ => have hx' := hx; obtain ⟨_, _, _, rfl, _⟩ := hx'; exact one (x := .p (.ip _)) hx rfl
    | fn _ _ => have hx' := hx; obtain ⟨_, rfl, _⟩ := hx'; exact one (x := .p (.fn _ _)) hx rfl
  | agg _ => obtain ⟨vs, rfl, h1, _⟩ := hx; simpa [cells, Value.cells] using h1
  | own _ _ => exact hx.elim
  | ownm _ => exact hx.elim
  | tup _ => have hx' := hx; obtain ⟨_, rfl, _⟩ := hx'; exact one (x := .tup _) hx rfl
  | iface _ _ => have hx' := hx; obtain ⟨_, rfl, _⟩ := hx'; exact one (x := .iface _ _) hx rfl
  | cl _ => have hx' := hx; obtain ⟨_, _, _, _, rfl, _⟩ := hx'; exact one (x := .cl _) hx rfl
  | box _ _ => have hx' := hx; obtain ⟨_, _, rfl⟩ := hx'; exact one (x := .box _ _) hx rfl
  | arr _ _ _ _ _ => have hx' := hx; obtain ⟨_, _, _, rfl, _⟩ := hx'; exact one (x := .arr _ _ _ _ _) hx rfl
  | el _ _ _ _ => have hx' := hx; obtain ⟨_, _, rfl, _⟩ := hx'; exact one (x := .el _ _ _ _) hx rfl
  | fn _ _ => have hx' := hx; obtain ⟨_, rfl, _⟩ := hx'; exact one (x := .fn _ _) hx rfl
  | rf k _ => have hx' := hx; obtain ⟨_, _, rfl⟩ := hx'; exact one (x := .rf k _) hx (by cases k <;> rfl)

/-- an element with other cells. -/
theorem reform_rep {x : AVal} {v : Value} {cs : List AVal} {us : List Value} (hx : RepA g s w x v) (hj : x ≠ .junk) (hv : ∀ c ∈ v.cells.toList, isCell c = true)
    (hr : RepAs g s w cs us) (hc : ∀ c ∈ us, isCell c = true) (hl : us.length = v.cells.size) :
    ∃ u, RepA g s w (reform x cs) u ∧ u.cells.toList = us := by
  have ag : RepA g s w (mkAgg cs) (.agg us.toArray) ∧ (Value.agg us.toArray).cells.toList = us := ⟨mkAgg_rep hr hc, by simp [Value.cells]⟩
  have one : v.cells = #[v] → ∃ u, RepA g s w (cs.headD .junk) u ∧ u.cells.toList = us := by
    intro h1
    rw [h1] at hl
    match us, hl with
    | [u], _ =>
      match cs, hr with
      | [], hr => simp [RepAs] at hr
      | c :: cs, hr =>
        obtain ⟨y, ys, e, h2, h3⟩ := hr
        simp only [List.cons.injEq] at e
        obtain ⟨rfl, rfl⟩ := e
        have hcu := hc u (by simp)
        exact ⟨u, h2, by cases u <;> first | rfl | (simp [isCell] at hcu)⟩
  cases x with
  | junk => exact absurd rfl hj
  | p x =>
    cases x with
    | agg _ => exact ⟨_, ag.1, ag.2⟩
    | bool _ => have e : v = _ := hx; subst e; exact one rfl
    | int _ _ => have e : v = _ := hx; subst e; exact one rfl
    | str _ => obtain ⟨_, rfl, _⟩ := hx; exact one rfl
    | nilp => have e : v = _ := hx; subst e; exact one rfl
    | nils => have e : v = _ := hx; subst e; exact one rfl
    | nilm => have e : v = _ := hx; subst e; exact one rfl
    | nilf => have e : v = _ := hx; subst e; exact one rfl
    | nili => have e : v = _ := hx; subst e; exact one rfl
    | tup _ => obtain ⟨_, rfl, _⟩ := hx; exact one rfl
    | iface _ _ => obtain ⟨_, rfl, _⟩ := hx; exact one rfl
    | sl _ => obtain ⟨_, _, _, _, _, rfl, _⟩ := hx; exact one rfl
    | ip _ => obtain ⟨_, _, _, rfl, _⟩ := hx; exact one rfl
    | fn _ _ => obtain ⟨_, rfl, _⟩ := hx; exact one rfl
  | agg _ => exact ⟨_, ag.1, ag.2⟩
  | own _ _ => exact hx.elim
  | ownm _ => exact hx.elim
  | tup _ => obtain ⟨_, rfl, _⟩ := hx; exact one rfl
  | iface _ _ => obtain ⟨_, rfl, _⟩ := hx; exact one rfl
  | cl _ => obtain ⟨_, _, _, _, rfl, _⟩ := hx; exact one rfl
  | box _ _ => obtain ⟨_, _, rfl⟩ := hx; exact one rfl
  | arr _ _ _ _ _ => obtain ⟨_, _, _, rfl, _⟩ := hx; exact one rfl
  | el _ _ _ _ => obtain ⟨_, _, rfl, _⟩ := hx; exact one rfl
  | fn _ _ => obtain ⟨_, rfl, _⟩ := hx; exact one rfl
  | rf k _ => obtain ⟨_, _, rfl⟩ := hx; exact one (by cases k <;> rfl)

theorem flat_set {sz i : Nat} {vs : List Value} {v u : Value} (hs : ∀ x ∈ vs, x.cells.size = sz) (hi : vs[i]? = some v) {off : Nat} {us : List Value} (hle : off + us.length ≤ sz)
    (hu : u.cells.toList = splice v.cells.toList off us) : (vs.set i u).flatMap (·.cells.toList) = splice (vs.flatMap (·.cells.toList)) (i * sz + off) us := by
  have hlt := (List.getElem?_eq_some_iff.1 hi).1
  have hv := (List.getElem?_eq_some_iff.1 hi).2
  have hvsz : v.cells.toList.length = sz := by simpa using hs v (List.mem_of_getElem? hi)
  have e1 : vs.set i u = vs.take i ++ u :: vs.drop (i + 1) := by rw [List.set_eq_take_append_cons_drop, if_pos hlt]
  have e2 : vs = vs.take i ++ v :: vs.drop (i + 1) := by
    rw [← hv, List.getElem_cons_drop, List.take_append_drop]
  have l1 : ((vs.take i).flatMap (·.cells.toList)).length = i * sz := by
    rw [flat_length (fun x hx => hs x (List.mem_of_mem_take hx))]
    simp [Nat.min_eq_left (Nat.le_of_lt hlt)]
  have := splice_mid ((vs.take i).flatMap (·.cells.toList)) v.cells.toList ((vs.drop (i + 1)).flatMap (·.cells.toList)) us off (by omega)
  rw [l1] at this
  conv => rhs; rw [e2]
  simp only [List.flatMap_append, List.flatMap_cons]
  rw [← List.append_assoc, this, e1]
  simp [hu]

/-- what is written into an element. -/
theorem store_el (hi : Inv g s w) {id ep i off b o : Nat} {sz n : Nat} {xs xs' : List AVal} {lost fz : Nat} {e : AVal} {new cs' : List AVal} (hid : s id = some (.arr sz n xs ep lost fz))
    (hel : ElOk g s id ep i off b o) {us : List Value} (hr : RepAs g s w new us) (hc : ∀ x ∈ us, isCell x = true) (hfz : fz ≤ i) (he : xs[i]? = some e) (hj : e ≠ .junk)
    (hp : putCells (cells e) off new = some cs') (hxs : xs' = xs.set i (reform e cs')) :
    ∃ c t g', w.heap[b]? = some (.cells c t (0, 0)) ∧ o + us.length ≤ c.size ∧
      Ext g s w g' (upd s id (.arr sz n xs' ep ep fz)) (w.setRow b (splice c.toList o us).toArray) ∧ Inv g' (upd s id (.arr sz n xs' ep ep fz)) (w.setRow b (splice c.toList o us).toArray) := by
  subst hxs
  obtain ⟨sz2, n2, xs2, cur2, lost2, fz2, h1, h2⟩ := hel
  rw [hid] at h1
  simp at h1
  obtain ⟨rfl, rfl, rfl, rfl, rfl, rfl⟩ := h1
  obtain ⟨hn, hlc, hfn, harr⟩ := hi.arr id _ _ _ _ _ _ hid
  obtain ⟨_, st, m, hrg, him, ho, hcb⟩ := h2 hlc
  have hcb := hcb rfl
  obtain ⟨hmn, c, t, vs, hblk, hrep, hstr, hflat, himm, hroom⟩ := harr b st m hrg
  obtain ⟨_, hbb, hbs⟩ := hi.rgS _ _ _ _ hrg
  have hstr' : ∀ x ∈ vs, x.cells.size = sz := fun x hx => (hstr x hx).1
  have het : (xs.take m)[i]? = some e := by rw [List.getElem?_take, if_pos him]; exact he
  obtain ⟨v, hv, hev⟩ := hrep.get het
  have hvm := List.mem_of_getElem? hv
  obtain ⟨hle, hrep2⟩ := putCells_rep (cells_of hev hj) hr hp
  have hvsz : v.cells.toList.length = sz := by simpa using (hstr v hvm).1
  have hcc : ∀ x ∈ splice v.cells.toList off us, isCell x = true := by
    intro x hx
    unfold splice at hx
    simp only [List.mem_append] at hx
    rcases hx with (hx | hx) | hx
    · exact (hstr v hvm).2 x (List.mem_of_mem_take hx)
    · exact hc x hx
    · exact (hstr v hvm).2 x (List.mem_of_mem_drop hx)
  obtain ⟨u, hu1, hu2⟩ := reform_rep hev hj (hstr v hvm).2 hrep2 hcc (by rw [← Array.length_toList]; exact splice_length hle)
  have hlenF := flat_length hstr'
  have hvlen : vs.length = m := by rw [RepAs.length hrep]; simp; omega
  have hFle : i * sz + off + us.length ≤ (vs.flatMap (·.cells.toList)).length := by
    rw [hlenF, hvlen]
    have : (i + 1) * sz ≤ m * sz := Nat.mul_le_mul_right _ him
    rw [Nat.add_mul] at this
    omega
  rw [hlenF, hvlen] at hFle
  have hoc : o + us.length ≤ c.toList.length := by simp; omega
  have hsize : (splice c.toList o us).toArray.size = c.size := by simp [splice_length hoc]
  have hrgid : ∀ b2 st2 m2, g.rg b2 = some (id, st2, m2) → b2 = b → st2 = st ∧ m2 = m := by
    intro b2 st2 m2 h e; subst e; rw [hrg] at h; simp at h; exact ⟨h.1.symm, h.2.symm⟩
  let g' : Sg := { g with rg := fun b2 => if b2 = b then some (id, st, m) else match g.rg b2 with
    | some (i2, st2, m2) => if i2 = id then none else some (i2, st2, m2)
    | none => none }
  have hrg'b : g'.rg b = some (id, st, m) := by simp [g']
  have hrg' : ∀ b2 i2 st2 m2, i2 ≠ id → (g'.rg b2 = some (i2, st2, m2) ↔ g.rg b2 = some (i2, st2, m2)) := by
    intro b2 i2 st2 m2 hne
    by_cases hb2 : b2 = b
    · subst hb2
      rw [hrg'b, hrg]
    · simp only [g', hb2, if_false]
      cases hq : g.rg b2 with
      | none => simp
      | some r =>
        obtain ⟨i3, st3, m3⟩ := r
        by_cases h3 : i3 = id
        · subst h3; simp; intro h; exact absurd h.symm hne
        · simp [h3]
  have hrg'i : ∀ b2 st2 m2, g'.rg b2 = some (id, st2, m2) → b2 = b ∧ st2 = st ∧ m2 = m := by
    intro b2 st2 m2 h
    by_cases hb2 : b2 = b
    · subst hb2; rw [hrg'b] at h; simp at h; exact ⟨rfl, h.1.symm, h.2.symm⟩
    · simp only [g', hb2, if_false] at h
      cases hq : g.rg b2 with
      | none => simp [hq] at h
      | some r =>
        obtain ⟨i3, st3, m3⟩ := r
        simp only [hq] at h
        split at h
        · simp at h
        · rename_i h3; simp at h; exact absurd h.1 h3
  have hother : ∀ i2 x, i2 ≠ id → (upd s id (.arr sz n (xs.set i (reform e cs')) ep ep fz) i2 = some x ↔ s i2 = some x) := fun i2 x h => by rw [upd_other _ _ h]
  have e1 : Ext g s w g' (upd s id (.arr sz n (xs.set i (reform e cs')) ep ep fz)) (w.setRow b (splice c.toList o us).toArray) := by
    refine ⟨?_, fun _ _ h => h, ?_, ?_, rfl, Below.setRow hbb, fun _ _ _ h => h⟩
    · intro b' o' x h hx
      refine ⟨h, ?_⟩
      by_cases hb' : b' = b
      · subst hb'
        rw [cell_setRow hblk]
        rw [cell_of_block hblk] at hx
        have h3 := himm o' h
        have h4 : fz * sz ≤ i * sz := Nat.mul_le_mul_right _ hfz
        rw [List.getElem?_toArray, splice_get hoc, if_pos (by omega)]
        simpa using hx
      · rw [cell_setRow_ne hb']; exact hx
    · rintro i2 ep2 off2 len2 capd2 b2 o2 cap2 ⟨sz2, n2, xs2, cur2, lost2, fz2, h1, h3⟩
      by_cases hii : i2 = id
      · subst hii
        rw [hid] at h1
        simp at h1
        obtain ⟨rfl, rfl, rfl, rfl, rfl, rfl⟩ := h1
        refine ⟨_, _, _, _, _, _, upd_same _ _ _, fun hl => ?_⟩
        obtain ⟨h4, st2, m2, h5, h6, h7, h8, h9⟩ := h3 (Nat.le_trans hlc hl)
        have hep : ep2 = ep := by omega
        have hb2 : b = b2 := by rw [← hcb]; exact h9 hep
        subst hb2
        obtain ⟨rfl, rfl⟩ := hrgid _ _ _ h5 rfl
        exact ⟨h4, _, _, hrg'b, h6, h7, fun hcd => by rw [setRow_bsize hblk hsize]; exact h8 hcd, h9⟩
      · refine ⟨_, _, _, _, _, _, (hother _ _ hii).2 h1, fun hl => ?_⟩
        obtain ⟨h4, st2, m2, h5, h6, h7, h8, h9⟩ := h3 hl
        exact ⟨h4, st2, m2, (hrg' _ _ _ _ hii).2 h5, h6, h7, fun hcd => by rw [setRow_bsize hblk hsize]; exact h8 hcd, h9⟩
    · rintro i2 ep2 j2 off2 b2 o2 ⟨sz2, n2, xs2, cur2, lost2, fz2, h1, h3⟩
      by_cases hii : i2 = id
      · subst hii
        rw [hid] at h1
        simp at h1
        obtain ⟨rfl, rfl, rfl, rfl, rfl, rfl⟩ := h1
        refine ⟨_, _, _, _, _, _, upd_same _ _ _, fun hl => ?_⟩
        obtain ⟨h4, st2, m2, h5, h6, h7, h8⟩ := h3 (Nat.le_trans hlc hl)
        have hep : ep2 = ep := by omega
        have hb2 : b = b2 := by rw [← hcb]; exact h8 hep
        subst hb2
        obtain ⟨rfl, rfl⟩ := hrgid _ _ _ h5 rfl
        exact ⟨h4, _, _, hrg'b, h6, h7, h8⟩
      · refine ⟨_, _, _, _, _, _, (hother _ _ hii).2 h1, fun hl => ?_⟩
        obtain ⟨h4, st2, m2, h5, h6, h7, h8⟩ := h3 hl
        exact ⟨h4, st2, m2, (hrg' _ _ _ _ hii).2 h5, h6, h7, h8⟩
  refine ⟨c, t, g', hblk, by simpa using hoc, e1, ?_, ?_, ?_, ?_, hi.inj, fun b' o' h => by simpa using hi.immS b' o' h, by simpa using hi.baseS,
    ho_keep hi.ho e1 (fun i h hh => upd_ho hh (by simp)) (fun i b' hb' _ => setRow_other _ _ _ _ (fun e => by subst e; have := (hi.bxS _ _ hb').2.2.1; rw [hrg] at this; simp at this))⟩
  · intro i2 ds h
    have hii : i2 ≠ id := fun e => by subst e; simp at h
    obtain ⟨b2, c2, t2, h3, h4, h5, h6⟩ := hi.box i2 ds ((hother _ _ hii).1 h)
    have hb2 : b2 ≠ b := fun e => by subst e; have := (hi.bxS _ _ h3).2.2.1; rw [hrg] at this; simp at this
    exact ⟨b2, c2, t2, h3, by rw [setRow_other _ _ _ _ hb2]; exact h4, RepAs.ext e1 _ _ h5, h6⟩
  · intro i2 sz2 n2 xs2 cur2 lost2 fz2 h
    by_cases hii : i2 = id
    · subst hii
      simp at h
      obtain ⟨rfl, rfl, rfl, rfl, rfl, rfl⟩ := h
      refine ⟨by simpa using hn, Nat.le_refl _, hfn, fun b2 st2 m2 hb2 => ?_⟩
      obtain ⟨rfl, rfl, rfl⟩ := hrg'i _ _ _ hb2
      have hset : (xs.set i (reform e cs')).take m2 = (xs.take m2).set i (reform e cs') := by rw [List.take_set]
      refine ⟨hmn, _, t, vs.set i u, setRow_heap w b2 c _ t _ hblk, ?_, ?_, ?_, himm, by simpa [splice_length hoc] using hroom⟩
      · rw [hset]; exact RepAs.ext e1 _ _ (hrep.set hu1)
      · intro x hx
        rcases List.mem_or_eq_of_mem_set hx with hx | rfl
        · exact hstr x hx
        · have hu3 : x.cells.toList = splice v.cells.toList off us := hu2
          refine ⟨by rw [← Array.length_toList, hu3, splice_length hle, hvsz], fun y hy => hcc y (by rw [← hu3]; exact hy)⟩
      · intro j x hj'
        rw [flat_set hstr' hv (by rw [← hvsz]; exact hle) hu2] at hj'
        have := splice_within (l := vs.flatMap (·.cells.toList)) (c := c.toList) (st := st2) (by rw [hlenF, hvlen]; exact hFle) (by rw [← Nat.add_assoc, ← ho]; exact hoc)
          (fun j x h => by simpa using hflat j x h) j x hj'
        rw [← Nat.add_assoc, ← ho] at this
        simpa using this
    · obtain ⟨h3, h4, h5, h6⟩ := hi.arr i2 sz2 n2 xs2 cur2 lost2 fz2 ((hother _ _ hii).1 h)
      refine ⟨h3, h4, h5, fun b2 st2 m2 hb2 => ?_⟩
      have hb2' := (hrg' _ _ _ _ hii).1 hb2
      have hbb2 : b2 ≠ b := fun e => by subst e; rw [hrg] at hb2'; simp at hb2'; exact hii hb2'.1.symm
      obtain ⟨h7, c2, t2, vs2, h8, h9, h10⟩ := h6 b2 st2 m2 hb2'
      exact ⟨h7, c2, t2, vs2, by rw [setRow_other _ _ _ _ hbb2]; exact h8, RepAs.ext e1 _ _ h9, h10⟩
  · intro b2 i2 st2 m2 h
    by_cases hii : i2 = id
    · subst hii
      obtain ⟨rfl, rfl, rfl⟩ := hrg'i _ _ _ h
      exact ⟨⟨_, _, _, _, _, _, upd_same _ _ _⟩, hbb, by simpa using hbs⟩
    · obtain ⟨⟨sz2, n2, xs2, cur2, lost2, fz2, h3⟩, h4, h5⟩ := hi.rgS b2 i2 st2 m2 ((hrg' _ _ _ _ hii).1 h)
      exact ⟨⟨_, _, _, _, _, _, (hother _ _ hii).2 h3⟩, h4, by simpa using h5⟩
  · intro i2 b2 h
    obtain ⟨h3, h4, h5, h6, h7⟩ := hi.bxS i2 b2 h
    have hb2 : b2 ≠ b := fun e => by subst e; rw [hrg] at h5; simp at h5
    refine ⟨h3, by simpa using h4, by simp [g', hb2, h5], h6, ?_⟩
    have hii : i2 ≠ id := fun e => by subst e; rcases h7 with ⟨_, h7⟩ | ⟨_, h7⟩ <;> rw [hid] at h7 <;> simp at h7
    rw [upd_other _ _ hii]; exact h7

end
end Go.Proofs.YtceccojmekpneaaGreatDoor.Sw
