/- New memory. -/
import Derived.Test.YtceccojmekpneaaGreatDoorSwJ
namespace Go.Proofs.YtceccojmekpneaaGreatDoor.Sw
open Go.RowKit

def upd (s : Sto) (id : Nat) (o : Obj) : Sto := fun i => if i = id then some o else s i

theorem upd_ho {s : Sto} {id i : Nat} {o : Obj} {h : HObj} (hh : upd s id o i = some (.ho h)) (hn : ∀ h, o ≠ .ho h) : s i = some (.ho h) := by
  unfold upd at hh
  split at hh
  · simp at hh; exact absurd hh (hn h)
  · exact hh

@[simp] theorem upd_same (s : Sto) (id : Nat) (o : Obj) : upd s id o id = some o := by simp [upd]
theorem upd_other (s : Sto) {id i : Nat} (o : Obj) (h : i ≠ id) : upd s id o i = s i := by simp [upd, h]

theorem flat_length {sz : Nat} : ∀ {vs : List Value}, (∀ x ∈ vs, x.cells.size = sz) → (vs.flatMap (·.cells.toList)).length = vs.length * sz
  | [], _ => by simp
  | v :: vs, h => by
    have hv := h v (by simp)
    have ih := flat_length (vs := vs) (fun x hx => h x (by simp [hx]))
    simp only [List.flatMap_cons, List.length_append, ih, List.length_cons, Nat.add_mul]
    simp [hv]; omega

section
variable {g g' : Sg} {s s' : Sto} {w : World}

theorem heap_alloc_lt (w : World) (o : Go.Obj) {b : Nat} (h : b < w.heap.size) : (w.alloc o).heap[b]? = w.heap[b]? := Below.heap_alloc w o b h
theorem heap_alloc_new (w : World) (o : Go.Obj) : (w.alloc o).heap[w.heap.size]? = some o := by
  show (w.heap.push o)[w.heap.size]? = some o
  simp
theorem bsize_alloc (w : World) (o : Go.Obj) {b : Nat} (h : b < w.heap.size) : World.bsize (w.alloc o) b = World.bsize w b := by
  unfold World.bsize; rw [heap_alloc_lt w o h]

theorem cell_of_block {w : World} {b o : Nat} {c : Array Value} {t : TypeId} {f : Nat × Nat} (h : w.heap[b]? = some (.cells c t f)) : w.cell? ⟨b, o, none⟩ = c[o]? := by
  simp [World.cell?, h]

/-- a new block, and names that are given a meaning. -/
theorem Ext.alloc (hi : Inv g s w) (o : Go.Obj) (hs : ∀ id x, s id = some x → s' id = some x) (himm : ∀ b o, g.imm b o → g'.imm b o) (hbx : ∀ id b, g.bx id = some b → g'.bx id = some b)
    (hrg : ∀ b r, g.rg b = some r → g'.rg b = some r) (hcb : ∀ id x, s id = some x → g'.cb id = g.cb id) (hb : g'.base = g.base)
    (hib : ∀ b o, b < g.base → g'.imm b o → g.imm b o) : Ext g s w g' s' (w.alloc o) where
  keeps := fun b o' c h hc => ⟨himm b o' h, by rw [World.cell?_alloc_lt w _ _ (hi.immS b o' h)]; exact hc⟩
  bx := hbx
  view := by
    rintro id ep off len capd b o' cap ⟨sz, n, xs, cur, lost, fz, h1, h2⟩
    refine ⟨sz, n, xs, cur, lost, fz, hs _ _ h1, fun hl => ?_⟩
    obtain ⟨h3, st, m, h4, h5, h6, h7, h8⟩ := h2 hl
    refine ⟨h3, st, m, hrg _ _ h4, h5, h6, fun hc => ?_, fun hc => by rw [hcb _ _ h1]; exact h8 hc⟩
    rw [bsize_alloc _ _ (hi.rgS _ _ _ _ h4).2.2]
    exact h7 hc
  el := by
    rintro id ep i off b o' ⟨sz, n, xs, cur, lost, fz, h1, h2⟩
    refine ⟨sz, n, xs, cur, lost, fz, hs _ _ h1, fun hl => ?_⟩
    obtain ⟨h3, st, m, h4, h5, h6, h7⟩ := h2 hl
    exact ⟨h3, st, m, hrg _ _ h4, h5, h6, fun hc => by rw [hcb _ _ h1]; exact h7 hc⟩
  base := hb
  below := (Below.refl _ _).alloc hi.baseS o
  immB := hib

/-- a draw changes nothing. -/
theorem Ext.drew (g : Sg) (s : Sto) (w : World) : Ext g s w g s w.drew where
  keeps := fun _ _ _ h hc => ⟨h, hc⟩
  bx := fun _ _ h => h
  view := fun _ _ _ _ _ _ _ _ h => h
  el := fun _ _ _ _ _ _ h => h
  base := rfl
  below := (Below.refl _ _).drew
  immB := fun _ _ _ h => h

theorem Inv.drew (hi : Inv g s w) : Inv g s w.drew := by
  have e := Ext.drew g s w
  refine ⟨?_, ?_, hi.rgS, hi.bxS, hi.inj, hi.immS, hi.baseS, ho_keep hi.ho e (fun _ _ h => h) (fun _ _ _ _ => rfl)⟩
  · intro id cs h
    obtain ⟨b, c, t, h1, h2, h3, h4⟩ := hi.box id cs h
    exact ⟨b, c, t, h1, h2, RepAs.ext e _ _ h3, h4⟩
  · intro id sz n xs cur lost fz h
    obtain ⟨h1, h2, h3, h4⟩ := hi.arr id sz n xs cur lost fz h
    refine ⟨h1, h2, h3, fun b st m hb => ?_⟩
    obtain ⟨h5, c, t, vs, h6, h7, h8⟩ := h4 b st m hb
    exact ⟨h5, c, t, vs, h6, RepAs.ext e _ _ h7, h8⟩

/-- a new box. -/
theorem new_box (hi : Inv g s w) {id : Nat} (hid : s id = none) {cs : List AVal} {c : Array Value} {t : TypeId} (hr : RepAs g s w cs c.toList) (hc : ∀ x ∈ c.toList, isCell x = true) :
    ∃ g', Ext g s w g' (upd s id (.box cs)) (w.alloc (.cells c t)) ∧ Inv g' (upd s id (.box cs)) (w.alloc (.cells c t)) ∧
      RepA g' (upd s id (.box cs)) (w.alloc (.cells c t)) (.box id 0) (.pointer (some ⟨w.heap.size, 0, none⟩)) := by
  have hbn : g.bx id = none := by
    cases hb : g.bx id with
    | none => rfl
    | some b =>
      rcases (hi.bxS id b hb).2.2.2.2 with ⟨cs, h⟩ | ⟨es, h⟩ <;> rw [hid] at h <;> simp at h
  let g' : Sg := { g with bx := fun i => if i = id then some w.heap.size else g.bx i }
  have hs : ∀ i x, s i = some x → upd s id (.box cs) i = some x := fun i x h => by
    rw [upd_other _ _ (fun e => by subst e; rw [hid] at h; simp at h)]; exact h
  have hbx : ∀ i b, g.bx i = some b → g'.bx i = some b := fun i b h => by
    have : i ≠ id := fun e => by subst e; rw [hbn] at h; simp at h
    simp [g', this, h]
  have e : Ext g s w g' (upd s id (.box cs)) (w.alloc (.cells c t)) := Ext.alloc hi _ hs (fun _ _ h => h) hbx (fun _ _ h => h) (fun _ _ _ => rfl) rfl (fun _ _ _ h => h)
  refine ⟨g', e, ?_, ⟨w.heap.size, by simp [g'], rfl⟩⟩
  refine ⟨?_, ?_, ?_, ?_, ?_, ?_, ?_, ho_keep hi.ho e (fun i h hh => upd_ho hh (by simp)) (fun i b' hb' _ => heap_alloc_lt _ _ (hi.bxS _ _ hb').2.1)⟩
  · intro i cs' h
    by_cases hii : i = id
    · subst hii
      simp at h; subst h
      exact ⟨w.heap.size, c, t, by simp [g'], heap_alloc_new w _, RepAs.ext e _ _ hr, hc⟩
    · rw [upd_other _ _ hii] at h
      obtain ⟨b, c', t', h1, h2, h3, h4⟩ := hi.box i cs' h
      exact ⟨b, c', t', hbx _ _ h1, by rw [heap_alloc_lt _ _ (hi.bxS _ _ h1).2.1]; exact h2, RepAs.ext e _ _ h3, h4⟩
  · intro i sz n xs cur lost fz h
    have hii : i ≠ id := fun e => by subst e; simp at h
    rw [upd_other _ _ hii] at h
    obtain ⟨h1, h2, h3, h4⟩ := hi.arr i sz n xs cur lost fz h
    refine ⟨h1, h2, h3, fun b st m hb => ?_⟩
    obtain ⟨h5, c', t', vs, h6, h7, h8⟩ := h4 b st m hb
    exact ⟨h5, c', t', vs, by rw [heap_alloc_lt _ _ (hi.rgS _ _ _ _ hb).2.2]; exact h6, RepAs.ext e _ _ h7, h8⟩
  · intro b i st m hb
    obtain ⟨⟨sz, n, xs, cur, lost, fz, h1⟩, h2, h3⟩ := hi.rgS b i st m hb
    exact ⟨⟨sz, n, xs, cur, lost, fz, hs _ _ h1⟩, h2, by simp; omega⟩
  · intro i b hb
    by_cases hii : i = id
    · subst hii
      simp [g'] at hb
      subst hb
      refine ⟨hi.baseS, by simp, ?_, fun o ho => ?_, .inl ⟨cs, by simp⟩⟩
      · cases hr' : g.rg w.heap.size with
        | none => rfl
        | some r => obtain ⟨a, b, c⟩ := r; have := (hi.rgS _ _ _ _ hr').2.2; omega
      · have := hi.immS _ _ ho; omega
    · simp [g', hii] at hb
      obtain ⟨h1, h2, h3, h4, h5⟩ := hi.bxS i b hb
      refine ⟨h1, by simp; omega, h3, h4, ?_⟩
      rcases h5 with ⟨cs', h5⟩ | ⟨es, h5⟩
      · exact .inl ⟨cs', hs _ _ h5⟩
      · exact .inr ⟨es, hs _ _ h5⟩
  · intro i j b h1 h2
    by_cases hii : i = id
    · subst hii
      by_cases hjj : j = i
      · exact hjj.symm
      · simp [g', hjj] at h1 h2
        subst h1
        have := (hi.bxS j _ h2).2.1; omega
    · by_cases hjj : j = id
      · subst hjj
        simp [g', hii] at h1 h2
        subst h2
        have := (hi.bxS i _ h1).2.1; omega
      · simp [g', hii, hjj] at h1 h2
        exact hi.inj i j b h1 h2
  · intro b o h
    have := hi.immS b o h
    simp; omega
  · simp; have := hi.baseS; show g.base ≤ _; omega

/-- a new array, with room behind. -/
theorem new_arr (hi : Inv g s w) {id : Nat} (hid : s id = none) {sz : Nat} {xs : List AVal} {vs : List Value} {rest : List Value} {t : TypeId} (hr : RepAs g s w xs vs)
    (hv : ∀ v ∈ vs, v.cells.size = sz ∧ ∀ x ∈ v.cells.toList, isCell x = true) {cap : Nat} {capd : Bool} (hcap : xs.length ≤ cap) (hc : capd = true → cap = xs.length)
    (hroom : capd = false → cap * sz ≤ (vs.flatMap (·.cells.toList) ++ rest).length) :
    ∃ g', Ext g s w g' (upd s id (.arr sz xs.length xs 0 0 0)) (w.alloc (.cells (vs.flatMap (·.cells.toList) ++ rest).toArray t)) ∧
      Inv g' (upd s id (.arr sz xs.length xs 0 0 0)) (w.alloc (.cells (vs.flatMap (·.cells.toList) ++ rest).toArray t)) ∧
      RepA g' (upd s id (.arr sz xs.length xs 0 0 0)) (w.alloc (.cells (vs.flatMap (·.cells.toList) ++ rest).toArray t)) (.arr id 0 0 xs.length capd) (.slice (some ⟨w.heap.size, 0, none⟩) xs.length cap) := by
  generalize ha : (vs.flatMap (·.cells.toList) ++ rest).toArray = arr
  have hrgn : g.rg w.heap.size = none := by
    cases hr' : g.rg w.heap.size with
    | none => rfl
    | some r => obtain ⟨a, b, c⟩ := r; have := (hi.rgS _ _ _ _ hr').2.2; omega
  let g' : Sg := { g with rg := fun b => if b = w.heap.size then some (id, 0, xs.length) else g.rg b, cb := fun i => if i = id then w.heap.size else g.cb i }
  have hs : ∀ i x, s i = some x → upd s id (.arr sz xs.length xs 0 0 0) i = some x := fun i x h => by
    rw [upd_other _ _ (fun e => by subst e; rw [hid] at h; simp at h)]; exact h
  have hrg : ∀ b r, g.rg b = some r → g'.rg b = some r := fun b r h => by
    have : b ≠ w.heap.size := fun e => by subst e; rw [hrgn] at h; simp at h
    simp [g', this, h]
  have hcb : ∀ i x, s i = some x → g'.cb i = g.cb i := fun i x h => by
    have : i ≠ id := fun e => by subst e; rw [hid] at h; simp at h
    simp [g', this]
  have e : Ext g s w g' (upd s id (.arr sz xs.length xs 0 0 0)) (w.alloc (.cells arr t)) := Ext.alloc hi _ hs (fun _ _ h => h) (fun _ _ h => h) hrg hcb rfl (fun _ _ _ h => h)
  refine ⟨g', e, ?_, ?_⟩
  · refine ⟨?_, ?_, ?_, ?_, hi.inj, ?_, ?_, ho_keep hi.ho e (fun i h hh => upd_ho hh (by simp)) (fun i b' hb' _ => heap_alloc_lt _ _ (hi.bxS _ _ hb').2.1)⟩
    · intro i cs' h
      have hii : i ≠ id := fun e => by subst e; simp at h
      rw [upd_other _ _ hii] at h
      obtain ⟨b, c', t', h1, h2, h3, h4⟩ := hi.box i cs' h
      exact ⟨b, c', t', h1, by rw [heap_alloc_lt _ _ (hi.bxS _ _ h1).2.1]; exact h2, RepAs.ext e _ _ h3, h4⟩
    · intro i sz' n xs' cur lost fz h
      by_cases hii : i = id
      · subst hii
        simp at h
        obtain ⟨rfl, rfl, rfl, rfl, rfl, rfl⟩ := h
        refine ⟨rfl, Nat.le_refl _, by omega, fun b st m hb => ?_⟩
        by_cases hbb : b = w.heap.size
        · subst hbb
          simp [g'] at hb
          obtain ⟨rfl, rfl⟩ := hb
          refine ⟨Nat.le_refl _, arr, t, vs, heap_alloc_new w _, ?_, hv, fun i x hx => ?_, fun o ho => ?_, ?_⟩
          · rw [List.take_length]; exact RepAs.ext e _ _ hr
          · rw [← ha]
            have hlt := (List.getElem?_eq_some_iff.1 hx).1
            simp only [Nat.zero_add, List.getElem?_toArray]
            rw [List.getElem?_append_left hlt]; exact hx
          · have := hi.immS _ _ ho; omega
          · rw [← ha]
            have := flat_length (sz := sz) (fun v hv' => (hv v hv').1)
            simp [this, RepAs.length hr]
        · simp [g', hbb] at hb
          obtain ⟨⟨_, _, _, _, _, _, h⟩, _, _⟩ := hi.rgS _ _ _ _ hb
          rw [hid] at h; simp at h
      · rw [upd_other _ _ hii] at h
        obtain ⟨h1, h2, h3, h4⟩ := hi.arr i sz' n xs' cur lost fz h
        refine ⟨h1, h2, h3, fun b st m hb => ?_⟩
        have hbb : b ≠ w.heap.size := fun e => by subst e; simp [g'] at hb; exact hii hb.1.symm
        simp [g', hbb] at hb
        obtain ⟨h5, c', t', vs', h6, h7, h8⟩ := h4 b st m hb
        exact ⟨h5, c', t', vs', by rw [heap_alloc_lt _ _ (hi.rgS _ _ _ _ hb).2.2]; exact h6, RepAs.ext e _ _ h7, h8⟩
    · intro b i st m hb
      by_cases hbb : b = w.heap.size
      · subst hbb
        simp [g'] at hb
        obtain ⟨rfl, rfl, rfl⟩ := hb
        exact ⟨⟨_, _, _, _, _, _, upd_same _ _ _⟩, hi.baseS, by simp⟩
      · simp [g', hbb] at hb
        obtain ⟨⟨sz', n, xs', cur, lost, fz, h1⟩, h2, h3⟩ := hi.rgS b i st m hb
        exact ⟨⟨sz', n, xs', cur, lost, fz, hs _ _ h1⟩, h2, by simp; omega⟩
    · intro i b hb
      obtain ⟨h1, h2, h3, h4, h5⟩ := hi.bxS i b hb
      refine ⟨h1, by simp; omega, ?_, h4, ?_⟩
      · have : b ≠ w.heap.size := by omega
        simp [g', this, h3]
      · rcases h5 with ⟨cs', h5⟩ | ⟨es, h5⟩
        · exact .inl ⟨cs', hs _ _ h5⟩
        · exact .inr ⟨es, hs _ _ h5⟩
    · intro b o h
      have := hi.immS b o h
      simp; omega
    · simp; have := hi.baseS; show g.base ≤ _; omega
  · refine ⟨w.heap.size, 0, cap, rfl, hcap, hc, sz, xs.length, xs, 0, 0, 0, upd_same _ _ _, fun _ => ⟨Nat.le_refl _, 0, xs.length, by simp [g'], by simp, by simp, fun hcd => ?_, fun _ => by simp [g']⟩⟩
    have := hroom hcd
    unfold World.bsize
    rw [heap_alloc_new]
    simp only [← ha]
    simpa using this

end
end Go.Proofs.YtceccojmekpneaaGreatDoor.Sw
