/- Appending in place. -/
import Derived.Test.YtceccojmekpneaaGreatDoorSwM
namespace Go.Proofs.YtceccojmekpneaaGreatDoor.Sw
open Go.RowKit

section
variable {g : Sg} {s : Sto} {w : World}

/-- new elements are written behind so many: into the room behind the view. len: so many stay. -/
theorem append_at (hi : Inv g s w) {id ep len b o cap : Nat} {sz n : Nat} {xs : List AVal} {cur lost fz : Nat} {ys : List AVal} {us : List Value} (hid : s id = some (.arr sz n xs cur lost fz))
    (hv : ViewOk g s w id ep 0 len false b o cap) (hl : lost ≤ ep) (hr : RepAs g s w ys us) (hu : ∀ v ∈ us, v.cells.size = sz ∧ ∀ x ∈ v.cells.toList, isCell x = true)
    (hlen : len ≤ n) (hfz : fz ≤ len) (hroom : len + ys.length ≤ cap) (hne : 0 < ys.length) {lost' : Nat} (hlost : (len = n ∧ lost' = lost) ∨ lost' = cur + 1) :
    ∃ c t g', w.heap[b]? = some (.cells c t (0, 0)) ∧ o + len * sz + (us.flatMap (·.cells.toList)).length ≤ c.size ∧
      Ext g s w g' (upd s id (.arr sz (len + ys.length) (xs.take len ++ ys) (cur + 1) lost' fz)) (w.setRow b (splice c.toList (o + len * sz) (us.flatMap (·.cells.toList))).toArray) ∧
      Inv g' (upd s id (.arr sz (len + ys.length) (xs.take len ++ ys) (cur + 1) lost' fz)) (w.setRow b (splice c.toList (o + len * sz) (us.flatMap (·.cells.toList))).toArray) ∧
      RepA g' (upd s id (.arr sz (len + ys.length) (xs.take len ++ ys) (cur + 1) lost' fz)) (w.setRow b (splice c.toList (o + len * sz) (us.flatMap (·.cells.toList))).toArray)
        (.arr id (cur + 1) 0 (len + ys.length) false) (.slice (some ⟨b, o, none⟩) (len + ys.length) cap) := by
  obtain ⟨sz2, n2, xs2, cur2, lost2, fz2, h1, h2⟩ := hv
  rw [hid] at h1
  simp at h1
  obtain ⟨rfl, rfl, rfl, rfl, rfl, rfl⟩ := h1
  obtain ⟨hn, hlc, hfn, harr⟩ := hi.arr id _ _ _ _ _ _ hid
  obtain ⟨hec, st, m, hrg, ho, hom, hcap, hcb⟩ := h2 hl
  have hcap := hcap rfl
  simp only [Nat.zero_mul, Nat.add_zero] at ho
  subst ho
  simp only [Nat.zero_add] at hom
  obtain ⟨hmn, c, t, vs, hblk, hrep, hstr, hflat, himm, hreg⟩ := harr b o m hrg
  obtain ⟨_, hbb, hbs⟩ := hi.rgS _ _ _ _ hrg
  have hstr' : ∀ x ∈ vs, x.cells.size = sz := fun x hx => (hstr x hx).1
  have hu' : ∀ x ∈ us, x.cells.size = sz := fun x hx => (hu x hx).1
  have hul : us.length = ys.length := RepAs.length hr
  have hFl := flat_length hu'
  rw [hul] at hFl
  have hvlen : vs.length = m := by rw [RepAs.length hrep]; simp; omega
  have hbsz : World.bsize w b = c.size := by unfold World.bsize; rw [hblk]
  have hoc : o + len * sz + (us.flatMap (·.cells.toList)).length ≤ c.toList.length := by
    have h3 : (len + ys.length) * sz ≤ cap * sz := Nat.mul_le_mul_right _ hroom
    rw [Nat.add_mul] at h3
    rw [hbsz] at hcap
    have hct : c.toList.length = c.size := Array.length_toList
    rw [hFl, hct]
    omega
  have hsize : (splice c.toList (o + len * sz) (us.flatMap (·.cells.toList))).toArray.size = c.size := by simp [splice_length hoc]
  generalize hW : w.setRow b (splice c.toList (o + len * sz) (us.flatMap (·.cells.toList))).toArray = w'
  have hblk' : w'.heap[b]? = some (.cells (splice c.toList (o + len * sz) (us.flatMap (·.cells.toList))).toArray t (0, 0)) := by rw [← hW]; exact setRow_heap w b c _ t _ hblk
  have hoth : ∀ k, k ≠ b → w'.heap[k]? = w.heap[k]? := fun k hk => by rw [← hW]; exact setRow_other w b k _ hk
  have hbs' : ∀ k, World.bsize w' k = World.bsize w k := fun k => by rw [← hW]; exact setRow_bsize hblk hsize k
  have hhs : w'.heap.size = w.heap.size := by rw [← hW]; simp
  -- when the view is not the whole, all other blocks are given up
  let g' : Sg := { g with
    rg := fun b2 => if b2 = b then some (id, o, len + ys.length) else match g.rg b2 with
      | some (i2, st2, m2) => if i2 = id ∧ lost' = cur + 1 then none else some (i2, st2, m2)
      | none => none
    cb := fun i => if i = id then b else g.cb i }
  have hrg'b : g'.rg b = some (id, o, len + ys.length) := by simp [g']
  have hrg' : ∀ b2 i2 st2 m2, i2 ≠ id → (g'.rg b2 = some (i2, st2, m2) ↔ g.rg b2 = some (i2, st2, m2)) := by
    intro b2 i2 st2 m2 hne'
    by_cases hb2 : b2 = b
    · subst hb2
      rw [hrg'b, hrg]
      simp; intro h; exact absurd h.symm hne'
    · simp only [g', hb2, if_false]
      cases hq : g.rg b2 with
      | none => simp
      | some r =>
        obtain ⟨i3, st3, m3⟩ := r
        by_cases h3 : i3 = id
        · subst h3
          by_cases h4 : lost' = cur + 1
          · simp [h4]; intro h; exact absurd h.symm hne'
          · simp [h4]
        · simp [h3]
  have hrg'i : ∀ b2 st2 m2, b2 ≠ b → g'.rg b2 = some (id, st2, m2) → g.rg b2 = some (id, st2, m2) ∧ lost' ≠ cur + 1 := by
    intro b2 st2 m2 hb2 h
    simp only [g', hb2, if_false] at h
    cases hq : g.rg b2 with
    | none => simp [hq] at h
    | some r =>
      obtain ⟨i3, st3, m3⟩ := r
      simp only [hq] at h
      split at h
      · simp at h
      · rename_i h3
        simp at h
        obtain ⟨rfl, rfl, rfl⟩ := h
        exact ⟨rfl, fun e => h3 ⟨rfl, e⟩⟩
  have hkeep : ∀ b2 st2 m2, b2 ≠ b → lost' ≠ cur + 1 → g.rg b2 = some (id, st2, m2) → g'.rg b2 = some (id, st2, m2) := by
    intro b2 st2 m2 hb2 hl' h
    simp [g', hb2, h, hl']
  have hother : ∀ i2 x, i2 ≠ id → (upd s id (.arr sz (len + ys.length) (xs.take len ++ ys) (cur + 1) lost' fz) i2 = some x ↔ s i2 = some x) := fun i2 x h => by rw [upd_other _ _ h]
  have hfull : lost' ≠ cur + 1 → len = n ∧ lost' = lost := fun h => hlost.resolve_right h
  have hcell : ∀ o', o' < o + len * sz → w'.cell? ⟨b, o', none⟩ = w.cell? ⟨b, o', none⟩ := by
    intro o' h
    rw [cell_of_block hblk', cell_of_block hblk, List.getElem?_toArray, splice_get hoc, if_pos h]
    simp
  have e1 : Ext g s w g' (upd s id (.arr sz (len + ys.length) (xs.take len ++ ys) (cur + 1) lost' fz)) w' := by
    refine ⟨?_, fun _ _ h => h, ?_, ?_, rfl, by rw [← hW]; exact Below.setRow hbb, fun _ _ _ h => h⟩
    · intro b' o' x h hx
      refine ⟨h, ?_⟩
      by_cases hb' : b' = b
      · subst hb'
        have h3 := himm o' h
        have h4 : fz * sz ≤ len * sz := Nat.mul_le_mul_right _ hfz
        rw [hcell o' (by omega)]; exact hx
      · rw [World.cell?_of_block (hoth b' hb')]; exact hx
    · rintro i2 ep2 off2 len2 capd2 b2 o2 cap2 ⟨sz2, n2, xs2, cur2, lost2, fz2, h1, h3⟩
      by_cases hii : i2 = id
      · subst hii
        rw [hid] at h1
        simp at h1
        obtain ⟨rfl, rfl, rfl, rfl, rfl, rfl⟩ := h1
        refine ⟨_, _, _, _, _, _, upd_same _ _ _, fun hl2 => ?_⟩
        by_cases hl' : lost' = cur + 1
        · -- no view is left
          have : lost ≤ ep2 := by omega
          obtain ⟨h4, _⟩ := h3 this
          omega
        · obtain ⟨rfl, rfl⟩ := hfull hl'
          obtain ⟨h4, st2, m2, h5, h6, h7, h8, h9⟩ := h3 hl2
          by_cases hb2 : b2 = b
          · subst hb2
            rw [hrg] at h5
            simp at h5
            obtain ⟨rfl, rfl⟩ := h5
            exact ⟨by omega, o, _, hrg'b, h6, by omega, fun hcd => by rw [hbs']; exact h8 hcd, fun _ => by simp [g']⟩
          · exact ⟨by omega, st2, m2, hkeep _ _ _ hb2 hl' h5, h6, h7, fun hcd => by rw [hbs']; exact h8 hcd, fun he => by omega⟩
      · refine ⟨_, _, _, _, _, _, (hother _ _ hii).2 h1, fun hl2 => ?_⟩
        obtain ⟨h4, st2, m2, h5, h6, h7, h8, h9⟩ := h3 hl2
        exact ⟨h4, st2, m2, (hrg' _ _ _ _ hii).2 h5, h6, h7, fun hcd => by rw [hbs']; exact h8 hcd, fun he => by simp only [g', hii, if_false]; exact h9 he⟩
    · rintro i2 ep2 j2 off2 b2 o2 ⟨sz2, n2, xs2, cur2, lost2, fz2, h1, h3⟩
      by_cases hii : i2 = id
      · subst hii
        rw [hid] at h1
        simp at h1
        obtain ⟨rfl, rfl, rfl, rfl, rfl, rfl⟩ := h1
        refine ⟨_, _, _, _, _, _, upd_same _ _ _, fun hl2 => ?_⟩
        by_cases hl' : lost' = cur + 1
        · have : lost ≤ ep2 := by omega
          obtain ⟨h4, _⟩ := h3 this
          omega
        · obtain ⟨rfl, rfl⟩ := hfull hl'
          obtain ⟨h4, st2, m2, h5, h6, h7, h8⟩ := h3 hl2
          by_cases hb2 : b2 = b
          · subst hb2
            rw [hrg] at h5
            simp at h5
            obtain ⟨rfl, rfl⟩ := h5
            exact ⟨by omega, o, _, hrg'b, by omega, h7, fun _ => by simp [g']⟩
          · exact ⟨by omega, st2, m2, hkeep _ _ _ hb2 hl' h5, h6, h7, fun he => by omega⟩
      · refine ⟨_, _, _, _, _, _, (hother _ _ hii).2 h1, fun hl2 => ?_⟩
        obtain ⟨h4, st2, m2, h5, h6, h7, h8⟩ := h3 hl2
        exact ⟨h4, st2, m2, (hrg' _ _ _ _ hii).2 h5, h6, h7, fun he => by simp only [g', hii, if_false]; exact h8 he⟩
  have htk : (xs.take len).length = len := by simp; omega
  refine ⟨c, t, g', hblk, by simpa using hoc, ?_⟩
  rw [hW]
  refine ⟨e1, ⟨?_, ?_, ?_, ?_, hi.inj, fun b' o' h => by rw [hhs]; exact hi.immS b' o' h, by rw [hhs]; exact hi.baseS,
    ho_keep hi.ho e1 (fun i h hh => upd_ho hh (by simp)) (fun i b' hb' _ => hoth b' (fun e => by subst e; have := (hi.bxS _ _ hb').2.2.1; rw [hrg] at this; simp at this))⟩, ?_⟩
  · intro i2 ds h
    have hii : i2 ≠ id := fun e => by subst e; simp at h
    obtain ⟨b2, c2, t2, h3, h4, h5, h6⟩ := hi.box i2 ds ((hother _ _ hii).1 h)
    have hb2 : b2 ≠ b := fun e => by subst e; have := (hi.bxS _ _ h3).2.2.1; rw [hrg] at this; simp at this
    exact ⟨b2, c2, t2, h3, by rw [hoth _ hb2]; exact h4, RepAs.ext e1 _ _ h5, h6⟩
  · intro i2 sz2 n2 xs2 cur2 lost2 fz2 h
    by_cases hii : i2 = id
    · subst hii
      simp at h
      obtain ⟨rfl, rfl, rfl, rfl, rfl, rfl⟩ := h
      refine ⟨by simp [htk], by rcases hlost with ⟨_, rfl⟩ | rfl <;> omega, by omega, fun b2 st2 m2 hb2 => ?_⟩
      by_cases hbb2 : b2 = b
      · subst hbb2
        rw [hrg'b] at hb2
        simp at hb2
        obtain ⟨rfl, rfl⟩ := hb2
        have hdrop : (vs.take len).length = len := by simp; omega
        refine ⟨Nat.le_refl _, _, t, vs.take len ++ us, hblk', ?_, ?_, ?_, himm, ?_⟩
        · have htk2 : ((xs.take len ++ ys).take (len + ys.length)) = xs.take len ++ ys := List.take_of_length_le (by rw [List.length_append, htk]; exact Nat.le_refl _)
          rw [htk2]
          refine RepAs.ext e1 _ _ (RepAs.append ?_ hr)
          have := hrep.take len
          rw [List.take_take, Nat.min_eq_left hom] at this
          exact this
        · intro x hx
          rcases List.mem_append.1 hx with hx | hx
          · exact hstr x (List.mem_of_mem_take hx)
          · exact hu x hx
        · intro j x hj
          have hl1 : ((vs.take len).flatMap (·.cells.toList)).length = len * sz := by
            rw [flat_length (fun x hx => hstr' x (List.mem_of_mem_take hx)), hdrop]
          rw [List.flatMap_append] at hj
          rw [List.getElem?_toArray, splice_get hoc]
          by_cases hj1 : j < len * sz
          · rw [if_pos (by omega)]
            rw [List.getElem?_append_left (by omega), flat_take _ hstr', List.getElem?_take, if_pos hj1] at hj
            simpa using hflat j x hj
          · rw [if_neg (by omega)]
            rw [List.getElem?_append_right (by omega), hl1] at hj
            have := (List.getElem?_eq_some_iff.1 hj).1
            rw [if_pos (by omega), show o + j - (o + len * sz) = j - len * sz by omega]
            exact hj
        · have := hoc
          rw [hFl] at this
          rw [hsize, Nat.add_mul]
          simp at this
          omega
      · obtain ⟨h5, h6⟩ := hrg'i _ _ _ hbb2 hb2
        obtain ⟨rfl, rfl⟩ := hfull h6
        obtain ⟨h7, c2, t2, vs2, h8, h9, h10⟩ := harr b2 st2 m2 h5
        refine ⟨by omega, c2, t2, vs2, by rw [hoth _ hbb2]; exact h8, ?_, h10⟩
        rw [List.take_append_of_le_length (by rw [htk]; exact h7), List.take_take, Nat.min_eq_left h7]
        exact RepAs.ext e1 _ _ h9
    · obtain ⟨h3, h4, h5, h6⟩ := hi.arr i2 sz2 n2 xs2 cur2 lost2 fz2 ((hother _ _ hii).1 h)
      refine ⟨h3, h4, h5, fun b2 st2 m2 hb2 => ?_⟩
      have hb2' := (hrg' _ _ _ _ hii).1 hb2
      have hbb2 : b2 ≠ b := fun e => by subst e; rw [hrg] at hb2'; simp at hb2'; exact hii hb2'.1.symm
      obtain ⟨h7, c2, t2, vs2, h8, h9, h10⟩ := h6 b2 st2 m2 hb2'
      exact ⟨h7, c2, t2, vs2, by rw [hoth _ hbb2]; exact h8, RepAs.ext e1 _ _ h9, h10⟩
  · intro b2 i2 st2 m2 h
    by_cases hii : i2 = id
    · subst hii
      by_cases hbb2 : b2 = b
      · subst hbb2
        exact ⟨⟨_, _, _, _, _, _, upd_same _ _ _⟩, hbb, by rw [hhs]; exact hbs⟩
      · obtain ⟨h5, _⟩ := hrg'i _ _ _ hbb2 h
        obtain ⟨_, h6, h7⟩ := hi.rgS _ _ _ _ h5
        exact ⟨⟨_, _, _, _, _, _, upd_same _ _ _⟩, h6, by rw [hhs]; exact h7⟩
    · obtain ⟨⟨sz2, n2, xs2, cur2, lost2, fz2, h3⟩, h4, h5⟩ := hi.rgS b2 i2 st2 m2 ((hrg' _ _ _ _ hii).1 h)
      exact ⟨⟨_, _, _, _, _, _, (hother _ _ hii).2 h3⟩, h4, by rw [hhs]; exact h5⟩
  · intro i2 b2 h
    obtain ⟨h3, h4, h5, h6, h7⟩ := hi.bxS i2 b2 h
    have hb2 : b2 ≠ b := fun e => by subst e; rw [hrg] at h5; simp at h5
    refine ⟨h3, by rw [hhs]; exact h4, by simp [g', hb2, h5], h6, ?_⟩
    have hii : i2 ≠ id := fun e => by subst e; rcases h7 with ⟨_, h7⟩ | ⟨_, h7⟩ <;> rw [hid] at h7 <;> simp at h7
    rw [upd_other _ _ hii]; exact h7
  · refine ⟨b, o, cap, rfl, hroom, by simp, sz, _, _, cur + 1, lost', fz, upd_same _ _ _, fun _ => ⟨Nat.le_refl _, o, len + ys.length, hrg'b, by simp, by simp, fun _ => ?_, fun _ => by simp [g']⟩⟩
    rw [hbs']; exact hcap

/-- new elements behind so many, in new memory. -/
theorem append_move (hi : Inv g s w) {id len cap : Nat} {sz n : Nat} {xs : List AVal} {cur lost fz : Nat} {ys : List AVal} {os us rest : List Value} {t : TypeId} (hid : s id = some (.arr sz n xs cur lost fz))
    (hro : RepAs g s w (xs.take len) os) (hr : RepAs g s w ys us) (ho : ∀ v ∈ os, v.cells.size = sz ∧ ∀ x ∈ v.cells.toList, isCell x = true) (hu : ∀ v ∈ us, v.cells.size = sz ∧ ∀ x ∈ v.cells.toList, isCell x = true)
    (hlen : len ≤ n) (hfz : fz ≤ len) (hne : 0 < ys.length) (hcap : len + ys.length ≤ cap) (hroom : cap * sz ≤ ((os ++ us).flatMap (·.cells.toList) ++ rest).length) {lost' : Nat} (hlost : (len = n ∧ lost' = lost) ∨ lost' = cur + 1) :
    ∃ g', Ext g s w g' (upd s id (.arr sz (len + ys.length) (xs.take len ++ ys) (cur + 1) lost' fz)) (w.alloc (.cells ((os ++ us).flatMap (·.cells.toList) ++ rest).toArray t)) ∧
      Inv g' (upd s id (.arr sz (len + ys.length) (xs.take len ++ ys) (cur + 1) lost' fz)) (w.alloc (.cells ((os ++ us).flatMap (·.cells.toList) ++ rest).toArray t)) ∧
      RepA g' (upd s id (.arr sz (len + ys.length) (xs.take len ++ ys) (cur + 1) lost' fz)) (w.alloc (.cells ((os ++ us).flatMap (·.cells.toList) ++ rest).toArray t))
        (.arr id (cur + 1) 0 (len + ys.length) false) (.slice (some ⟨w.heap.size, 0, none⟩) (len + ys.length) cap) := by
  obtain ⟨hn, hlc, hfn, harr⟩ := hi.arr id _ _ _ _ _ _ hid
  generalize hA : ((os ++ us).flatMap (·.cells.toList) ++ rest).toArray = arr
  have htk : (xs.take len).length = len := by simp; omega
  have hol : os.length = len := by rw [RepAs.length hro, htk]
  have hul : us.length = ys.length := RepAs.length hr
  have hall : ∀ v ∈ os ++ us, v.cells.size = sz ∧ ∀ x ∈ v.cells.toList, isCell x = true := fun v hv => (List.mem_append.1 hv).elim (ho v) (hu v)
  have hFl := flat_length (fun v hv => (hall v hv).1)
  have hAs : (len + ys.length) * sz ≤ arr.size := by
    rw [← hA]; simp only [List.size_toArray, List.length_append, hFl, hol, hul]; omega
  have hAc : cap * sz ≤ arr.size := by rw [← hA]; simpa using hroom
  generalize hB : w.heap.size = b
  have hrgn : g.rg b = none := by
    cases hr' : g.rg b with
    | none => rfl
    | some r => obtain ⟨a, c, d⟩ := r; have := (hi.rgS _ _ _ _ hr').2.2; omega
  generalize hW : w.alloc (.cells arr t) = w'
  have hblk' : w'.heap[b]? = some (.cells arr t (0, 0)) := by rw [← hW, ← hB]; exact heap_alloc_new w _
  have hlt : ∀ {k : Nat}, k < w.heap.size → w'.heap[k]? = w.heap[k]? := fun {k} hk => by rw [← hW]; exact heap_alloc_lt w _ hk
  have hhs : w'.heap.size = w.heap.size + 1 := by rw [← hW]; simp
  let g' : Sg := { g with
    rg := fun b2 => if b2 = b then some (id, 0, len + ys.length) else match g.rg b2 with
      | some (i2, st2, m2) => if i2 = id ∧ lost' = cur + 1 then none else some (i2, st2, m2)
      | none => none
    cb := fun i => if i = id then b else g.cb i }
  have hrg'b : g'.rg b = some (id, 0, len + ys.length) := by simp [g']
  have hrg' : ∀ b2 i2 st2 m2, i2 ≠ id → (g'.rg b2 = some (i2, st2, m2) ↔ g.rg b2 = some (i2, st2, m2)) := by
    intro b2 i2 st2 m2 hne'
    by_cases hb2 : b2 = b
    · subst hb2
      rw [hrg'b, hrgn]
      simp; intro h; exact absurd h.symm hne'
    · simp only [g', hb2, if_false]
      cases hq : g.rg b2 with
      | none => simp
      | some r =>
        obtain ⟨i3, st3, m3⟩ := r
        by_cases h3 : i3 = id
        · subst h3
          by_cases h4 : lost' = cur + 1
          · simp [h4]; intro h; exact absurd h.symm hne'
          · simp [h4]
        · simp [h3]
  have hrg'i : ∀ b2 st2 m2, b2 ≠ b → g'.rg b2 = some (id, st2, m2) → g.rg b2 = some (id, st2, m2) ∧ lost' ≠ cur + 1 := by
    intro b2 st2 m2 hb2 h
    simp only [g', hb2, if_false] at h
    cases hq : g.rg b2 with
    | none => simp [hq] at h
    | some r =>
      obtain ⟨i3, st3, m3⟩ := r
      simp only [hq] at h
      split at h
      · simp at h
      · rename_i h3
        simp at h
        obtain ⟨rfl, rfl, rfl⟩ := h
        exact ⟨rfl, fun e => h3 ⟨rfl, e⟩⟩
  have hkeep : ∀ b2 st2 m2, lost' ≠ cur + 1 → g.rg b2 = some (id, st2, m2) → g'.rg b2 = some (id, st2, m2) := by
    intro b2 st2 m2 hl' h
    have hb2 : b2 ≠ b := fun e => by subst e; rw [hrgn] at h; simp at h
    simp [g', hb2, h, hl']
  have hother : ∀ i2 x, i2 ≠ id → (upd s id (.arr sz (len + ys.length) (xs.take len ++ ys) (cur + 1) lost' fz) i2 = some x ↔ s i2 = some x) := fun i2 x h => by rw [upd_other _ _ h]
  have hfull : lost' ≠ cur + 1 → len = n ∧ lost' = lost := fun h => hlost.resolve_right h
  have hbz : ∀ b2 i2 st2 m2, g.rg b2 = some (i2, st2, m2) → World.bsize w' b2 = World.bsize w b2 := fun b2 i2 st2 m2 h => by
    unfold World.bsize; rw [hlt (hi.rgS _ _ _ _ h).2.2]
  have e1 : Ext g s w g' (upd s id (.arr sz (len + ys.length) (xs.take len ++ ys) (cur + 1) lost' fz)) w' := by
    refine ⟨?_, fun _ _ h => h, ?_, ?_, rfl, by rw [← hW]; exact (Below.refl _ _).alloc hi.baseS _, fun _ _ _ h => h⟩
    · intro b' o' x h hx
      exact ⟨h, by rw [World.cell?_of_block (hlt (hi.immS _ _ h))]; exact hx⟩
    · rintro i2 ep2 off2 len2 capd2 b2 o2 cap2 ⟨sz2, n2, xs2, cur2, lost2, fz2, h1, h3⟩
      by_cases hii : i2 = id
      · subst hii
        rw [hid] at h1
        simp at h1
        obtain ⟨rfl, rfl, rfl, rfl, rfl, rfl⟩ := h1
        refine ⟨_, _, _, _, _, _, upd_same _ _ _, fun hl2 => ?_⟩
        by_cases hl' : lost' = cur + 1
        · have : lost ≤ ep2 := by omega
          obtain ⟨h4, _⟩ := h3 this
          omega
        · obtain ⟨rfl, rfl⟩ := hfull hl'
          obtain ⟨h4, st2, m2, h5, h6, h7, h8, h9⟩ := h3 hl2
          exact ⟨by omega, st2, m2, hkeep _ _ _ hl' h5, h6, h7, fun hcd => by rw [hbz _ _ _ _ h5]; exact h8 hcd, fun he => by omega⟩
      · refine ⟨_, _, _, _, _, _, (hother _ _ hii).2 h1, fun hl2 => ?_⟩
        obtain ⟨h4, st2, m2, h5, h6, h7, h8, h9⟩ := h3 hl2
        exact ⟨h4, st2, m2, (hrg' _ _ _ _ hii).2 h5, h6, h7, fun hcd => by rw [hbz _ _ _ _ h5]; exact h8 hcd, fun he => by simp only [g', hii, if_false]; exact h9 he⟩
    · rintro i2 ep2 j2 off2 b2 o2 ⟨sz2, n2, xs2, cur2, lost2, fz2, h1, h3⟩
      by_cases hii : i2 = id
      · subst hii
        rw [hid] at h1
        simp at h1
        obtain ⟨rfl, rfl, rfl, rfl, rfl, rfl⟩ := h1
        refine ⟨_, _, _, _, _, _, upd_same _ _ _, fun hl2 => ?_⟩
        by_cases hl' : lost' = cur + 1
        · have : lost ≤ ep2 := by omega
          obtain ⟨h4, _⟩ := h3 this
          omega
        · obtain ⟨rfl, rfl⟩ := hfull hl'
          obtain ⟨h4, st2, m2, h5, h6, h7, h8⟩ := h3 hl2
          exact ⟨by omega, st2, m2, hkeep _ _ _ hl' h5, h6, h7, fun he => by omega⟩
      · refine ⟨_, _, _, _, _, _, (hother _ _ hii).2 h1, fun hl2 => ?_⟩
        obtain ⟨h4, st2, m2, h5, h6, h7, h8⟩ := h3 hl2
        exact ⟨h4, st2, m2, (hrg' _ _ _ _ hii).2 h5, h6, h7, fun he => by simp only [g', hii, if_false]; exact h8 he⟩
  refine ⟨g', e1, ⟨?_, ?_, ?_, ?_, hi.inj, fun b' o' h => by rw [hhs]; have := hi.immS b' o' h; omega, by rw [hhs]; have := hi.baseS; show g.base ≤ _; omega,
    ho_keep hi.ho e1 (fun i h hh => upd_ho hh (by simp)) (fun i b' hb' _ => hlt (hi.bxS _ _ hb').2.1)⟩, ?_⟩
  · intro i2 ds h
    have hii : i2 ≠ id := fun e => by subst e; simp at h
    obtain ⟨b2, c2, t2, h3, h4, h5, h6⟩ := hi.box i2 ds ((hother _ _ hii).1 h)
    exact ⟨b2, c2, t2, h3, by rw [hlt (hi.bxS _ _ h3).2.1]; exact h4, RepAs.ext e1 _ _ h5, h6⟩
  · intro i2 sz2 n2 xs2 cur2 lost2 fz2 h
    by_cases hii : i2 = id
    · subst hii
      simp at h
      obtain ⟨rfl, rfl, rfl, rfl, rfl, rfl⟩ := h
      refine ⟨by simp [htk], by rcases hlost with ⟨_, rfl⟩ | rfl <;> omega, by omega, fun b2 st2 m2 hb2 => ?_⟩
      by_cases hbb2 : b2 = b
      · subst hbb2
        rw [hrg'b] at hb2
        simp at hb2
        obtain ⟨rfl, rfl⟩ := hb2
        refine ⟨Nat.le_refl _, _, t, os ++ us, hblk', ?_, hall, ?_, ?_, by omega⟩
        · have htk2 : ((xs.take len ++ ys).take (len + ys.length)) = xs.take len ++ ys := List.take_of_length_le (by rw [List.length_append, htk]; exact Nat.le_refl _)
          rw [htk2]
          exact RepAs.ext e1 _ _ (RepAs.append hro hr)
        · intro j x hj
          rw [← hA, Nat.zero_add, List.getElem?_toArray, List.getElem?_append_left (List.getElem?_eq_some_iff.1 hj).1]
          exact hj
        · intro o' h
          have := hi.immS _ _ h
          omega
      · obtain ⟨h5, h6⟩ := hrg'i _ _ _ hbb2 hb2
        obtain ⟨rfl, rfl⟩ := hfull h6
        obtain ⟨h7, c2, t2, vs2, h8, h9, h10⟩ := harr b2 st2 m2 h5
        refine ⟨by omega, c2, t2, vs2, by rw [hlt (hi.rgS _ _ _ _ h5).2.2]; exact h8, ?_, h10⟩
        rw [List.take_append_of_le_length (by rw [htk]; exact h7), List.take_take, Nat.min_eq_left h7]
        exact RepAs.ext e1 _ _ h9
    · obtain ⟨h3, h4, h5, h6⟩ := hi.arr i2 sz2 n2 xs2 cur2 lost2 fz2 ((hother _ _ hii).1 h)
      refine ⟨h3, h4, h5, fun b2 st2 m2 hb2 => ?_⟩
      have hb2' := (hrg' _ _ _ _ hii).1 hb2
      obtain ⟨h7, c2, t2, vs2, h8, h9, h10⟩ := h6 b2 st2 m2 hb2'
      exact ⟨h7, c2, t2, vs2, by rw [hlt (hi.rgS _ _ _ _ hb2').2.2]; exact h8, RepAs.ext e1 _ _ h9, h10⟩
  · intro b2 i2 st2 m2 h
    by_cases hii : i2 = id
    · subst hii
      by_cases hbb2 : b2 = b
      · subst hbb2
        exact ⟨⟨_, _, _, _, _, _, upd_same _ _ _⟩, by rw [← hB]; exact hi.baseS, by omega⟩
      · obtain ⟨h5, _⟩ := hrg'i _ _ _ hbb2 h
        obtain ⟨_, h6, h7⟩ := hi.rgS _ _ _ _ h5
        exact ⟨⟨_, _, _, _, _, _, upd_same _ _ _⟩, h6, by omega⟩
    · obtain ⟨⟨sz2, n2, xs2, cur2, lost2, fz2, h3⟩, h4, h5⟩ := hi.rgS b2 i2 st2 m2 ((hrg' _ _ _ _ hii).1 h)
      exact ⟨⟨_, _, _, _, _, _, (hother _ _ hii).2 h3⟩, h4, by omega⟩
  · intro i2 b2 h
    obtain ⟨h3, h4, h5, h6, h7⟩ := hi.bxS i2 b2 h
    have hb2 : b2 ≠ b := by omega
    refine ⟨h3, by omega, by simp [g', hb2, h5], h6, ?_⟩
    have hii : i2 ≠ id := fun e => by subst e; rcases h7 with ⟨_, h7⟩ | ⟨_, h7⟩ <;> rw [hid] at h7 <;> simp at h7
    rw [upd_other _ _ hii]; exact h7
  · refine ⟨b, 0, cap, rfl, hcap, by simp, sz, _, _, cur + 1, lost', fz, upd_same _ _ _, fun _ => ⟨Nat.le_refl _, 0, len + ys.length, hrg'b, by simp, by simp, fun _ => ?_, fun _ => by simp [g']⟩⟩
    unfold World.bsize
    rw [hblk']
    simpa using hAc

end
end Go.Proofs.YtceccojmekpneaaGreatDoor.Sw
