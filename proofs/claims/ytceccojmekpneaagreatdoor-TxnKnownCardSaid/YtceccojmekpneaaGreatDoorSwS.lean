/- Values without names, made of values with names. -/
import Derived.Test.YtceccojmekpneaaGreatDoorSwR
namespace Go.Proofs.YtceccojmekpneaaGreatDoor.Sw
open Go.RowKit

/-- the cells that stay if some arrays are left as they are. -/
def immOf (g : Sg) (s : Sto) (ids : List Nat) (b o : Nat) : Prop :=
  g.imm b o ∨ ∃ id st m sz n xs cur lost fz, id ∈ ids ∧ g.rg b = some (id, st, m) ∧ s id = some (.arr sz n xs cur lost fz) ∧ o < st + m * sz

theorem immOf.mono {g : Sg} {s : Sto} {ids ids' : List Nat} (h : ∀ i ∈ ids, i ∈ ids') {b o : Nat} (hi : immOf g s ids b o) : immOf g s ids' b o := by
  rcases hi with hi | ⟨id, st, m, sz, n, xs, cur, lost, fz, h1, h2⟩
  · exact .inl hi
  · exact .inr ⟨id, st, m, sz, n, xs, cur, lost, fz, h id h1, h2⟩

theorem Keeps.mono {I I' : Nat → Nat → Prop} {w : World} (h : ∀ b o, I b o → I' b o) : Keeps I I' w w := fun b o _ hi hc => ⟨h b o hi, hc⟩

theorem CellsAt.mono {I I' : Nat → Nat → Prop} {w : World} {b o : Nat} {cs : List Value} (h : ∀ b o, I b o → I' b o) (hc : CellsAt I w b o cs) : CellsAt I' w b o cs :=
  hc.keeps (.mono h)

section
variable {P : Program} {g : Sg} {s : Sto} {w : World}

theorem purs_rep {f : AVal → Option (PVal × List Nat)} (hf : ∀ v x ids u, f v = some (x, ids) → RepA g s w v u → RepP (immOf g s ids) w x u) :
    ∀ {vs : List AVal} {xs : List PVal} {ids : List Nat} {us : List Value}, purs f vs = some (xs, ids) → RepAs g s w vs us → RepPs (immOf g s ids) w xs us
  | [], _, _, _, h, hr => by
    simp [purs] at h
    obtain ⟨rfl, rfl⟩ := h
    exact hr
  | v :: vs, _, _, _, h, hr => by
    obtain ⟨u, us, rfl, h1, h2⟩ := hr
    simp only [purs] at h
    split at h <;> simp at h
    rename_i x a xs b hx hxs
    obtain ⟨rfl, rfl⟩ := h
    exact ⟨u, us, rfl, RepP.keeps (.mono fun b o => immOf.mono (by simp; exact fun i hi => .inl hi)) _ _ (hf _ _ _ _ hx h1),
      RepPs.keeps (.mono fun b o => immOf.mono (by simp; exact fun i hi => .inr hi)) _ _ (purs_rep hf hxs h2)⟩

/-- the cells of a view, of an array that is left as it is. -/
theorem view_cells {S : St} (hs : ∀ id, s id = S.get id) (hi : Inv g s w) {id ep off len b o cap : Nat} {capd : Bool} {xs : List AVal} (hv : ViewOk g s w id ep off len capd b o cap)
    (h : viewed S id ep off len = some xs) :
    ∃ sz vs, RepAs g s w xs vs ∧ vs.length = len ∧ (∀ v ∈ vs, v.cells.size = sz) ∧ CellsAt (immOf g s [id]) w b o (vs.flatMap (·.cells.toList)) := by
  obtain ⟨vs, h1, h2, h3, h4⟩ := viewed_rep hs hi hv h
  obtain ⟨sz, n, ys, cur, lost, fz, k1, k2⟩ := hv
  have k1' := k1
  rw [hs id] at k1
  have hle : lost ≤ ep := by
    unfold viewed at h
    rw [k1] at h
    simp only at h
    split at h <;> simp at h
    rename_i e _
    exact Nat.le_of_ble_eq_true e
  obtain ⟨_, st, m, k3, k4, k5, _⟩ := k2 hle
  have hsz := fun v hv => (h4 _ _ _ _ _ _ k1 v hv).1
  refine ⟨sz, vs, h1, h2, hsz, fun i c hc => ⟨h3 i c hc, .inr ⟨id, st, m, sz, n, ys, cur, lost, fz, by simp, k3, k1', ?_⟩⟩⟩
  have hlt := (List.getElem?_eq_some_iff.1 hc).1
  rw [flat_length hsz, h2] at hlt
  have e2 : (off + len) * sz ≤ m * sz := Nat.mul_le_mul_right _ k5
  rw [Nat.add_mul] at e2
  omega

theorem pur_rep {S : St} (hs : ∀ id, s id = S.get id) (hi : Inv g s w) : ∀ (d : Nat) (v : AVal) (x : PVal) (ids : List Nat) (u : Value), pur S d v = some (x, ids) → RepA g s w v u →
    RepP (immOf g s ids) w x u := by
  intro d
  induction d with
  | zero => intro v x ids u h; simp [pur] at h
  | succ d ih =>
    intro v x ids u h hr
    simp only [pur] at h
    split at h
    · simp at h
      obtain ⟨rfl, rfl⟩ := h
      exact RepP.keeps (.mono fun _ _ h => .inl h) _ _ hr
    · simp at h
      obtain ⟨rfl, rfl⟩ := h
      obtain ⟨b, o, sz, vs, rfl, h1, h2, h3⟩ := hr
      exact ⟨b, o, _, sz, vs, rfl, Nat.le_refl _, RepPs.keeps (.mono fun _ _ h => .inl h) _ _ h1, h2, h3.mono fun _ _ h => .inl h⟩
    · simp only [Option.map_eq_some_iff] at h
      obtain ⟨⟨xs, a⟩, h1, h2⟩ := h
      simp at h2
      obtain ⟨rfl, rfl⟩ := h2
      obtain ⟨vs, rfl, h3, h4⟩ := hr
      exact ⟨vs, rfl, purs_rep ih h1 h3, h4⟩
    · simp only [Option.map_eq_some_iff] at h
      obtain ⟨⟨xs, a⟩, h1, h2⟩ := h
      simp at h2
      obtain ⟨rfl, rfl⟩ := h2
      obtain ⟨vs, rfl, h3⟩ := hr
      exact ⟨vs, rfl, purs_rep ih h1 h3⟩
    · simp only [Option.map_eq_some_iff] at h
      obtain ⟨⟨y, a⟩, h1, h2⟩ := h
      simp at h2
      obtain ⟨rfl, rfl⟩ := h2
      obtain ⟨z, rfl, h3⟩ := hr
      exact ⟨z, rfl, ih _ _ _ _ h1 h3⟩
    · simp only [Option.map_eq_some_iff] at h
      obtain ⟨⟨xs, a⟩, h1, h2⟩ := h
      simp at h2
      obtain ⟨rfl, rfl⟩ := h2
      obtain ⟨vs, rfl, h3⟩ := hr
      exact ⟨vs, rfl, purs_rep ih h1 h3⟩
    · rename_i id ep off len capd
      split at h
      · rename_i ys hv
        simp only [Option.map_eq_some_iff] at h
        obtain ⟨⟨xs, a⟩, h1, h2⟩ := h
        simp at h2
        obtain ⟨rfl, rfl⟩ := h2
        obtain ⟨b, o, cap, rfl, h3, h4, h5⟩ := hr
        obtain ⟨sz, vs, k1, k2, k3, k4⟩ := view_cells hs hi h5 hv
        have h6 := purs_rep ih h1 k1
        have hl := RepPs.length h6
        refine ⟨b, o, cap, sz, vs, by rw [← hl, k2], by omega, RepPs.keeps (.mono fun b o => immOf.mono (by simp; exact fun i hi => .inr hi)) _ _ h6, k3,
          k4.mono fun b o => immOf.mono (by simp)⟩
      · simp at h
    · simp at h

end
end Go.Proofs.YtceccojmekpneaaGreatDoor.Sw
