/- Slicing. -/
import Derived.Test.YtceccojmekpneaaGreatDoorSwG
namespace Go.Proofs.YtceccojmekpneaaGreatDoor.Sw

section
variable {P : Program} {g : Sg} {s : Sto} {w : World}

/-- what stands for an operand that may be missing. -/
def RepO (g : Sg) (s : Sto) (w : World) : Option AVal → Option Value → Prop
  | none, none => True
  | some x, some v => RepA g s w x v
  | _, _ => False

theorem sliceBound_run {v : Value} {x : AVal} {n y : Nat} {code : BoundsCode} (hx : RepA g s w x v) (hn : natOf x = some n) (hle : n ≤ y) :
    (Instr.sliceBound v y code).run P w = .ok n w := by
  obtain ⟨k, rfl⟩ := natOf_rep hx hn
  have hc : (0 : Int) ≤ (n : Int) ∧ (n : Int) ≤ (y : Int) := by omega
  simp only [Instr.sliceBound, asIntOf, Sem.run_bind, Sem.run_pure, Result.andThen_ok]
  rw [if_pos hc]
  simp

theorem bound_run {x : Option AVal} {v : Option Value} {d n : Nat} (hx : RepO g s w x v) (h : bound x d = some n) :
    (x = none ∧ v = none ∧ n = d) ∨ ∃ u, v = some u ∧ x.isSome = true ∧ ∀ y code, n ≤ y → (Instr.sliceBound u y code).run P w = .ok n w := by
  cases x with
  | none => cases v with
    | none => simp [bound] at h; exact .inl ⟨rfl, rfl, h.symm⟩
    | some _ => exact hx.elim
  | some x => cases v with
    | none => exact hx.elim
    | some u => exact .inr ⟨u, rfl, rfl, fun y code hle => sliceBound_run hx (by simpa [bound] using h) hle⟩

theorem cut_run {lo hi mx : Option AVal} {vlo vhi vmx : Option Value} {len cap l h : Nat} {c b : Bool} (h1 : RepO g s w lo vlo) (h2 : RepO g s w hi vhi) (h3 : RepO g s w mx vmx)
    (hle : len ≤ cap) (hc : cut lo hi mx len = some (l, h, c)) :
    ∃ m, (Instr.sliceBounds b len cap vlo vhi vmx).run P w = .ok (l, h, m) w ∧ (c = false → m = cap) ∧ (c = true → m = h) ∧ l ≤ h ∧ h ≤ len := by
  unfold cut at hc
  split at hc
  · rename_i l' h' e1 e2
    have r1 := bound_run (P := P) h1 e1
    have r2 := bound_run (P := P) h2 e2
    split at hc
    · rename_i b1 b2
      have hb1 := Nat.le_of_ble_eq_true b1
      have hb2 := Nat.le_of_ble_eq_true b2
      cases mx with
      | none =>
        simp at hc
        obtain ⟨rfl, rfl, rfl⟩ := hc
        cases vmx with
        | some _ => exact h3.elim
        | none =>
          refine ⟨cap, ?_, fun _ => rfl, by simp, hb1, hb2⟩
          unfold Instr.sliceBounds
          rcases r2 with ⟨_, rfl, rfl⟩ | ⟨u2, rfl, _, r2⟩
          · rcases r1 with ⟨_, rfl, rfl⟩ | ⟨u1, rfl, _, r1⟩
            · rfl
            · simp [r1 _ _ hb1]
          · rcases r1 with ⟨_, rfl, rfl⟩ | ⟨u1, rfl, _, r1⟩
            · simp [r2 _ _ (Nat.le_trans hb2 hle)]
            · simp [r2 _ _ (Nat.le_trans hb2 hle), r1 _ _ hb1]
      | some x =>
        simp only at hc
        cases hm : natOf x with
        | none => simp [hm] at hc
        | some m =>
          cases hi with
          | none => simp [hm] at hc
          | some hi' =>
            simp only [hm] at hc
            split at hc <;> simp at hc
            rename_i hmh
            have hmh' : m = h' := Nat.eq_of_beq_eq_true hmh
            subst hmh'
            obtain ⟨rfl, rfl, rfl⟩ := hc
            cases vmx with
            | none => exact h3.elim
            | some v3 =>
              refine ⟨m, ?_, by simp, fun _ => rfl, hb1, hb2⟩
              have r3 : ∀ code, (Instr.sliceBound v3 cap code).run P w = .ok m w := fun code => sliceBound_run h3 hm (by omega)
              unfold Instr.sliceBounds
              rcases r2 with ⟨h0, _, _⟩ | ⟨u2, rfl, _, r2⟩
              · simp at h0
              · rcases r1 with ⟨_, rfl, rfl⟩ | ⟨u1, rfl, _, r1⟩
                · simp [r3, r2 _ _ (Nat.le_refl _)]
                · simp [r3, r2 _ _ (Nat.le_refl _), r1 _ _ hb1]
    · simp at hc
  · simp at hc

theorem flat_drop {sz : Nat} : ∀ {vs : List Value} (n : Nat), (∀ x ∈ vs, x.cells.size = sz) →
    (vs.drop n).flatMap (·.cells.toList) = (vs.flatMap (·.cells.toList)).drop (n * sz)
  | vs, 0, _ => by simp
  | [], n + 1, _ => by simp
  | v :: vs, n + 1, hs => by
    have hv : v.cells.toList.length = sz := by simpa using hs v (by simp)
    have ih := flat_drop (vs := vs) n (fun x hx => hs x (by simp [hx]))
    simp only [List.flatMap_cons, List.drop_succ_cons, ih]
    rw [show (n + 1) * sz = v.cells.toList.length + n * sz by rw [hv, Nat.add_mul]; omega, ← List.drop_drop, List.drop_left]

theorem flat_take {sz : Nat} : ∀ {vs : List Value} (n : Nat), (∀ x ∈ vs, x.cells.size = sz) →
    (vs.take n).flatMap (·.cells.toList) = (vs.flatMap (·.cells.toList)).take (n * sz)
  | vs, 0, _ => by simp
  | [], n + 1, _ => by simp
  | v :: vs, n + 1, hs => by
    have hv : v.cells.toList.length = sz := by simpa using hs v (by simp)
    have ih := flat_take (vs := vs) n (fun x hx => hs x (by simp [hx]))
    simp only [List.flatMap_cons, List.take_succ_cons, ih]
    rw [show (n + 1) * sz = v.cells.toList.length + n * sz by rw [hv, Nat.add_mul]; omega, List.take_append, List.take_of_length_le (l := v.cells.toList) (by omega)]
    simp

theorem CellsAt.sub {I : Nat → Nat → Prop} {b o : Nat} {cs : List Value} (k n : Nat) (h : CellsAt I w b o cs) : CellsAt I w b (o + k) ((cs.drop k).take n) := by
  intro i c hi
  have : cs[k + i]? = some c := by
    rw [List.getElem?_take] at hi
    split at hi
    · simpa using hi
    · simp at hi
  have := h (k + i) c this
  rw [show o + k + i = o + (k + i) by omega]
  exact this

theorem CellsAt.nil {I : Nat → Nat → Prop} {b o : Nat} : CellsAt I w b o [] := fun i c hi => by simp at hi

/-- a part of a slice that stays. -/
theorem slice_part {xs : List PVal} {vs : List Value} {b o sz l h : Nat} (hr : RepPs g.imm w xs vs) (hs : ∀ x ∈ vs, x.cells.size = sz) (hc : CellsAt g.imm w b o (vs.flatMap (·.cells.toList))) :
    RepPs g.imm w ((xs.drop l).take (h - l)) ((vs.drop l).take (h - l)) ∧ (∀ x ∈ (vs.drop l).take (h - l), x.cells.size = sz) ∧
      CellsAt g.imm w b (o + l * sz) (((vs.drop l).take (h - l)).flatMap (·.cells.toList)) := by
  refine ⟨RepPs.take _ (RepPs.drop _ hr), fun x hx => hs x (List.mem_of_mem_drop (List.mem_of_mem_take hx)), ?_⟩
  have hs' : ∀ x ∈ vs.drop l, x.cells.size = sz := fun x hx => hs x (List.mem_of_mem_drop hx)
  rw [flat_take _ hs', flat_drop _ hs]
  exact hc.sub _ _

theorem wide_size {sz sz' : Nat} {xs : List PVal} {vs : List Value} (hr : RepPs g.imm w xs vs) (hs : ∀ x ∈ vs, x.cells.size = sz) (hw : wide sz' xs = true) (hne : xs ≠ []) : sz = sz' := by
  cases xs with
  | nil => exact absurd rfl hne
  | cons x xs =>
    obtain ⟨v, vs, rfl, a, _⟩ := hr
    have h1 := hs v (by simp)
    have h2 : (cellsP x).length = sz' := Nat.eq_of_beq_eq_true hw
    rw [← h1, ← h2]
    cases x with
    | agg cs => obtain ⟨us, rfl, h3, _⟩ := a; simp [Value.cells, cellsP, RepPs.length h3]
    | bool _ => have e : v = _ := a; subst e; rfl
    | int _ _ => have e : v = _ := a; subst e; rfl
    | str _ => obtain ⟨_, rfl, _⟩ := a; rfl
    | nilp => have e : v = _ := a; subst e; rfl
    | nils => have e : v = _ := a; subst e; rfl
    | nilm => have e : v = _ := a; subst e; rfl
    | nilf => have e : v = _ := a; subst e; rfl
    | nili => have e : v = _ := a; subst e; rfl
    | tup _ => obtain ⟨_, rfl, _⟩ := a; rfl
    | iface _ _ => obtain ⟨_, rfl, _⟩ := a; rfl
    | sl _ => obtain ⟨_, _, _, _, _, rfl, _⟩ := a; rfl
    | ip _ => obtain ⟨_, _, _, rfl, _⟩ := a; rfl
    | fn _ _ => obtain ⟨_, rfl, _⟩ := a; rfl

/-- slicing what stays. -/
theorem slice_pure {e t : Nat} {xs : List PVal} {sz sz' l h b o cap : Nat} {c : Bool} {vs : List Value} {lo hi mx : Option AVal} {vlo vhi vmx : Option Value}
    (hu : P.underlying t = some (.slice e)) (hsz : szT P e = some sz) (h1 : RepO g s w lo vlo) (h2 : RepO g s w hi vhi) (h3 : RepO g s w mx vmx)
    (hcap : xs.length ≤ cap) (hr : RepPs g.imm w xs vs) (hs : ∀ x ∈ vs, x.cells.size = sz') (hcell : CellsAt g.imm w b o (vs.flatMap (·.cells.toList)))
    (hc : cut lo hi mx xs.length = some (l, h, c)) (hw : wide sz xs = true) :
    ∃ u, (Instr.slice t (.slice (some ⟨b, o, none⟩) xs.length cap) vlo vhi vmx).run P w = .ok u w ∧
      (c = false → RepA g s w (.p (.sl ((xs.drop l).take (h - l)))) u) ∧ (c = true → RepA g s w (.cl ((xs.drop l).take (h - l))) u) := by
  obtain ⟨m, hb, m1, m2, hlh, hhl⟩ := cut_run (P := P) (b := true) h1 h2 h3 hcap hc
  refine ⟨.slice (some (if m = l then ⟨b, o, none⟩ else (⟨b, o, none⟩ : Addr).add (l * sz))) (h - l) (m - l), ?_, ?_⟩
  · simp only [Instr.slice, Sem.run_bind, run_underlying' hu, Result.andThen_ok, hb, run_sizeOf' hsz, Sem.run_pure]
    congr 1
    split <;> simp
  · have hlen : ((xs.drop l).take (h - l)).length = h - l := by simp; omega
    have key : ∃ b' o', (if m = l then (⟨b, o, none⟩ : Addr) else (⟨b, o, none⟩ : Addr).add (l * sz)) = ⟨b', o', none⟩ ∧
        CellsAt g.imm w b' o' (((vs.drop l).take (h - l)).flatMap (·.cells.toList)) := by
      by_cases hml : m = l
      · have : h = l := by
          cases c
          · have := m1 rfl; omega
          · have := m2 rfl; omega
        subst this
        exact ⟨b, o, by simp [hml], by simp [CellsAt.nil]⟩
      · rw [if_neg hml]
        by_cases hne : xs = []
        · subst hne
          have : vs = [] := hr
          subst this
          by_cases hz : l * sz = 0
          · exact ⟨b, o, by simp [Addr.add, hz], by simp [CellsAt.nil]⟩
          · exact ⟨b, o + l * sz, by simp [Addr.add, hz], by simp [CellsAt.nil]⟩
        · have hss := wide_size hr hs hw hne
          subst hss
          obtain ⟨_, _, h5⟩ := slice_part (l := l) (h := h) hr hs hcell
          by_cases hz : l * sz' = 0
          · rw [hz] at h5
            exact ⟨b, o, by simp [Addr.add, hz], by simpa using h5⟩
          · exact ⟨b, o + l * sz', by simp [Addr.add, hz], h5⟩
    obtain ⟨b', o', e, hcc⟩ := key
    obtain ⟨h5, h6, _⟩ := slice_part (l := l) (h := h) hr hs hcell
    rw [e]
    constructor
    · intro hcf
      have := m1 hcf
      exact ⟨b', o', m - l, sz', _, by rw [hlen], by rw [hlen]; omega, h5, h6, hcc⟩
    · intro hcf
      have := m2 hcf
      subst this
      exact ⟨b', o', sz', _, by rw [hlen], h5, h6, hcc⟩


theorem sliceOp_run {t : Nat} {S : St} {x : AVal} {lo hi mx : Option AVal} {v : Value} {vlo vhi vmx : Option Value} {e : Eff} (hs : ∀ id, s id = S.get id)
    (hx : RepA g s w x v) (h1 : RepO g s w lo vlo) (h2 : RepO g s w hi vhi) (h3 : RepO g s w mx vmx) (h : sliceOp P S t x lo hi mx = some e) :
    e.wr = [] ∧ ∃ u, (Instr.slice t v vlo vhi vmx).run P w = .ok u w ∧ RepA g s w e.v u := by
  unfold sliceOp at h
  split at h
  · rename_i hu
    split at h
    · rename_i bs
      split at h <;> simp at h
      rename_i l h' c hc
      subst h
      refine ⟨rfl, ?_⟩
      obtain ⟨r, rfl, rfl⟩ := hx
      cases vmx with
      | some _ => exact h3.elim
      | none =>
        have hsz : (r.data.toList.map UInt8.toNat).length = r.size := by simp
        rw [hsz] at hc
        obtain ⟨m, hb, m1, m2, hlh, hhl⟩ := cut_run (P := P) (b := false) h1 h2 (show RepO g s w none none from trivial) (Nat.le_refl _) hc
        refine ⟨.string (r.extract l h'), ?_, r.extract l h', rfl, ?_⟩
        · simp [Instr.slice, run_underlying' hu, hb]
        · rw [ByteArray.data_extract]
          simp [List.map_take, List.map_drop, Array.toList_extract]
    · simp at h
  · rename_i el hu
    split at h
    · rename_i sz hsz
      split at h
      · split at h <;> simp at h
        rename_i r hc
        subst h
        obtain ⟨l, h', c⟩ := r
        refine ⟨rfl, ?_⟩
        have e : v = .slice none 0 0 := hx
        subst e
        obtain ⟨m, hb, m1, m2, hlh, hhl⟩ := cut_run (P := P) (b := true) h1 h2 h3 (Nat.le_refl 0) hc
        have hh : h' = 0 := by omega
        have hl : l = 0 := by omega
        subst hh; subst hl
        have hm : m = 0 := by cases c; exact m1 rfl; exact m2 rfl
        subst hm
        exact ⟨.slice none 0 0, by simp [Instr.slice, run_underlying' hu, hb, run_sizeOf' hsz], rfl⟩
      · rename_i xs
        obtain ⟨b, o, cap, sz', vs, rfl, hcap, hr, hss, hcell⟩ := hx
        split at h
        · rename_i l h' c hc hw
          obtain ⟨u, hrun, k1, k2⟩ := slice_pure hu hsz h1 h2 h3 hcap hr hss hcell hc hw
          split at h <;> simp at h <;> subst h
          · exact ⟨rfl, u, hrun, k1 rfl⟩
          · exact ⟨rfl, u, hrun, k2 rfl⟩
        · simp at h
      · rename_i xs
        obtain ⟨b, o, sz', vs, rfl, hr, hss, hcell⟩ := hx
        split at h
        · rename_i l h' c hc hw
          obtain ⟨u, hrun, k1, k2⟩ := slice_pure hu hsz h1 h2 h3 (Nat.le_refl _) hr hss hcell hc hw
          split at h <;> simp at h <;> subst h
          · exact ⟨rfl, u, hrun, k1 rfl⟩
          · exact ⟨rfl, u, hrun, k2 rfl⟩
        · simp at h
      · rename_i id ep off len capd
        obtain ⟨b, o, cap, rfl, hcap, hcd, hv⟩ := hx
        split at h
        · rename_i l h' c sz' n xs cur lost fz hc hobj
          split at h
          · rename_i hsz'
            have : sz = sz' := Nat.eq_of_beq_eq_true hsz'
            subst this
            obtain ⟨m, hb, m1, m2, hlh, hhl⟩ := cut_run (P := P) (b := true) h1 h2 h3 hcap hc
            have hrun : (Instr.slice t (.slice (some ⟨b, o, none⟩) len cap) vlo vhi vmx).run P w = .ok (.slice (some (if m = l then ⟨b, o, none⟩ else (⟨b, o, none⟩ : Addr).add (l * sz))) (h' - l) (m - l)) w := by
              simp only [Instr.slice, Sem.run_bind, run_underlying' hu, Result.andThen_ok, hb, run_sizeOf' hsz, Sem.run_pure]
              congr 1
              split <;> simp
            have addr : ∃ b' o', (if m = l then (⟨b, o, none⟩ : Addr) else (⟨b, o, none⟩ : Addr).add (l * sz)) = ⟨b', o', none⟩ := by
              split
              · exact ⟨_, _, rfl⟩
              · by_cases hz : l * sz = 0
                · exact ⟨b, o, by simp [Addr.add, hz]⟩
                · exact ⟨b, o + l * sz, by simp [Addr.add, hz]⟩
            split at h
            · rename_i hlh'
              have : l = h' := Nat.eq_of_beq_eq_true hlh'
              subst this
              simp at h; subst h
              have := m2 rfl
              subst this
              refine ⟨rfl, _, hrun, b, o, 0, [], by simp, rfl, by simp, by simp [CellsAt.nil]⟩
            · rename_i hlh'
              have : l = h' := Nat.eq_of_beq_eq_true hlh'
              subst this
              simp at h; subst h
              obtain ⟨b', o', e⟩ := addr
              refine ⟨rfl, _, hrun, b', o', m - l, 0, [], by rw [e]; simp, by simp, rfl, by simp, by simp [CellsAt.nil]⟩
            · rename_i hlh'
              have hne : l ≠ h' := Nat.ne_of_beq_eq_false hlh'
              simp at h; subst h
              have := m2 rfl
              subst this
              have hml : ¬ m = l := by omega
              refine ⟨rfl, _, hrun, b, o + l * sz, m - l, ?_, Nat.le_refl _, fun _ => rfl, ?_⟩
              · rw [if_neg hml]
                by_cases hz : l * sz = 0
                · simp [Addr.add, hz]
                · simp [Addr.add, hz]
              · obtain ⟨sz2, n2, xs2, cur2, lost2, fz2, e2, hv⟩ := hv
                refine ⟨sz2, n2, xs2, cur2, lost2, fz2, e2, fun hl => ?_⟩
                obtain ⟨h5, st, mm, h6, h7, h8, h9, h10⟩ := hv hl
                have esz : sz2 = sz := by
                  have := (hs id).symm.trans e2
                  rw [hobj] at this
                  simp at this
                  exact this.1.symm
                subst esz
                refine ⟨h5, st, mm, h6, ?_, by omega, by simp, h10⟩
                rw [h7, Nat.add_mul]; omega
            · rename_i hlh'
              have hne : l ≠ h' := Nat.ne_of_beq_eq_false hlh'
              split at h
              · simp at h
              rename_i hch
              simp at h; subst h
              have := m1 rfl
              subst this
              have hml : ¬ m = l := by omega
              refine ⟨rfl, _, hrun, b, o + l * sz, m - l, ?_, by omega, ?_, ?_⟩
              · rw [if_neg hml]
                by_cases hz : l * sz = 0
                · simp [Addr.add, hz]
                · simp [Addr.add, hz]
              · intro hcc
                have h1' := hcd hcc
                rw [hcc] at hch
                have : h' = len := by
                  have : Nat.beq h' len = true := by simpa using hch
                  exact Nat.eq_of_beq_eq_true this
                omega
              · obtain ⟨sz2, n2, xs2, cur2, lost2, fz2, e2, hv⟩ := hv
                refine ⟨sz2, n2, xs2, cur2, lost2, fz2, e2, fun hl => ?_⟩
                obtain ⟨h5, st, mm, h6, h7, h8, h9, h10⟩ := hv hl
                have esz : sz2 = sz := by
                  have := (hs id).symm.trans e2
                  rw [hobj] at this
                  simp at this
                  exact this.1.symm
                subst esz
                refine ⟨h5, st, mm, h6, ?_, by omega, ?_, h10⟩
                · rw [h7, Nat.add_mul]; omega
                · intro hcc
                  have := h9 hcc
                  have e3 : o + l * sz2 + (m - l) * sz2 = o + m * sz2 := by
                    rw [Nat.add_assoc, ← Nat.add_mul, Nat.add_sub_cancel' (by omega)]
                  rw [e3]; exact this
          · simp at h
        · simp at h
      · simp at h
    · simp at h
  · simp at h

end
end Go.Proofs.YtceccojmekpneaaGreatDoor.Sw
