/- What lies in memory beside cells. -/
import Derived.Test.YtceccojmekpneaaGreatDoorSwQ
import Derived.RangeFuncRecord
namespace Go.Proofs.YtceccojmekpneaaGreatDoor.Sw
open Go.RowKit

section
variable {P : Program} {g : Sg} {s : Sto} {w : World}

theorem bsize_same {w w2 : World} {b : Nat} (h : w2.heap[b]? = w.heap[b]?) : World.bsize w2 b = World.bsize w b := by unfold World.bsize; rw [h]

/-- something new that holds no cells. -/
theorem new_ho (hi : Inv g s w) {id : Nat} (hid : s id = none) {h : HObj} {o : Go.Obj} (hr : RepH g s w h o) :
    ∃ g', Ext g s w g' (upd s id (.ho h)) (w.alloc o) ∧ Inv g' (upd s id (.ho h)) (w.alloc o) ∧ g'.bx id = some w.heap.size := by
  have hbn : g.bx id = none := by
    cases hb : g.bx id with
    | none => rfl
    | some b =>
      rcases (hi.bxS id b hb).2.2.2.2 with ⟨cs, h⟩ | ⟨es, h⟩ <;> rw [hid] at h <;> simp at h
  let g' : Sg := { g with bx := fun i => if i = id then some w.heap.size else g.bx i }
  have hs : ∀ i x, s i = some x → upd s id (.ho h) i = some x := fun i x h => by
    rw [upd_other _ _ (fun e => by subst e; rw [hid] at h; simp at h)]; exact h
  have hbx : ∀ i b, g.bx i = some b → g'.bx i = some b := fun i b h => by
    have : i ≠ id := fun e => by subst e; rw [hbn] at h; simp at h
    simp [g', this, h]
  have e : Ext g s w g' (upd s id (.ho h)) (w.alloc o) := Ext.alloc hi _ hs (fun _ _ h => h) hbx (fun _ _ h => h) (fun _ _ _ => rfl) rfl (fun _ _ _ h => h)
  refine ⟨g', e, ⟨?_, ?_, ?_, ?_, ?_, ?_, ?_, ?_⟩, by simp [g']⟩
  · intro i cs' h1
    have hii : i ≠ id := fun e => by subst e; simp at h1
    rw [upd_other _ _ hii] at h1
    obtain ⟨b, c', t', h1, h2, h3, h4⟩ := hi.box i cs' h1
    exact ⟨b, c', t', hbx _ _ h1, by rw [heap_alloc_lt _ _ (hi.bxS _ _ h1).2.1]; exact h2, RepAs.ext e _ _ h3, h4⟩
  · intro i sz n xs cur lost fz h1
    have hii : i ≠ id := fun e => by subst e; simp at h1
    rw [upd_other _ _ hii] at h1
    obtain ⟨h1, h2, h3, h4⟩ := hi.arr i sz n xs cur lost fz h1
    refine ⟨h1, h2, h3, fun b st m hb => ?_⟩
    obtain ⟨h5, c', t', vs, h6, h7, h8⟩ := h4 b st m hb
    exact ⟨h5, c', t', vs, by rw [heap_alloc_lt _ _ (hi.rgS _ _ _ _ hb).2.2]; exact h6, RepAs.ext e _ _ h7, h8⟩
  · intro b i st m hb
    obtain ⟨⟨sz, n, xs, cur, lost, fz, h1⟩, h2, h3⟩ := hi.rgS b i st m hb
    exact ⟨⟨sz, n, xs, cur, lost, fz, hs _ _ h1⟩, h2, by simp; omega⟩
  · intro i b hb
    by_cases hii : i = id
    · subst hii
      simp [g'] at hb
      subst hb
      refine ⟨hi.baseS, by simp, ?_, fun o ho => ?_, .inr ⟨h, by simp⟩⟩
      · cases hr' : g.rg w.heap.size with
        | none => rfl
        | some r => obtain ⟨a, b, c⟩ := r; have := (hi.rgS _ _ _ _ hr').2.2; omega
      · have := hi.immS _ _ ho; omega
    · simp [g', hii] at hb
      obtain ⟨h1, h2, h3, h4, h5⟩ := hi.bxS i b hb
      refine ⟨h1, by simp; omega, h3, h4, ?_⟩
      rcases h5 with ⟨cs', h5⟩ | ⟨es, h5⟩
      · exact .inl ⟨cs', hs _ _ h5⟩
      · exact .inr ⟨es, hs _ _ h5⟩
  · intro i j b h1 h2
    by_cases hii : i = id
    · subst hii
      by_cases hjj : j = i
      · exact hjj.symm
      · simp [g', hjj] at h1 h2
        subst h1
        have := (hi.bxS j _ h2).2.1; omega
    · by_cases hjj : j = id
      · subst hjj
        simp [g', hii] at h1 h2
        subst h2
        have := (hi.bxS i _ h1).2.1; omega
      · simp [g', hii, hjj] at h1 h2
        exact hi.inj i j b h1 h2
  · intro b o h
    have := hi.immS b o h
    simp; omega
  · simp; have := hi.baseS; show g.base ≤ _; omega
  · intro i h' h1
    by_cases hii : i = id
    · subst hii
      simp at h1
      subst h1
      exact ⟨w.heap.size, o, by simp [g'], heap_alloc_new w _, hr.ext e⟩
    · rw [upd_other _ _ hii] at h1
      obtain ⟨b, o', h3, h4, h5⟩ := hi.ho i h' h1
      exact ⟨b, o', hbx _ _ h3, by rw [heap_alloc_lt _ _ (hi.bxS _ _ h3).2.1]; exact h4, h5.ext e⟩

/-- something that holds no cells becomes another. -/
theorem set_ho (hi : Inv g s w) {id b : Nat} {h0 : HObj} (hid : s id = some (.ho h0)) (hb : g.bx id = some b) {h : HObj} {o : Go.Obj} (hr : RepH g s w h o) :
    Ext g s w g (upd s id (.ho h)) (w.putObj b o) ∧ Inv g (upd s id (.ho h)) (w.putObj b o) := by
  obtain ⟨hbb, hbs, hrgn, himm, _⟩ := hi.bxS id b hb
  have hs : ∀ i x, (∀ h, x ≠ .ho h) → (s i = some x ↔ upd s id (.ho h) i = some x) := by
    intro i x hx
    by_cases hii : i = id
    · subst hii
      rw [hid]
      simp only [upd_same, Option.some.injEq]
      exact ⟨fun e => absurd e.symm (hx _), fun e => absurd e.symm (hx _)⟩
    · rw [upd_other _ _ hii]
  have hoth : ∀ b', b' ≠ b → (w.putObj b o).heap[b']? = w.heap[b']? := fun b' hne => World.putObj_heap_other hne
  have hrgb : ∀ b' r, g.rg b' = some r → b' ≠ b := fun b' r hr e => by subst e; rw [hrgn] at hr; simp at hr
  have e : Ext g s w g (upd s id (.ho h)) (w.putObj b o) := by
    refine ⟨?_, fun _ _ h => h, ?_, ?_, rfl, ?_, fun _ _ _ h => h⟩
    · intro b' o' x h hx
      have hne : b' ≠ b := fun e => by subst e; exact himm _ h
      exact ⟨h, by rw [World.cell?_of_block (hoth b' hne)]; exact hx⟩
    · rintro i ep off' len capd b' o' cap ⟨sz, n, xs, cur, lost, fz, h1, h2⟩
      refine ⟨sz, n, xs, cur, lost, fz, (hs _ _ (by simp)).1 h1, fun hl => ?_⟩
      obtain ⟨h3, st, m, h4, h5, h6, h7, h8⟩ := h2 hl
      exact ⟨h3, st, m, h4, h5, h6, fun hcd => by rw [bsize_same (hoth _ (hrgb _ _ h4))]; exact h7 hcd, h8⟩
    · rintro i ep j off' b' o' ⟨sz, n, xs, cur, lost, fz, h1, h2⟩
      exact ⟨sz, n, xs, cur, lost, fz, (hs _ _ (by simp)).1 h1, h2⟩
    · exact ⟨rfl, rfl, rfl, by simp, fun k hk => hoth k (by omega)⟩
  refine ⟨e, ?_, ?_, ?_, ?_, hi.inj, fun b' o' h => by simpa using hi.immS b' o' h, by simpa using hi.baseS, ?_⟩
  · intro i ds h1
    have h1' := (hs _ _ (by simp)).2 h1
    obtain ⟨b2, c2, t2, h3, h4, h5, h6⟩ := hi.box i ds h1'
    have hne : b2 ≠ b := fun e => by
      subst e
      have := hi.inj _ _ _ h3 hb
      subst this
      rw [hid] at h1'; simp at h1'
    exact ⟨b2, c2, t2, h3, by rw [hoth _ hne]; exact h4, RepAs.ext e _ _ h5, h6⟩
  · intro i sz n xs cur lost fz h1
    obtain ⟨h1, h2, h3, h4⟩ := hi.arr i sz n xs cur lost fz ((hs _ _ (by simp)).2 h1)
    refine ⟨h1, h2, h3, fun b2 st m hb2 => ?_⟩
    obtain ⟨h5, c2, t2, vs, h6, h7, h8⟩ := h4 b2 st m hb2
    exact ⟨h5, c2, t2, vs, by rw [hoth _ (hrgb _ _ hb2)]; exact h6, RepAs.ext e _ _ h7, h8⟩
  · intro b2 i st m h
    obtain ⟨⟨sz, n, xs, cur, lost, fz, h1⟩, h2, h3⟩ := hi.rgS b2 i st m h
    exact ⟨⟨sz, n, xs, cur, lost, fz, (hs _ _ (by simp)).1 h1⟩, h2, by simpa using h3⟩
  · intro i b2 h1
    obtain ⟨h1, h2, h3, h4, h5⟩ := hi.bxS i b2 h1
    refine ⟨h1, by simpa using h2, h3, h4, ?_⟩
    by_cases hii : i = id
    · subst hii; exact .inr ⟨h, by simp⟩
    · rw [upd_other _ _ hii]; exact h5
  · intro i h' h1
    by_cases hii : i = id
    · subst hii
      simp at h1
      subst h1
      exact ⟨b, o, hb, World.putObj_heap_same hbs, hr.ext e⟩
    · rw [upd_other _ _ hii] at h1
      obtain ⟨b2, o', h3, h4, h5⟩ := hi.ho i h' h1
      have hne : b2 ≠ b := fun e => by subst e; exact hii (hi.inj _ _ _ h3 hb)
      exact ⟨b2, o', h3, by rw [hoth _ hne]; exact h4, h5.ext e⟩

/-- what lies in memory under a name. -/
theorem Inv.at_ho (hi : Inv g s w) {id b : Nat} {h : HObj} (hid : s id = some (.ho h)) (hb : g.bx id = some b) : ∃ o, w.heap[b]? = some o ∧ RepH g s w h o := by
  obtain ⟨b', o, h1, h2, h3⟩ := hi.ho id h hid
  rw [hb] at h1
  simp at h1
  subst h1
  exact ⟨o, h2, h3⟩

end
end Go.Proofs.YtceccojmekpneaaGreatDoor.Sw
