/- Arrays that are taken over from a call; arrays that are left as they are. -/
import Derived.Test.YtceccojmekpneaaGreatDoorSwS
namespace Go.Proofs.YtceccojmekpneaaGreatDoor.Sw
open Go.RowKit

section
variable {P : Program} {g g' : Sg} {s s' : Sto} {w w' : World}

/-- an array that is there already gets a name. -/
theorem take_over (hi : Inv g s w) {id blk st sz : Nat} (hid : s id = none) {xs : List AVal} {vs : List Value} {c : Array Value} {t : TypeId} (hblk : w.heap[blk]? = some (.cells c t (0, 0)))
    (hb : g.base ≤ blk) (hrgn : g.rg blk = none) (hbx : ∀ i, g.bx i ≠ some blk) (himm : ∀ o, g.imm blk o → o < st) (hr : RepAs g s w xs vs)
    (hv : ∀ v ∈ vs, v.cells.size = sz ∧ ∀ x ∈ v.cells.toList, isCell x = true) (hcells : ∀ (i : Nat) (x : Value), (vs.flatMap (·.cells.toList))[i]? = some x → c[st + i]? = some x)
    {cap : Nat} (hcap : xs.length ≤ cap) (hroom : st + cap * sz ≤ c.size) :
    ∃ g', Ext g s w g' (upd s id (.arr sz xs.length xs 0 0 0)) w ∧ Inv g' (upd s id (.arr sz xs.length xs 0 0 0)) w ∧
      RepA g' (upd s id (.arr sz xs.length xs 0 0 0)) w (.arr id 0 0 xs.length false) (.slice (some ⟨blk, st, none⟩) xs.length cap) ∧
      g'.imm = g.imm ∧ g'.bx = g.bx ∧ g'.base = g.base ∧ ∀ b, b ≠ blk → g'.rg b = g.rg b := by
  have hlt : blk < w.heap.size := (Array.getElem?_eq_some_iff.1 hblk).1
  let g' : Sg := { g with rg := fun b => if b = blk then some (id, st, xs.length) else g.rg b, cb := fun i => if i = id then blk else g.cb i }
  have hs : ∀ i x, s i = some x → upd s id (.arr sz xs.length xs 0 0 0) i = some x := fun i x h => by
    rw [upd_other _ _ (fun e => by subst e; rw [hid] at h; simp at h)]; exact h
  have hrg : ∀ b r, g.rg b = some r → g'.rg b = some r := fun b r h => by
    have : b ≠ blk := fun e => by subst e; rw [hrgn] at h; simp at h
    simp [g', this, h]
  have hcb : ∀ i x, s i = some x → g'.cb i = g.cb i := fun i x h => by
    have : i ≠ id := fun e => by subst e; rw [hid] at h; simp at h
    simp [g', this]
  have hle : xs.length * sz ≤ cap * sz := Nat.mul_le_mul_right _ hcap
  have e : Ext g s w g' (upd s id (.arr sz xs.length xs 0 0 0)) w := by
    refine ⟨fun _ _ _ h hc => ⟨h, hc⟩, fun _ _ h => h, ?_, ?_, rfl, .refl _ _, fun _ _ _ h => h⟩
    · rintro i ep off len capd b o' cap ⟨sz, n, xs, cur, lost, fz, h1, h2⟩
      refine ⟨sz, n, xs, cur, lost, fz, hs _ _ h1, fun hl => ?_⟩
      obtain ⟨h3, st, m, h4, h5, h6, h7, h8⟩ := h2 hl
      exact ⟨h3, st, m, hrg _ _ h4, h5, h6, h7, fun hc => by rw [hcb _ _ h1]; exact h8 hc⟩
    · rintro i ep j off b o' ⟨sz, n, xs, cur, lost, fz, h1, h2⟩
      refine ⟨sz, n, xs, cur, lost, fz, hs _ _ h1, fun hl => ?_⟩
      obtain ⟨h3, st, m, h4, h5, h6, h7⟩ := h2 hl
      exact ⟨h3, st, m, hrg _ _ h4, h5, h6, fun hc => by rw [hcb _ _ h1]; exact h7 hc⟩
  refine ⟨g', e, ?_, ?_, rfl, rfl, rfl, fun b hb => by simp [g', hb]⟩
  · refine ⟨?_, ?_, ?_, ?_, hi.inj, hi.immS, hi.baseS, ho_keep hi.ho e (fun i h hh => upd_ho hh (by simp)) (fun _ _ _ _ => rfl)⟩
    · intro i cs' h
      have hii : i ≠ id := fun e => by subst e; simp at h
      rw [upd_other _ _ hii] at h
      obtain ⟨b, c', t', h1, h2, h3, h4⟩ := hi.box i cs' h
      exact ⟨b, c', t', h1, h2, RepAs.ext e _ _ h3, h4⟩
    · intro i sz' n xs' cur lost fz h
      by_cases hii : i = id
      · subst hii
        simp at h
        obtain ⟨rfl, rfl, rfl, rfl, rfl, rfl⟩ := h
        refine ⟨rfl, Nat.le_refl _, by omega, fun b st' m hb => ?_⟩
        by_cases hbb : b = blk
        · subst hbb
          simp [g'] at hb
          obtain ⟨rfl, rfl⟩ := hb
          refine ⟨Nat.le_refl _, c, t, vs, hblk, ?_, hv, hcells, fun o ho => by have := himm o ho; omega, by omega⟩
          rw [List.take_length]; exact RepAs.ext e _ _ hr
        · simp [g', hbb] at hb
          obtain ⟨⟨_, _, _, _, _, _, h⟩, _, _⟩ := hi.rgS _ _ _ _ hb
          rw [hid] at h; simp at h
      · rw [upd_other _ _ hii] at h
        obtain ⟨h1, h2, h3, h4⟩ := hi.arr i sz' n xs' cur lost fz h
        refine ⟨h1, h2, h3, fun b st m hb => ?_⟩
        have hbb : b ≠ blk := fun e => by subst e; simp [g'] at hb; exact hii hb.1.symm
        simp [g', hbb] at hb
        obtain ⟨h5, c', t', vs', h6, h7, h8⟩ := h4 b st m hb
        exact ⟨h5, c', t', vs', h6, RepAs.ext e _ _ h7, h8⟩
    · intro b i st' m hb'
      by_cases hbb : b = blk
      · subst hbb
        simp [g'] at hb'
        obtain ⟨rfl, rfl, rfl⟩ := hb'
        exact ⟨⟨_, _, _, _, _, _, upd_same _ _ _⟩, hb, hlt⟩
      · simp [g', hbb] at hb'
        obtain ⟨⟨sz', n, xs', cur, lost, fz, h1⟩, h2, h3⟩ := hi.rgS b i st' m hb'
        exact ⟨⟨sz', n, xs', cur, lost, fz, hs _ _ h1⟩, h2, h3⟩
    · intro i b hb'
      obtain ⟨h1, h2, h3, h4, h5⟩ := hi.bxS i b hb'
      refine ⟨h1, h2, ?_, h4, ?_⟩
      · have : b ≠ blk := fun e => by subst e; exact hbx _ hb'
        simp [g', this, h3]
      · rcases h5 with ⟨cs', h5⟩ | ⟨es, h5⟩
        · exact .inl ⟨cs', hs _ _ h5⟩
        · exact .inr ⟨es, hs _ _ h5⟩
  · refine ⟨blk, st, cap, rfl, hcap, by simp, sz, xs.length, xs, 0, 0, 0, upd_same _ _ _, fun _ => ⟨Nat.le_refl _, st, xs.length, by simp [g'], by simp, by simp, fun hcd => ?_, fun _ => by simp [g']⟩⟩
    unfold World.bsize
    rw [hblk]
    exact hroom

/-- a map that is there already gets a name. -/
theorem take_ho (hi : Inv g s w) {id blk : Nat} (hid : s id = none) {h : HObj} {o : Go.Obj} (hblk : w.heap[blk]? = some o) (hb : g.base ≤ blk) (hrgn : g.rg blk = none) (hbx : ∀ i, g.bx i ≠ some blk)
    (himm : ∀ o, ¬ g.imm blk o) (hr : RepH g s w h o) :
    ∃ g', Ext g s w g' (upd s id (.ho h)) w ∧ Inv g' (upd s id (.ho h)) w ∧ g'.bx id = some blk ∧ g'.imm = g.imm ∧ g'.rg = g.rg ∧ g'.base = g.base ∧ ∀ i, i ≠ id → g'.bx i = g.bx i := by
  have hlt : blk < w.heap.size := (Array.getElem?_eq_some_iff.1 hblk).1
  have hbn : g.bx id = none := by
    cases hb : g.bx id with
    | none => rfl
    | some b =>
      rcases (hi.bxS id b hb).2.2.2.2 with ⟨cs, h⟩ | ⟨es, h⟩ <;> rw [hid] at h <;> simp at h
  let g' : Sg := { g with bx := fun i => if i = id then some blk else g.bx i }
  have hs : ∀ i x, s i = some x → upd s id (.ho h) i = some x := fun i x h => by
    rw [upd_other _ _ (fun e => by subst e; rw [hid] at h; simp at h)]; exact h
  have hbx' : ∀ i b, g.bx i = some b → g'.bx i = some b := fun i b h => by
    have : i ≠ id := fun e => by subst e; rw [hbn] at h; simp at h
    simp [g', this, h]
  have e : Ext g s w g' (upd s id (.ho h)) w := by
    refine ⟨fun _ _ _ h hc => ⟨h, hc⟩, hbx', ?_, ?_, rfl, .refl _ _, fun _ _ _ h => h⟩
    · rintro i ep off len capd b o' cap ⟨sz, n, xs, cur, lost, fz, h1, h2⟩
      exact ⟨sz, n, xs, cur, lost, fz, hs _ _ h1, h2⟩
    · rintro i ep j off b o' ⟨sz, n, xs, cur, lost, fz, h1, h2⟩
      exact ⟨sz, n, xs, cur, lost, fz, hs _ _ h1, h2⟩
  refine ⟨g', e, ⟨?_, ?_, ?_, ?_, ?_, hi.immS, hi.baseS, ?_⟩, by simp [g'], rfl, rfl, rfl, fun i hii => by simp [g', hii]⟩
  · intro i cs' h1
    have hii : i ≠ id := fun e => by subst e; simp at h1
    rw [upd_other _ _ hii] at h1
    obtain ⟨b, c', t', h1, h2, h3, h4⟩ := hi.box i cs' h1
    exact ⟨b, c', t', hbx' _ _ h1, h2, RepAs.ext e _ _ h3, h4⟩
  · intro i sz n xs cur lost fz h1
    have hii : i ≠ id := fun e => by subst e; simp at h1
    rw [upd_other _ _ hii] at h1
    obtain ⟨h1, h2, h3, h4⟩ := hi.arr i sz n xs cur lost fz h1
    refine ⟨h1, h2, h3, fun b st m hb => ?_⟩
    obtain ⟨h5, c', t', vs, h6, h7, h8⟩ := h4 b st m hb
    exact ⟨h5, c', t', vs, h6, RepAs.ext e _ _ h7, h8⟩
  · intro b i st m hb
    obtain ⟨⟨sz, n, xs, cur, lost, fz, h1⟩, h2, h3⟩ := hi.rgS b i st m hb
    exact ⟨⟨sz, n, xs, cur, lost, fz, hs _ _ h1⟩, h2, h3⟩
  · intro i b hb'
    by_cases hii : i = id
    · subst hii
      simp [g'] at hb'
      subst hb'
      exact ⟨hb, hlt, hrgn, himm, .inr ⟨h, by simp⟩⟩
    · simp [g', hii] at hb'
      obtain ⟨h1, h2, h3, h4, h5⟩ := hi.bxS i b hb'
      refine ⟨h1, h2, h3, h4, ?_⟩
      rcases h5 with ⟨cs', h5⟩ | ⟨es, h5⟩
      · exact .inl ⟨cs', hs _ _ h5⟩
      · exact .inr ⟨es, hs _ _ h5⟩
  · intro i j b h1 h2
    by_cases hii : i = id
    · subst hii
      by_cases hjj : j = i
      · exact hjj.symm
      · simp [g', hjj] at h1 h2
        subst h1
        exact absurd h2 (hbx _)
    · by_cases hjj : j = id
      · subst hjj
        simp [g', hii] at h1 h2
        subst h2
        exact absurd h1 (hbx _)
      · simp [g', hii, hjj] at h1 h2
        exact hi.inj i j b h1 h2
  · intro i h' h1
    by_cases hii : i = id
    · subst hii
      simp at h1
      subst h1
      exact ⟨blk, o, by simp [g'], hblk, hr.ext e⟩
    · rw [upd_other _ _ hii] at h1
      obtain ⟨b, o', h3, h4, h5⟩ := hi.ho i h' h1
      exact ⟨b, o', hbx' _ _ h3, h4, h5.ext e⟩

/-- an array that is left as it is. -/
theorem freeze_one (hi : Inv g s w) {id sz n : Nat} {xs : List AVal} {cur lost fz : Nat} (hid : s id = some (.arr sz n xs cur lost fz)) :
    Ext g s w g (upd s id (.arr sz n xs cur lost n)) w ∧ Inv g (upd s id (.arr sz n xs cur lost n)) w := by
  have e : Ext g s w g (upd s id (.arr sz n xs cur lost n)) w := by
    refine ⟨fun _ _ _ h hc => ⟨h, hc⟩, fun _ _ h => h, ?_, ?_, rfl, .refl _ _, fun _ _ _ h => h⟩
    · rintro i ep off len capd b o' cap ⟨sz', n', xs', cur', lost', fz', h1, h2⟩
      by_cases hii : i = id
      · subst hii
        rw [hid] at h1
        simp at h1
        obtain ⟨rfl, rfl, rfl, rfl, rfl, rfl⟩ := h1
        exact ⟨_, _, _, _, _, _, upd_same _ _ _, h2⟩
      · exact ⟨_, _, _, _, _, _, by rw [upd_other _ _ hii]; exact h1, h2⟩
    · rintro i ep j off b o' ⟨sz', n', xs', cur', lost', fz', h1, h2⟩
      by_cases hii : i = id
      · subst hii
        rw [hid] at h1
        simp at h1
        obtain ⟨rfl, rfl, rfl, rfl, rfl, rfl⟩ := h1
        exact ⟨_, _, _, _, _, _, upd_same _ _ _, h2⟩
      · exact ⟨_, _, _, _, _, _, by rw [upd_other _ _ hii]; exact h1, h2⟩
  refine ⟨e, ?_, ?_, ?_, ?_, hi.inj, hi.immS, hi.baseS, ho_keep hi.ho e (fun i h hh => upd_ho hh (by simp)) (fun _ _ _ _ => rfl)⟩
  · intro i cs' h
    have hii : i ≠ id := fun e => by subst e; simp at h
    rw [upd_other _ _ hii] at h
    obtain ⟨b, c', t', h1, h2, h3, h4⟩ := hi.box i cs' h
    exact ⟨b, c', t', h1, h2, RepAs.ext e _ _ h3, h4⟩
  · intro i sz' n' xs' cur' lost' fz' h
    by_cases hii : i = id
    · subst hii
      simp at h
      obtain ⟨rfl, rfl, rfl, rfl, rfl, rfl⟩ := h
      obtain ⟨h1, h2, h3, h4⟩ := hi.arr i _ _ _ _ _ _ hid
      refine ⟨h1, h2, Nat.le_refl _, fun b st m hb => ?_⟩
      obtain ⟨h5, c', t', vs', h6, h7, h8, h9, h10, h11⟩ := h4 b st m hb
      refine ⟨h5, c', t', vs', h6, RepAs.ext e _ _ h7, h8, h9, fun o ho => ?_, h11⟩
      have := h10 o ho
      have := Nat.mul_le_mul_right sz h3
      omega
    · rw [upd_other _ _ hii] at h
      obtain ⟨h1, h2, h3, h4⟩ := hi.arr i sz' n' xs' cur' lost' fz' h
      refine ⟨h1, h2, h3, fun b st m hb => ?_⟩
      obtain ⟨h5, c', t', vs', h6, h7, h8⟩ := h4 b st m hb
      exact ⟨h5, c', t', vs', h6, RepAs.ext e _ _ h7, h8⟩
  · intro b i st' m hb'
    obtain ⟨⟨sz', n', xs', cur', lost', fz', h1⟩, h2, h3⟩ := hi.rgS b i st' m hb'
    refine ⟨?_, h2, h3⟩
    by_cases hii : i = id
    · subst hii; exact ⟨_, _, _, _, _, _, upd_same _ _ _⟩
    · exact ⟨_, _, _, _, _, _, by rw [upd_other _ _ hii]; exact h1⟩
  · intro i b hb'
    obtain ⟨h1, h2, h3, h4, h5⟩ := hi.bxS i b hb'
    refine ⟨h1, h2, h3, h4, ?_⟩
    have hii : i ≠ id := fun e => by
      subst e
      rcases h5 with ⟨cs', h5⟩ | ⟨es, h5⟩ <;> rw [hid] at h5 <;> simp at h5
    rw [upd_other _ _ hii]
    exact h5

abbrev upds (s : Sto) (l : List (Nat × Obj)) : Sto := l.foldl (fun s x => upd s x.1 x.2) s

/-- is it the same, but for what is left as it is? -/
def Frozen (s s' : Sto) (ids : List Nat) : Prop :=
  (∀ id, s' id = s id ∨ ∃ sz n xs cur lost fz, s id = some (.arr sz n xs cur lost fz) ∧ s' id = some (.arr sz n xs cur lost n)) ∧
  ∀ id ∈ ids, ∀ sz n xs cur lost fz, s id = some (.arr sz n xs cur lost fz) → s' id = some (.arr sz n xs cur lost n)

theorem freeze_all {S : St} {s₀ : Sto} (hs : ∀ id, s₀ id = S.get id) : ∀ (ids : List Nat) {s : Sto} {l : List Nat}, Inv g s w → Frozen s₀ s l →
    Ext g s w g (upds s (freeze S ids)) w ∧ Inv g (upds s (freeze S ids)) w ∧ Frozen s₀ (upds s (freeze S ids)) (l ++ ids)
  | [], s, l, hi, hf => by simpa [freeze, upds] using ⟨Ext.refl g s w, hi, hf⟩
  | id :: ids, s, l, hi, hf => by
    simp only [freeze]
    split
    · rename_i sz n xs ep lost fz hid
      have hid' : s₀ id = some (.arr sz n xs ep lost fz) := (hs id).trans hid
      have : ∃ fz', s id = some (.arr sz n xs ep lost fz') := by
        rcases hf.1 id with h | ⟨sz', n', xs', cur', lost', fz', h1, h2⟩
        · exact ⟨fz, h.trans hid'⟩
        · rw [hid'] at h1
          simp at h1
          obtain ⟨rfl, rfl, rfl, rfl, rfl, rfl⟩ := h1
          exact ⟨_, h2⟩
      obtain ⟨fz', h1⟩ := this
      obtain ⟨e1, e2⟩ := freeze_one hi h1
      have hf' : Frozen s₀ (upd s id (.arr sz n xs ep lost n)) (l ++ [id]) := by
        refine ⟨fun i => ?_, fun i hi' sz' n' xs' cur' lost' fz' h => ?_⟩
        · by_cases hii : i = id
          · subst hii; exact .inr ⟨_, _, _, _, _, _, hid', upd_same _ _ _⟩
          · rw [upd_other _ _ hii]; exact hf.1 i
        · by_cases hii : i = id
          · subst hii
            rw [hid'] at h
            simp at h
            obtain ⟨rfl, rfl, rfl, rfl, rfl, rfl⟩ := h
            exact upd_same _ _ _
          · rw [upd_other _ _ hii]
            exact hf.2 i (by simp at hi'; exact hi'.resolve_right hii) _ _ _ _ _ _ h
      obtain ⟨e3, e4, e5⟩ := freeze_all hs ids e2 hf'
      exact ⟨e1.trans e3, e4, by simpa using e5⟩
    · rename_i hno
      have hf' : Frozen s₀ s (l ++ [id]) := by
        refine ⟨hf.1, fun i hi' sz' n' xs' cur' lost' fz' h => ?_⟩
        by_cases hii : i = id
        · subst hii
          exact absurd ((hs i).symm.trans h) (hno _ _ _ _ _ _)
        · exact hf.2 i (by simp at hi'; exact hi'.resolve_right hii) _ _ _ _ _ _ h
      obtain ⟨e3, e4, e5⟩ := freeze_all hs ids hi hf'
      exact ⟨e3, e4, by simpa using e5⟩

/-- what a call leaves: the memory that was there is as it was; some cells more stay. -/
theorem Inv.past (hi : Inv g s w) (hb : Below w.heap.size w w') {I : Nat → Nat → Prop} (h1 : ∀ b o, I b o → b < w'.heap.size)
    (h2 : ∀ b o, I b o → b < w.heap.size → g.imm b o ∨ ∃ id st m sz n xs cur lost, g.rg b = some (id, st, m) ∧ s id = some (.arr sz n xs cur lost n) ∧ o < st + m * sz) :
    Ext g s w { g with imm := fun b o => g.imm b o ∨ I b o } s w' ∧ Inv { g with imm := fun b o => g.imm b o ∨ I b o } s w' := by
  have e : Ext g s w { g with imm := fun b o => g.imm b o ∨ I b o } s w' := by
    refine ⟨fun b o c h hc => ⟨.inl h, by rw [hb.cell (p := ⟨b, o, none⟩) (hi.immS b o h)]; exact hc⟩, fun _ _ h => h, ?_, fun _ _ _ _ _ _ h => h, rfl, hb.mono hi.baseS, ?_⟩
    · rintro i ep off len capd b o' cap ⟨sz', n', xs', cur', lost', fz', k1, k2⟩
      refine ⟨sz', n', xs', cur', lost', fz', k1, fun hl => ?_⟩
      obtain ⟨h3, st, m, h4, h5, h6, h7, h8⟩ := k2 hl
      exact ⟨h3, st, m, h4, h5, h6, fun hc => by rw [bsize_same (hb.block b (hi.rgS _ _ _ _ h4).2.2)]; exact h7 hc, h8⟩
    · intro b o hlt h
      rcases h with h | h
      · exact h
      · rcases h2 b o h (Nat.lt_of_lt_of_le hlt hi.baseS) with h | ⟨id, st, m, _, _, _, _, _, h3, _⟩
        · exact h
        · have := (hi.rgS _ _ _ _ h3).2.1; omega
  refine ⟨e, ?_, ?_, ?_, ?_, hi.inj, ?_, Nat.le_trans hi.baseS hb.size, ho_keep hi.ho e (fun _ _ h => h) (fun i b' hb' _ => hb.block b' (hi.bxS _ _ hb').2.1)⟩
  · intro i cs' h
    obtain ⟨b, c', t', k1, k2, k3, k4⟩ := hi.box i cs' h
    exact ⟨b, c', t', k1, by rw [hb.block b (hi.bxS _ _ k1).2.1]; exact k2, RepAs.ext e _ _ k3, k4⟩
  · intro i sz n xs cur lost fz h
    obtain ⟨k1, k2, k3, k4⟩ := hi.arr i sz n xs cur lost fz h
    refine ⟨k1, k2, k3, fun b st m hr => ?_⟩
    obtain ⟨k5, c', t', vs', k6, k7, k8, k9, k10, k11⟩ := k4 b st m hr
    have hlt := (hi.rgS _ _ _ _ hr).2.2
    refine ⟨k5, c', t', vs', by rw [hb.block b hlt]; exact k6, RepAs.ext e _ _ k7, k8, k9, fun o ho => ?_, k11⟩
    rcases ho with ho | ho
    · exact k10 o ho
    · rcases h2 b o ho hlt with ho | ⟨id, st', m', sz', n', xs', cur', lost', q1, q2, q3⟩
      · exact k10 o ho
      · rw [hr] at q1
        simp at q1
        obtain ⟨rfl, rfl, rfl⟩ := q1
        rw [h] at q2
        simp at q2
        obtain ⟨rfl, rfl, rfl, rfl, rfl, rfl⟩ := q2
        have := Nat.mul_le_mul_right sz k5
        omega
  · intro b i st m hr
    obtain ⟨q1, q2, q3⟩ := hi.rgS b i st m hr
    exact ⟨q1, q2, Nat.lt_of_lt_of_le q3 hb.size⟩
  · intro i b hx
    obtain ⟨q1, q2, q3, q4, q5⟩ := hi.bxS i b hx
    refine ⟨q1, Nat.lt_of_lt_of_le q2 hb.size, q3, fun o ho => ?_, q5⟩
    rcases ho with ho | ho
    · exact q4 o ho
    · rcases h2 b o ho q2 with ho | ⟨id, st', m', sz', n', xs', cur', lost', q6, _⟩
      · exact q4 o ho
      · rw [q3] at q6; simp at q6
  · intro b o h
    rcases h with h | h
    · exact Nat.lt_of_lt_of_le (hi.immS b o h) hb.size
    · exact h1 b o h

end
end Go.Proofs.YtceccojmekpneaaGreatDoor.Sw
