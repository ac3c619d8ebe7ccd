/- Tries; what a tree stands for in the model's memory. -/
import Derived.Test.YtceccojmekpneaaGreatDoorSwC
namespace Go.Proofs.YtceccojmekpneaaGreatDoor.Sw

/-! ### Tries -/
theorem bits_inj : ∀ (f g m n : Nat), m ≤ f → n ≤ g → bits f m = bits g n → m = n := by
  intro f
  induction f with
  | zero =>
    intro g m n hm hn h
    have : m = 0 := by omega
    subst this
    cases g with
    | zero => omega
    | succ g =>
      cases n with
      | zero => rfl
      | succ n => simp [bits] at h
  | succ f ih =>
    intro g m n hm hn h
    cases m with
    | zero =>
      cases g with
      | zero => omega
      | succ g =>
        cases n with
        | zero => rfl
        | succ n => simp [bits] at h
    | succ m =>
      cases g with
      | zero =>
        have : n = 0 := by omega
        subst this
        simp [bits] at h
      | succ g =>
        cases n with
        | zero => simp [bits] at h
        | succ n =>
          simp only [bits, List.cons.injEq] at h
          obtain ⟨h1, h2⟩ := h
          have e := ih g (Nat.div m 2) (Nat.div n 2) (by show m / 2 ≤ f; omega) (by show n / 2 ≤ g; omega) h2
          have h1' : ((m + 1) % 2 = 0) ↔ ((n + 1) % 2 = 0) := by
            have a : Nat.beq ((m + 1) % 2) 0 = Nat.beq ((n + 1) % 2) 0 := h1
            constructor
            · intro h0
              rw [h0] at a
              exact Nat.eq_of_beq_eq_true (a.symm.trans rfl)
            · intro h0
              rw [h0] at a
              exact Nat.eq_of_beq_eq_true (a.trans rfl)
          have e' : m / 2 = n / 2 := e
          omega

theorem path_inj {m n : Nat} (h : path m = path n) : m = n := bits_inj m n m n (Nat.le_refl _) (Nat.le_refl _) h

theorem Tr.find_put {α : Type} (x : α) : ∀ (p q : List Bool) (t : Tr α), (t.put x p).find q = if p = q then some x else t.find q := by
  intro p
  induction p with
  | nil =>
    intro q t
    cases t with
    | lf => cases q with
      | nil => simp [Tr.put, Tr.find]
      | cons b q => cases b <;> simp [Tr.put, Tr.find] <;> cases q <;> simp [Tr.find]
    | nd v l r => cases q with
      | nil => simp [Tr.put, Tr.find]
      | cons b q => cases b <;> simp [Tr.put, Tr.find]
  | cons a p ih =>
    intro q t
    cases t with
    | lf =>
      cases q with
      | nil => cases a <;> simp [Tr.put, Tr.find]
      | cons b q =>
        have hl : ∀ q : List Bool, (Tr.lf : Tr α).find q = none := by intro q; cases q <;> rfl
        cases a <;> cases b <;> simp [Tr.put, Tr.find, ih, hl]
    | nd v l r =>
      cases q with
      | nil => cases a <;> simp [Tr.put, Tr.find]
      | cons b q => cases a <;> cases b <;> simp [Tr.put, Tr.find, ih]

theorem Tr.get_set {α : Type} (t : Tr α) (m n : Nat) (x : α) : (t.set m x).get n = if m = n then some x else t.get n := by
  unfold Tr.get Tr.set
  rw [Tr.find_put]
  by_cases h : m = n
  · simp [h]
  · rw [if_neg h, if_neg (fun e => h (path_inj e))]

theorem Tr.get_lf {α : Type} (n : Nat) : (Tr.lf : Tr α).get n = none := by
  unfold Tr.get
  cases path n <;> rfl

theorem St.get_set (s : St) (m n : Nat) (o : Obj) : (s.set m o).get n = if m = n then some o else s.get n := Tr.get_set _ _ _ _
@[simp] theorem St.next_set (s : St) (m : Nat) (o : Obj) : (s.set m o).next = s.next := rfl

/-! ### Memory -/
def isCell : Value → Bool
  | .agg _ => false
  | .tuple _ => false
  | _ => true

/-- the cells from there on are these, and all of them are among I. -/
def CellsAt (I : Nat → Nat → Prop) (w : World) (b o : Nat) (cs : List Value) : Prop :=
  ∀ (i : Nat) (c : Value), cs[i]? = some c → w.cell? ⟨b, o + i, none⟩ = some c ∧ I b (o + i)

mutual
def RepP (I : Nat → Nat → Prop) (w : World) : PVal → Value → Prop
  | .bool b, v => v = .bool b
  | .int k n, v => v = .int k n
  | .str s, v => ∃ t : ByteArray, v = .string t ∧ t.data.toList.map UInt8.toNat = s
  | .nilp, v => v = .pointer none
  | .nils, v => v = .slice none 0 0
  | .nilm, v => v = .map none
  | .nilf, v => v = .nilFunc
  | .nili, v => v = .nilIface
  | .agg cs, v => ∃ vs : List Value, v = .agg vs.toArray ∧ RepPs I w cs vs ∧ (∀ x ∈ vs, isCell x = true)
  | .tup cs, v => ∃ vs : List Value, v = .tuple vs.toArray ∧ RepPs I w cs vs
  | .iface t x, v => ∃ y, v = .iface t y ∧ RepP I w x y
  | .sl xs, v => ∃ b o cap sz vs, v = .slice (some ⟨b, o, none⟩) xs.length cap ∧ xs.length ≤ cap ∧ RepPs I w xs vs ∧
      (∀ x ∈ vs, x.cells.size = sz) ∧ CellsAt I w b o (vs.flatMap (·.cells.toList))
  | .ip x, v => ∃ b o y, v = .pointer (some ⟨b, o, none⟩) ∧ RepP I w x y ∧ CellsAt I w b o y.cells.toList
  | .fn f cap, v => ∃ vs : List Value, v = .func f #[] vs.toArray ∧ RepPs I w cap vs
def RepPs (I : Nat → Nat → Prop) (w : World) : List PVal → List Value → Prop
  | [], vs => vs = []
  | x :: xs, vs => ∃ y ys, vs = y :: ys ∧ RepP I w x y ∧ RepPs I w xs ys
end

/-- what lay among I lies there still, and is the same. -/
def Keeps (I I' : Nat → Nat → Prop) (w w' : World) : Prop :=
  ∀ b o c, I b o → w.cell? ⟨b, o, none⟩ = some c → I' b o ∧ w'.cell? ⟨b, o, none⟩ = some c

theorem Keeps.refl (I : Nat → Nat → Prop) (w : World) : Keeps I I w w := fun _ _ _ h h' => ⟨h, h'⟩
theorem Keeps.trans {I I' I'' : Nat → Nat → Prop} {w w' w'' : World} (h : Keeps I I' w w') (h' : Keeps I' I'' w' w'') : Keeps I I'' w w'' :=
  fun b o c hi hc => let ⟨a, d⟩ := h b o c hi hc; h' b o c a d

theorem CellsAt.keeps {I I' : Nat → Nat → Prop} {w w' : World} {b o : Nat} {cs : List Value} (hk : Keeps I I' w w') (h : CellsAt I w b o cs) : CellsAt I' w' b o cs :=
  fun i c hi => let ⟨a, d⟩ := h i c hi; let ⟨x, y⟩ := hk b (o + i) c d a; ⟨y, x⟩

mutual
theorem RepP.keeps {I I' : Nat → Nat → Prop} {w w' : World} (hk : Keeps I I' w w') : ∀ (x : PVal) (v : Value), RepP I w x v → RepP I' w' x v
  | .bool _, _, h => h
  | .int _ _, _, h => h
  | .str _, _, h => h
  | .nilp, _, h => h
  | .nils, _, h => h
  | .nilm, _, h => h
  | .nilf, _, h => h
  | .nili, _, h => h
  | .agg cs, _, h => by
    obtain ⟨vs, e, h1, h2⟩ := h
    exact ⟨vs, e, RepPs.keeps hk cs vs h1, h2⟩
  | .tup cs, _, h => by
    obtain ⟨vs, e, h1⟩ := h
    exact ⟨vs, e, RepPs.keeps hk cs vs h1⟩
  | .iface t x, _, h => by
    obtain ⟨y, e, h1⟩ := h
    exact ⟨y, e, RepP.keeps hk x y h1⟩
  | .sl xs, _, h => by
    obtain ⟨b, o, cap, sz, vs, e, hc, h1, h2, h3⟩ := h
    exact ⟨b, o, cap, sz, vs, e, hc, RepPs.keeps hk xs vs h1, h2, h3.keeps hk⟩
  | .ip x, _, h => by
    obtain ⟨b, o, y, e, h1, h2⟩ := h
    exact ⟨b, o, y, e, RepP.keeps hk x y h1, h2.keeps hk⟩
  | .fn f cap, _, h => by
    obtain ⟨vs, e, h1⟩ := h
    exact ⟨vs, e, RepPs.keeps hk cap vs h1⟩
theorem RepPs.keeps {I I' : Nat → Nat → Prop} {w w' : World} (hk : Keeps I I' w w') : ∀ (xs : List PVal) (vs : List Value), RepPs I w xs vs → RepPs I' w' xs vs
  | [], _, h => h
  | x :: xs, _, h => by
    obtain ⟨y, ys, e, h1, h2⟩ := h
    exact ⟨y, ys, e, RepP.keeps hk x y h1, RepPs.keeps hk xs ys h2⟩
end

theorem RepPs.length {I : Nat → Nat → Prop} {w : World} : ∀ {xs : List PVal} {vs : List Value}, RepPs I w xs vs → vs.length = xs.length
  | [], _, h => by rw [h]; rfl
  | _ :: xs, _, h => by
    obtain ⟨y, ys, rfl, _, h2⟩ := h
    simp [RepPs.length h2]

/-- the store as a function. -/
abbrev Sto := Nat → Option Obj

/-- where the names lie: I: the cells that stay; bx: the block of a box; rg: of a block, the array that it is of, where that begins, how many elements it has there; cb: the block in which an array is now. -/
structure Sg where
  imm : Nat → Nat → Prop
  bx : Nat → Option Nat
  rg : Nat → Option (Nat × Nat × Nat)
  cb : Nat → Nat
  base : Nat

def World.bsize (w : World) (b : Nat) : Nat := match w.heap[b]? with
  | some (.cells c _ _) => c.size
  | _ => 0

def ViewOk (g : Sg) (s : Sto) (w : World) (id ep off len : Nat) (capd : Bool) (b o cap : Nat) : Prop :=
  ∃ sz n xs cur lost fz, s id = some (.arr sz n xs cur lost fz) ∧
    (lost ≤ ep → ep ≤ cur ∧ ∃ st m, g.rg b = some (id, st, m) ∧ o = st + off * sz ∧ off + len ≤ m ∧ (capd = false → o + cap * sz ≤ World.bsize w b) ∧ (ep = cur → g.cb id = b))

def ElOk (g : Sg) (s : Sto) (id ep i off : Nat) (b o : Nat) : Prop :=
  ∃ sz n xs cur lost fz, s id = some (.arr sz n xs cur lost fz) ∧
    (lost ≤ ep → ep ≤ cur ∧ ∃ st m, g.rg b = some (id, st, m) ∧ i < m ∧ o = st + i * sz + off ∧ (ep = cur → g.cb id = b))

/-- a reference to a block that holds no cells. -/
def refVal (k : Rk) (b : Nat) : Value := match k with
  | .mp => .map (some b)
  | .it => .pointer (some ⟨b, 0, none⟩)
  | .yld => .func (.yield b) #[] #[]

mutual
def RepA (g : Sg) (s : Sto) (w : World) : AVal → Value → Prop
  | .p x, v => RepP g.imm w x v
  | .agg cs, v => ∃ vs : List Value, v = .agg vs.toArray ∧ RepAs g s w cs vs ∧ (∀ x ∈ vs, isCell x = true)
  | .tup cs, v => ∃ vs : List Value, v = .tuple vs.toArray ∧ RepAs g s w cs vs
  | .iface t x, v => ∃ y, v = .iface t y ∧ RepA g s w x y
  | .cl xs, v => ∃ b o sz vs, v = .slice (some ⟨b, o, none⟩) xs.length xs.length ∧ RepPs g.imm w xs vs ∧
      (∀ x ∈ vs, x.cells.size = sz) ∧ CellsAt g.imm w b o (vs.flatMap (·.cells.toList))
  | .own _ _, _ => False
  | .ownm _, _ => False
  | .box id off, v => ∃ b, g.bx id = some b ∧ v = .pointer (some ⟨b, off, none⟩)
  | .arr id ep off len capd, v => ∃ b o cap, v = .slice (some ⟨b, o, none⟩) len cap ∧ len ≤ cap ∧ (capd = true → cap = len) ∧ ViewOk g s w id ep off len capd b o cap
  | .el id ep i off, v => ∃ b o, v = .pointer (some ⟨b, o, none⟩) ∧ ElOk g s id ep i off b o
  | .fn f cap, v => ∃ vs : List Value, v = .func f #[] vs.toArray ∧ RepAs g s w cap vs
  | .rf k id, v => ∃ b, g.bx id = some b ∧ v = refVal k b
  | .junk, _ => True
def RepAs (g : Sg) (s : Sto) (w : World) : List AVal → List Value → Prop
  | [], vs => vs = []
  | x :: xs, vs => ∃ y ys, vs = y :: ys ∧ RepA g s w x y ∧ RepAs g s w xs ys
end

/-- from one state of things to a later one: whatever was meant is meant. -/
structure Ext (g : Sg) (s : Sto) (w : World) (g' : Sg) (s' : Sto) (w' : World) : Prop where
  keeps : Keeps g.imm g'.imm w w'
  bx : ∀ id b, g.bx id = some b → g'.bx id = some b
  view : ∀ id ep off len capd b o cap, ViewOk g s w id ep off len capd b o cap → ViewOk g' s' w' id ep off len capd b o cap
  el : ∀ id ep i off b o, ElOk g s id ep i off b o → ElOk g' s' id ep i off b o
  base : g'.base = g.base
  below : Go.RowKit.Below g.base w w'
  immB : ∀ b o, b < g.base → g'.imm b o → g.imm b o

theorem Ext.refl (g : Sg) (s : Sto) (w : World) : Ext g s w g s w :=
  ⟨.refl _ _, fun _ _ h => h, fun _ _ _ _ _ _ _ _ h => h, fun _ _ _ _ _ _ h => h, rfl, .refl _ _, fun _ _ _ h => h⟩

theorem Ext.trans {g g' g'' : Sg} {s s' s'' : Sto} {w w' w'' : World} (h : Ext g s w g' s' w') (h' : Ext g' s' w' g'' s'' w'') : Ext g s w g'' s'' w'' :=
  ⟨h.keeps.trans h'.keeps, fun id b hb => h'.bx id b (h.bx id b hb), fun _ _ _ _ _ _ _ _ hv => h'.view _ _ _ _ _ _ _ _ (h.view _ _ _ _ _ _ _ _ hv),
    fun _ _ _ _ _ _ he => h'.el _ _ _ _ _ _ (h.el _ _ _ _ _ _ he), h'.base.trans h.base, h.below.trans (h.base ▸ h'.below),
    fun b o hb hi => h.immB b o hb (h'.immB b o (h.base ▸ hb) hi)⟩

section
variable {g g' : Sg} {s s' : Sto} {w w' : World}
mutual
theorem RepA.ext (he : Ext g s w g' s' w') : ∀ (x : AVal) (v : Value), RepA g s w x v → RepA g' s' w' x v
  | .p x, v, h => RepP.keeps he.keeps x v h
  | .agg cs, _, h => by
    obtain ⟨vs, e, h1, h2⟩ := h
    exact ⟨vs, e, RepAs.ext he cs vs h1, h2⟩
  | .tup cs, _, h => by
    obtain ⟨vs, e, h1⟩ := h
    exact ⟨vs, e, RepAs.ext he cs vs h1⟩
  | .iface t x, _, h => by
    obtain ⟨y, e, h1⟩ := h
    exact ⟨y, e, RepA.ext he x y h1⟩
  | .cl xs, _, h => by
    obtain ⟨b, o, sz, vs, e, h1, h2, h3⟩ := h
    exact ⟨b, o, sz, vs, e, RepPs.keeps he.keeps xs vs h1, h2, h3.keeps he.keeps⟩
  | .own _ _, _, h => h.elim
  | .ownm _, _, h => h.elim
  | .box id off, _, h => by
    obtain ⟨b, h1, h2⟩ := h
    exact ⟨b, he.bx _ _ h1, h2⟩
  | .arr id ep off len capd, _, h => by
    obtain ⟨b, o, cap, h1, h2, h3, h4⟩ := h
    exact ⟨b, o, cap, h1, h2, h3, he.view _ _ _ _ _ _ _ _ h4⟩
  | .el id ep i off, _, h => by
    obtain ⟨b, o, h1, h2⟩ := h
    exact ⟨b, o, h1, he.el _ _ _ _ _ _ h2⟩
  | .fn f cap, _, h => by
    obtain ⟨vs, e, h1⟩ := h
    exact ⟨vs, e, RepAs.ext he cap vs h1⟩
  | .rf k id, _, h => by
    obtain ⟨b, h1, h2⟩ := h
    exact ⟨b, he.bx _ _ h1, h2⟩
  | .junk, _, _ => trivial
theorem RepAs.ext (he : Ext g s w g' s' w') : ∀ (xs : List AVal) (vs : List Value), RepAs g s w xs vs → RepAs g' s' w' xs vs
  | [], _, h => h
  | x :: xs, _, h => by
    obtain ⟨y, ys, e, h1, h2⟩ := h
    exact ⟨y, ys, e, RepA.ext he x y h1, RepAs.ext he xs ys h2⟩
end

theorem RepAs.length : ∀ {xs : List AVal} {vs : List Value}, RepAs g s w xs vs → vs.length = xs.length
  | [], _, h => by rw [h]; rfl
  | _ :: xs, _, h => by
    obtain ⟨y, ys, rfl, _, h2⟩ := h
    simp [RepAs.length h2]
end

end Go.Proofs.YtceccojmekpneaaGreatDoor.Sw
