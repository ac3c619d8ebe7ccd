/- A verified evaluator over the code that the model runs: its words, its operations, and what they stand for. Part D. -/
import Derived.Test.YtlcbgidfdkbfcaaGreatDoorEvC
import Derived.WideShapes
import Derived.ChangeSlices
import Derived.Deep.Slices
import Derived.Deep.Strs
set_option linter.unusedVariables false
set_option linter.unusedSimpArgs false
/- Runs with unknown values: what is known at the head of a loop: values that are wanted later, names made anew, what is not reached forgotten. -/
namespace Go.Proofs.YtlcbgidfdkbfcaaGreatDoor.Sw
open Go.RowKit
def idx : List Nat → Nat → Option Nat
  | [], _ => none
  | x :: r, n => match Nat.beq x n with
    | true => some 0
    | false => match idx r n with
      | some k => some (k + 1)
      | none => none
def isSome {α : Type} : Option α → Bool
  | some _ => true
  | none => false
mutual
def idsA : AVal → List Nat
  | .agg cs => idsAs cs
  | .tup cs => idsAs cs
  | .iface _ v => idsA v
  | .fn _ cs => idsAs cs
  | .fnb _ cs => idsAs cs
  | .box id _ => [id]
  | .arr id _ _ _ _ => [id]
  | .p _ => []
  | .cl _ => []
  | .own _ _ => []
  | .ownm _ => []
  | .el _ _ _ _ => []
  | .rf _ _ => []
  | .junk => []
def idsAs : List AVal → List Nat
  | [] => []
  | v :: r => idsA v ++ idsAs r
end
mutual
def renA (ids : List Nat) (σ : XSt) : AVal → Option AVal
  | .p x => some (.p x)
  | .cl xs => some (.cl xs)
  | .agg cs => match renAs ids σ cs with
    | some cs => some (.agg cs)
    | none => none
  | .tup cs => match renAs ids σ cs with
    | some cs => some (.tup cs)
    | none => none
  | .iface t v => match renA ids σ v with
    | some v => some (.iface t v)
    | none => none
  | .fn f cs => match renAs ids σ cs with
    | some cs => some (.fn f cs)
    | none => none
  | .fnb f cs => match renAs ids σ cs with
    | some cs => some (.fnb f cs)
    | none => none
  | .box id off => match idx ids id with
    | some j => some (.box j off)
    | none => none
  | .arr id ep off len c => match idx ids id, σ.get id with
    | some j, some (.arr _ _ cur _ _) => match Nat.beq ep cur with
      | true => some (.arr j 0 off len c)
      | false => none
    | _, _ => none
  | .own _ _ => none
  | .ownm _ => none
  | .el _ _ _ _ => none
  | .rf _ _ => none
  | .junk => none
def renAs (ids : List Nat) (σ : XSt) : List AVal → Option (List AVal)
  | [] => some []
  | v :: r => match renA ids σ v, renAs ids σ r with
    | some v, some r => some (v :: r)
    | _, _ => none
end
def renO (ids : List Nat) (σ : XSt) : XObj → Option XObj
  | .box cs => match renAs ids σ cs with
    | some cs => some (.box cs)
    | none => none
  | .arr sz xs _ _ fz => some (.arr sz xs 0 0 fz)
  | .pbox cs => some (.pbox cs)
def renOs (ids : List Nat) (σ : XSt) : List Nat → Option (List XObj)
  | [] => some []
  | id :: r => match σ.get id with
    | some o => match renO ids σ o, renOs ids σ r with
      | some o, some r => some (o :: r)
      | _, _ => none
    | none => none
def reach (σ : XSt) : Nat → List Nat → List Nat → List Nat
  | 0, _, acc => acc
  | _ + 1, [], acc => acc
  | k + 1, id :: q, acc => match isSome (idx acc id) with
    | true => reach σ k q acc
    | false => match σ.get id with
      | some (.box cs) => reach σ k (idsAs cs ++ q) (acc ++ [id])
      | _ => reach σ k q (acc ++ [id])
def distinct : List Nat → Bool
  | [] => true
  | x :: r => match isSome (idx r x) with
    | true => false
    | false => distinct r
structure XC where
  vals : List AVal
  objs : List XObj
def getAll (tm : Tr AVal) : List Nat → Option (List AVal)
  | [] => some []
  | t :: r => match tm.get t, getAll tm r with
    | some v, some vs => some (v :: vs)
    | _, _ => none
def tmOf (gl : Tr AVal) : List Nat → List AVal → Tr AVal
  | t :: ts, v :: vs => (tmOf gl ts vs).set t v
  | _, _ => gl
def objsOf : Nat → List XObj → Tr XObj
  | _, [] => .lf
  | i, o :: r => (objsOf (i + 1) r).set i o
def XC.st (c : XC) : XSt := { next := c.objs.length, objs := objsOf 0 c.objs }
section
variable {α : Type}
def canonAt (σ : XSt) (vs : List AVal) (ids : List Nat) (K : XC → Option α) : Option α := match distinct ids with
  | true => match renAs ids σ vs, renOs ids σ ids with
    | some vs', some os => K ⟨vs', os⟩
    | _, _ => none
  | false => none
def canon (live : List Nat) (tm : Tr AVal) (σ : XSt) (K : XC → Option α) : Option α := match getAll tm live with
  | some vs => canonAt σ vs (reach σ 64 (idsAs vs) []) K
  | none => none
end
theorem idx_some : ∀ {l : List Nat} {n k : Nat}, idx l n = some k → l[k]? = some n
  | [], _, _, h => by simp [idx] at h
  | x :: l, n, k, h => by
    simp only [idx] at h
    split at h
    · rename_i e
      simp at h
      subst h
      simp [Nat.eq_of_beq_eq_true e]
    · split at h <;> simp at h
      rename_i j hj
      subst h
      simpa using idx_some hj
theorem idx_none : ∀ {l : List Nat} {n : Nat}, isSome (idx l n) = false → n ∉ l
  | [], _, _ => by simp
  | x :: l, n, h => by
    simp only [idx] at h
    split at h
    · simp [isSome] at h
    · rename_i e
      have : isSome (idx l n) = false := by
        split at h
        · simp [isSome] at h
        · rename_i e2; rw [e2]; rfl
      have h1 := idx_none this
      simp only [List.mem_cons, not_or]
      exact ⟨fun e2 => by subst e2; rw [Nat.beq_refl] at e; simp at e, h1⟩
theorem distinct_inj : ∀ {l : List Nat}, distinct l = true → ∀ {i j n : Nat}, l[i]? = some n → l[j]? = some n → i = j
  | [], _, i, j, n, h, _ => by simp at h
  | x :: l, hd, i, j, n, h1, h2 => by
    simp only [distinct] at hd
    split at hd
    · simp at hd
    · rename_i e
      have hx := idx_none e
      cases i with
      | zero => cases j with
        | zero => rfl
        | succ j =>
          simp at h1 h2
          subst h1
          exact absurd (List.mem_of_getElem? h2) hx
      | succ i => cases j with
        | zero =>
          simp at h1 h2
          subst h2
          exact absurd (List.mem_of_getElem? h1) hx
        | succ j =>
          simp at h1 h2
          rw [distinct_inj hd h1 h2]
theorem idx_of : ∀ {l : List Nat} {k n : Nat}, distinct l = true → l[k]? = some n → idx l n = some k := by
  intro l k n hd h
  cases hi : idx l n with
  | none =>
    have := idx_none (l := l) (n := n) (by rw [hi]; rfl)
    exact absurd (List.mem_of_getElem? h) this
  | some j => rw [distinct_inj hd (idx_some hi) h]
theorem renOs_get {ids : List Nat} {σ : XSt} : ∀ {l : List Nat} {os : List XObj}, renOs ids σ l = some os → os.length = l.length ∧ ∀ (k id : Nat), l[k]? = some id → ∃ o o', σ.get id = some o ∧ renO ids σ o = some o' ∧ os[k]? = some o'
  | [], os, h => by
    simp [renOs] at h
    subst h
    exact ⟨rfl, fun k id hk => by simp at hk⟩
  | i :: l, os, h => by
    simp only [renOs] at h
    split at h <;> try (simp at h; done)
    rename_i o ho
    split at h <;> simp at h
    rename_i o' r h1 h2
    subst h
    obtain ⟨h3, h4⟩ := renOs_get h2
    refine ⟨by simp [h3], fun k id hk => ?_⟩
    cases k with
    | zero =>
      simp at hk
      subst hk
      exact ⟨o, o', ho, h1, rfl⟩
    | succ k =>
      simp at hk
      simpa using h4 k id hk
theorem objsOf_get : ∀ (os : List XObj) (i j : Nat), (objsOf i os).get j = if i ≤ j then os[j - i]? else none
  | [], i, j => by simp [objsOf, Tr.get_lf]
  | o :: os, i, j => by
    simp only [objsOf, Tr.get_set, objsOf_get os (i + 1) j]
    by_cases h : i = j
    · subst h; simp
    · rw [if_neg h]
      by_cases h1 : i ≤ j
      · obtain ⟨d, hd⟩ : ∃ d, j - i = d + 1 := ⟨j - i - 1, by omega⟩
        rw [if_pos h1, if_pos (by omega), hd]
        have : j - (i + 1) = d := by omega
        rw [this]; simp
      · rw [if_neg h1, if_neg (by omega)]
theorem XC.st_get (c : XC) (j : Nat) : c.st.get j = c.objs[j]? := by
  show (objsOf 0 c.objs).get j = _
  rw [objsOf_get]; simp
theorem tmOf_get {gl : Tr AVal} : ∀ {ts : List Nat} {vs : List AVal} {t : Nat} {x : AVal}, (tmOf gl ts vs).get t = some x → (∃ k : Nat, ts[k]? = some t ∧ vs[k]? = some x) ∨ gl.get t = some x
  | [], vs, t, x, h => by cases vs <;> exact .inr h
  | _ :: _, [], t, x, h => .inr h
  | t' :: ts, v :: vs, t, x, h => by
    simp only [tmOf, Tr.get_set] at h
    split at h
    · rename_i e
      simp at h
      exact .inl ⟨0, by simp [e], by simp [h]⟩
    · rcases tmOf_get h with ⟨k, h1, h2⟩ | h
      · exact .inl ⟨k + 1, by simpa using h1, by simpa using h2⟩
      · exact .inr h
theorem getAll_get {tm : Tr AVal} : ∀ {ts : List Nat} {vs : List AVal}, getAll tm ts = some vs → vs.length = ts.length ∧ ∀ (k t : Nat), ts[k]? = some t → ∃ v, vs[k]? = some v ∧ tm.get t = some v
  | [], vs, h => by
    simp [getAll] at h
    subst h
    exact ⟨rfl, fun k t hk => by simp at hk⟩
  | t' :: ts, vs, h => by
    simp only [getAll] at h
    split at h <;> simp at h
    rename_i v r h1 h2
    subst h
    obtain ⟨h3, h4⟩ := getAll_get h2
    refine ⟨by simp [h3], fun k t hk => ?_⟩
    cases k with
    | zero =>
      simp at hk
      subst hk
      exact ⟨v, rfl, h1⟩
    | succ k =>
      simp at hk
      simpa using h4 k t hk
theorem renAs_get {ids : List Nat} {σ : XSt} : ∀ {vs us : List AVal}, renAs ids σ vs = some us → us.length = vs.length ∧ ∀ (k : Nat) (v : AVal), vs[k]? = some v → ∃ u, us[k]? = some u ∧ renA ids σ v = some u
  | [], us, h => by
    simp [renAs] at h
    subst h
    exact ⟨rfl, fun k id hk => by simp at hk⟩
  | v' :: vs, us, h => by
    simp only [renAs] at h
    split at h <;> simp at h
    rename_i v r h1 h2
    subst h
    obtain ⟨h3, h4⟩ := renAs_get h2
    refine ⟨by simp [h3], fun k v hk => ?_⟩
    cases k with
    | zero =>
      simp at hk
      subst hk
      exact ⟨_, rfl, h1⟩
    | succ k =>
      simp at hk
      simpa using h4 k v hk
section
variable {ids : List Nat} {σ : XSt} {g : Sg} {S : St} {w : World}
def renG (ids : List Nat) (g : Sg) : Sg where
  imm := g.imm
  bx := fun j => match ids[j]? with
    | some id => g.bx id
    | none => none
  rg := fun b => match g.rg b with
    | some (id, st, m) => if g.cb id = b then (match idx ids id with | some j => some (j, st, m) | none => none) else none
    | none => none
  cb := fun j => match ids[j]? with
    | some id => g.cb id
    | none => 0
  base := g.base
theorem renG_rg {b j st m : Nat} (hd : distinct ids = true) : (renG ids g).rg b = some (j, st, m) ↔ ∃ id, ids[j]? = some id ∧ g.rg b = some (id, st, m) ∧ g.cb id = b := by
  simp only [renG]
  constructor
  · intro h
    split at h <;> try (simp at h; done)
    rename_i id st' m' hr
    split at h <;> try (simp at h; done)
    rename_i hc
    split at h <;> simp at h
    rename_i j' hj
    obtain ⟨rfl, rfl, rfl⟩ := h
    exact ⟨id, idx_some hj, hr, hc⟩
  · rintro ⟨id, h1, h2, h3⟩
    simp only [h2, h3, if_true, idx_of hd h1]
structure RenOk (ids : List Nat) (σ : XSt) (S S' : St) : Prop where
  dis : distinct ids = true
  old : ∀ id o, σ.get id = some o → S.get id = some o.to
  new : ∀ j id, ids[j]? = some id → ∃ o o', σ.get id = some o ∧ renO ids σ o = some o' ∧ S'.get j = some o'.to
  no : ∀ j, ids[j]? = none → S'.get j = none
theorem RenOk.arr {S' : St} (h : RenOk ids σ S S') {j id : Nat} (hj : ids[j]? = some id) {sz n : Nat} {xs : List AVal} {cur lost fz : Nat} (hS : S.get id = some (.arr sz n xs cur lost fz)) :
    ∃ ps : List PVal, n = ps.length ∧ xs = ps.map .p ∧ S'.get j = some (.arr sz n xs 0 0 fz) := by
  obtain ⟨o, o', h1, h2, h3⟩ := h.new j id hj
  have h4 := h.old id o h1
  rw [hS] at h4
  cases o <;> simp [XObj.to] at h4
  obtain ⟨rfl, rfl, rfl, rfl, rfl, rfl⟩ := h4
  simp [renO] at h2
  subst h2
  exact ⟨_, rfl, rfl, h3⟩
mutual
theorem renA_rep {S' : St} (h : RenOk ids σ S S') (hi : Inv g S.get w) : ∀ (v u : AVal) (x : Value), renA ids σ v = some u → RepA g S.get w v x → RepA (renG ids g) S'.get w u x
  | .p y, u, x, hr, hv => by
    simp [renA] at hr
    subst hr
    exact hv
  | .cl ys, u, x, hr, hv => by
    simp [renA] at hr
    subst hr
    exact hv
  | .agg cs, u, x, hr, hv => by
    simp only [renA] at hr
    split at hr <;> simp at hr
    rename_i us hu
    subst hr
    obtain ⟨vs, rfl, h1, h2⟩ := hv
    exact ⟨vs, rfl, renAs_rep h hi cs us vs hu h1, h2⟩
  | .tup cs, u, x, hr, hv => by
    simp only [renA] at hr
    split at hr <;> simp at hr
    rename_i us hu
    subst hr
    obtain ⟨vs, rfl, h1⟩ := hv
    exact ⟨vs, rfl, renAs_rep h hi cs us vs hu h1⟩
  | .iface t v, u, x, hr, hv => by
    simp only [renA] at hr
    split at hr <;> simp at hr
    rename_i y hu
    subst hr
    obtain ⟨z, rfl, h1⟩ := hv
    exact ⟨z, rfl, renA_rep h hi v y z hu h1⟩
  | .fn f cs, u, x, hr, hv => by
    simp only [renA] at hr
    split at hr <;> simp at hr
    rename_i us hu
    subst hr
    obtain ⟨vs, rfl, h1⟩ := hv
    exact ⟨vs, rfl, renAs_rep h hi cs us vs hu h1⟩
  | .fnb f cs, u, x, hr, hv => by
    simp only [renA] at hr
    split at hr <;> simp at hr
    rename_i us hu
    subst hr
    obtain ⟨vs, rfl, h1⟩ := hv
    exact ⟨vs, rfl, renAs_rep h hi cs us vs hu h1⟩
  | .box id off, u, x, hr, hv => by
    simp only [renA] at hr
    split at hr <;> simp at hr
    rename_i j hj
    subst hr
    obtain ⟨b, h1, h2⟩ := hv
    refine ⟨b, ?_, h2⟩
    simp only [renG, idx_some hj]
    exact h1
  | .arr id ep off len c, u, x, hr, hv => by
    simp only [renA] at hr
    split at hr <;> try (simp at hr; done)
    rename_i j sz xs cur lost fz hj hs
    split at hr <;> simp at hr
    rename_i he
    subst hr
    have he := Nat.eq_of_beq_eq_true he
    subst he
    have hS := h.old id _ hs
    obtain ⟨_, _, _, k4⟩ := h.arr (idx_some hj) hS
    obtain ⟨b, o, cap, h1, h2, h3, sz', n', xs', cur', lost', fz', h4, h5⟩ := hv
    rw [hS] at h4
    simp [XObj.to] at h4
    obtain ⟨rfl, rfl, rfl, rfl, rfl, rfl⟩ := h4
    have hlost := (hi.arr id _ _ _ _ _ _ hS).2.1
    obtain ⟨_, st, m, h6, h7, h8, h9, h10⟩ := h5 hlost
    refine ⟨b, o, cap, h1, h2, h3, _, _, _, _, _, _, k4, fun _ => ⟨Nat.le_refl _, st, m, (renG_rg h.dis).2 ⟨id, idx_some hj, h6, h10 rfl⟩, h7, h8, h9, fun _ => ?_⟩⟩
    simp only [renG, idx_some hj]
    exact h10 rfl
  | .own _ _, u, x, hr, hv => by simp [renA] at hr
  | .ownm _, u, x, hr, hv => by simp [renA] at hr
  | .el _ _ _ _, u, x, hr, hv => by simp [renA] at hr
  | .rf _ _, u, x, hr, hv => by simp [renA] at hr
  | .junk, u, x, hr, hv => by simp [renA] at hr
theorem renAs_rep {S' : St} (h : RenOk ids σ S S') (hi : Inv g S.get w) : ∀ (vs us : List AVal) (xs : List Value), renAs ids σ vs = some us → RepAs g S.get w vs xs → RepAs (renG ids g) S'.get w us xs
  | [], us, xs, hr, hv => by
    simp [renAs] at hr
    subst hr
    exact hv
  | v :: vs, us, xs, hr, hv => by
    simp only [renAs] at hr
    split at hr <;> simp at hr
    rename_i u r h1 h2
    subst hr
    obtain ⟨y, ys, rfl, h3, h4⟩ := hv
    exact ⟨y, ys, rfl, renA_rep h hi v u y h1 h3, renAs_rep h hi vs r ys h2 h4⟩
end
theorem Inv.ren {S' : St} (hi : Inv g S.get w) (h : RenOk ids σ S S') : Inv (renG ids g) S'.get w := by
  have back : ∀ {j : Nat} {o : Obj}, S'.get j = some o → ∃ id x x', ids[j]? = some id ∧ σ.get id = some x ∧ renO ids σ x = some x' ∧ o = x'.to := by
    intro j o hj
    cases hid : ids[j]? with
    | none => rw [h.no j hid] at hj; simp at hj
    | some id =>
      obtain ⟨x, x', h1, h2, h3⟩ := h.new j id hid
      rw [h3] at hj
      simp at hj
      exact ⟨id, x, x', rfl, h1, h2, hj.symm⟩
  refine ⟨?_, ?_, ?_, ?_, ?_, hi.immS, hi.baseS, ?_⟩
  · intro j cs hj
    obtain ⟨id, x, x', h1, h2, h3, h4⟩ := back hj
    have h5 := h.old id x h2
    cases x with
    | box cs0 =>
      simp only [renO] at h3
      split at h3 <;> simp at h3
      rename_i cs1 h6
      subst h3
      simp [XObj.to] at h4
      subst h4
      obtain ⟨b, c, t, k1, k2, k3, k4⟩ := hi.box id cs0 h5
      exact ⟨b, c, t, by simp only [renG, h1]; exact k1, k2, renAs_rep h hi _ _ _ h6 k3, k4⟩
    | arr sz xs ep lost fz =>
      simp [renO] at h3
      subst h3
      simp [XObj.to] at h4
    | pbox cs0 =>
      simp [renO] at h3
      subst h3
      simp [XObj.to] at h4
      subst h4
      obtain ⟨b, c, t, k1, k2, k3, k4⟩ := hi.box id (cs0.map .p) h5
      refine ⟨b, c, t, by simp only [renG, h1]; exact k1, k2, ?_, k4⟩
      exact mapP_rep (g := renG ids g) (unP_rep (g := g) (unP_map cs0) k3)
  · intro j sz n xs cur lost fz hj
    obtain ⟨id, x, x', h1, h2, h3, h4⟩ := back hj
    have h5 := h.old id x h2
    cases x with
    | box cs0 =>
      simp only [renO] at h3
      split at h3 <;> simp at h3
      subst h3
      simp [XObj.to] at h4
    | pbox cs0 =>
      simp [renO] at h3
      subst h3
      simp [XObj.to] at h4
    | arr sz0 xs0 ep0 lost0 fz0 =>
      simp [renO] at h3
      subst h3
      simp [XObj.to] at h4
      obtain ⟨rfl, rfl, rfl, rfl, rfl, rfl⟩ := h4
      obtain ⟨k1, k2, k3, k4⟩ := hi.arr id _ _ _ _ _ _ h5
      refine ⟨k1, Nat.le_refl _, k3, fun b st m hb => ?_⟩
      obtain ⟨id', q1, q2, q3⟩ := (renG_rg h.dis).1 hb
      rw [h1] at q1
      simp at q1
      subst q1
      obtain ⟨k5, c, t, vs, k6, k7, k8, k9, k10, k11⟩ := k4 b st m q2
      refine ⟨k5, c, t, vs, k6, ?_, k8, k9, k10, k11⟩
      rw [← List.map_take] at k7 ⊢
      exact mapP_rep (g := renG ids g) (unP_rep (g := g) (unP_map _) k7)
  · intro b j st m hb
    obtain ⟨id, q1, q2, q3⟩ := (renG_rg h.dis).1 hb
    obtain ⟨⟨sz, n, xs, cur, lost, fz, k1⟩, k2, k3⟩ := hi.rgS b id st m q2
    obtain ⟨_, _, _, k4⟩ := h.arr q1 k1
    exact ⟨⟨_, _, _, _, _, _, k4⟩, k2, k3⟩
  · intro j b hb
    simp only [renG] at hb
    split at hb <;> try (simp at hb; done)
    rename_i id hid
    obtain ⟨k1, k2, k3, k4, k5⟩ := hi.bxS id b hb
    refine ⟨k1, k2, by simp only [renG, k3], k4, ?_⟩
    obtain ⟨x, x', h1, h2, h3⟩ := h.new j id hid
    have h4 := h.old id x h1
    cases x with
    | box cs0 =>
      simp only [renO] at h2
      split at h2 <;> simp at h2
      subst h2
      exact .inl ⟨_, h3⟩
    | pbox cs0 =>
      simp [renO] at h2
      subst h2
      exact .inl ⟨_, h3⟩
    | arr sz0 xs0 ep0 lost0 fz0 =>
      rcases k5 with ⟨cs, k5⟩ | ⟨hh, k5⟩ <;> (rw [h4] at k5; simp [XObj.to] at k5)
  · intro i j b h1 h2
    simp only [renG] at h1 h2
    split at h1 <;> try (simp at h1; done)
    rename_i id1 hid1
    split at h2 <;> try (simp at h2; done)
    rename_i id2 hid2
    have := hi.inj _ _ _ h1 h2
    subst this
    exact distinct_inj h.dis hid1 hid2
  · intro j hh hj
    obtain ⟨id, x, x', h1, h2, h3, h4⟩ := back hj
    cases x' <;> simp [XObj.to] at h4
end
theorem canon_ok {α : Type} {r : α} {gl : Tr AVal} {g0 : Sg} {w0 : World} {n : Nat} {tm : Tr AVal} {σ : XSt} {a : Act} {w : World} {live : List Nat} {K : XC → Option α} (hx : XIs gl g0 w0 n tm σ a w) (h : canon live tm σ K = some r) :
    ∃ c, XIs gl g0 w0 n (tmOf gl live c.vals) c.st a w ∧ K c = some r := by
  unfold canon at h
  split at h <;> try (simp at h; done)
  rename_i vs hvs
  unfold canonAt at h
  split at h <;> try (simp at h; done)
  rename_i hdis
  split at h <;> try (simp at h; done)
  rename_i vs' os hr1 hr2
  obtain ⟨⟨g, S, tmE, h1, h2, h3, h4, h5, h6, h7, h8, h9, h10⟩, hd, hz⟩ := hx
  obtain ⟨ho1, ho2⟩ := renOs_get hr2
  let c : XC := ⟨vs', os⟩
  have hst : ∀ j, c.st.to.get j = (os[j]?).map XObj.to := fun j => by rw [XSt.to_get, XC.st_get]
  have hok : RenOk (reach σ 64 (idsAs vs) []) σ S c.st.to := by
    refine ⟨hdis, h2.get, fun j id hj => ?_, fun j hj => ?_⟩
    · obtain ⟨o, o', k1, k2, k3⟩ := ho2 j id hj
      exact ⟨o, o', k1, k2, by rw [hst, k3]; rfl⟩
    · rw [hst]
      have : os[j]? = none := by
        rw [List.getElem?_eq_none_iff] at hj ⊢
        omega
      rw [this]; rfl
  refine ⟨c, ⟨⟨renG _ g, c.st.to, _, fun _ => rfl, ⟨fun id o ho => ?_, fun id hid => ?_⟩, rfl, h4.ren hok, ?_, h6, h7, h8, h9, h10⟩, hd, hz⟩, h⟩
  · rw [XSt.to_get, ho]; rfl
  · rw [hst]
    have : os[id]? = none := by
      rw [List.getElem?_eq_none_iff]
      exact hid
    rw [this]; rfl
  · intro t x ht
    rcases tmOf_get ht with ⟨k, k1, k2⟩ | hg
    · obtain ⟨v, k3, k4⟩ := (getAll_get hvs).2 k t k1
      obtain ⟨u, k5, k6⟩ := (renAs_get hr1).2 k v k3
      have k2 : vs'[k]? = some x := k2
      rw [k2] at k5
      simp at k5
      subst k5
      have k7 : tmE.get t = some v := by rw [h1 t]; exact k4
      obtain ⟨y, k8, k9⟩ := h5 t v k7
      exact ⟨y, k8, renA_rep hok h4 _ _ _ k6 k9⟩
    · obtain ⟨k1, y, rfl, k2⟩ := h6 t x hg
      exact ⟨_, by simp only [slot]; rw [if_neg (by omega)], k2⟩
end Go.Proofs.YtlcbgidfdkbfcaaGreatDoor.Sw
namespace Go.Proofs.YtlcbgidfdkbfcaaGreatDoor.Sw
open Go.RowKit
section
variable {α : Type}
def XE.behind (id : Nat) : XE → XE
  | .exit i => match Nat.beq i id with
    | true => .normal
    | false => .exit i
  | x => x
def outsOf (ex : List (Nat × List Nat)) (ret : List Nat) : XE → List Nat
  | .exit i => match ex.lookup i with
    | some l => l
    | none => []
  | .ret => ret
  | .normal => []
def roundK (gl : Tr AVal) (id : Nat) (live : List Nat) (outs : XE → List Nat) (Kn : XC → Option α) (K : XE → Tr AVal → XSt → Option α) (x : XE) (tm : Tr AVal) (σ : XSt) : Option α := match x with
  | .normal => canon live tm σ Kn
  | x => canon (outs x) tm σ fun c' => K (x.behind id) (tmOf gl (outs x) c'.vals) c'.st
def loopX (P : Program) (cf : Cfg) (rec : Rec1) (n : Nat) (gl : Tr AVal) (lo : Loops α) (id : Nat) (live : List Nat) (outs : XE → List Nat) (body : Code) : Nat → XC → (XE → Tr AVal → XSt → Option α) → Option α
  | 0, _, _ => none
  | f + 1, c, K => codeK P cf rec n lo body (tmOf gl live c.vals) c.st (roundK gl id live outs (fun c' => loopX P cf rec n gl lo id live outs body f c' K) K)
end
section
variable {α : Type} {r : α} {P : Program} {C : CallFn} {cf : Cfg} {rec : Rec1} {n : Nat} {gl : Tr AVal}
theorem loopX_wp (hC : CallOk2 P gl C) (hR : RecOk C rec) (hP : Fine P) (hnb : n ≤ glBase) {lo : Loops α} {loops : Nat → Option Code} (hL : LoopsOk P gl n lo loops) {id : Nat} {live : List Nat} {outs : XE → List Nat} {body : Code}
    (hok : codeOk body = true) (hin : loopsIn loops body) {g0 : Sg} {w0 : World} {N : Nat} {Q : Exit → Act → World → Prop} {K : XE → Tr AVal → XSt → Option α}
    (hQ : ∀ x tm' σ' a' w', XIs gl g0 w0 n tm' σ' a' w' → K x tm' σ' = some r → Q x.to a' w') {f : Nat} {c : XC} {a : Act} {w : World} (hx : XIs gl g0 w0 n (tmOf gl live c.vals) c.st a w)
    (h : loopX P cf rec n gl lo id live outs body f c K = some r) : (Code.block id (.loop body)).wpIn (Fw none) N P Q a w := by
  refine wpIn_block (wpIn_loop_fuel (fun j a w => ∃ c, XIs gl g0 w0 n (tmOf gl live c.vals) c.st a w ∧ loopX P cf rec n gl lo id live outs body j c K = some r) (fun j a w hj => ?_) ⟨c, hx, h⟩)
  obtain ⟨c, hx, h⟩ := hj
  cases j with
  | zero => simp [loopX] at h
  | succ j =>
    refine codeK_wp hC hR hP hnb hL body hok hin hx h fun x tm σ a' w' k1 k2 => ?_
    cases x with
    | normal =>
      obtain ⟨c', k3, k4⟩ := canon_ok k1 k2
      exact ⟨j, Nat.lt_succ_self j, c', k3, k4⟩
    | ret =>
      obtain ⟨c', k3, k4⟩ := canon_ok k1 k2
      exact hQ .ret _ _ _ _ k3 k4
    | exit i =>
      obtain ⟨c', k3, k4⟩ := canon_ok k1 k2
      show Exit.inBlock id Q (.exit i) a' w'
      simp only [XE.behind] at k4
      simp only [Exit.inBlock]
      split at k4
      · rename_i hb
        rw [if_pos (Nat.eq_of_beq_eq_true hb)]
        exact hQ .normal _ _ _ _ k3 k4
      · rename_i hb
        rw [if_neg (fun e => by subst e; rw [Nat.beq_refl] at hb; simp at hb)]
        exact hQ (.exit i) _ _ _ _ k3 k4
theorem LoopsOk.add (hC : CallOk2 P gl C) (hR : RecOk C rec) (hP : Fine P) (hnb : n ≤ glBase) {lo : Loops α} {loops : Nat → Option Code} (hL : LoopsOk P gl n lo loops) (id : Nat) (live : List Nat) (outs : XE → List Nat) (body : Code)
    (hok : codeOk body = true) (hin : loopsIn loops body)
    (hlo : ∀ (tm : Tr AVal) (σ : XSt) (K : XE → Tr AVal → XSt → Option α) (r : α), lo id tm σ K = some r → ∃ f, canon live tm σ (fun c => loopX P cf rec n gl lo id live outs body f c K) = some r) :
    LoopsOk P gl n lo fun i => if i = id then some body else loops i := by
  intro i c g0 w0 tm σ a w K r N Q hi hx h hQ
  by_cases e : i = id
  · subst e
    simp at hi
    subst hi
    obtain ⟨f, hf⟩ := hlo tm σ K r h
    obtain ⟨c', k1, k2⟩ := canon_ok hx hf
    exact loopX_wp hC hR hP hnb hL hok hin hQ k1 k2
  · simp [e] at hi
    exact hL hi hx h hQ
theorem LoopsOk.none {lo : Loops α} : LoopsOk P gl n lo fun _ => none := by
  intro i c g0 w0 tm σ a w K r N Q hi
  simp at hi
theorem canon_mono {live : List Nat} {tm : Tr AVal} {σ : XSt} {K1 K2 : XC → Option α} (hK : ∀ c, K1 c = some r → K2 c = some r) (h : canon live tm σ K1 = some r) : canon live tm σ K2 = some r := by
  unfold canon at h ⊢
  split at h <;> try (simp at h; done)
  unfold canonAt at h ⊢
  split at h <;> try (simp at h; done)
  split at h <;> try (simp at h; done)
  exact hK _ h
end
end Go.Proofs.YtlcbgidfdkbfcaaGreatDoor.Sw
namespace Go.Proofs.YtlcbgidfdkbfcaaGreatDoor.Sw
open Go.RowKit
def cOf (P : Program) (t : Nat) : Cs := match P.underlying t with
  | some (.int k) => .int k
  | some .bool => .bool
  | some .string => .str
  | _ => .opq
def cellsOf (P : Program) : Nat → Nat → Option (List Cs)
  | 0, _ => none
  | d + 1, t => match P.underlying t with
    | some (.struct fs) => fs.toList.foldl (fun acc f => match acc, cellsOf P d f.type with
      | some l, some r => some (l ++ r)
      | _, _ => none) (some [])
    | some (.array n e) => match Nat.ble n 4, cellsOf P d e with
      | true, some r => some (List.replicate n r).flatten
      | _, _ => none
    | some _ => some [cOf P t]
    | none => none
def shOf (P : Program) (t : Nat) : Sh := match P.underlying t with
  | some (.struct _) => match cellsOf P 6 t with
    | some l => .agg l
    | none => .one .opq
  | some (.array _ _) => match cellsOf P 6 t with
    | some l => .agg l
    | none => .one .opq
  | _ => .one (cOf P t)
def rsOf (P : Program) (t : Nat) : Rs := match P.underlying t with
  | some (.tuple ts) => .many (ts.toList.map (shOf P))
  | _ => .one (shOf P t)
def sitesOf (P : Program) (ty : List (Nat × Nat)) (own clip : List Nat) (site : Nat) : Rs := match own.elem site, clip.elem site with
  | true, _ => .own
  | false, true => .clip
  | false, false => match ty.lookup site with
    | some t => rsOf P t
    | none => .many []
def bAnd (k : IntKind) (a b : Int) : Int := k.wrap (BitVec.ofInt k.bits a &&& BitVec.ofInt k.bits b).toNat
def bOr (k : IntKind) (a b : Int) : Int := k.wrap (BitVec.ofInt k.bits a ||| BitVec.ofInt k.bits b).toNat
def bXor (k : IntKind) (a b : Int) : Int := k.wrap (BitVec.ofInt k.bits a ^^^ BitVec.ofInt k.bits b).toNat
def bAndNot (k : IntKind) (a b : Int) : Int := k.wrap (BitVec.ofInt k.bits a &&& ~~~(BitVec.ofInt k.bits b)).toNat
def ximp (f : Nat) : Bool := Nat.ble 1000000 f
def loopBody : Code → Option Code
  | .loop c => some c
  | _ => none
def findLoop (id : Nat) : Code → Option Code
  | .seq a b => match findLoop id a with
    | some c => some c
    | none => findLoop id b
  | .cond _ a b => match findLoop id a with
    | some c => some c
    | none => findLoop id b
  | .block i x => match loopBody x, Nat.beq i id with
    | some c, true => some c
    | _, _ => findLoop id x
  | .loop c => findLoop id c
  | .scope c => findLoop id c
  | _ => none
def topLoops : Code → List (Nat × Code)
  | .seq a b => topLoops a ++ topLoops b
  | .cond _ a b => topLoops a ++ topLoops b
  | .block i x => match loopBody x with
    | some c => [(i, c)]
    | none => topLoops x
  | .scope c => topLoops c
  | _ => []
theorem loopsIn_of {loops : Nat → Option Code} : ∀ (c : Code), (∀ p ∈ topLoops c, loops p.1 = some p.2) → loopsIn loops c := by
  intro c
  induction c with
  | seq a b ih1 ih2 =>
    intro h
    exact ⟨ih1 fun p hp => h p (List.mem_append_left _ hp), ih2 fun p hp => h p (List.mem_append_right _ hp)⟩
  | cond o a b ih1 ih2 =>
    intro h
    exact ⟨ih1 fun p hp => h p (List.mem_append_left _ hp), ih2 fun p hp => h p (List.mem_append_right _ hp)⟩
  | block i x ih =>
    intro h
    cases x with
    | loop c => exact h (i, c) (by simp [topLoops, loopBody])
    | _ => exact ih h
  | scope c ih => exact ih
  | _ => intro _; trivial
def XLoops (P : Program) (gl : Tr AVal) (n : Nat) (lo : Loops AVal) (c : Code) : Prop := ∃ loops, loopsIn loops c ∧ LoopsOk P gl n lo loops
theorem fnX_fact {P : Program} {gl : Tr AVal} {cf : Cfg} (hP : Fine P) {rec : Rec1} (h : RecKnown P gl rec) {out : Fo} {lo : Loops AVal} {f : Nat} {args : List PVal} {v : AVal} {fn : Func} {c : Code} {n : Nat}
    (hf : P.funcs[f]? = some fn) (hb : fn.body = some c) (hn : max args.length fn.ntmps = n) (hL : XLoops P gl n lo c)
    (hx : fnX P cf out rec gl (fun _ => lo) f args = some v) (hg : goodV v = true) : goodV v = true ∧ Known P gl f (args.map .p) (adopt 0 v).1 (adopt 0 v).2 :=
  fnX_step hP h hg (fun fn' c' hf' hb' => by
    obtain rfl : fn' = fn := Option.some.inj (hf'.symm.trans hf)
    obtain rfl : c' = c := Option.some.inj (hb'.symm.trans hb)
    rw [hn]
    exact hL) hx
def good (x : Option AVal) : Option AVal := match x with
  | some v => match goodV v with
    | true => some v
    | false => none
  | none => none
theorem good_some {x : Option AVal} {v : AVal} (h : good x = some v) : x = some v ∧ goodV v = true := by
  unfold good at h
  split at h
  · split at h <;> simp at h
    rename_i hg
    subst h
    exact ⟨rfl, hg⟩
  · simp at h
end Go.Proofs.YtlcbgidfdkbfcaaGreatDoor.Sw
namespace Go.Proofs.YtlcbgidfdkbfcaaGreatDoor.Sw
open Go.RowKit
section
variable {P : Program} {gl : Tr AVal}
structure EntX (P : Program) (gl : Tr AVal) where
  f : Nat
  run : Rec1 → List PVal → Option AVal
  ok : ∀ {rec : Rec1}, RecKnown P gl rec → ∀ (ps : List PVal) (v : AVal), run rec ps = some v → goodV v = true → goodV v = true ∧ Known P gl f (ps.map .p) (adopt 0 v).1 (adopt 0 v).2
def run0 (F : Rec1 → Option AVal) (rec : Rec1) : List PVal → Option AVal
  | [] => F rec
  | _ => none
def run1 (F : Rec1 → PVal → Option AVal) (rec : Rec1) : List PVal → Option AVal
  | [a] => F rec a
  | _ => none
def run2 (F : Rec1 → PVal → PVal → Option AVal) (rec : Rec1) : List PVal → Option AVal
  | [a, b] => F rec a b
  | _ => none
def run3 (F : Rec1 → PVal → PVal → PVal → Option AVal) (rec : Rec1) : List PVal → Option AVal
  | [a, b, c] => F rec a b c
  | _ => none
def run4 (F : Rec1 → PVal → PVal → PVal → PVal → Option AVal) (rec : Rec1) : List PVal → Option AVal
  | [a, b, c, d] => F rec a b c d
  | _ => none
def ent0 (f : Nat) (F : Rec1 → Option AVal) (h : ∀ {rec : Rec1}, RecKnown P gl rec → ∀ {v : AVal}, F rec = some v → goodV v = true → goodV v = true ∧ Known P gl f (([] : List PVal).map .p) (adopt 0 v).1 (adopt 0 v).2) : EntX P gl :=
  ⟨f, run0 F, fun hr ps _ hv hg => match ps, hv with
    | [], hv => h hr hv hg⟩
def ent1 (f : Nat) (F : Rec1 → PVal → Option AVal) (h : ∀ {rec : Rec1}, RecKnown P gl rec → ∀ {a : PVal} {v : AVal}, F rec a = some v → goodV v = true → goodV v = true ∧ Known P gl f ([a].map .p) (adopt 0 v).1 (adopt 0 v).2) : EntX P gl :=
  ⟨f, run1 F, fun hr ps _ hv hg => match ps, hv with
    | [_], hv => h hr hv hg⟩
def ent2 (f : Nat) (F : Rec1 → PVal → PVal → Option AVal) (h : ∀ {rec : Rec1}, RecKnown P gl rec → ∀ {a b : PVal} {v : AVal}, F rec a b = some v → goodV v = true → goodV v = true ∧ Known P gl f ([a, b].map .p) (adopt 0 v).1 (adopt 0 v).2) : EntX P gl :=
  ⟨f, run2 F, fun hr ps _ hv hg => match ps, hv with
    | [_, _], hv => h hr hv hg⟩
def ent3 (f : Nat) (F : Rec1 → PVal → PVal → PVal → Option AVal) (h : ∀ {rec : Rec1}, RecKnown P gl rec → ∀ {a b c : PVal} {v : AVal}, F rec a b c = some v → goodV v = true → goodV v = true ∧ Known P gl f ([a, b, c].map .p) (adopt 0 v).1 (adopt 0 v).2) : EntX P gl :=
  ⟨f, run3 F, fun hr ps _ hv hg => match ps, hv with
    | [_, _, _], hv => h hr hv hg⟩
def ent4 (f : Nat) (F : Rec1 → PVal → PVal → PVal → PVal → Option AVal) (h : ∀ {rec : Rec1}, RecKnown P gl rec → ∀ {a b c d : PVal} {v : AVal}, F rec a b c d = some v → goodV v = true → goodV v = true ∧ Known P gl f ([a, b, c, d].map .p) (adopt 0 v).1 (adopt 0 v).2) : EntX P gl :=
  ⟨f, run4 F, fun hr ps _ hv hg => match ps, hv with
    | [_, _, _, _], hv => h hr hv hg⟩
def look (l : List (EntX P gl)) (rec : Rec1) (f : Nat) (ps : List PVal) : Option AVal := match l with
  | [] => none
  | e :: r => match Nat.beq e.f f with
    | true => e.run rec ps
    | false => look r rec f ps
theorem look_known {rec : Rec1} (h : RecKnown P gl rec) {f : Nat} {ps : List PVal} {v : AVal} (hg : goodV v = true) : ∀ {l : List (EntX P gl)}, look l rec f ps = some v → goodV v = true ∧ Known P gl f (ps.map .p) (adopt 0 v).1 (adopt 0 v).2
  | [], hv => by simp [look] at hv
  | e :: r, hv => by
    unfold look at hv
    split at hv
    · rename_i hb
      have := Nat.eq_of_beq_eq_true hb
      subst this
      exact e.ok h ps v hv hg
    · exact look_known h hg hv
def level (l : List (EntX P gl)) : Nat → Rec1
  | 0 => fun _ _ => none
  | n + 1 => fun f ps => good (look l (level l n) f ps)
theorem level_known (l : List (EntX P gl)) : ∀ n, RecKnown P gl (level l n)
  | 0 => fun f ps v hv => by simp [level] at hv
  | n + 1 => fun f ps v hv => by
    obtain ⟨h1, h2⟩ := good_some (show good (look l (level l n) f ps) = some v from hv)
    exact look_known (level_known l n) h2 h1
end
end Go.Proofs.YtlcbgidfdkbfcaaGreatDoor.Sw
namespace Go.Proofs.YtlcbgidfdkbfcaaGreatDoor.Sw
open Go.RowKit Go.ChangeShapes Go.WideShapes
def old (w : World) : Nat → Nat → Prop := fun b _ => b < w.heap.size
theorem known_args {P : Program} {gl : Tr AVal} {f : Nat} {w : World} {ps : List PVal} {us : List Value} {r : Bool} (hk : Known P gl f (ps.map .p) (.p (.bool r)) []) (hG : Glob gl (old w) w) (hr : RepPs (old w) w ps us) :
    Calls P f us.toArray w (fun e w' => e = .returned (.bool r) ∧ Below w.heap.size w w') := by
  obtain ⟨_, hc⟩ := hk _ w us (inv_empty (I := old w) fun _ _ h => h) hG (mapP_rep hr)
  refine (callsIn_wide (n := 0)).1 (CallsIn.mono hc fun e w' hcm => ?_)
  cases e with
  | returned u =>
    obtain ⟨g', e1, e2, e3⟩ := hcm
    have e3 : u = .bool r := e3
    rw [e3]
    exact ⟨rfl, e1.below⟩
  | panicked _ => exact hcm.elim
  | outgrown => exact hcm.elim
theorem cell_old {w : World} {b o : Nat} {v : Value} (h : w.cell? ⟨b, o, none⟩ = some v) : old w b o := by
  simp only [World.cell?] at h
  show b < w.heap.size
  by_cases hs : b < w.heap.size
  · exact hs
  · simp [Array.getElem?_eq_none (by omega : w.heap.size ≤ b)] at h
theorem okWide_slice_at {P : Program} {w : World} {r : Reach} {base : Nat} {t e : TypeId} {v : Value} (ht : P.underlying t = some (.slice e)) (h : Value.okWide P w r base t v) :
    v = .slice none 0 0 ∨ ∃ b o len cap, v = .slice (some ⟨b, o, none⟩) len cap := by
  simp only [Value.okWide, ht, Cell.okWide] at h
  cases v with
  | slice a len cap =>
    cases a with
    | none =>
      cases len with
      | zero => cases cap with
        | zero => exact .inl rfl
        | succ n => simp [Cell.ok, ht] at h
      | succ n => simp [Cell.ok, ht] at h
    | some a =>
      simp only [Cell.ok, ht] at h
      obtain ⟨b, o, s⟩ := a
      have : s = none := h.2.2.2.1
      subst this
      exact .inr ⟨b, o, len, cap, rfl⟩
  | _ => simp [Cell.ok, ht] at h
theorem flat_cells {w : World} {b o n : Nat} : ∀ {vs : List Value}, (∀ x ∈ vs, x.cells.size = n) → (∀ (i : Nat) (x : Value), vs[i]? = some x → ∀ k c, x.cells.toList[k]? = some c → w.cell? ⟨b, o + i * n + k, none⟩ = some c) →
    CellsAt (old w) w b o (vs.flatMap (·.cells.toList)) := by
  intro vs
  induction vs generalizing o with
  | nil => intro _ _ i c hc; simp at hc
  | cons x r ih =>
    intro hs hc j c hj
    rw [List.flatMap_cons] at hj
    have hn : x.cells.toList.length = n := by simpa using hs x (List.mem_cons_self ..)
    by_cases c1 : j < n
    · rw [List.getElem?_append_left (by omega)] at hj
      have := hc 0 x rfl j c hj
      rw [Nat.zero_mul, Nat.add_zero] at this
      exact ⟨this, cell_old this⟩
    · rw [List.getElem?_append_right (by omega), hn] at hj
      have := ih (o := o + n) (fun y hy => hs y (List.mem_cons_of_mem _ hy)) (fun i' y hy k c' hk => by
        have := hc (i' + 1) y (by simpa using hy) k c' hk
        rw [← this]
        congr 2
        rw [Nat.succ_mul]; omega) (j - n) c hj
      have e : o + n + (j - n) = o + j := by omega
      rw [e] at this
      exact this
section
variable {H : Type} {enc : TypeId × Value → H} {P : Program} {w : World} {spare : Nat → Bool} {held : Bool}
theorem arg_ints {r : Reach} {b0 : Nat} {t e : TypeId} {k : IntKind} {v : Value} {d : DataW H} {ps : List MemPlace} (ht : P.underlying t = some (.slice e)) (he : P.underlying e = some (.int k)) (hc : P.cellsOf e = 1)
    (hval : Value.okWide P w r b0 t v) (hd : DataW.Trod enc P w 0 spare held t v d ps) :
    ∃ (p : PVal) (zs : List Int), (p = .nils ∧ zs = [] ∨ p = .sl (zs.map (.int k))) ∧ RepP (old w) w p v := by
  obtain ⟨fuel, hf⟩ := hd
  rcases okWide_slice_at ht hval with rfl | ⟨b, o, len, cap, rfl⟩
  · exact ⟨.nils, [], .inl ⟨rfl, rfl⟩, rfl⟩
  · rcases open_ints ht he hc hf with ⟨h, _⟩ | ⟨a, len', cap', zs, h, _, hl, _, hm, _, hcell, _⟩
    · simp [Value.cells] at h
    · simp only [Value.cells, List.cons.injEq, Value.slice.injEq, Option.some.injEq, and_true] at h
      obtain ⟨rfl, rfl, rfl⟩ := h
      have hle : len ≤ zs.length := by rw [hm]; split <;> omega
      have hlen : (zs.take len).length = len := by simp; omega
      refine ⟨_, zs.take len, .inr rfl, b, o, cap, 1, (zs.take len).map fun z => Value.int k z, by rw [List.length_map, hlen], by rw [List.length_map, hlen]; exact hl, reps_ints _, ?_, ?_⟩
      · intro x hx
        obtain ⟨z, _, rfl⟩ := List.mem_map.1 hx
        rfl
      · refine flat_cells (n := 1) ?_ ?_
        · intro x hx
          obtain ⟨z, _, rfl⟩ := List.mem_map.1 hx
          rfl
        · intro i x hx j c hj
          rw [List.getElem?_map] at hx
          cases hz : (zs.take len)[i]? with
          | none => rw [hz] at hx; simp at hx
          | some z =>
            rw [hz] at hx
            simp only [Option.map_some, Option.some.injEq] at hx
            subst hx
            have hil : i < len := by
              have := (List.getElem?_eq_some_iff.1 hz).1
              omega
            have hzi : zs.getD i 0 = z := by
              rw [List.getElem?_take_of_lt hil] at hz
              rw [List.getD_eq_getElem?_getD, hz]; rfl
            have h1 := hcell i (by omega)
            rw [hzi] at h1
            cases j with
            | zero =>
              have : c = .int k z := by simpa [Value.cells] using hj.symm
              subst this
              rw [← h1, Nat.mul_one]
              unfold Addr.add
              by_cases h0 : i = 0 <;> simp [h0]
            | succ j => simp [Value.cells] at hj
theorem arg_ibi {r : Reach} {b0 : Nat} {t e : TypeId} {f0 f1 f2 : Field} {k0 k2 : IntKind} {v : Value} {d : DataW H} {ps : List MemPlace} (ht : P.underlying t = some (.slice e)) (he : P.underlying e = some (.struct #[f0, f1, f2])) (hc : P.cellsOf e = 3)
    (o0 : f0.offset = 0) (o1 : f1.offset = 1) (o2 : f2.offset = 2) (c0 : P.cellsOf f0.type = 1) (c1 : P.cellsOf f1.type = 1) (c2 : P.cellsOf f2.type = 1)
    (u0 : P.underlying f0.type = some (.int k0)) (u1 : P.underlying f1.type = some .bool) (u2 : P.underlying f2.type = some (.int k2))
    (hval : Value.okWide P w r b0 t v) (hd : DataW.Trod enc P w 0 spare held t v d ps) :
    ∃ (p : PVal) (l : List (Int × Bool × Int)), (p = .nils ∧ l = [] ∨ p = .sl (l.map fun x => .agg [.int k0 x.1, .bool x.2.1, .int k2 x.2.2])) ∧ RepP (old w) w p v := by
  obtain ⟨fuel, hf⟩ := hd
  rcases okWide_slice_at ht hval with rfl | ⟨b, o, len, cap, rfl⟩
  · exact ⟨.nils, [], .inl ⟨rfl, rfl⟩, rfl⟩
  · rcases Deep.open_slice ht hf with ⟨h, _⟩ | ⟨a, len', cap', m, n, D, Pl, h, _, hl, _, hm, _, hcell⟩
    · simp [Value.cells] at h
    · simp only [Value.cells, List.cons.injEq, Value.slice.injEq, Option.some.injEq, and_true] at h
      obtain ⟨rfl, rfl, rfl⟩ := h
      have hle : len ≤ m := by rw [hm]; split <;> omega
      have each : ∀ i, i < len → ∃ x : Int × Bool × Int, w.cell? ⟨b, o + i * 3, none⟩ = some (.int k0 x.1) ∧ w.cell? ⟨b, o + i * 3 + 1, none⟩ = some (.bool x.2.1) ∧ w.cell? ⟨b, o + i * 3 + 2, none⟩ = some (.int k2 x.2.2) := by
        intro i hi
        obtain ⟨cs', g1, g2⟩ := hcell i (by omega)
        rw [hc] at g1
        obtain ⟨_, hl3, hcl⟩ := World.cells?_some g1
        obtain ⟨y0, y1, y2, n', _, _, t0, t1, t2⟩ := Deep.trod_struct3 he g2
        match cs', hl3 with
        | [v0, v1, v2], _ =>
          simp only [o0, o1, o2, c0, c1, c2, List.drop_zero, List.drop_succ_cons, List.take_succ_cons, List.take_zero] at t0 t1 t2
          obtain ⟨z0, e0, _⟩ := DataW.trod_int u0 t0
          obtain ⟨z1, e1, _⟩ := DataW.trod_bool u1 t1
          obtain ⟨z2, e2, _⟩ := DataW.trod_int u2 t2
          simp only [List.cons.injEq, and_true] at e0 e1 e2
          subst e0 e1 e2
          refine ⟨(z0, z1, z2), ?_, ?_, ?_⟩
          · have := hcl 0 (by omega)
            rw [Deep.add_add] at this
            have e : (Addr.mk b o none).add (i * 3 + 0) = ⟨b, o + i * 3, none⟩ := by
              unfold Addr.add
              by_cases h0 : i * 3 + 0 = 0
              · have : i = 0 := by omega
                subst this; rfl
              · simp
            rw [e] at this; exact this
          · have := hcl 1 (by omega)
            rw [Deep.add_add] at this
            have e : (Addr.mk b o none).add (i * 3 + 1) = ⟨b, o + i * 3 + 1, none⟩ := by
              unfold Addr.add
              simp [Nat.add_assoc]
            rw [e] at this; exact this
          · have := hcl 2 (by omega)
            rw [Deep.add_add] at this
            have e : (Addr.mk b o none).add (i * 3 + 2) = ⟨b, o + i * 3 + 2, none⟩ := by
              unfold Addr.add
              simp [Nat.add_assoc]
            rw [e] at this; exact this
      obtain ⟨X, hX⟩ := Deep.choose_lt (α := Int × Bool × Int) each
      let vs : List Value := (List.range len).map fun i => .agg #[.int k0 (X i).1, .bool (X i).2.1, .int k2 (X i).2.2]
      have hsz : ∀ x ∈ vs, x.cells.size = 3 := by
        intro x hx
        obtain ⟨z, _, rfl⟩ := List.mem_map.1 hx
        rfl
      have hrep : ∀ l : List Nat, RepPs (old w) w (l.map fun i => .agg [.int k0 (X i).1, .bool (X i).2.1, .int k2 (X i).2.2]) (l.map fun i => Value.agg #[.int k0 (X i).1, .bool (X i).2.1, .int k2 (X i).2.2]) := by
        intro l
        induction l with
        | nil => rfl
        | cons i l ih =>
          refine ⟨_, _, rfl, ⟨[.int k0 (X i).1, .bool (X i).2.1, .int k2 (X i).2.2], rfl, ⟨_, _, rfl, rfl, _, _, rfl, rfl, _, _, rfl, rfl, rfl⟩, ?_⟩, ih⟩
          intro x hx
          simp only [List.mem_cons, List.not_mem_nil, or_false] at hx
          rcases hx with rfl | rfl | rfl <;> rfl
      refine ⟨_, (List.range len).map X, .inr rfl, b, o, cap, 3, vs, by simp, by simpa using hl, ?_, hsz, flat_cells (n := 3) hsz ?_⟩
      · rw [List.map_map]
        exact hrep (List.range len)
      · intro i x hx j c hj
        rw [List.getElem?_map] at hx
        cases hz : (List.range len)[i]? with
        | none => rw [hz] at hx; simp at hx
        | some i' =>
          rw [hz] at hx
          simp only [Option.map_some, Option.some.injEq] at hx
          subst hx
          have hil : i < len := by
            have := (List.getElem?_eq_some_iff.1 hz).1
            simpa using this
          rw [List.getElem?_range hil] at hz
          simp only [Option.some.injEq] at hz
          subst hz
          obtain ⟨q0, q1, q2⟩ := hX i hil
          match j with
          | 0 =>
            have : c = .int k0 (X i).1 := by simpa [Value.cells] using hj.symm
            subst this; exact q0
          | 1 =>
            have : c = .bool (X i).2.1 := by simpa [Value.cells] using hj.symm
            subst this; exact q1
          | 2 =>
            have : c = .int k2 (X i).2.2 := by simpa [Value.cells] using hj.symm
            subst this; exact q2
          | j + 3 => simp [Value.cells] at hj
end
end Go.Proofs.YtlcbgidfdkbfcaaGreatDoor.Sw

