/- The store and the memory together; operands; operations that touch no memory. -/
import Derived.Test.YtceccojmekpneaaGreatDoorSwD
import Derived.Laws.Sem
namespace Go.Proofs.YtceccojmekpneaaGreatDoor.Sw
open Go.RowKit

/-- what a number stands for: a temporary, or a package-level variable. -/
def slot (tmps : Array Value) (t : Nat) : Option Value := if t < glBase then tmps[t]? else some (.pointer (some ⟨t - glBase, 0, none⟩))

/-- what the slots hold. -/
def Frm (g : Sg) (s : Sto) (w : World) (tm : Tr AVal) (tmps : Array Value) : Prop :=
  ∀ t x, tm.get t = some x → ∃ v, slot tmps t = some v ∧ RepA g s w x v

theorem Frm.ext {g g' : Sg} {s s' : Sto} {w w' : World} {tm : Tr AVal} {tmps : Array Value} (he : Ext g s w g' s' w') (h : Frm g s w tm tmps) : Frm g' s' w' tm tmps :=
  fun t x ht => let ⟨v, h1, h2⟩ := h t x ht; ⟨v, h1, RepA.ext he x v h2⟩

/-- entries of a map. -/
def RepEs (g : Sg) (s : Sto) (w : World) : List (PVal × AVal) → List MapEntry → Prop
  | [], l => l = []
  | (k, x) :: es, l => ∃ e r, l = e :: r ∧ RepP g.imm w k e.key ∧ RepA g s w x e.val ∧ RepEs g s w es r

/-- what is in memory beside cells. -/
def RepH (g : Sg) (s : Sto) (w : World) : HObj → Go.Obj → Prop
  | .mp es, o => ∃ ents clock, o = .map ents clock ∧ RepEs g s w es ents.toList
  | .it str pos, o => ∃ t : ByteArray, o = .stringIter t pos ∧ (t.data.toList.map UInt8.toNat).drop pos = str
  | .lp tm n ps assign body st pend, o => ∃ r : Loop, o = .loop r ∧ r.state = st ∧ r.pending = pend ∧ r.params.toList = ps ∧ r.assign = assign ∧ r.body = body ∧ (n ≤ r.tmps.size ∧ n ≤ glBase ∧ codeOk assign = true ∧ codeOk body = true) ∧ Frm g s w tm r.tmps
  | .dl b, o => o = .deferred (match b with | true => some [] | false => none)

theorem RepEs.ext {g g' : Sg} {s s' : Sto} {w w' : World} (he : Ext g s w g' s' w') : ∀ {es : List (PVal × AVal)} {l : List MapEntry}, RepEs g s w es l → RepEs g' s' w' es l
  | [], _, h => h
  | (k, x) :: es, _, h => by
    obtain ⟨e, r, rfl, h1, h2, h3⟩ := h
    exact ⟨e, r, rfl, RepP.keeps he.keeps _ _ h1, RepA.ext he _ _ h2, RepEs.ext he h3⟩

theorem RepH.ext {g g' : Sg} {s s' : Sto} {w w' : World} (he : Ext g s w g' s' w') : ∀ {h : HObj} {o : Go.Obj}, RepH g s w h o → RepH g' s' w' h o
  | .mp es, _, h => by
    obtain ⟨ents, clock, rfl, h1⟩ := h
    exact ⟨ents, clock, rfl, h1.ext he⟩
  | .it _ _, _, h => h
  | .lp .., _, h => by
    obtain ⟨r, rfl, h1, h2, h3, h4, h5, h6, h7⟩ := h
    exact ⟨r, rfl, h1, h2, h3, h4, h5, h6, h7.ext he⟩
  | .dl _, _, h => h

theorem ho_keep {g g' : Sg} {s s' : Sto} {w w' : World} (hi : ∀ id h, s id = some (.ho h) → ∃ b o, g.bx id = some b ∧ w.heap[b]? = some o ∧ RepH g s w h o) (e : Ext g s w g' s' w')
    (hs : ∀ id h, s' id = some (.ho h) → s id = some (.ho h)) (hh : ∀ id b, g.bx id = some b → (∃ h, s id = some (.ho h)) → w'.heap[b]? = w.heap[b]?) :
    ∀ id h, s' id = some (.ho h) → ∃ b o, g'.bx id = some b ∧ w'.heap[b]? = some o ∧ RepH g' s' w' h o := by
  intro id h h1
  have h2 := hs id h h1
  obtain ⟨b, o, h3, h4, h5⟩ := hi id h h2
  exact ⟨b, o, e.bx _ _ h3, by rw [hh id b h3 ⟨h, h2⟩]; exact h4, h5.ext e⟩

structure Inv (g : Sg) (s : Sto) (w : World) : Prop where
  box : ∀ id cs, s id = some (.box cs) → ∃ b c t, g.bx id = some b ∧ w.heap[b]? = some (.cells c t (0, 0)) ∧ RepAs g s w cs c.toList ∧
    (∀ x ∈ c.toList, isCell x = true)
  arr : ∀ id sz n xs cur lost fz, s id = some (.arr sz n xs cur lost fz) → n = xs.length ∧ lost ≤ cur ∧ fz ≤ n ∧
    (∀ b st m, g.rg b = some (id, st, m) → m ≤ n ∧ ∃ c t vs, w.heap[b]? = some (.cells c t (0, 0)) ∧ RepAs g s w (xs.take m) vs ∧
      (∀ v ∈ vs, v.cells.size = sz ∧ ∀ x ∈ v.cells.toList, isCell x = true) ∧
      (∀ (i : Nat) (x : Value), (vs.flatMap (·.cells.toList))[i]? = some x → c[st + i]? = some x) ∧ (∀ o, g.imm b o → o < st + fz * sz) ∧ st + m * sz ≤ c.size)
  rgS : ∀ b id st m, g.rg b = some (id, st, m) → (∃ sz n xs cur lost fz, s id = some (.arr sz n xs cur lost fz)) ∧ g.base ≤ b ∧ b < w.heap.size
  bxS : ∀ id b, g.bx id = some b → g.base ≤ b ∧ b < w.heap.size ∧ g.rg b = none ∧ (∀ o, ¬ g.imm b o) ∧ ((∃ cs, s id = some (.box cs)) ∨ ∃ h, s id = some (.ho h))
  inj : ∀ id id' b, g.bx id = some b → g.bx id' = some b → id = id'
  immS : ∀ b o, g.imm b o → b < w.heap.size
  baseS : g.base ≤ w.heap.size
  ho : ∀ id h, s id = some (.ho h) → ∃ b o, g.bx id = some b ∧ w.heap[b]? = some o ∧ RepH g s w h o

/-! ### Constants -/
section
variable {I : Nat → Nat → Prop} {w : World}

theorem scalar_rep {v : Value} {x : PVal} (h : scalar v = some x) : RepP I w x v ∧ isCell v = true ∧ v.cells = #[v] := by
  cases v with
  | bool b => simp [scalar] at h; subst h; exact ⟨rfl, rfl, rfl⟩
  | int k n => simp [scalar] at h; subst h; exact ⟨rfl, rfl, rfl⟩
  | string t => simp [scalar] at h; subst h; exact ⟨⟨t, rfl, rfl⟩, rfl, rfl⟩
  | pointer a => cases a <;> simp [scalar] at h; subst h; exact ⟨rfl, rfl, rfl⟩
  | slice a n c =>
    cases a with
    | none =>
      cases n with
      | zero => cases c with
        | zero => simp [scalar] at h; subst h; exact ⟨rfl, rfl, rfl⟩
        | succ c => simp [scalar] at h
      | succ n => simp [scalar] at h
    | some a => simp [scalar] at h
  | map r => cases r <;> simp [scalar] at h; subst h; exact ⟨rfl, rfl, rfl⟩
  | nilFunc => simp [scalar] at h; subst h; exact ⟨rfl, rfl, rfl⟩
  | nilIface => simp [scalar] at h; subst h; exact ⟨rfl, rfl, rfl⟩
  | _ => simp [scalar] at h

theorem scalars_rep : ∀ {vs : List Value} {xs : List PVal}, scalars vs = some xs → RepPs I w xs vs ∧ (∀ v ∈ vs, isCell v = true)
  | [], xs, h => by simp [scalars] at h; subst h; exact ⟨rfl, by simp⟩
  | v :: vs, xs, h => by
    simp only [scalars] at h
    split at h <;> simp at h
    rename_i x ys h1 h2
    subst h
    obtain ⟨a, b, _⟩ := scalar_rep (I := I) (w := w) h1
    obtain ⟨c, d⟩ := scalars_rep h2
    refine ⟨⟨v, vs, rfl, a, c⟩, fun y hy => ?_⟩
    cases hy with
    | head => exact b
    | tail _ hy => exact d y hy

theorem ofValue_rep {v : Value} {x : PVal} (h : ofValue v = some x) : RepP I w x v := by
  cases v with
  | agg cs =>
    simp only [ofValue, Option.map_eq_some_iff] at h
    obtain ⟨xs, h1, rfl⟩ := h
    obtain ⟨a, b⟩ := scalars_rep (I := I) (w := w) h1
    exact ⟨cs.toList, by simp, a, b⟩
  | tuple vs =>
    simp only [ofValue] at h
    split at h <;> simp at h
    rename_i he
    subst h
    exact ⟨[], by simp at he; simp [he], rfl⟩
  | _ => exact (scalar_rep (show scalar _ = some x from by simpa only [ofValue] using h)).1
end

theorem operand_rep {g : Sg} {s : Sto} {w : World} {tm : Tr AVal} {a : Act} (hf : Frm g s w tm a.tmps) {o : Operand} {x : AVal} (h : operand tm o = some x) :
    RepA g s w x (a.eval o) := by
  cases o with
  | tmp t =>
    simp only [operand] at h
    split at h <;> try (simp at h; done)
    rename_i hb
    have hb : Nat.ble (t + 1) glBase = true := hb
    have hlt : t < glBase := Nat.le_of_ble_eq_true hb
    obtain ⟨v, h1, h2⟩ := hf t x h
    simp only [slot, hlt, if_true] at h1
    show RepA g s w x (a.tmps.getD t undef)
    rw [Array.getD_eq_getD_getElem?, h1]; exact h2
  | const v =>
    simp only [operand, Option.map_eq_some_iff] at h
    obtain ⟨y, h1, rfl⟩ := h
    exact ofValue_rep h1
  | func f =>
    simp only [operand, Option.some.injEq] at h
    subst h
    exact ⟨[], rfl, rfl⟩
  | global k =>
    obtain ⟨v, h1, h2⟩ := hf _ _ h
    have : ¬ glBase + k < glBase := by omega
    simp only [slot, this, if_false, Option.some.injEq, Nat.add_sub_cancel_left] at h1
    subst h1
    exact h2

theorem operands_rep {g : Sg} {s : Sto} {w : World} {tm : Tr AVal} {a : Act} (hf : Frm g s w tm a.tmps) : ∀ {l : List Operand} {xs : List AVal}, operands tm l = some xs →
    RepAs g s w xs (l.map a.eval)
  | [], xs, h => by simp [operands] at h; subst h; rfl
  | o :: l, xs, h => by
    simp only [operands] at h
    split at h <;> simp at h
    rename_i v vs h1 h2
    subst h
    exact ⟨_, _, rfl, operand_rep hf h1, operands_rep hf h2⟩

/-! ### Aggregates -/
theorem unP_rep {g : Sg} {s : Sto} {w : World} : ∀ {cs : List AVal} {ps : List PVal} {vs : List Value}, unP cs = some ps → RepAs g s w cs vs → RepPs g.imm w ps vs
  | [], ps, vs, h, hr => by simp [unP] at h; subst h; exact hr
  | c :: cs, ps, vs, h, hr => by
    cases c <;> simp only [unP] at h <;> try (simp at h; done)
    rename_i x
    split at h <;> simp at h
    rename_i xs h1
    subst h
    obtain ⟨y, ys, rfl, a, b⟩ := hr
    exact ⟨y, ys, rfl, a, unP_rep h1 b⟩

theorem mapP_rep {g : Sg} {s : Sto} {w : World} : ∀ {ps : List PVal} {vs : List Value}, RepPs g.imm w ps vs → RepAs g s w (ps.map .p) vs
  | [], _, h => h
  | _ :: ps, _, h => by
    obtain ⟨y, ys, rfl, a, b⟩ := h
    exact ⟨y, ys, rfl, a, mapP_rep b⟩

theorem mkAgg_rep {g : Sg} {s : Sto} {w : World} {cs : List AVal} {vs : List Value} (h : RepAs g s w cs vs) (hc : ∀ x ∈ vs, isCell x = true) : RepA g s w (mkAgg cs) (.agg vs.toArray) := by
  unfold mkAgg
  split
  · rename_i ps h1; exact ⟨vs, rfl, unP_rep h1 h, hc⟩
  · exact ⟨vs, rfl, h, hc⟩

theorem mkTup_rep {g : Sg} {s : Sto} {w : World} {cs : List AVal} {vs : List Value} (h : RepAs g s w cs vs) : RepA g s w (mkTup cs) (.tuple vs.toArray) := by
  unfold mkTup
  split
  · rename_i ps h1; exact ⟨vs, rfl, unP_rep h1 h⟩
  · exact ⟨vs, rfl, h⟩

theorem mkIface_rep {g : Sg} {s : Sto} {w : World} {t : Nat} {x : AVal} {v : Value} (h : RepA g s w x v) : RepA g s w (mkIface t x) (.iface t v) := by
  unfold mkIface
  split
  · exact ⟨v, rfl, h⟩
  · exact ⟨v, rfl, h⟩

theorem mkFn_rep {g : Sg} {s : Sto} {w : World} {f : Fn} {cs : List AVal} {vs : List Value} (h : RepAs g s w cs vs) : RepA g s w (mkFn f cs) (.func f #[] vs.toArray) := by
  unfold mkFn
  split
  · rename_i ps h1; exact ⟨vs, rfl, unP_rep h1 h⟩
  · exact ⟨vs, rfl, h⟩

theorem nth_eq {α : Type} : ∀ (l : List α) (n : Nat), nth l n = l[n]?
  | [], n => by simp [nth]
  | x :: l, 0 => by simp [nth]
  | x :: l, n + 1 => by simp [nth, nth_eq l n]

theorem RepAs.get {g : Sg} {s : Sto} {w : World} : ∀ {xs : List AVal} {vs : List Value} {n : Nat} {x : AVal}, RepAs g s w xs vs → xs[n]? = some x → ∃ v, vs[n]? = some v ∧ RepA g s w x v
  | [], _, _, _, _, h => by simp at h
  | y :: xs, _, n, x, hr, h => by
    obtain ⟨v, vs, rfl, a, b⟩ := hr
    cases n with
    | zero => simp at h; subst h; exact ⟨v, rfl, a⟩
    | succ n =>
      obtain ⟨u, h1, h2⟩ := RepAs.get (n := n) b (by simpa using h)
      exact ⟨u, by simpa using h1, h2⟩

theorem RepPs.get {I : Nat → Nat → Prop} {w : World} : ∀ {xs : List PVal} {vs : List Value} {n : Nat} {x : PVal}, RepPs I w xs vs → xs[n]? = some x → ∃ v, vs[n]? = some v ∧ RepP I w x v
  | [], _, _, _, _, h => by simp at h
  | y :: xs, _, n, x, hr, h => by
    obtain ⟨v, vs, rfl, a, b⟩ := hr
    cases n with
    | zero => simp at h; subst h; exact ⟨v, rfl, a⟩
    | succ n =>
      obtain ⟨u, h1, h2⟩ := RepPs.get (n := n) b (by simpa using h)
      exact ⟨u, by simpa using h1, h2⟩

theorem RepAs.append {g : Sg} {s : Sto} {w : World} : ∀ {xs ys : List AVal} {vs us : List Value}, RepAs g s w xs vs → RepAs g s w ys us → RepAs g s w (xs ++ ys) (vs ++ us)
  | [], _, _, _, h, h' => by rw [h]; exact h'
  | x :: xs, _, _, _, h, h' => by
    obtain ⟨v, vs, rfl, a, b⟩ := h
    exact ⟨v, _, rfl, a, RepAs.append b h'⟩

theorem RepAs.drop {g : Sg} {s : Sto} {w : World} : ∀ {xs : List AVal} {vs : List Value} (n : Nat), RepAs g s w xs vs → RepAs g s w (xs.drop n) (vs.drop n)
  | _, _, 0, h => by simpa using h
  | [], _, n + 1, h => by rw [h]; simp [RepAs]
  | x :: xs, _, n + 1, h => by
    obtain ⟨v, vs, rfl, a, b⟩ := h
    simpa using RepAs.drop n b

theorem RepAs.take {g : Sg} {s : Sto} {w : World} : ∀ {xs : List AVal} {vs : List Value} (n : Nat), RepAs g s w xs vs → RepAs g s w (xs.take n) (vs.take n)
  | _, _, 0, _ => by simp [RepAs]
  | [], _, n + 1, h => by rw [h]; simp [RepAs]
  | x :: xs, _, n + 1, h => by
    obtain ⟨v, vs, rfl, a, b⟩ := h
    exact ⟨v, _, rfl, a, RepAs.take n b⟩

theorem RepPs.drop {I : Nat → Nat → Prop} {w : World} : ∀ {xs : List PVal} {vs : List Value} (n : Nat), RepPs I w xs vs → RepPs I w (xs.drop n) (vs.drop n)
  | _, _, 0, h => by simpa using h
  | [], _, n + 1, h => by rw [h]; simp [RepPs]
  | x :: xs, _, n + 1, h => by
    obtain ⟨v, vs, rfl, a, b⟩ := h
    simpa using RepPs.drop n b

theorem RepPs.take {I : Nat → Nat → Prop} {w : World} : ∀ {xs : List PVal} {vs : List Value} (n : Nat), RepPs I w xs vs → RepPs I w (xs.take n) (vs.take n)
  | _, _, 0, _ => by simp [RepPs]
  | [], _, n + 1, h => by rw [h]; simp [RepPs]
  | x :: xs, _, n + 1, h => by
    obtain ⟨v, vs, rfl, a, b⟩ := h
    exact ⟨v, _, rfl, a, RepPs.take n b⟩

/-- a value whose cells are these: an aggregate, or one. -/
def OfCells (agg : Bool) (v : Value) (l : List Value) : Prop :=
  match agg with
  | true => v = .agg l.toArray
  | false => l = [v] ∧ isCell v = true

theorem part_rep {g : Sg} {s : Sto} {w : World} {agg : Bool} {cs : List AVal} {vs : List Value} {off n : Nat} {x : AVal} (hr : RepAs g s w cs vs) (hc : ∀ v ∈ vs, isCell v = true)
    (h : part agg cs off n = some x) : ∃ v, RepA g s w x v ∧ (agg = true → off + n ≤ vs.length ∧ v = .agg ((vs.drop off).take n).toArray) ∧ (agg = false → vs[off]? = some v) := by
  unfold part at h
  cases agg with
  | true =>
    simp only at h
    split at h <;> simp at h
    rename_i hb
    subst h
    have hlen := RepAs.length hr
    refine ⟨_, mkAgg_rep (RepAs.take n (RepAs.drop off hr)) ?_, fun _ => ⟨by rw [hlen]; exact Nat.le_of_ble_eq_true hb, rfl⟩, by simp⟩
    intro v hv
    exact hc v (List.mem_of_mem_drop (List.mem_of_mem_take hv))
  | false =>
    simp only [nth_eq] at h
    obtain ⟨v, h1, h2⟩ := hr.get h
    exact ⟨v, h2, by simp, fun _ => h1⟩

theorem partP_rep {I : Nat → Nat → Prop} {w : World} {agg : Bool} {cs : List PVal} {vs : List Value} {off n : Nat} {x : PVal} (hr : RepPs I w cs vs) (hc : ∀ v ∈ vs, isCell v = true)
    (h : partP agg cs off n = some x) : ∃ v, RepP I w x v ∧ (agg = true → off + n ≤ vs.length ∧ v = .agg ((vs.drop off).take n).toArray) ∧ (agg = false → vs[off]? = some v) := by
  unfold partP at h
  cases agg with
  | true =>
    simp only at h
    split at h <;> simp at h
    rename_i hb
    subst h
    have hlen := RepPs.length hr
    refine ⟨_, ⟨_, rfl, RepPs.take n (RepPs.drop off hr), ?_⟩, fun _ => ⟨by rw [hlen]; exact Nat.le_of_ble_eq_true hb, rfl⟩, by simp⟩
    intro v hv
    exact hc v (List.mem_of_mem_drop (List.mem_of_mem_take hv))
  | false =>
    simp only [nth_eq] at h
    obtain ⟨v, h1, h2⟩ := hr.get h
    exact ⟨v, h2, by simp, fun _ => h1⟩

/-! ### Types in a run -/
section
variable {P : Program} {w : World}

theorem run_underlying' {t : Nat} {d : TypeDesc} (h : P.underlying t = some d) : (Go.underlying t).run P w = .ok d w := by
  simp [Go.underlying, h]
theorem run_typeInfo' {t : Nat} {i : TypeInfo} (h : P.info? t = some i) : (Go.typeInfo t).run P w = .ok i w := by
  simp [Go.typeInfo, h]
theorem run_sizeOf' {t n : Nat} (h : szT P t = some n) : (Go.sizeOf t).run P w = .ok n w := by
  simp only [szT, Option.map_eq_some_iff] at h
  obtain ⟨i, h1, rfl⟩ := h
  simp [Go.sizeOf, run_typeInfo' h1]
theorem run_isAgg' {t : Nat} {b : Bool} (h : aggT P t = some b) : (Go.isAgg t).run P w = .ok b w := by
  unfold aggT at h
  split at h <;> simp at h <;> subst h <;> rename_i hu <;> simp only [Go.isAgg, Sem.run_bind, run_underlying' hu, Result.andThen_ok]
  · rfl
  · rfl
  · rename_i d h1 h2
    cases d <;> first | rfl | exact absurd rfl (h1 _) | exact absurd rfl (h2 _ _)
theorem run_zeroValue' {t : Nat} {z : PVal} (h : zeroT P t = some z) : ∃ v, (Go.zeroValue t).run P w = .ok v w ∧ ofValue v = some z := by
  unfold zeroT at h
  split at h
  · rename_i i hi
    split at h
    · rename_i v hv
      exact ⟨v, by simp [Go.zeroValue, run_typeInfo' hi, hv], h⟩
    · simp at h
  · simp at h
end

end Go.Proofs.YtceccojmekpneaaGreatDoor.Sw
