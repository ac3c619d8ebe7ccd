/- Maps, walks over strings, bytes: the operations. -/
import Derived.Test.YtceccojmekpneaaGreatDoorSyA
import Derived.Laws.BytesString
namespace Go.Proofs.YtceccojmekpneaaGreatDoor.Sw
open Go.RowKit

section
variable {P : Program} {g : Sg} {s : Sto} {w : World}

theorem run_getObj' {r : Nat} {o : Go.Obj} (h : w.heap[r]? = some o) (hn : ∀ c e f, o ≠ .cells c e f) : (getObj r).run P w = .ok o w := by
  unfold getObj
  cases o <;> first | exact absurd rfl (hn _ _ _) | simp [Sem.run, h]
theorem run_setObj' {r : Nat} {o : Go.Obj} (o' : Go.Obj) (h : w.heap[r]? = some o) (hn : ∀ c e f, o ≠ .cells c e f) : (setObj r o').run P w = .ok () (w.putObj r o') := by
  unfold setObj
  cases o <;> first | exact absurd rfl (hn _ _ _) | simp [Sem.run, h, World.putObj]

theorem mapT_spec {t k e : Nat} (h : mapT P t = some (k, e)) : P.underlying t = some (.map k e) := by
  unfold mapT at h
  split at h <;> simp at h
  obtain ⟨rfl, rfl⟩ := h
  assumption

theorem str_eq_iff {t u : ByteArray} {a b : List Nat} (h1 : t.data.toList.map UInt8.toNat = a) (h2 : u.data.toList.map UInt8.toNat = b) : (t == u) = (a == b) := by
  subst h1 h2
  have e : (t == u) = (t.data == u.data) := rfl
  rw [e, map_toNat_beq, Bool.eq_iff_iff]
  simp only [beq_iff_eq]
  exact ⟨fun h => by rw [h], fun h => Array.ext' h⟩

/-- entries, one by one. -/
theorem RepEs.get : ∀ {es : List (PVal × AVal)} {l : List MapEntry} {i : Nat} {q : PVal × AVal}, RepEs g s w es l → es[i]? = some q → ∃ e, l[i]? = some e ∧ RepP g.imm w q.1 e.key ∧ RepA g s w q.2 e.val
  | [], _, _, _, _, h => by simp at h
  | (k, x) :: es, _, i, q, hr, h => by
    obtain ⟨e, r, rfl, h1, h2, h3⟩ := hr
    cases i with
    | zero => simp at h; subst h; exact ⟨e, rfl, h1, h2⟩
    | succ i => obtain ⟨e', h4, h5⟩ := RepEs.get (i := i) h3 (by simpa using h); exact ⟨e', by simpa using h4, h5⟩

theorem RepEs.set {k : PVal} {x : AVal} {kv v : Value} (hk : RepP g.imm w k kv) (hx : RepA g s w x v) : ∀ {es : List (PVal × AVal)} {l : List MapEntry} {i : Nat}, RepEs g s w es l → i < es.length →
    RepEs g s w (es.set i (k, x)) (l.modify i fun e => { e with key := kv, val := v })
  | [], _, _, _, h => by simp at h
  | (k', x') :: es, _, i, hr, h => by
    obtain ⟨e, r, rfl, h1, h2, h3⟩ := hr
    cases i with
    | zero => exact ⟨_, _, rfl, hk, hx, h3⟩
    | succ i => exact ⟨_, _, by simp, h1, h2, RepEs.set hk hx h3 (by simpa using h)⟩

theorem RepEs.push {k : PVal} {x : AVal} {kv v : Value} (hk : RepP g.imm w k kv) (hx : RepA g s w x v) {clock : Nat} : ∀ {es : List (PVal × AVal)} {l : List MapEntry}, RepEs g s w es l →
    RepEs g s w (es ++ [(k, x)]) (l ++ [{ key := kv, val := v, born := clock }])
  | [], _, h => by
    have h : _ = [] := h
    subst h
    exact ⟨_, _, rfl, hk, hx, rfl⟩
  | (k', x') :: es, _, hr => by
    obtain ⟨e, r, rfl, h1, h2, h3⟩ := hr
    exact ⟨_, _, rfl, h1, h2, RepEs.push hk hx h3⟩

theorem RepEs.erase : ∀ {es : List (PVal × AVal)} {l : List MapEntry} (i : Nat), RepEs g s w es l → RepEs g s w (es.eraseIdx i) (l.eraseIdx i)
  | [], _, _, h => by
    have h : _ = [] := h
    subst h
    rfl
  | (k', x') :: es, _, i, hr => by
    obtain ⟨e, r, rfl, h1, h2, h3⟩ := hr
    cases i with
    | zero => exact h3
    | succ i => exact ⟨_, _, rfl, h1, h2, RepEs.erase i h3⟩

/-- the same key, in the model's words: at once. -/
theorem sameNow_run {kt : Nat} {d : TypeDesc} {k q : PVal} {kv qv : Value} {b : Bool} (hd : P.underlying kt = some d) (hk : RepP g.imm w k kv) (hq : RepP g.imm w q qv) (h : basicSame (some d) k q = some b) :
    Instr.sameNow d kv qv = some b := by
  unfold basicSame at h
  split at h
  · rename_i hd'
    split at h <;> simp at h
    rename_i hkk
    simp at hd' hkk
    subst h; subst hd'; subst hkk
    have e1 : kv = .int _ _ := hk
    have e2 : qv = .int _ _ := hq
    subst e1 e2
    simp [Instr.sameNow]
  · rename_i hd'
    simp at hd' h
    subst h; subst hd'
    obtain ⟨t, rfl, h1⟩ := hk
    obtain ⟨u, rfl, h2⟩ := hq
    simp only [Instr.sameNow, Option.some.injEq]
    rw [sameBytes_eq, str_eq_iff h1 h2]
  · rename_i hd'
    simp at hd' h
    subst h; subst hd'
    have e1 : kv = .bool _ := hk
    have e2 : qv = .bool _ := hq
    subst e1 e2
    simp [Instr.sameNow]
  · simp at h

/-- the same key, asked for. -/
theorem keySame_run {kt : Nat} {k q : PVal} {kv qv : Value} {b : Bool} (hk : RepP g.imm w k kv) (hq : RepP g.imm w q qv) (h : keySame P kt k q = some b) : (Op.equal kt kv qv).run P w = .ok b w := by
  unfold keySame at h
  split at h
  · exact structEq_run hk hq h
  · exact basicSame_run hk hq h

theorem findNow_run {kt : Nat} {d : TypeDesc} {k : PVal} {kv : Value} (hd : P.underlying kt = some d) (hk : RepP g.imm w k kv) (hn : ∀ a, k ≠ .agg a) :
    ∀ {es : List (PVal × AVal)} {l : List MapEntry} {r : Option Nat} (i : Nat), RepEs g s w es l → findI P kt k i es = some r →
      match r with | some j => ∃ e, i ≤ j ∧ l[j - i]? = some e ∧ Instr.findNow d kv l i = some (some (j, e.val)) | none => Instr.findNow d kv l i = some none
  | [], l, r, i, hr, h => by
    have hr : l = [] := hr
    subst hr
    simp [findI] at h
    subst h
    rfl
  | (q, u) :: es, l, r, i, hr, h => by
    obtain ⟨e, t, rfl, h1, h2, h3⟩ := hr
    have hks : keySame P kt k q = basicSame (some d) k q := by
      unfold keySame
      split
      · exact absurd rfl (hn _)
      · rw [hd]
    simp only [findI, hks] at h
    split at h
    · rename_i hs
      simp at h
      subst h
      exact ⟨e, Nat.le_refl _, by simp, by simp [Instr.findNow, sameNow_run hd hk h1 hs]⟩
    · rename_i hs
      have := findNow_run hd hk hn (i + 1) h3 h
      simp only [Instr.findNow, sameNow_run hd hk h1 hs]
      cases r with
      | none => exact this
      | some j =>
        obtain ⟨e', k1, k2, k3⟩ := this
        refine ⟨e', by omega, ?_, k3⟩
        rw [show j - i = (j - (i + 1)) + 1 by omega]
        simpa using k2
    · simp at h

theorem findAsking_run {kt : Nat} {k : PVal} {kv : Value} (hk : RepP g.imm w k kv) :
    ∀ {es : List (PVal × AVal)} {l : List MapEntry} {r : Option Nat} (i : Nat), RepEs g s w es l → findI P kt k i es = some r →
      match r with | some j => ∃ e, i ≤ j ∧ l[j - i]? = some e ∧ (Instr.findAsking kt kv l i).run P w = .ok (some (j, e.val)) w | none => (Instr.findAsking kt kv l i).run P w = .ok none w
  | [], l, r, i, hr, h => by
    have hr : l = [] := hr
    subst hr
    simp [findI] at h
    subst h
    rfl
  | (q, u) :: es, l, r, i, hr, h => by
    obtain ⟨e, t, rfl, h1, h2, h3⟩ := hr
    simp only [findI] at h
    split at h
    · rename_i hs
      simp at h
      subst h
      exact ⟨e, Nat.le_refl _, by simp, by simp [Instr.findAsking, keySame_run hk h1 hs]⟩
    · rename_i hs
      have := findAsking_run hk (i + 1) h3 h
      simp only [Instr.findAsking, Sem.run_bind, keySame_run hk h1 hs, Result.andThen_ok, Bool.false_eq_true, if_false]
      cases r with
      | none => exact this
      | some j =>
        obtain ⟨e', k1, k2, k3⟩ := this
        refine ⟨e', by omega, ?_, k3⟩
        rw [show j - i = (j - (i + 1)) + 1 by omega]
        simpa using k2
    · simp at h

/-- where a key is, in the model's words. -/
theorem findKey_run {kt : Nat} {k : PVal} {kv : Value} (hkey : keyOk P kt k = true) (hk : RepP g.imm w k kv) {es : List (PVal × AVal)} {l : List MapEntry} {r : Option Nat} (hr : RepEs g s w es l)
    (h : findI P kt k 0 es = some r) :
    match r with | some j => ∃ e, l[j]? = some e ∧ (Instr.findKey kt kv l).run P w = .ok (some (j, e.val)) w | none => (Instr.findKey kt kv l).run P w = .ok none w := by
  obtain ⟨d, hd⟩ : ∃ d, P.underlying kt = some d := by
    cases hu : P.underlying kt with
    | none => simp [keyOk, hu] at hkey
    | some d => exact ⟨d, rfl⟩
  by_cases hn : ∀ a, k ≠ .agg a
  · have := findNow_run hd hk hn 0 hr h
    cases r with
    | none => simp only at this; simp [Instr.findKey, run_underlying' hd, this]
    | some j =>
      obtain ⟨e, _, k2, k3⟩ := this
      exact ⟨e, by simpa using k2, by simp [Instr.findKey, run_underlying' hd, k3]⟩
  · have hag : ∃ a, k = .agg a := by
      cases k <;> first | exact ⟨_, rfl⟩ | exact absurd (fun a => by simp) hn
    obtain ⟨a, rfl⟩ := hag
    have hk0 := hk
    obtain ⟨vs, rfl, _⟩ := hk0
    have := findAsking_run hk 0 hr h
    have hnow : ∀ (l : List MapEntry) (i : Nat), l ≠ [] → Instr.findNow d (.agg vs.toArray) l i = none := by
      intro l i hl
      cases l with
      | nil => exact absurd rfl hl
      | cons e l =>
        have : Instr.sameNow d (.agg vs.toArray) e.key = none := by unfold Instr.sameNow; split <;> simp_all
        simp [Instr.findNow, this]
    by_cases hl : l = []
    · subst hl
      cases r with
      | none => simp [Instr.findKey, run_underlying' hd, Instr.findNow]
      | some j => obtain ⟨e, _, k2, _⟩ := this; simp at k2
    · cases r with
      | none => simp only at this; simp [Instr.findKey, run_underlying' hd, hnow l 0 hl, this]
      | some j =>
        obtain ⟨e, _, k2, k3⟩ := this
        exact ⟨e, by simpa using k2, by simp [Instr.findKey, run_underlying' hd, hnow l 0 hl, k3]⟩

theorem checkKey_run {b : Bool} {kt : Nat} {k : PVal} {v : Value} (hkey : keyOk P kt k = true) (hk : RepP g.imm w k v) : (Instr.checkKey b 10000 kt v).run P w = .ok () w := by
  unfold keyOk at hkey
  have basic : ∀ {d : TypeDesc} {t n : Nat} {v : Value}, P.underlying t = some d → ((∃ q, d = .int q) ∨ d = .string ∨ d = .bool) → (Instr.checkKey b (n + 1) t v).run P w = .ok () w := by
    intro d t n v hd h
    rcases h with ⟨q, rfl⟩ | rfl | rfl <;> simp [Instr.checkKey, run_underlying' hd]
  split at hkey <;> try (simp at hkey; done)
  · rename_i hd; exact basic hd (.inl ⟨_, rfl⟩)
  · rename_i hd; exact basic hd (.inr (.inl rfl))
  · rename_i hd; exact basic hd (.inr (.inr rfl))
  · rename_i fs cs hd
    obtain ⟨vs, rfl, hr, _⟩ := hk
    show (Instr.checkKey b (9998 + 1 + 1) kt (.agg vs.toArray)).run P w = .ok () w
    generalize 9998 = n
    rw [Instr.checkKey]
    simp only [Sem.run_bind, run_underlying' hd, Result.andThen_ok]
    rw [← Array.forIn_toList]
    have go : ∀ (l : List Field), (∀ f ∈ l, f ∈ fs.toList) → (forIn l PUnit.unit fun f _ => do
        if f.name ≠ "_" then Instr.checkKey b (n + 1) f.type (← Go.part f.type vs.toArray f.offset)
        pure (ForInStep.yield PUnit.unit) : Sem PUnit).run P w = .ok PUnit.unit w := by
      intro l
      induction l with
      | nil => intro _; rfl
      | cons f l ih =>
        intro hl
        have hf := List.all_eq_true.1 hkey f (hl f (by simp))
        have hbf : (f.name == "_") = false ∧ aggT P f.type = some false ∧ (∃ d, P.underlying f.type = some d ∧ ((∃ q, d = .int q) ∨ d = .string ∨ d = .bool)) ∧ ∃ c, nth cs f.offset = some c := by
          split at hf <;> simp at hf
          · rename_i h1 h2 h3 h4; exact ⟨h1, h2, ⟨_, h3, .inl ⟨_, rfl⟩⟩, _, h4⟩
          · rename_i h1 h2 h3 h4; exact ⟨h1, h2, ⟨_, h3, .inr (.inl rfl)⟩, _, h4⟩
          · rename_i h1 h2 h3 h4; exact ⟨h1, h2, ⟨_, h3, .inr (.inr rfl)⟩, _, h4⟩
        obtain ⟨h1, h2, ⟨d, h3, h4⟩, c, h5⟩ := hbf
        rw [nth_eq] at h5
        obtain ⟨u, h6, _⟩ := RepPs.get hr h5
        have hpart : (Go.part f.type vs.toArray f.offset).run P w = .ok u w := by simp [Go.part, run_isAgg' h2, h6]
        have hne : f.name ≠ "_" := by simpa using h1
        simp only [List.forIn_cons, Sem.run_bind, hne, ne_eq, not_false_eq_true, if_true, hpart, Result.andThen_ok, basic h3 h4, Sem.run_pure]
        exact ih (fun f hf => hl f (by simp [hf]))
    have := go fs.toList (fun _ h => h)
    exact (congrArg (fun r => Result.andThen r fun _ w' => Sem.run P (pure ()) w') this).trans rfl

theorem entries_run {S : St} (hs : ∀ id, s id = S.get id) (hi : Inv g s w) {x : AVal} {v : Value} {es : List (PVal × AVal)} {rd : List Nat} (hx : RepA g s w x v) (h : entriesOf S x = some (es, rd)) :
    (v = .map none ∧ es = []) ∨ ∃ b ents clock, v = .map (some b) ∧ w.heap[b]? = some (.map ents clock) ∧ RepEs g s w es ents.toList := by
  unfold entriesOf at h
  split at h
  · simp at h
    obtain ⟨rfl, rfl⟩ := h
    exact .inl ⟨hx, rfl⟩
  · rename_i id
    split at h <;> simp at h
    rename_i es' hid
    obtain ⟨rfl, rfl⟩ := h
    obtain ⟨b, hb, rfl⟩ := hx
    obtain ⟨o, h1, ents, clock, rfl, h2⟩ := hi.at_ho ((hs id).trans hid) hb
    exact .inr ⟨b, ents, clock, rfl, h1, h2⟩
  · simp at h

/-- a look-up, behind the entries. -/
def lookupTail (kt et : Nat) (ents : Array MapEntry) (vk : Value) (ok : Bool) : Sem Value := do
  Instr.checkKey ents.isEmpty 10000 kt vk
  let (v, b) ← match ← Instr.findKey kt vk ents.toList with
    | some (_, v) => pure (v, true)
    | none => pure (← zeroValue et, false)
  pure (if ok then .tuple #[v, .bool b] else v)

theorem lookup_tail {t kt et : Nat} {vx vk : Value} {ok : Bool} {ents : Array MapEntry} (ht : P.underlying t = some (.map kt et))
    (h : (vx = .map none ∧ ents = #[]) ∨ ∃ b clock, vx = .map (some b) ∧ w.heap[b]? = some (.map ents clock)) : (Instr.lookup t vx vk ok).run P w = (lookupTail kt et ents vk ok).run P w := by
  rcases h with ⟨rfl, rfl⟩ | ⟨b, clock, rfl, h1⟩
  · simp only [Instr.lookup, lookupTail, Sem.run_bind, run_underlying' ht, Result.andThen_ok, Sem.run_pure]
    congr 1
  · simp only [Instr.lookup, lookupTail, Sem.run_bind, run_underlying' ht, Result.andThen_ok, run_getObj' h1 (by simp), Sem.run_pure]
    congr 1

theorem lookup_run {S : St} (hs : ∀ id, s id = S.get id) (hi : Inv g s w) {t : Nat} {x k : AVal} {vx vk : Value} {ok : Bool} {e : Eff} (hx : RepA g s w x vx) (hk : RepA g s w k vk) (h : lookupOp P S t x k ok = some e) :
    e.wr = [] ∧ ∃ u, (Instr.lookup t vx vk ok).run P w = .ok u w ∧ RepA g s w e.v u := by
  unfold lookupOp at h
  split at h <;> try (simp at h; done)
  rename_i kt et kp ht
  have ht := mapT_spec ht
  split at h <;> try (simp at h; done)
  rename_i es rd hkey hent
  have hk : RepP g.imm w kp vk := hk
  -- the entries
  have hes : ∃ ents : Array MapEntry, RepEs g s w es ents.toList ∧ ((vx = .map none ∧ ents = #[]) ∨ ∃ b clock, vx = .map (some b) ∧ w.heap[b]? = some (.map ents clock)) := by
    rcases entries_run hs hi hx hent with ⟨h1, rfl⟩ | ⟨b, ents, clock, h1, h2, h3⟩
    · exact ⟨#[], rfl, .inl ⟨h1, rfl⟩⟩
    · exact ⟨ents, h3, .inr ⟨b, clock, h1, h2⟩⟩
  obtain ⟨ents, he1, he2⟩ := hes
  rw [lookup_tail ht he2]
  have hck := fun {b} => checkKey_run (b := b) hkey hk
  split at h <;> try (simp at h; done)
  · rename_i v hf
    unfold findE at hf
    split at hf <;> try (simp at hf; done)
    rename_i j hfi
    split at hf <;> simp at hf
    rename_i q v' hn
    subst hf
    rw [nth_eq] at hn
    obtain ⟨e0, q1, q2⟩ := findKey_run hkey hk he1 hfi
    obtain ⟨e1, k1, _, k3⟩ := RepEs.get he1 hn
    rw [k1] at q1
    simp at q1
    subst q1
    split at h <;> simp at h <;> subst h
    · refine ⟨rfl, .tuple #[e1.val, .bool true], ?_, mkTup_rep ⟨_, _, rfl, k3, _, _, rfl, rfl, rfl⟩⟩
      simp only [lookupTail, Sem.run_bind, Result.andThen_ok, hck, q2, Sem.run_pure, if_true]
    · refine ⟨rfl, e1.val, ?_, k3⟩
      simp only [lookupTail, Sem.run_bind, Result.andThen_ok, hck, q2, Sem.run_pure, Bool.false_eq_true, if_false]
  · rename_i hf
    have hfi : findI P kt kp 0 es = some none := by
      unfold findE at hf
      split at hf <;> try (simp at hf; done)
      · split at hf <;> simp at hf
      · rename_i h1; exact h1
    have q1 := findKey_run hkey hk he1 hfi
    simp only at q1
    split at h <;> try (simp at h; done)
    rename_i z hz
    obtain ⟨zv, z1, z2⟩ := run_zeroValue' (w := w) hz
    have z3 : RepP g.imm w z zv := ofValue_rep z2
    split at h <;> simp at h <;> subst h
    · refine ⟨rfl, .tuple #[zv, .bool false], ?_, [zv, .bool false], rfl, _, _, rfl, z3, _, _, rfl, rfl, rfl⟩
      simp only [lookupTail, Sem.run_bind, Result.andThen_ok, hck, q1, Sem.run_pure, z1, if_true]
    · refine ⟨rfl, zv, ?_, z3⟩
      simp only [lookupTail, Sem.run_bind, Result.andThen_ok, hck, q1, Sem.run_pure, z1, Bool.false_eq_true, if_false]

theorem makeMap_run {S : St} (hs : ∀ id, s id = S.get id) (hi : Inv g s w) {t b : Nat} {e : Eff} (h : makeMapOp b S = some e) : Yields g s w e ((Instr.makeMap t none).run P w) := by
  unfold makeMapOp at h
  split at h <;> simp at h
  rename_i hb
  subst h
  obtain ⟨g', e1, e2, e3⟩ := new_ho hi ((hs b).trans hb) (h := .mp []) (o := .map #[] 0) ⟨#[], 0, rfl, rfl⟩
  exact ⟨.map (some w.heap.size), g', _, by simp [Instr.makeMap], e1, e2, w.heap.size, e3, rfl⟩

theorem allSame_run : ∀ {a b : List PVal} {va vb : List Value} {n : Nat}, allSame a b = true → RepPs g.imm w a va → RepPs g.imm w b vb → va.length = vb.length ∧ ((va.zip vb).all fun (x, y) => Instr.sameBits n x y) = true := by
  have one : ∀ {x y : PVal} {vx vy : Value} {n : Nat}, allSame [x] [y] = true → RepP g.imm w x vx → RepP g.imm w y vy → Instr.sameBits n vx vy = true := by
    intro x y vx vy n h hx hy
    unfold allSame at h
    split at h <;> simp at h
    · rename_i e _; simp at e
    · rename_i h1 h2
      simp at h1 h2
      obtain ⟨rfl, _⟩ := h1
      obtain ⟨rfl, _⟩ := h2
      obtain ⟨rfl, rfl⟩ := h.1
      have e1 : vx = .int _ _ := hx
      have e2 : vy = .int _ _ := hy
      subst e1 e2
      cases n <;> simp [Instr.sameBits]
    · rename_i h1 h2
      simp at h1 h2
      obtain ⟨rfl, _⟩ := h1
      obtain ⟨rfl, _⟩ := h2
      obtain ⟨t, rfl, k1⟩ := hx
      obtain ⟨u, rfl, k2⟩ := hy
      have : (t == u) = true := by rw [str_eq_iff k1 k2, ← sameBytes_eq]; exact h.1
      cases n <;> exact this
    · rename_i h1 h2
      simp at h1 h2
      obtain ⟨rfl, _⟩ := h1
      obtain ⟨rfl, _⟩ := h2
      have e1 : vx = .bool _ := hx
      have e2 : vy = .bool _ := hy
      subst e1 e2
      cases n <;> simp [Instr.sameBits, h]
  intro a
  induction a with
  | nil =>
    intro b va vb n h ha hb
    cases b <;> simp [allSame] at h
    have ha : va = [] := ha
    have hb : vb = [] := hb
    subst ha hb
    simp
  | cons x a ih =>
    intro b va vb n h ha hb
    cases b with
    | nil => cases x <;> simp [allSame] at h
    | cons y b =>
      obtain ⟨vx, va, rfl, k1, k2⟩ := ha
      obtain ⟨vy, vb, rfl, k3, k4⟩ := hb
      have hsplit : allSame [x] [y] = true ∧ allSame a b = true := by
        cases x <;> cases y <;> simp [allSame] at h ⊢ <;> first | exact ⟨h.1, h.2⟩ | exact h
      obtain ⟨h1, h2⟩ := hsplit
      obtain ⟨e1, e2⟩ := ih (n := n) h2 k2 k4
      refine ⟨by simp [e1], ?_⟩
      simp only [List.zip_cons_cons, List.all_cons, one h1 k1 k3, Bool.true_and]
      exact e2

theorem stays_run {k q : PVal} {kv qv : Value} (hk : RepP g.imm w k kv) (hq : RepP g.imm w q qv) (h : staysOk k q = true) : Instr.sameBits 10000 qv kv = true := by
  unfold staysOk at h
  split at h
  · obtain ⟨vk, rfl, h1, _⟩ := hk
    obtain ⟨vq, rfl, h2, _⟩ := hq
    obtain ⟨e1, e2⟩ := allSame_run (n := 9999) h h2 h1
    simp only [Instr.sameBits, List.size_toArray, e1, beq_self_eq_true, Bool.true_and]
    exact e2
  · obtain ⟨e1, e2⟩ := allSame_run (n := 10000) h (⟨qv, [], rfl, hq, rfl⟩ : RepPs g.imm w [q] [qv]) (⟨kv, [], rfl, hk, rfl⟩ : RepPs g.imm w [k] [kv])
    simpa using e2

theorem mapUpdate_run {S : St} (hs : ∀ id, s id = S.get id) (hi : Inv g s w) {t : Nat} {x k y : AVal} {vx vk vy : Value} {e : Eff} (hx : RepA g s w x vx) (hk : RepA g s w k vk) (hy : RepA g s w y vy)
    (h : mapUpdateOp P S t x k y = some e) :
    ∃ g' w', (Instr.mapUpdate t vx vk vy).run P w = .ok () w' ∧ Ext g s w g' (e.wr.foldl (fun s x => upd s x.1 x.2) s) w' ∧ Inv g' (e.wr.foldl (fun s x => upd s x.1 x.2) s) w' ∧ e.v = .p (.tup []) := by
  unfold mapUpdateOp at h
  split at h <;> try (simp at h; done)
  rename_i kt et kp id ht
  have ht := mapT_spec ht
  split at h <;> try (simp at h; done)
  rename_i es hkey hid
  split at h <;> simp at h
  rename_i es' hset
  subst h
  have hk : RepP g.imm w kp vk := hk
  have hck := fun {b} => checkKey_run (b := b) hkey hk
  obtain ⟨b, hb, rfl⟩ := hx
  have hid' := (hs id).trans hid
  obtain ⟨o, h1, ents, clock, rfl, h2⟩ := hi.at_ho hid' hb
  simp only [List.foldl_cons, List.foldl_nil]
  unfold setE at hset
  split at hset
  · rename_i j hfi
    split at hset <;> try (simp at hset; done)
    rename_i q v' hn
    split at hset <;> simp at hset
    rename_i hst
    subst hset
    rw [nth_eq] at hn
    have hlt := (List.getElem?_eq_some_iff.1 hn).1
    obtain ⟨e0, q1, q2⟩ := findKey_run hkey hk h2 hfi
    obtain ⟨e1, k1, k2, k3⟩ := RepEs.get h2 hn
    rw [k1] at q1
    simp at q1
    subst q1
    obtain ⟨x1, x2⟩ := set_ho hi hid' hb (h := .mp (es.set j (kp, y))) (o := .map (ents.modify j fun e => { e with key := vk, val := vy }) clock) ⟨_, _, rfl, by simpa using RepEs.set hk hy h2 hlt⟩
    refine ⟨g, _, ?_, x1, x2, trivial⟩
    have hkk : ((ents[j]?).map (·.key)).getD vk = e1.key := by
      have : ents[j]? = some e1 := by simpa using k1
      rw [this]; rfl
    simp only [Instr.mapUpdate, refVal, Sem.run_bind, run_underlying' ht, Result.andThen_ok, run_getObj' h1 (by simp), hck, q2, hkk, Instr.keyThatStays, stays_run hk k2 hst, if_true, Sem.run_pure, run_setObj' _ h1 (by simp)]
  · rename_i hfi
    simp at hset
    subst hset
    have q1 := findKey_run hkey hk h2 hfi
    simp only at q1
    obtain ⟨x1, x2⟩ := set_ho hi hid' hb (h := .mp (es ++ [(kp, y)])) (o := .map (ents.push { key := vk, val := vy, born := clock }) (clock + 1)) ⟨_, _, rfl, by simpa using RepEs.push (clock := clock) hk hy h2⟩
    refine ⟨g, _, ?_, x1, x2, trivial⟩
    simp only [Instr.mapUpdate, refVal, Sem.run_bind, run_underlying' ht, Result.andThen_ok, run_getObj' h1 (by simp), hck, q1, run_setObj' _ h1 (by simp)]
  · simp at hset

theorem delete_run {S : St} (hs : ∀ id, s id = S.get id) (hi : Inv g s w) {t ty t2 : Nat} {x k : AVal} {vx vk : Value} {e : Eff} (hx : RepA g s w x vx) (hk : RepA g s w k vk) (h : deleteOp P S t x k = some e) :
    Yields g s w e ((Builtin.delete_ #[t, t2] ty #[vx, vk]).run P w) := by
  unfold deleteOp at h
  split at h <;> try (simp at h; done)
  rename_i kt et kp id ht
  have ht := mapT_spec ht
  split at h <;> try (simp at h; done)
  rename_i es hkey hid
  split at h <;> simp at h
  rename_i es' hdel
  subst h
  have hk : RepP g.imm w kp vk := hk
  have hck := fun {b} => checkKey_run (b := b) hkey hk
  obtain ⟨b, hb, rfl⟩ := hx
  have hid' := (hs id).trans hid
  obtain ⟨o, h1, ents, clock, rfl, h2⟩ := hi.at_ho hid' hb
  unfold delE at hdel
  split at hdel
  · rename_i j hfi
    simp at hdel
    subst hdel
    obtain ⟨e0, _, q2⟩ := findKey_run hkey hk h2 hfi
    obtain ⟨e1, e2⟩ := set_ho hi hid' hb (h := .mp (es.eraseIdx j)) (o := .map (ents.eraseIdxIfInBounds j) clock) ⟨_, _, rfl, by
      have : (ents.eraseIdxIfInBounds j).toList = ents.toList.eraseIdx j := by simp [Array.eraseIdxIfInBounds]; split <;> simp_all
      rw [this]; exact RepEs.erase j h2⟩
    refine ⟨.tuple #[], g, _, ?_, e1, e2, [], rfl, rfl⟩
    simp [Builtin.delete_, refVal, run_underlying' ht, run_getObj' h1 (by simp), hck, q2, run_setObj' _ h1 (by simp)]
  · rename_i hfi
    simp at hdel
    subst hdel
    have q1 := findKey_run hkey hk h2 hfi
    simp only at q1
    obtain ⟨e1, e2⟩ := set_ho hi hid' hb (h := .mp es) (o := .map ents clock) ⟨_, _, rfl, h2⟩
    refine ⟨.tuple #[], g, _, ?_, e1, e2, [], rfl, rfl⟩
    simp [Builtin.delete_, refVal, run_underlying' ht, run_getObj' h1 (by simp), hck, q1, run_setObj' _ h1 (by simp)]
  · simp at hdel

theorem range_run {S : St} (hs : ∀ id, s id = S.get id) (hi : Inv g s w) {t b : Nat} {x : AVal} {vx : Value} {e : Eff} (hx : RepA g s w x vx) (h : rangeOp P b t x S = some e) : Yields g s w e ((Instr.range t vx).run P w) := by
  unfold rangeOp at h
  split at h <;> simp at h
  rename_i bs ht hb
  subst h
  obtain ⟨u, rfl, hu⟩ := hx
  obtain ⟨g', e1, e2, e3⟩ := new_ho hi ((hs b).trans hb) (h := .it bs 0) (o := .stringIter u 0) ⟨u, rfl, by simpa using hu⟩
  exact ⟨.pointer (some ⟨w.heap.size, 0, none⟩), g', _, by simp [Instr.range, run_underlying' ht], e1, e2, w.heap.size, e3, rfl⟩

theorem next_run {S : St} (hs : ∀ id, s id = S.get id) (hi : Inv g s w) {ty : Nat} {x : AVal} {vx : Value} {is : Bool} {e : Eff} (hx : RepA g s w x vx) (h : nextOp S x is = some e) : Yields g s w e ((Instr.next vx is ty).run P w) := by
  unfold nextOp at h
  split at h <;> try (simp at h; done)
  rename_i id
  split at h <;> try (simp at h; done)
  rename_i bs pos hid
  obtain ⟨b, hb, rfl⟩ := hx
  have hid' := (hs id).trans hid
  obtain ⟨o, h1, t, rfl, h2⟩ := hi.at_ho hid' hb
  have hsz : t.size = (t.data.toList.map UInt8.toNat).length := by rw [List.length_map]; rfl
  split at h
  · simp at h
    subst h
    have : ¬ pos < t.size := by
      have := congrArg List.length h2
      simp at this
      rw [hsz]; simp; omega
    refine ⟨.tuple #[.bool false], g, w, ?_, .refl _ _ _, hi, [.bool false], rfl, _, _, rfl, rfl, rfl⟩
    simp [Instr.next, refVal, run_getObj' h1 (by simp), this]
  · rename_i c r
    split at h <;> simp at h
    rename_i hc
    subst h
    have hc : Nat.ble (c + 1) 128 = true := hc
    have hc := Nat.le_of_ble_eq_true hc
    have hlt : pos < t.size := by
      have := congrArg List.length h2
      simp at this
      rw [hsz]; simp; omega
    have hget : (t.data.toList.map UInt8.toNat)[pos]? = some c := by
      have : ((t.data.toList.map UInt8.toNat).drop pos)[0]? = some c := by rw [h2]; rfl
      simpa using this
    have hget2 : (t.get! pos).toNat = c := by
      have : t.data.toList[pos]?.map UInt8.toNat = some c := by simpa using hget
      have hlt' : pos < t.data.size := hlt
      have e : t.get! pos = t.data[pos]! := rfl
      rw [e]
      simp only [Array.getElem?_toList, Array.getElem?_eq_getElem hlt', Option.map_some, Option.some.injEq] at this
      rw [getElem!_pos t.data pos hlt']
      exact this
    have hdec : Utf8.decode t pos = (c, 1) := by
      unfold Utf8.decode
      simp only [Nat.add_zero, hget2]
      rw [if_pos (by omega)]
    obtain ⟨e1, e2⟩ := set_ho hi hid' hb (h := .it r (pos + 1)) (o := .stringIter t (pos + 1)) ⟨t, rfl, by
      have : ((t.data.toList.map UInt8.toNat).drop pos).drop 1 = r := by rw [h2]; rfl
      rw [List.drop_drop] at this
      exact this⟩
    refine ⟨.tuple #[.bool true, goInt pos, .int .i32 c], g, _, ?_, e1, e2, [.bool true, goInt pos, .int .i32 c], rfl, _, _, rfl, rfl, _, _, rfl, rfl, _, _, rfl, rfl, rfl⟩
    simp [Instr.next, refVal, run_getObj' h1 (by simp), hlt, hdec, run_setObj' _ h1 (by simp)]

theorem clear_run {t ty : Nat} {x z : AVal} {v : Value} (hx : RepA g s w x v) (h : clearOp P t x = some z) : ∃ u, (Builtin.clear_ #[t] ty #[v]).run P w = .ok u w ∧ RepA g s w z u := by
  unfold clearOp at h
  split at h <;> try (simp at h; done)
  rename_i e ht
  have key : (v = .slice none 0 0 ∨ ∃ a c, v = .slice a 0 c) → (Builtin.clear_ #[t] ty #[v]).run P w = .ok (.tuple #[]) w := by
    rintro (rfl | ⟨a, c, rfl⟩)
    · simp [Builtin.clear_, run_underlying' ht]
    · cases a <;> simp [Builtin.clear_, run_underlying' ht]
  split at h <;> simp at h <;> subst h
  · exact ⟨_, key (.inl hx), [], rfl, rfl⟩
  · obtain ⟨b, o, cap, sz, vs, rfl, _⟩ := hx
    exact ⟨_, key (.inr ⟨_, _, rfl⟩), [], rfl, rfl⟩
  · obtain ⟨b, o, sz, vs, rfl, _⟩ := hx
    exact ⟨_, key (.inr ⟨_, _, rfl⟩), [], rfl, rfl⟩
  · obtain ⟨b, o, cap, rfl, _⟩ := hx
    exact ⟨_, key (.inr ⟨_, _, rfl⟩), [], rfl, rfl⟩

theorem bytes_rep : ∀ {xs : List AVal} {vs : List Value} {l : List Nat}, RepAs g s w xs vs → bytesOf xs = some l → ∃ ns : List Int, vs = ns.map (Value.int .u8) ∧ l = ns.map fun n => n.toNat % 256
  | [], vs, l, hr, h => by
    have hr : vs = [] := hr
    simp [bytesOf] at h
    subst hr h
    exact ⟨[], rfl, rfl⟩
  | x :: xs, vs, l, hr, h => by
    obtain ⟨v, vs, rfl, h1, h2⟩ := hr
    unfold bytesOf at h
    split at h
    · rename_i e; simp at e
    · rename_i n r e
      simp at e
      obtain ⟨rfl, rfl⟩ := e
      split at h <;> simp at h
      rename_i l' hl
      subst h
      obtain ⟨ns, rfl, rfl⟩ := bytes_rep h2 hl
      have h1 : v = .int .u8 n := h1
      subst h1
      exact ⟨n :: ns, rfl, rfl⟩
    · simp at h

theorem push_bytes : ∀ (ns : List Int) (r : ByteArray), (ns.foldl (fun r n => r.push (UInt8.ofNat n.toNat)) r).data.toList.map UInt8.toNat = r.data.toList.map UInt8.toNat ++ ns.map fun n => n.toNat % 256
  | [], r => by simp
  | n :: ns, r => by
    simp only [List.foldl_cons]
    rw [push_bytes ns]
    have : (r.push (UInt8.ofNat n.toNat)).data = r.data.push (UInt8.ofNat n.toNat) := rfl
    rw [this]
    simp

theorem convBytes_run {S : St} (hs : ∀ id, s id = S.get id) (hi : Inv g s w) {src dst : Nat} {x : AVal} {v : Value} {e : Eff} (hx : RepA g s w x v) (h : convBytes P S src dst x = some e) :
    e.wr = [] ∧ ∃ u, (convert src dst v).run P w = .ok u w ∧ RepA g s w e.v u := by
  unfold convBytes at h
  split at h <;> try (simp at h; done)
  rename_i el hsrc hdst
  have key : ∀ {b o len cap : Nat} {ys : List AVal} {vs : List Value} {l : List Nat}, P.underlying el = some (.int .u8) → v = .slice (some ⟨b, o, none⟩) len cap → RepAs g s w ys vs → vs.length = len →
      CellsIn w b o (vs.flatMap (·.cells.toList)) → bytesOf ys = some l → ∃ u, (convert src dst v).run P w = .ok u w ∧ RepA g s w (.p (.str l)) u := by
    intro b o len cap ys vs l hel hv hr hl hc hb
    subst hv hl
    obtain ⟨ns, rfl, rfl⟩ := bytes_rep hr hb
    have hflat : ∀ ns : List Int, (ns.map (Value.int .u8)).flatMap (·.cells.toList) = ns.map (Value.int .u8) := fun ns => by
      induction ns with
      | nil => rfl
      | cons n ns ih => simp only [List.map_cons, List.flatMap_cons, ih]; rfl
    rw [hflat] at hc
    have hld := loadCells_run (P := P) hc
    refine ⟨.string (ns.foldl (fun r n => r.push (UInt8.ofNat n.toNat)) ByteArray.empty), ?_, _, rfl, ?_⟩
    · simp only [convert, Sem.run_bind, run_underlying' hsrc, run_underlying' hdst, Result.andThen_ok, run_underlying' hel]
      exact run_bytesToString w _ _ cap ns hld
    · rw [push_bytes]; simp
  split at h <;> try (simp at h; done)
  · rename_i ys hel
    split at h <;> simp at h
    rename_i l hl
    subst h
    obtain ⟨b, o, cap, sz, vs, rfl, _, h1, _, h3⟩ := hx
    exact ⟨rfl, key hel rfl (mapP_rep h1) (RepPs.length h1) h3.in hl⟩
  · rename_i ys hel
    split at h <;> simp at h
    rename_i l hl
    subst h
    obtain ⟨b, o, sz, vs, rfl, h1, _, h3⟩ := hx
    exact ⟨rfl, key hel rfl (mapP_rep h1) (RepPs.length h1) h3.in hl⟩
  · rename_i hel
    simp at h
    subst h
    have hx : v = .slice none 0 0 := hx
    subst hx
    refine ⟨rfl, .string .empty, ?_, .empty, rfl, rfl⟩
    simp [convert, run_underlying' hsrc, run_underlying' hdst, run_underlying' hel, Conv.bytesToString]
  · rename_i id ep off len c hel
    split at h <;> try (simp at h; done)
    rename_i ys hv
    split at h <;> simp at h
    rename_i l hl
    subst h
    obtain ⟨b, o, cap, rfl, _, _, h3⟩ := hx
    obtain ⟨vs, k1, k2, k3, _⟩ := viewed_rep hs hi h3 hv
    exact ⟨rfl, key hel rfl k1 k2 k3 hl⟩

end
end Go.Proofs.YtceccojmekpneaaGreatDoor.Sw
