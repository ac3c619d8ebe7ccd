/- A run rests on what it looks at alone: logs. -/
import Derived.Test.YtceccojmekpneaaGreatDoorSwZ
namespace Go.Proofs.YtceccojmekpneaaGreatDoor.Sw

theorem sets_get : ∀ (l : List (Nat × Obj)) (s : St) (id : Nat), (s.sets l).get id = upds s.get l id
  | [], s, id => rfl
  | (i, o) :: l, s, id => by
    simp only [St.sets, upds, List.foldl_cons]
    rw [sets_get l (s.set i o) id]
    have : (s.set i o).get = upd s.get i o := by
      funext k
      rw [St.get_set]
      unfold upd
      by_cases h : i = k
      · simp [h]
      · rw [if_neg h, if_neg (fun e => h e.symm)]
    rw [this]

theorem did_get (s : St) (rd : List Nat) (wr : List (Nat × Obj)) : (s.did rd wr).get = upds s.get wr := funext fun id => sets_get wr s id

theorem did_next (s : St) (rd : List Nat) : ∀ (wr : List (Nat × Obj)), (s.did rd wr).next = s.next := by
  intro wr
  have : ∀ (wr : List (Nat × Obj)) (s : St), (s.sets wr).next = s.next := by
    intro wr
    induction wr with
    | nil => intro s; rfl
    | cons q wr ih => intro s; obtain ⟨i, o⟩ := q; simp only [St.sets]; rw [ih]; rfl
  exact this wr s

theorem upds_not {l : List (Nat × Obj)} : ∀ {s : Sto} {id : Nat}, id ∉ l.map (·.1) → upds s l id = s id := by
  induction l with
  | nil => intro s id _; rfl
  | cons q l ih =>
    intro s id h
    simp only [List.map_cons, List.mem_cons, not_or] at h
    simp only [upds, List.foldl_cons]
    have := ih (s := upd s q.1 q.2) h.2
    rw [show List.foldl (fun s x => upd s x.1 x.2) (upd s q.1 q.2) l = upds (upd s q.1 q.2) l from rfl, this, upd_other _ _ h.1]

theorem upds_in {l : List (Nat × Obj)} : ∀ {s s' : Sto} {id : Nat}, id ∈ l.map (·.1) → upds s l id = upds s' l id := by
  induction l with
  | nil => intro s s' id h; simp at h
  | cons q l ih =>
    intro s s' id h
    simp only [upds, List.foldl_cons]
    by_cases hl : id ∈ l.map (·.1)
    · exact ih hl
    · have e1 := upds_not (s := upd s q.1 q.2) hl
      have e2 := upds_not (s := upd s' q.1 q.2) hl
      simp only [List.map_cons, List.mem_cons] at h
      have hq : id = q.1 := h.resolve_right hl
      rw [show List.foldl (fun s x => upd s x.1 x.2) (upd s q.1 q.2) l = upds (upd s q.1 q.2) l from rfl, e1,
        show List.foldl (fun s x => upd s x.1 x.2) (upd s' q.1 q.2) l = upds (upd s' q.1 q.2) l from rfl, e2, hq]
      simp

/-! ### Logs -/
def Log.app : Log → Sto → Sto
  | .e, s => s
  | .op _ wr l, s => upds (l.app s) wr
  | .call a l, s => a.app (l.app s)

def Log.cat : Log → Log → Log
  | .e, m => m
  | .op rd wr l, m => .op rd wr (l.cat m)
  | .call a l, m => .call a (l.cat m)

theorem Log.cat_e : ∀ (l : Log), l.cat .e = l
  | .e => rfl
  | .op rd wr l => by simp only [Log.cat, Log.cat_e l]
  | .call a l => by simp only [Log.cat, Log.cat_e l]

theorem Log.cat_assoc : ∀ (a b c : Log), (a.cat b).cat c = a.cat (b.cat c)
  | .e, _, _ => rfl
  | .op rd wr l, b, c => by simp only [Log.cat, Log.cat_assoc l]
  | .call a l, b, c => by simp only [Log.cat, Log.cat_assoc l]

theorem Log.app_cat : ∀ (a b : Log) (s : Sto), (a.cat b).app s = a.app (b.app s)
  | .e, _, _ => rfl
  | .op rd wr l, b, s => by simp only [Log.cat, Log.app, Log.app_cat l]
  | .call a l, b, s => by simp only [Log.cat, Log.app, Log.app_cat l]

theorem Log.rdOf_cat : ∀ (a b : Log), (a.cat b).rdOf = a.rdOf ++ b.rdOf
  | .e, _ => rfl
  | .op rd wr l, b => by simp only [Log.cat, Log.rdOf, Log.rdOf_cat l, List.append_assoc]
  | .call a l, b => by simp only [Log.cat, Log.rdOf, Log.rdOf_cat l, List.append_assoc]

theorem agree_app : ∀ (l : Log) {s t : Sto} {id : Nat}, t id = s id → l.app t id = l.app s id
  | .e, _, _, _, h => h
  | .op rd wr l, s, t, id, h => by
    simp only [Log.app]
    by_cases hw : id ∈ wr.map (·.1)
    · exact upds_in hw
    · rw [upds_not hw, upds_not hw]; exact agree_app l h
  | .call a l, s, t, id, h => agree_app a (agree_app l h)

theorem app_flat : ∀ (l : Log) (s : Sto), l.app s = upds s l.flat
  | .e, _ => rfl
  | .op rd wr l, s => by simp only [Log.app, Log.flat, app_flat l, upds, List.foldl_append]
  | .call a l, s => by
    simp only [Log.app, Log.flat]
    rw [app_flat a, app_flat l]
    simp only [upds, List.foldl_append]

/-! ### What a run does, and does again -/
structure Ran (S S' : St) (L : Log) : Prop where
  log : S'.log = L.cat S.log
  get : S'.get = L.app S.get

/-- from a store that agrees where it was looked at, the same comes again. -/
def Follows (S S' : St) (L : Log) (Q : St → St → Prop) : Prop :=
  Ran S S' L ∧ ∀ T : St, T.next = S.next → (∀ id ∈ L.rdOf, T.get id = S.get id) → ∃ T', Q T T' ∧ Ran T T' L ∧ T'.next = S'.next

theorem Follows.then {S S1 S' : St} {L1 L2 : Log} {Q1 Q2 Q : St → St → Prop} (h1 : Follows S S1 L1 Q1) (h2 : Follows S1 S' L2 Q2) (h : ∀ T T1 T', T.next = S.next → Q1 T T1 → Q2 T1 T' → Q T T') : Follows S S' (L2.cat L1) Q := by
  obtain ⟨⟨a1, a2⟩, a3⟩ := h1
  obtain ⟨⟨b1, b2⟩, b3⟩ := h2
  refine ⟨⟨by rw [b1, a1, Log.cat_assoc], by rw [b2, a2, Log.app_cat]⟩, fun T hn hT => ?_⟩
  obtain ⟨T1, c1, ⟨c2, c3⟩, c4⟩ := a3 T hn (fun id hid => hT id (by rw [Log.rdOf_cat]; simp [hid]))
  obtain ⟨T', d1, ⟨d2, d3⟩, d4⟩ := b3 T1 c4 (fun id hid => by rw [c3, a2]; exact agree_app L1 (hT id (by rw [Log.rdOf_cat]; simp [hid])))
  exact ⟨T', h T T1 T' hn c1 d1, ⟨by rw [d2, c2, Log.cat_assoc], by rw [d3, c3, Log.app_cat]⟩, d4⟩

theorem Follows.refl {S : St} {Q : St → St → Prop} (h : ∀ T, T.next = S.next → Q T T) : Follows S S .e Q := ⟨⟨rfl, rfl⟩, fun T hn _ => ⟨T, h T hn, ⟨rfl, rfl⟩, hn⟩⟩

theorem Follows.did {S : St} {Q : St → St → Prop} (rd : List Nat) (wr : List (Nat × Obj)) (h : ∀ T, T.next = S.next → (∀ id ∈ rd, T.get id = S.get id) → Q T (T.did rd wr)) : Follows S (S.did rd wr) (.op rd wr .e) Q :=
  ⟨⟨rfl, did_get S rd wr⟩, fun T hn hT => ⟨T.did rd wr, h T hn (fun id hid => hT id (by simp [Log.rdOf, hid])), ⟨rfl, did_get T rd wr⟩, by rw [did_next, did_next, hn]⟩⟩

theorem Follows.mono {S S' : St} {L : Log} {Q Q' : St → St → Prop} (h : Follows S S' L Q) (hq : ∀ T T', T.next = S.next → Q T T' → Q' T T') : Follows S S' L Q' :=
  ⟨h.1, fun T hn hT => let ⟨T', a, b, c⟩ := h.2 T hn hT; ⟨T', hq T T' hn a, b, c⟩⟩

/-- the names go on. -/
theorem Follows.bump {S : St} {Q : St → St → Prop} (k : Nat) (h : ∀ T, T.next = S.next → Q T { T with next := T.next + k }) : Follows S { S with next := S.next + k } .e Q :=
  ⟨⟨rfl, rfl⟩, fun T hn _ => ⟨{ T with next := T.next + k }, h T hn, ⟨rfl, rfl⟩, by simp [hn]⟩⟩

/-! ### Operations -/
def mkCR : Bool × AVal → St → CR
  | (true, v), s => .ret v s
  | (false, v), s => .pan v s

/-- calls do what they do again. -/
def CLoc (C : CallFn) : Prop :=
  ∀ (t : Tgt), (∀ f, t ≠ .iso f) → ∀ (args : List AVal) (S : St) (q : Bool × AVal) (S' : St), C t args S = some (mkCR q S') → ∃ L, Follows S S' L fun T T' => C t args T = some (mkCR q T')

section
variable {C : CallFn} {imp : Nat → Bool} {P : Program} {n : Nat} {tm : Tr AVal} {S S' : St} {b : Nat}

/-- an operation that runs in the store, from an empty log. -/
def Again (S S' : St) (Q : St → St → Prop) : Prop :=
  S'.get = S'.log.app S.get ∧ ∀ T : St, T.next = S.next → (∀ id ∈ S'.log.rdOf, T.get id = S.get id) → ∃ T', Q T T' ∧ T'.log = S'.log ∧ T'.get = S'.log.app T.get ∧ T'.next = S'.next

theorem Again.of {Q : St → St → Prop} {L : Log} (h : Follows { S with log := .e } S' L fun T T' => T.log = .e → Q T T') (hq : ∀ T T', Q { T with log := .e } T' → Q T T') : Again S S' Q := by
  obtain ⟨⟨h1, h2⟩, h3⟩ := h
  have hl : S'.log = L := by rw [h1, Log.cat_e]
  refine ⟨by rw [hl]; exact h2, fun T hn hT => ?_⟩
  obtain ⟨T', k1, ⟨k2, k3⟩, k4⟩ := h3 { T with log := .e } hn (by rw [hl] at hT; exact hT)
  exact ⟨T', hq T T' (k1 rfl), by rw [k2, hl, Log.cat_e], by rw [hl]; exact k3, k4⟩

theorem callAt_again (hC : CLoc C) {f : Nat} {args : List AVal} {v : AVal} (h : callAt C imp S b f args = some (.all v S')) : Again S S' fun T T' => callAt C imp T b f args = some (.all v T') := by
  unfold callAt at h
  split at h
  · exfalso
    repeat' split at h
    all_goals simp at h
  · rename_i hb
    split at h <;> simp at h
    rename_i v' s' hc
    obtain ⟨rfl, rfl⟩ := h
    obtain ⟨L, hF⟩ := hC (.fn f) (by simp) args _ (true, v') s' hc
    refine Again.of (hF.mono fun T T' _ hq he => ?_) fun T T' h => ?_
    · unfold callAt
      rw [hb]
      have : ({ T with log := .e } : St) = T := by cases T; simp at he; subst he; rfl
      simp only [this]
      rw [show C (.fn f) args T = some (.ret v' T') from hq]
    · unfold callAt at h ⊢
      rw [hb] at h ⊢
      exact h

theorem callAt_again_pan (hC : CLoc C) {f : Nat} {args : List AVal} {v : AVal} (h : callAt C imp S b f args = some (.pan v S')) : Again S S' fun T T' => callAt C imp T b f args = some (.pan v T') := by
  unfold callAt at h
  split at h
  · rename_i hb
    split at h <;> try (simp at h; done)
    rename_i ps ids hp
    split at h
    · exfalso
      repeat' split at h
      all_goals simp at h
    · rename_i v' s' hc
      split at h <;> try (simp at h; done)
      rename_i x a hx
      split at h <;> simp at h
      rename_i hf
      obtain ⟨rfl, rfl⟩ := h
      refine ⟨rfl, fun T hn hT => ⟨{ T with log := .op ids [] .e }, ?_, rfl, rfl, hn⟩⟩
      have hs : Same S T ids := fun id hid => hT id (by simp [Log.rdOf, hid])
      unfold callAt
      rw [hb]
      simp only [purs_same (pur_same depth) hp hs, hc, hx, hf]
    · simp at h
  · rename_i hb
    split at h <;> simp at h
    rename_i v' s' hc
    obtain ⟨rfl, rfl⟩ := h
    obtain ⟨L, hF⟩ := hC (.fn f) (by simp) args _ (false, v') s' hc
    refine Again.of (hF.mono fun T T' _ hq he => ?_) fun T T' h => ?_
    · unfold callAt
      rw [hb]
      have : ({ T with log := .e } : St) = T := by cases T; simp at he; subst he; rfl
      simp only [this]
      rw [show C (.fn f) args T = some (.pan v' T') from hq]
    · unfold callAt at h ⊢
      rw [hb] at h ⊢
      exact h

theorem Again.mono {Q Q' : St → St → Prop} (h : Again S S' Q) (hq : ∀ T T', Q T T' → Q' T T') : Again S S' Q' :=
  ⟨h.1, fun T hn hT => let ⟨T', a, b⟩ := h.2 T hn hT; ⟨T', hq T T' a, b⟩⟩

theorem evOp_again (hC : CLoc C) {op : Op} {v : AVal} (h : evOp C imp P tm S b op = some (.all v S')) : Again S S' fun T T' => evOp C imp P tm T b op = some (.all v T') := by
  have pl : ∀ {op}, (plainOp P tm S b op).map R.eff = some (.all v S') → False := by intro op h; simp at h
  unfold evOp at h
  split at h
  · split at h <;> try (simp at h; done)
    split at h <;> simp at h
  · rename_i c
    split at h
    · exact (pl h).elim
    · rename_i hnb
      have hev : ∀ T, evOp C imp P tm T b (.call c) = callOp C imp P tm T b c := by
        intro T
        unfold evOp
        simp only
      simp only [hev]
      unfold callOp at h
      split at h
      · rename_i o ho
        split at h <;> try (simp at h; done)
        rename_i fv args hfv hargs
        split at h <;> try (simp at h; done)
        · rename_i f cap hfn
          exact (callAt_again hC h).mono fun T T' hq => by unfold callOp; rw [ho]; simp only [hfv, hargs, hfn]; exact hq
        · rename_i hfn
          split at h <;> try (simp at h; done)
          rename_i id
          split at h <;> simp at h
          rename_i v' s' hc
          obtain ⟨rfl, rfl⟩ := h
          obtain ⟨L, hF⟩ := hC (.yld id) (by simp) args _ (true, v') s' hc
          refine Again.of (hF.mono fun T T' _ hq he => ?_) fun T T' h => ?_
          · unfold callOp
            rw [ho]
            have : ({ T with log := .e } : St) = T := by cases T; simp at he; subst he; rfl
            simp only [hfv, hargs, hfn, this]
            rw [show C (.yld id) args T = some (.ret v' T') from hq]
          · unfold callOp at h ⊢
            rw [ho] at h ⊢
            simp only [hfv, hargs, hfn] at h ⊢
            exact h
      · rename_i o name ho
        split at h <;> try (simp at h; done)
        rename_i x args hx hargs
        split at h <;> try (simp at h; done)
        rename_i t u hif
        split at h <;> try (simp at h; done)
        rename_i f hm
        exact (callAt_again hC h).mono fun T T' hq => by unfold callOp; rw [ho]; simp only [hx, hargs, hif, hm]; exact hq
      · simp at h
  · split at h <;> try (simp at h; done)
    split at h <;> try (simp at h; done)
    split at h <;> simp at h
  · exact (pl h).elim

theorem evOp_again_pan (hC : CLoc C) {op : Op} {v : AVal} (h : evOp C imp P tm S b op = some (.pan v S')) : Again S S' fun T T' => evOp C imp P tm T b op = some (.pan v T') := by
  have pl : ∀ {op}, (plainOp P tm S b op).map R.eff = some (.pan v S') → False := by intro op h; simp at h
  unfold evOp at h
  split at h
  · rename_i x
    split at h <;> try (simp at h; done)
    rename_i v' hv
    split at h <;> simp at h
    rename_i q hq
    obtain ⟨rfl, rfl⟩ := h
    refine ⟨rfl, fun T hn hT => ⟨{ T with log := .e }, ?_, rfl, rfl, hn⟩⟩
    unfold evOp
    simp only [hv, hq]
  · rename_i c
    split at h
    · exact (pl h).elim
    · rename_i hnb
      have hev : ∀ T, evOp C imp P tm T b (.call c) = callOp C imp P tm T b c := by
        intro T
        unfold evOp
        simp only
      simp only [hev]
      unfold callOp at h
      split at h
      · rename_i o ho
        split at h <;> try (simp at h; done)
        rename_i fv args hfv hargs
        split at h <;> try (simp at h; done)
        · rename_i f cap hfn
          exact (callAt_again_pan hC h).mono fun T T' hq => by unfold callOp; rw [ho]; simp only [hfv, hargs, hfn]; exact hq
        · split at h <;> try (simp at h; done)
          split at h <;> simp at h
      · rename_i o name ho
        split at h <;> try (simp at h; done)
        rename_i x args hx hargs
        split at h <;> try (simp at h; done)
        rename_i t u hif
        split at h <;> try (simp at h; done)
        rename_i f hm
        exact (callAt_again_pan hC h).mono fun T T' hq => by unfold callOp; rw [ho]; simp only [hx, hargs, hif, hm]; exact hq
      · simp at h
  · split at h <;> try (simp at h; done)
    split at h <;> try (simp at h; done)
    split at h <;> simp at h
  · exact (pl h).elim

theorem evOp_dfr {op : Op} {f : Nat} {cap : List AVal} (h : evOp C imp P tm S b op = some (.dfr f cap)) (T : St) : evOp C imp P tm T b op = some (.dfr f cap) := by
  have pl : ∀ {op}, (plainOp P tm S b op).map R.eff = some (.dfr f cap) → False := by intro op h; simp at h
  unfold evOp at h ⊢
  split at h
  · split at h <;> try (simp at h; done)
    split at h <;> simp at h
  · split at h
    · exact (pl h).elim
    · exfalso
      unfold callOp callAt at h
      repeat' split at h
      all_goals simp at h
  · exact h
  · exact (pl h).elim

end
end Go.Proofs.YtceccojmekpneaaGreatDoor.Sw
