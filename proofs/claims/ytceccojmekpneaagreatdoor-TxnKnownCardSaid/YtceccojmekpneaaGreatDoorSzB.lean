/- A run rests on what it looks at alone: code, functions, calls. -/
import Derived.Test.YtceccojmekpneaaGreatDoorSzA
namespace Go.Proofs.YtceccojmekpneaaGreatDoor.Sw

/-- what is promised of calls, and that they rest on what they look at. -/
structure CallOk2 (P : Program) (gl : Tr AVal) (C : CallFn) : Prop extends CallOk P gl C where
  loc : CLoc C

section
variable {C : CallFn} {imp : Nat → Bool} {P : Program} {n : Nat}

def mkRO : (Tr AVal × List (Nat × Rec) × List Dfr) ⊕ (AVal × Tr AVal × List Dfr) → St → RO
  | .inl (tm, recs, ds), s => .done tm s recs ds
  | .inr (v, tm, ds), s => .pan v tm s ds

theorem Follows.again {S s' : St} {Q : St → St → Prop} (h : Again S s' Q) :
    Follows S { s' with log := .call s'.log S.log } (.call s'.log .e) fun T T1 => ∃ t', Q T t' ∧ t'.log = s'.log ∧ T1 = { t' with log := .call t'.log T.log } := by
  obtain ⟨h1, h2⟩ := h
  refine ⟨⟨rfl, h1⟩, fun T hn hT => ?_⟩
  obtain ⟨t', k1, k2, k3, k4⟩ := h2 T hn (fun id hid => hT id (by simp [Log.rdOf, hid]))
  exact ⟨{ t' with log := .call t'.log T.log }, ⟨t', k1, k2, rfl⟩, ⟨by rw [k2]; rfl, k3⟩, k4⟩

theorem evOps_loc (hC : CLoc C) {ops : Array Oper} : ∀ {l : List Oper} {i b : Nat} {tm : Tr AVal} {S S' : St} {recs : List (Nat × Rec)} {ds : List Dfr} {q : (Tr AVal × List (Nat × Rec) × List Dfr) ⊕ (AVal × Tr AVal × List Dfr)},
    evOps C imp P n ops l i b tm S recs ds = some (mkRO q S') → ∃ L, Follows S S' L fun T T' => evOps C imp P n ops l i b tm T recs ds = some (mkRO q T')
  | [], i, b, tm, S, S', recs, ds, q, h => by
    simp only [evOps, Option.some.injEq] at h
    refine ⟨.e, ?_⟩
    cases q with
    | inr q => obtain ⟨v, tm', ds'⟩ := q; simp [mkRO] at h
    | inl q =>
      obtain ⟨tm', recs', ds'⟩ := q
      simp [mkRO] at h
      obtain ⟨rfl, rfl, rfl, rfl⟩ := h
      exact Follows.refl fun T _ => by simp [evOps, mkRO]
  | o :: l, i, b, tm, S, S', recs, ds, q, h => by
    simp only [evOps] at h ⊢
    split at h
    · rename_i hw
      try simp only [hw]
      split at h
      · rename_i e he
        split at h <;> try (simp at h; done)
        rename_i tm1 ht
        obtain ⟨L2, h2⟩ := evOps_loc hC h
        have h1 : Follows S (S.did e.rd e.wr) (.op e.rd e.wr .e) fun T T1 => evOp C imp P tm T b o.op = some (.eff e) ∧ T1 = T.did e.rd e.wr :=
          Follows.did _ _ fun T _ hT => ⟨evOp_same he hT, rfl⟩
        refine ⟨_, h1.then h2 fun T T1 T' _ ⟨k1, k2⟩ hq => ?_⟩
        subst k2
        simp only [k1, ht]
        exact hq
      · rename_i v s' he
        split at h <;> try (simp at h; done)
        rename_i tm1 ht
        obtain ⟨L2, h2⟩ := evOps_loc hC h
        refine ⟨_, (Follows.again (evOp_again hC he)).then h2 fun T T1 T' _ ⟨t', k1, k2, k3⟩ hq => ?_⟩
        subst k3
        simp only [k1, ht, k2]
        rw [k2] at hq
        exact hq
      · rename_i v s' he
        simp only [Option.some.injEq] at h
        cases q with
        | inl q => obtain ⟨tm', recs', ds'⟩ := q; simp [mkRO] at h
        | inr q =>
          obtain ⟨v', tm', ds'⟩ := q
          simp [mkRO] at h
          obtain ⟨rfl, rfl, rfl, rfl⟩ := h
          refine ⟨_, (Follows.again (evOp_again_pan hC he)).mono fun T T' _ ⟨t', k1, k2, k3⟩ => ?_⟩
          subst k3
          simp only [k1, mkRO]
      · rename_i f cap he
        split at h <;> try (simp at h; done)
        rename_i tm1 ht
        obtain ⟨L2, h2⟩ := evOps_loc hC h
        refine ⟨L2, h2.mono fun T T' _ hq => ?_⟩
        simp only [evOp_dfr he T]
        exact hq
      · simp at h
    · rename_i hw
      try simp only [hw]
      split at h <;> try (simp at h; done)
      rename_i tm1 ht
      obtain ⟨L2, h2⟩ := evOps_loc hC h
      exact ⟨L2, h2.mono fun T T' _ hq => by first | exact hq | (simp only [ht]; exact hq)⟩
    · simp at h

theorem evRegion_loc (hC : CLoc C) {rd draw : Bool} {ops : Array Oper} {fr fr' : Fr} {S S' : St} {x : XExit} (h : evRegion C imp P n rd ops draw fr S = some (x, fr', S')) :
    ∃ L, Follows S S' L fun T T' => evRegion C imp P n rd ops draw fr T = some (x, fr', T') := by
  unfold evRegion at h ⊢
  split at h
  · rename_i tm s recs ds ho
    have h1 := Follows.bump (S := S) (Q := fun T T1 => T1 = { T with next := T.next + 16 * ops.size }) (16 * ops.size) fun T _ => rfl
    obtain ⟨L, h2⟩ := evOps_loc hC (q := .inl (tm, recs, ds)) ho
    have hs : S' = s := by
      repeat' split at h
      all_goals first
        | (simp at h; done)
        | (simp only [Option.some.injEq, Prod.mk.injEq] at h; exact h.2.2.symm)
    subst hs
    refine ⟨_, h1.then h2 fun T T1 T' hn k1 k2 => ?_⟩
    subst k1
    rw [← hn] at k2
    simp only [k2, mkRO]
    repeat' split at h
    all_goals first
      | (simp at h; done)
      | (simp only [Option.some.injEq, Prod.mk.injEq, and_true] at h
         obtain ⟨rfl, rfl⟩ := h
         first
           | rfl
           | simp_all)
  · rename_i v tm s ds ho
    have h1 := Follows.bump (S := S) (Q := fun T T1 => T1 = { T with next := T.next + 16 * ops.size }) (16 * ops.size) fun T _ => rfl
    obtain ⟨L, h2⟩ := evOps_loc hC (q := .inr (v, tm, ds)) ho
    have hs : S' = s := by
      repeat' split at h
      all_goals first
        | (simp at h; done)
        | (simp only [Option.some.injEq, Prod.mk.injEq] at h; exact h.2.2.symm)
    subst hs
    refine ⟨_, h1.then h2 fun T T1 T' hn k1 k2 => ?_⟩
    subst k1
    rw [← hn] at k2
    simp only [k2, mkRO]
    repeat' split at h
    all_goals first
      | (simp at h; done)
      | (simp only [Option.some.injEq, Prod.mk.injEq, and_true] at h
         obtain ⟨rfl, rfl⟩ := h
         first
           | rfl
           | simp_all)
  · simp at h

def LocX (F : Fr → St → Option (XExit × Fr × St)) : Prop := ∀ (fr : Fr) (S : St) (x : XExit) (fr' : Fr) (S' : St), F fr S = some (x, fr', S') → ∃ L, Follows S S' L fun T T' => F fr T = some (x, fr', T')

theorem loopN_loc {f : Fr → St → Option (XExit × Fr × St)} (hf : LocX f) : ∀ k, LocX (loopN f k)
  | 0 => fun fr S x fr' S' h => by simp [loopN] at h
  | k + 1 => fun fr S x fr' S' h => by
    simp only [loopN] at h ⊢
    split at h
    · rename_i fr1 S1 h1
      obtain ⟨L1, a1⟩ := hf _ _ _ _ _ h1
      obtain ⟨L2, a2⟩ := loopN_loc hf k _ _ _ _ _ h
      exact ⟨_, a1.then a2 fun T T1 T' _ k1 k2 => by simp only [k1]; exact k2⟩
    · rename_i hno
      obtain ⟨L1, a1⟩ := hf _ _ _ _ _ h
      refine ⟨L1, a1.mono fun T T' _ k1 => ?_⟩
      rw [k1]
      cases x with
      | normal => exact absurd h (hno _ _)
      | _ => rfl

theorem startRange_loc {ps : List Nat} {assign body : Code} {tm : Tr AVal} {S S1 : St} (h : startRange n ps assign body tm S = some S1) : ∃ L, Follows S S1 L fun T T1 => startRange n ps assign body tm T = some T1 := by
  unfold startRange at h ⊢
  split at h <;> simp at h
  rename_i h1 h2
  subst h
  refine ⟨.op [S.next, S.next + 1] [(S.next, .ho (.dl true)), (S.next + 1, .ho (.lp tm n ps assign body .ready none))] .e, ⟨rfl, did_get _ _ _⟩, fun T hn hT => ?_⟩
  have e1 : T.get S.next = none := by rw [hT _ (by simp [Log.rdOf]), h1]
  have e2 : T.get (S.next + 1) = none := by rw [hT _ (by simp [Log.rdOf]), h2]
  refine ⟨({ T with next := T.next + 16 } : St).did [T.next, T.next + 1] [(T.next, .ho (.dl true)), (T.next + 1, .ho (.lp tm n ps assign body .ready none))], ?_, ⟨?_, ?_⟩, ?_⟩
  · have e1' : T.get T.next = none := by rw [hn]; exact e1
    have e2' : T.get (T.next + 1) = none := by rw [hn]; exact e2
    simp only [e1', e2']
  · rw [← hn]; rfl
  · rw [did_get, hn]; rfl
  · rw [did_next, did_next]; simp [hn]

theorem evCode_loc (hC : CLoc C) {k : Nat} {rd : Bool} : ∀ c : Code, LocX (evCode C imp P k n rd c) := by
  intro c
  induction c with
  | skip => intro fr S x fr' S' h; simp [evCode] at h; obtain ⟨rfl, rfl, rfl⟩ := h; exact ⟨.e, Follows.refl fun T _ => by simp [evCode]⟩
  | label l => intro fr S x fr' S' h; simp [evCode] at h; obtain ⟨rfl, rfl, rfl⟩ := h; exact ⟨.e, Follows.refl fun T _ => by simp [evCode]⟩
  | exit l => intro fr S x fr' S' h; simp [evCode] at h; obtain ⟨rfl, rfl, rfl⟩ := h; exact ⟨.e, Follows.refl fun T _ => by simp [evCode]⟩
  | ret => intro fr S x fr' S' h; simp [evCode] at h; obtain ⟨rfl, rfl, rfl⟩ := h; exact ⟨.e, Follows.refl fun T _ => by simp [evCode]⟩
  | region id ops draw => intro fr S x fr' S' h; simp only [evCode] at h ⊢; exact evRegion_loc hC h
  | seq c1 c2 ih1 ih2 =>
    intro fr S x fr' S' h
    simp only [evCode] at h ⊢
    split at h
    · rename_i fr1 S1 h1
      obtain ⟨L1, a1⟩ := ih1 _ _ _ _ _ h1
      obtain ⟨L2, a2⟩ := ih2 _ _ _ _ _ h
      exact ⟨_, a1.then a2 fun T T1 T' _ k1 k2 => by simp only [k1]; exact k2⟩
    · rename_i hno
      obtain ⟨L1, a1⟩ := ih1 _ _ _ _ _ h
      refine ⟨L1, a1.mono fun T T' _ k1 => ?_⟩
      rw [k1]
      cases x with
      | normal => exact absurd h (hno _ _)
      | _ => rfl
  | cond o c1 c2 ih1 ih2 =>
    intro fr S x fr' S' h
    simp only [evCode] at h ⊢
    split at h
    · rename_i hc; try simp only [hc]
      exact ih1 _ _ _ _ _ h
    · rename_i hc; try simp only [hc]
      exact ih2 _ _ _ _ _ h
    · simp at h
  | block id c ih =>
    intro fr S x fr' S' h
    simp only [evCode] at h ⊢
    split at h
    · rename_i i fr1 S1 h1
      obtain ⟨L1, a1⟩ := ih _ _ _ _ _ h1
      split at h <;> simp at h <;> rename_i hb <;> obtain ⟨rfl, rfl, rfl⟩ := h <;> exact ⟨L1, a1.mono fun T T' _ k1 => by simp only [k1, hb]⟩
    · rename_i hno
      obtain ⟨L1, a1⟩ := ih _ _ _ _ _ h
      refine ⟨L1, a1.mono fun T T' _ k1 => ?_⟩
      rw [k1]
      cases x with
      | exit j => exact absurd h (hno _ _ _)
      | _ => rfl
  | loop c ih => intro fr S x fr' S' h; simp only [evCode] at h ⊢; exact loopN_loc ih k _ _ _ _ _ h
  | scope c ih =>
    intro fr S x fr' S' h
    simp only [evCode] at h ⊢
    split at h <;> try (simp at h; done)
    exact ih _ _ _ _ _ h
  | rangeFunc go ps assign body _ _ =>
    intro fr S x fr' S' h
    simp only [evCode] at h ⊢
    split at h <;> try (simp at h; done)
    rename_i gv hgv
    try simp only [hgv]
    split at h <;> try (simp at h; done)
    rename_i f cap hfn
    try simp only [hfn]
    split at h <;> try (simp at h; done)
    rename_i s1 hst
    obtain ⟨L1, a1⟩ := startRange_loc hst
    unfold endRange at h
    split at h
    · rename_i rv s2 hcall
      obtain ⟨L2, a2⟩ := hC (.fn f) (by simp) _ _ (true, rv) _ hcall
      split at h <;> try (simp at h; done)
      rename_i tm' n' ps' as' bd' st pend hget
      have key : st ≠ .busy ∧ pendX pend = some x ∧ fr' = { fr with dfs := .mark S.next :: fr.dfs } ∧ S' = s2.did [S.next + 1] [(S.next + 1, .ho (.lp tm' n' ps' as' bd' .exhausted pend))] := by
        split at h <;> simp at h
        rename_i hno hpx
        obtain ⟨rfl, rfl, rfl⟩ := h
        exact ⟨fun e => hno e, hpx, rfl, rfl⟩
      obtain ⟨k1, k2, rfl, rfl⟩ := key
      have a3 : Follows s2 (s2.did [S.next + 1] [(S.next + 1, .ho (.lp tm' n' ps' as' bd' .exhausted pend))]) _ fun T T' => T.get (S.next + 1) = some (.ho (.lp tm' n' ps' as' bd' st pend)) ∧
          T' = T.did [S.next + 1] [(S.next + 1, .ho (.lp tm' n' ps' as' bd' .exhausted pend))] := Follows.did _ _ fun T _ hT => ⟨by rw [hT _ (by simp), hget], rfl⟩
      have a23 := a2.then (Q := fun T1 T' => endRange S.next fr (C (.fn f) (.rf .yld (S.next + 1) :: cap) T1) = some (x, { fr with dfs := .mark S.next :: fr.dfs }, T')) a3 fun T1 T2 T' _ e1 ⟨e2, e3⟩ => by
        subst e3
        unfold endRange
        rw [show C (.fn f) (.rf .yld (S.next + 1) :: cap) T1 = some (.ret rv T2) from e1]
        simp only [e2, k2]
      exact ⟨_, a1.then a23 fun T T1 T' hn e1 e2 => by simp only [e1]; rw [hn]; exact e2⟩
    · rename_i v s2 hcall
      obtain ⟨L2, a2⟩ := hC (.fn f) (by simp) _ _ (false, v) _ hcall
      simp at h
      obtain ⟨rfl, rfl, rfl⟩ := h
      refine ⟨_, a1.then a2 fun T T1 T' hn e1 e2 => ?_⟩
      simp only [e1]
      rw [hn, show C (.fn f) (.rf .yld (S.next + 1) :: cap) T1 = some (.pan v T') from e2]
      rfl
    · simp at h
  | _ => intro fr S x fr' S' h; simp [evCode] at h

theorem resultsA_same {tm : Tr AVal} {S T : St} : ∀ {l : List ResultVar} {vs : List AVal} {rd : List Nat}, resultsA P tm S l = some (vs, rd) → (∀ id ∈ rd, T.get id = S.get id) → resultsA P tm T l = some (vs, rd)
  | [], vs, rd, h, _ => by simpa [resultsA] using h
  | .tmp t :: l, vs, rd, h, hT => by
    simp only [resultsA] at h ⊢
    split at h <;> simp at h
    rename_i v vs' rd' h1 h2
    obtain ⟨rfl, rfl⟩ := h
    rw [h1, resultsA_same h2 hT]
  | .cell a t :: l, vs, rd, h, hT => by
    simp only [resultsA] at h ⊢
    split at h <;> try (simp at h; done)
    rename_i x hx
    split at h <;> simp at h
    rename_i e vs' rd' h1 h2
    obtain ⟨rfl, rfl⟩ := h
    try simp only [hx]
    rw [loadOp_same h1 (fun id hid => hT id (by simp [hid])), resultsA_same h2 (fun id hid => hT id (by simp [hid]))]

theorem evOpsD_loc {ops : Array Oper} : ∀ {l : List Oper} {b : Nat} {tm tm' : Tr AVal} {S S' : St} {m m' : Option AVal}, evOpsD P n ops l b tm S m = some (tm', S', m') → ∃ L, Follows S S' L fun T T' => evOpsD P n ops l b tm T m = some (tm', T', m')
  | [], b, tm, tm', S, S', m, m', h => by
    simp only [evOpsD, Option.some.injEq, Prod.mk.injEq] at h
    obtain ⟨rfl, rfl, rfl⟩ := h
    exact ⟨.e, Follows.refl fun T _ => by simp [evOpsD]⟩
  | o :: l, b, tm, tm', S, S', m, m', h => by
    simp only [evOpsD] at h ⊢
    split at h
    · rename_i hw
      try simp only [hw]
      split at h
      · rename_i hr
        try simp only [hr]
        split at h <;> try (simp at h; done)
        rename_i tm1 ht
        obtain ⟨L, a⟩ := evOpsD_loc h
        exact ⟨L, a.mono fun T T' _ hq => by first | exact hq | (rw [ht]; exact hq)⟩
      · rename_i hr
        try simp only [hr]
        split at h <;> try (simp at h; done)
        rename_i e he
        split at h <;> try (simp at h; done)
        rename_i tm1 ht
        obtain ⟨L, a⟩ := evOpsD_loc h
        have h1 : Follows S (S.did e.rd e.wr) (.op e.rd e.wr .e) fun T T1 => plainOp P tm T b o.op = some e ∧ T1 = T.did e.rd e.wr := Follows.did _ _ fun T _ hT => ⟨plainOp_same he hT, rfl⟩
        refine ⟨_, h1.then a fun T T1 T' _ ⟨k1, k2⟩ hq => ?_⟩
        subst k2
        simp only [k1, ht]
        exact hq
    · rename_i hw
      try simp only [hw]
      split at h <;> try (simp at h; done)
      rename_i tm1 ht
      obtain ⟨L, a⟩ := evOpsD_loc h
      exact ⟨L, a.mono fun T T' _ hq => by first | exact hq | (simp only [ht]; exact hq)⟩
    · simp at h

theorem evD_loc (hC : CLoc C) {k : Nat} : ∀ (c : Code) {fr fr' : Fr} {S S' : St} {x : XExit} {m m' : Option AVal}, evD C imp P k n c fr S m = some (x, fr', S', m') → ∃ L, Follows S S' L fun T T' => evD C imp P k n c fr T m = some (x, fr', T', m') := by
  have plain : ∀ (c : Code) {fr fr' : Fr} {S S' : St} {x : XExit} {m m' : Option AVal}, withM m (evCode C imp P k n false c fr S) = some (x, fr', S', m') →
      ∃ L, Follows S S' L fun T T' => withM m (evCode C imp P k n false c fr T) = some (x, fr', T', m') := by
    intro c fr fr' S S' x m m' h
    unfold withM at h
    split at h <;> simp at h
    rename_i x1 fr1 s1 h1
    obtain ⟨rfl, rfl, rfl, rfl⟩ := h
    obtain ⟨L, a⟩ := evCode_loc hC c _ _ _ _ _ h1
    exact ⟨L, a.mono fun T T' _ hq => by rw [hq]; rfl⟩
  intro c
  induction c with
  | seq c1 c2 ih1 ih2 =>
    intro fr fr' S S' x m m' h
    simp only [evD] at h ⊢
    split at h
    · rename_i hr; try simp only [hr]
      exact plain _ h
    · rename_i hr
      try simp only [hr]
      split at h
      · rename_i fr1 S1 m1 h1
        obtain ⟨L1, a1⟩ := ih1 h1
        obtain ⟨L2, a2⟩ := ih2 h
        exact ⟨_, a1.then a2 fun T T1 T' _ k1 k2 => by simp only [k1]; exact k2⟩
      · rename_i hno
        obtain ⟨L1, a1⟩ := ih1 h
        refine ⟨L1, a1.mono fun T T' _ k1 => ?_⟩
        rw [k1]
        cases x with
        | normal => exact absurd h (hno _ _ _)
        | _ => rfl
  | region id ops draw =>
    intro fr fr' S S' x m m' h
    simp only [evD] at h ⊢
    split at h
    · rename_i hr
      try simp only [hr]
      split at h <;> simp at h
      rename_i tm s' m1 h1
      obtain ⟨rfl, rfl, rfl, rfl⟩ := h
      obtain ⟨L, a⟩ := evOpsD_loc h1
      have h0 := Follows.bump (S := S) (Q := fun T T1 => T1 = { T with next := T.next + 16 * ops.size }) (16 * ops.size) fun T _ => rfl
      refine ⟨_, h0.then a fun T T1 T' hn k1 k2 => ?_⟩
      subst k1
      rw [← hn] at k2
      simp only [k2]
    · simp at h
    · rename_i hr; try simp only [hr]
      exact plain _ h
  | _ =>
    intro fr fr' S S' x m m' h
    simp only [evD] at h ⊢
    split at h <;> first | exact plain _ h | (rename_i hr; simp only [hr]; exact plain _ h) | (simp at h; done)

theorem evDfr_loc (hC : CLoc C) {gl : Tr AVal} {k f : Nat} {args : List AVal} {S S' : St} {m m' : Option AVal} (h : evDfr C gl imp P k f args S m = some (S', m')) : ∃ L, Follows S S' L fun T T' => evDfr C gl imp P k f args T m = some (T', m') := by
  unfold evDfr at h ⊢
  split at h <;> try (simp at h; done)
  rename_i fn hf
  split at h <;> try (simp at h; done)
  rename_i c hb
  split at h <;> try (simp at h; done)
  rename_i hl1 hl2
  try simp only [hf, hb, hl1, hl2]
  split at h <;> try (simp at h; done)
  rename_i x fr s' m1 hev
  obtain ⟨L, a⟩ := evD_loc hC c hev
  have key : ∃ vs rd, fr.dfs = [] ∧ resultsA P fr.tm s' fn.results.toList = some (vs, rd) ∧ (x = .normal ∨ x = .ret) ∧ S' = s'.did rd [] ∧ m' = m1 := by
    split at h <;> simp at h
    · rename_i h1 h2; exact ⟨_, _, h1, h2, .inl rfl, h.1.symm, h.2.symm⟩
    · rename_i h1 h2; exact ⟨_, _, h1, h2, .inr rfl, h.1.symm, h.2.symm⟩
  obtain ⟨vs, rd, k1, k2, k3, rfl, rfl⟩ := key
  have a2 : Follows s' (s'.did rd []) _ fun T T' => resultsA P fr.tm T fn.results.toList = some (vs, rd) ∧ T' = T.did rd [] := Follows.did _ _ fun T _ hT => ⟨resultsA_same k2 hT, rfl⟩
  refine ⟨_, a.then a2 fun T T1 T' _ e1 ⟨e2, e3⟩ => ?_⟩
  subst e3
  simp only [e1, k1, e2]
  rcases k3 with rfl | rfl <;> rfl

theorem evUnwind_loc (hC : CLoc C) {gl : Tr AVal} {k : Nat} : ∀ {dfs : List Dfr} {S S' : St} {m m' : Option AVal}, evUnwind C gl imp P k dfs S m = some (S', m') → ∃ L, Follows S S' L fun T T' => evUnwind C gl imp P k dfs T m = some (T', m')
  | [], S, S', m, m', h => by
    simp [evUnwind] at h
    obtain ⟨rfl, rfl⟩ := h
    exact ⟨.e, Follows.refl fun T _ => by simp [evUnwind]⟩
  | .mark id :: r, S, S', m, m', h => by
    simp only [evUnwind] at h ⊢
    split at h <;> try (simp at h; done)
    rename_i hid
    obtain ⟨L, a⟩ := evUnwind_loc hC h
    have h1 : Follows S (S.did [id] [(id, .ho (.dl false))]) _ fun T T1 => T.get id = some (.ho (.dl true)) ∧ T1 = T.did [id] [(id, .ho (.dl false))] := Follows.did _ _ fun T _ hT => ⟨by rw [hT _ (by simp), hid], rfl⟩
    refine ⟨_, h1.then a fun T T1 T' _ ⟨k1, k2⟩ hq => ?_⟩
    subst k2
    rw [k1]
    exact hq
  | .call f cap :: r, S, S', m, m', h => by
    simp only [evUnwind] at h ⊢
    split at h <;> try (simp at h; done)
    rename_i s1 m1 h1
    obtain ⟨L1, a1⟩ := evDfr_loc hC h1
    obtain ⟨L2, a2⟩ := evUnwind_loc hC h
    exact ⟨_, a1.then a2 fun T T1 T' _ k1 k2 => by rw [k1]; exact k2⟩

theorem evLeave_loc (hC : CLoc C) {gl : Tr AVal} {k : Nat} {fn : Func} {fr : Fr} {S S' : St} {m : Option AVal} {q : Bool × AVal} (h : evLeave C gl imp P k fn fr S m = some (mkCR q S')) :
    ∃ L, Follows S S' L fun T T' => evLeave C gl imp P k fn fr T m = some (mkCR q T') := by
  obtain ⟨b, v⟩ := q
  unfold evLeave at h ⊢
  split at h
  · rename_i s' h1
    obtain ⟨L, a⟩ := evUnwind_loc hC h1
    split at h <;> simp at h
    rename_i vs rd h2
    cases b <;> simp [mkCR] at h
    obtain ⟨rfl, rfl⟩ := h
    have a2 : Follows s' (s'.did rd []) _ fun T T' => resultsA P fr.tm T fn.results.toList = some (vs, rd) ∧ T' = T.did rd [] := Follows.did _ _ fun T _ hT => ⟨resultsA_same h2 hT, rfl⟩
    refine ⟨_, a.then a2 fun T T1 T' _ e1 ⟨e2, e3⟩ => ?_⟩
    subst e3
    simp only [e1, e2, mkCR]
  · rename_i s' v' h1
    obtain ⟨L, a⟩ := evUnwind_loc hC h1
    cases b <;> simp [mkCR] at h
    obtain ⟨rfl, rfl⟩ := h
    exact ⟨L, a.mono fun T T' _ e1 => by simp only [e1, mkCR]⟩
  · simp at h

theorem evFunc_loc (hC : CLoc C) {gl : Tr AVal} {k f : Nat} {args : List AVal} {S S' : St} {q : Bool × AVal} (h : evFunc C gl imp P k f args S = some (mkCR q S')) :
    ∃ L, Follows S S' L fun T T' => evFunc C gl imp P k f args T = some (mkCR q T') := by
  unfold evFunc at h ⊢
  split at h <;> try (simp at h; done)
  rename_i fn hf
  split at h <;> try (simp at h; done)
  rename_i c hb
  split at h <;> try (simp at h; done)
  rename_i hl1 hl2
  try simp only [hf, hb, hl1, hl2]
  split at h <;> try (simp at h; done)
  all_goals (
    rename_i hev
    obtain ⟨L1, a1⟩ := evCode_loc hC c _ _ _ _ _ hev
    obtain ⟨L2, a2⟩ := evLeave_loc hC h
    exact ⟨_, a1.then a2 fun T T1 T' _ e1 e2 => by simp only [e1]; exact e2⟩)

theorem endRoundA_loc {id : Nat} {x : XExit} {S S' : St} {q : Bool × AVal} (h : endRoundA id x S = some (mkCR q S')) : ∃ L, Follows S S' L fun T T' => endRoundA id x T = some (mkCR q T') := by
  obtain ⟨b, v⟩ := q
  unfold endRoundA at h ⊢
  split at h <;> try (simp at h; done)
  rename_i tm n ps as bd hid
  split at h <;> simp at h <;> cases b <;> simp [mkCR] at h <;> obtain ⟨rfl, rfl⟩ := h <;>
    exact ⟨_, Follows.did _ _ fun T _ hT => by rw [hT _ (by simp), hid]; rfl⟩

theorem evRound_loc (hC : CLoc C) {k id : Nat} {args : List AVal} {S S' : St} {q : Bool × AVal} (h : evRound C imp P k id args S = some (mkCR q S')) :
    ∃ L, Follows S S' L fun T T' => evRound C imp P k id args T = some (mkCR q T') := by
  unfold evRound at h ⊢
  split at h <;> try (simp at h; done)
  rename_i tm n ps assign body hid
  split at h <;> try (simp at h; done)
  rename_i tm1 hput
  split at h <;> try (simp at h; done)
  rename_i fr1 s1 h1
  split at h <;> try (simp at h; done)
  rename_i tm' n' ps' as' bd' hid1
  split at h <;> try (simp at h; done)
  rename_i x fr3 s3 h3
  have a0 : Follows S (S.did [id] []) _ fun T T1 => T.get id = some (.ho (.lp tm n ps assign body .ready none)) ∧ T1 = T.did [id] [] := Follows.did _ _ fun T _ hT => ⟨by rw [hT _ (by simp), hid], rfl⟩
  obtain ⟨L1, a1⟩ := evCode_loc hC assign _ _ _ _ _ h1
  have a2 : Follows s1 (s1.did [id] [(id, .ho (.lp tm' n' ps' as' bd' .busy none))]) _ fun T T1 => T.get id = some (.ho (.lp tm' n' ps' as' bd' .ready none)) ∧ T1 = T.did [id] [(id, .ho (.lp tm' n' ps' as' bd' .busy none))] :=
    Follows.did _ _ fun T _ hT => ⟨by rw [hT _ (by simp), hid1], rfl⟩
  obtain ⟨L3, a3⟩ := evCode_loc hC body _ _ _ _ _ h3
  obtain ⟨L4, a4⟩ := endRoundA_loc h
  have a34 := a3.then (Q := fun T T' => (match evCode C imp P k n true body fr1 T with | some (x, _, s3) => endRoundA id x s3 | none => none) = some (mkCR q T')) a4 fun T T1 T' _ e1 e2 => by simp only [e1]; exact e2
  have a24 := a2.then (Q := fun T T' => (match T.get id with
      | some (.ho (.lp tm' n' ps' assign' body' .ready none)) =>
        match evCode C imp P k n true body fr1 (T.did [id] [(id, .ho (.lp tm' n' ps' assign' body' .busy none))]) with
        | some (x, _, s3) => endRoundA id x s3
        | none => none
      | _ => none) = some (mkCR q T')) a34 fun T T1 T' _ ⟨e1, e2⟩ e3 => by subst e2; simp only [e1]; exact e3
  have a14 := a1.then (Q := fun T T' => (match evCode C imp P k n true assign { tm := tm1, dfs := [] } T with
      | some (.normal, fr1, s1) => match s1.get id with
        | some (.ho (.lp tm' n' ps' assign' body' .ready none)) =>
          match evCode C imp P k n true body fr1 (s1.did [id] [(id, .ho (.lp tm' n' ps' assign' body' .busy none))]) with
          | some (x, _, s3) => endRoundA id x s3
          | none => none
        | _ => none
      | _ => none) = some (mkCR q T')) a24 fun T T1 T' _ e1 e2 => by simp only [e1]; exact e2
  refine ⟨_, a0.then a14 fun T T1 T' _ ⟨e1, e2⟩ e3 => ?_⟩
  subst e2
  simp only [e1, hput]
  exact e3

theorem evCall_loc {M : Memo} {gl : Tr AVal} {k : Nat} : ∀ n, CLoc (evCall M gl imp P k n)
  | 0 => fun t _ args S q S' h => by simp [evCall] at h
  | n + 1 => fun t ht args S q S' h => by
    cases t with
    | fn f => exact evFunc_loc (evCall_loc n) h
    | yld id => exact evRound_loc (evCall_loc n) h
    | iso f => exact absurd rfl (ht f)

end
end Go.Proofs.YtceccojmekpneaaGreatDoor.Sw
