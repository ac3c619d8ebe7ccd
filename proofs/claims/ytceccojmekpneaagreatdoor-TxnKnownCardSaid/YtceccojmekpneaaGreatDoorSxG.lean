/- Functions, what they put off, and rounds. -/
import Derived.Test.YtceccojmekpneaaGreatDoorSxF
import Derived.RecoverIn
namespace Go.Proofs.YtceccojmekpneaaGreatDoor.Sw
open Go.RowKit

section
variable {C : CallFn} {imp : Nat → Bool} {P : Program} {g : Sg} {s : Sto} {S : St} {w : World} {n : Nat}

theorem did1 {S : St} (rd : List Nat) {id : Nat} {o : Obj} : (S.did rd [(id, o)]).get = upd S.get id o := did_get _ _ _

theorem cell_run {S : St} (hs : ∀ id, s id = S.get id) (hi : Inv g s w) {t : Nat} {x : AVal} {v : Value} {e : Eff} (hx : RepA g s w x v) (h : loadOp P S t x = some e) :
    ∃ u, (do loadVar t (← asAddr v) : Sem Value).run P w = .ok u w ∧ RepA g s w e.v u := by
  obtain ⟨_, u, h1, h2⟩ := load_run hs hi hx h
  refine ⟨u, ?_, h2⟩
  have : ∃ ad, v = .pointer (some ad) := by
    cases v with
    | pointer p =>
      cases p with
      | some ad => exact ⟨ad, rfl⟩
      | none => simp [Instr.loadAt, Instr.sureAddr] at h1
    | _ => simp [Instr.loadAt, Instr.sureAddr] at h1
  obtain ⟨ad, rfl⟩ := this
  simpa [Instr.loadAt, Instr.sureAddr, asAddr] using h1

/-- what one result is. -/
def resVar (tmps : Array Value) (x : ResultVar) : Sem Value := match x with
  | .tmp t => pure (tmps.getD t undef)
  | .cell a t => do loadVar t (← asAddr (tmps.getD a undef))

theorem results_rep {S : St} (hi : Inv g S.get w) {tm : Tr AVal} {tmps : Array Value} (hf : Frm g S.get w tm tmps) : ∀ {l : List ResultVar} {vs : List AVal} {rd : List Nat}, resultsA P tm S l = some (vs, rd) →
    ∃ us, (l.mapM (resVar tmps)).run P w = .ok us w ∧ RepAs g S.get w vs us
  | [], vs, rd, h => by
    simp [resultsA] at h
    obtain ⟨rfl, _⟩ := h
    exact ⟨[], rfl, rfl⟩
  | .tmp t :: l, vs, rd, h => by
    simp only [resultsA] at h
    split at h <;> simp at h
    rename_i v xs rd' h1 h2
    obtain ⟨rfl, _⟩ := h
    have q2 : RepA g S.get w v (tmps.getD t undef) := operand_rep (a := { tmps, defers := [] }) hf h1
    obtain ⟨us, q3, q4⟩ := results_rep hi hf h2
    refine ⟨_ :: us, ?_, _, us, rfl, q2, q4⟩
    simp only [List.mapM_cons, resVar, Sem.run_bind, Sem.run_pure, Result.andThen_ok, q3]
  | .cell t ty :: l, vs, rd, h => by
    simp only [resultsA] at h
    split at h <;> try (simp at h; done)
    rename_i x h0
    split at h <;> simp at h
    rename_i e xs rd' h1 h2
    obtain ⟨rfl, _⟩ := h
    have q2 : RepA g S.get w x (tmps.getD t undef) := operand_rep (a := { tmps, defers := [] }) hf h0
    obtain ⟨r, q5, q6⟩ := cell_run (fun _ => rfl) hi q2 h1
    obtain ⟨us, q3, q4⟩ := results_rep hi hf h2
    refine ⟨r :: us, ?_, r, us, rfl, q6, q4⟩
    rw [List.mapM_cons, Sem.run_bind, show (resVar tmps (.cell t ty)).run P w = .ok r w from q5]
    simp only [Sem.run_bind, Sem.run_pure, Result.andThen_ok, q3]

theorem result_rep {S : St} (hi : Inv g S.get w) {tm : Tr AVal} {tmps : Array Value} (hf : Frm g S.get w tm tmps) {fn : Func} {vs : List AVal} {rd : List Nat} (h : resultsA P tm S fn.results.toList = some (vs, rd)) :
    ∃ u, (results fn tmps).run P w = .ok u w ∧ RepA g S.get w (resultA vs) u := by
  obtain ⟨us, h1, h2⟩ := results_rep hi hf h
  refine ⟨if h : us.toArray.size = 1 then us.toArray[0] else .tuple us.toArray, ?_, ?_⟩
  · have e1 : results fn tmps = (do let vs ← fn.results.mapM (resVar tmps); pure (if h : vs.size = 1 then vs[0] else .tuple vs)) := rfl
    rw [e1, Array.mapM_eq_mapM_toList]
    simp only [Sem.run_bind, Sem.run_map, h1, Result.andThen_ok, Sem.run_pure]
  · unfold resultA
    split
    · obtain ⟨u, us', rfl, h3, h4⟩ := h2
      have h4 : us' = [] := h4
      subst h4
      simpa using h3
    · rename_i hno
      have : us.length ≠ 1 := by
        rw [RepAs.length h2]
        intro hl
        obtain ⟨v, rfl⟩ := List.length_eq_one_iff.1 hl
        exact hno v rfl
      rw [dif_neg (by simpa using this)]
      exact mkTup_rep h2

theorem argsTm_get {gl : Tr AVal} : ∀ {args : List AVal} {i t : Nat}, (argsTm gl i args).get t = if i ≤ t ∧ t < i + args.length then args[t - i]? else gl.get t
  | [], i, t => by
    rw [if_neg (by simp)]
    rfl
  | v :: args, i, t => by
    simp only [argsTm, Tr.get_set, argsTm_get (args := args) (i := i + 1)]
    by_cases h1 : i = t
    · subst h1; simp
    · rw [if_neg h1]
      by_cases h2 : i ≤ t ∧ t < i + (v :: args).length
      · have h3 : i + 1 ≤ t ∧ t < i + 1 + args.length := by simp at h2; omega
        rw [if_pos h3, if_pos h2]
        have : t - i = (t - (i + 1)) + 1 := by omega
        rw [this, List.getElem?_cons_succ]
      · have h3 : ¬ (i + 1 ≤ t ∧ t < i + 1 + args.length) := by simp at h2; omega
        rw [if_neg h3, if_neg h2]

theorem args_frm {gl : Tr AVal} {args : List AVal} {us : List Value} (hG : Glob gl g.imm w) (hr : RepAs g s w args us) (hl : args.length ≤ glBase) (rest : Array Value) :
    Frm g s w (argsTm gl 0 args) (us.toArray ++ rest) := by
  intro t x ht
  rw [argsTm_get] at ht
  split at ht
  · rename_i h0
    simp at h0 ht
    obtain ⟨u, h1, h2⟩ := hr.get ht
    have hlt := (List.getElem?_eq_some_iff.1 h1).1
    refine ⟨u, ?_, h2⟩
    unfold slot
    rw [if_pos (by omega), Array.getElem?_append_left (by simpa using hlt)]
    simpa using h1
  · obtain ⟨h1, y, rfl, h2⟩ := hG t x ht
    refine ⟨_, ?_, h2⟩
    unfold slot
    rw [if_neg (by omega)]

/-! ### What was put off -/
/-- the panic that is under way, as the frame below has it. -/
def ModeRep (g : Sg) (s : Sto) (w : World) : Option AVal → FrameMode → Prop
  | none, u => u = .returning ∨ ∃ v, u = .panicking [{ v, recovered := true }]
  | some x, u => ∃ v, u = .panicking [{ v, recovered := false }] ∧ RepA g s w x v

theorem ModeRep.ext {g' : Sg} {s' : Sto} {w' : World} (he : Ext g s w g' s' w') {m : Option AVal} {u : FrameMode} (h : ModeRep g s w m u) : ModeRep g' s' w' m u := by
  cases m with
  | none => exact h
  | some x => obtain ⟨v, h1, h2⟩ := h; exact ⟨v, h1, RepA.ext he _ _ h2⟩

/-- behind a call that was put off. -/
def ModeNow (g : Sg) (s : Sto) (w : World) : Option AVal → FrameMode → Prop
  | none, u => u = .returning
  | some x, u => ∃ v, u = .panicking [{ v, recovered := false }] ∧ RepA g s w x v

theorem ModeNow.rep {m : Option AVal} {u : FrameMode} (h : ModeNow g s w m u) : ModeRep g s w m u := by
  cases m with
  | none => exact .inl h
  | some x => exact h

theorem ModeRep.settle {m : Option AVal} {u : FrameMode} (h : ModeRep g s w m u) : ModeNow g s w m (Go.settle u) := by
  cases m with
  | none =>
    rcases h with rfl | ⟨v, rfl⟩
    · rfl
    · simp [Go.settle, ModeNow]
  | some x =>
    obtain ⟨v, rfl, h2⟩ := h
    exact ⟨v, by simp [Go.settle], h2⟩

structure HereD (g : Sg) (s : Sto) (w : World) (a : Act) (tm' : Tr AVal) (dfs' : List Dfr) (m' : Option AVal) (s' : Sto) (a' : Act) (u' : FrameMode) (w' : World) : Prop where
  ex : ∃ g', Ext g s w g' s' w' ∧ Inv g' s' w' ∧ Frm g' s' w' tm' a'.tmps ∧ RepD g' s' w' dfs' a'.defers ∧ ModeRep g' s' w' m' u'
  size : a'.tmps.size = a.tmps.size

theorem HereD.then {g1 : Sg} {s1 s2 : Sto} {w1 w2 : World} {a a1 a2 : Act} {tm2 : Tr AVal} {d2 : List Dfr} {m2 : Option AVal} {u2 : FrameMode} (e : Ext g s w g1 s1 w1) (hz : a1.tmps.size = a.tmps.size)
    (h : HereD g1 s1 w1 a1 tm2 d2 m2 s2 a2 u2 w2) : HereD g s w a tm2 d2 m2 s2 a2 u2 w2 := by
  obtain ⟨⟨g2, f1, f2⟩, f3⟩ := h
  exact ⟨⟨g2, e.trans f1, f2⟩, f3.trans hz⟩

theorem isRecover_spec {op : Op} (h : isRecover op = true) : ∃ c, op = .call c ∧ c.callee = .builtin .recover := by
  unfold isRecover at h
  split at h
  · exact ⟨_, rfl, rfl⟩
  · simp at h

theorem opsD_wp (hnb : n ≤ glBase) {N : Nat} {ops : Array Oper} {dfs : List Dfr} {c₀ : Frame} {cs : List Frame} {Q : Exit → Act → List Frame → World → Prop} :
    ∀ {l : List Oper} {i b : Nat} {tm tm' : Tr AVal} {S S' : St} {m m' : Option AVal} {u : FrameMode} {g : Sg} {w : World} {a : Act},
    evOpsD P n ops l b tm S m = some (tm', S', m') → l = ops.toList.drop i → i ≤ ops.size → Inv g S.get w → Frm g S.get w tm a.tmps → RepD g S.get w dfs a.defers → ModeRep g S.get w m u → n ≤ a.tmps.size →
    (∀ a' u' w', HereD g S.get w a tm' dfs m' S'.get a' u' w' → Q .normal a' ({ c₀ with mode := u' } :: cs) w') →
    wpOpsSIn Fence.wide N P ops Q (List.range' i (ops.size - i)) a ({ c₀ with mode := u } :: cs) w
  | [], i, b, tm, tm', S, S', m, m', u, g, w, a, h, hl, hi, hinv, hf, hD, hm, hn, hQ => by
    simp [evOpsD] at h
    obtain ⟨rfl, rfl, rfl⟩ := h
    have : ops.size - i = 0 := by
      have := congrArg List.length hl
      simp at this
      omega
    rw [this]
    exact hQ a u w ⟨⟨g, .refl _ _ _, hinv, hf, hD, hm⟩, rfl⟩
  | o :: l, i, b, tm, tm', S, S', m, m', u, g, w, a, h, hl, hi, hinv, hf, hD, hm, hn, hQ => by
    have hlen : i < ops.size := by
      have := congrArg List.length hl
      simp at this
      omega
    have ho : ops[i]? = some o := by
      have : (ops.toList.drop i)[0]? = some o := by rw [← hl]; simp
      simpa using this
    have hl' : l = ops.toList.drop (i + 1) := by
      have : (ops.toList.drop i).drop 1 = l := by rw [← hl]; simp
      rw [← this, List.drop_drop]
    have er : List.range' i (ops.size - i) = i :: List.range' (i + 1) (ops.size - (i + 1)) := by
      rw [show ops.size - i = (ops.size - (i + 1)) + 1 by omega, List.range'_succ]
    have next : ∀ {x : AVal} {S1 : St} {tm1 : Tr AVal} {m1 : Option AVal} {u1 : FrameMode} {v : Value} {g1 : Sg} {w1 : World}, tm1 = putD tm o.dst x → (∀ d, o.dst = some d → d < n) →
        Ext g S.get w g1 S1.get w1 → Inv g1 S1.get w1 → RepA g1 S1.get w1 x v → ModeRep g1 S1.get w1 m1 u1 → evOpsD P n ops l (b + 16) tm1 S1 m1 = some (tm', S', m') →
        wpOpsSIn Fence.wide N P ops Q (List.range' (i + 1) (ops.size - (i + 1))) (a.put o.dst v) ({ c₀ with mode := u1 } :: cs) w1 := by
      intro x S1 tm1 m1 u1 v g1 w1 htm hd e1 e2 e3 hm1 h
      subst htm
      refine opsD_wp hnb h hl' (by omega) e2 (Frm.put (hf.ext e1) e3 (fun d hd' => ⟨Nat.lt_of_lt_of_le (hd d hd') hn, Nat.lt_of_lt_of_le (hd d hd') hnb⟩)) (by simpa using hD.ext e1) hm1 (by simpa using hn) ?_
      intro a' u' w' hh
      exact hQ a' u' w' (HereD.then e1 (by simp) hh)
    rw [er]
    simp only [wpOpsSIn, ho]
    refine ⟨fun _ _ => trivial, ?_⟩
    simp only [evOpsD] at h
    split at h
    · rename_i hw
      rw [wantedA_rep hf hw]
      simp only [if_true]
      split at h
      · rename_i hrec
        split at h <;> try (simp at h; done)
        rename_i tm1 ht
        obtain ⟨h1, h2⟩ := setDst_spec ht
        obtain ⟨c, hc1, hc2⟩ := isRecover_spec hrec
        have hrun : (execOp a.eval o).run P w = .ok .recover w := by
          simp [execOp, hc1, resolve, hc2, invoke, builtin]
        rw [hrun]
        simp only
        cases m with
        | none =>
          have hno : recoverD ({ c₀ with mode := u } :: cs) = none := by
            rcases hm with rfl | ⟨v, rfl⟩ <;> simp [recoverD]
          rw [hno]
          exact next h1 h2 (.refl _ _ _) hinv (show RepA g S.get w (.p .nili) .nilIface from rfl) hm h
        | some x =>
          obtain ⟨v, rfl, hx⟩ := hm
          have hyes : recoverD ({ c₀ with mode := .panicking [{ v, recovered := false }] } :: cs) = some (v, { c₀ with mode := .panicking [{ v, recovered := true }] } :: cs) := by simp [recoverD]
          rw [hyes]
          exact next (m1 := none) h1 h2 (.refl _ _ _) hinv hx (.inr ⟨v, rfl⟩) h
      · split at h <;> try (simp at h; done)
        rename_i e he
        split at h <;> try (simp at h; done)
        rename_i tm1 ht
        obtain ⟨h1, h2⟩ := setDst_spec ht
        obtain ⟨v, g', w', hr, k2, k3, k4⟩ := plainOp_sound (fun _ => rfl) hinv hf he
        have hs : upds S.get e.wr = (S.did e.rd e.wr).get := (did_get _ _ _).symm
        rw [show List.foldl (fun s x => upd s x.1 x.2) S.get e.wr = upds S.get e.wr from rfl, hs] at k2 k3 k4
        rcases hr with hr | ⟨hr, rfl⟩
        · rw [hr]; exact next h1 h2 k2 k3 k4 (hm.ext k2) h
        · rw [hr]; exact next h1 h2 k2 k3 k4 (hm.ext k2) h
    · rename_i hw
      rw [wantedA_rep hf hw]
      simp only [Bool.false_eq_true, if_false]
      split at h <;> try (simp at h; done)
      rename_i tm1 ht
      obtain ⟨h1, h2⟩ := setDst_spec ht
      exact next h1 h2 (.refl _ _ _) hinv rep_undef hm h
    · simp at h

/-- how some code of a call that was put off was left. -/
def LeftD (g : Sg) (s : Sto) (w : World) (a : Act) (x : XExit) (tm' : Tr AVal) (dfs' : List Dfr) (m' : Option AVal) (S' : St) (e : Exit) (a' : Act) (u' : FrameMode) (w' : World) : Prop :=
  match x, e with
  | .normal, .normal => HereD g s w a tm' dfs' m' S'.get a' u' w'
  | .exit i, .exit j => i = j ∧ HereD g s w a tm' dfs' m' S'.get a' u' w'
  | .ret, .ret => HereD g s w a tm' dfs' m' S'.get a' u' w'
  | .pan _, .panic _ => True
  | _, _ => False

theorem LeftD.after {g1 : Sg} {s1 : Sto} {w1 w2 : World} {a a1 a2 : Act} {x : XExit} {tm2 : Tr AVal} {d2 : List Dfr} {m2 : Option AVal} {S2 : St} {e : Exit} {u2 : FrameMode} (h1 : Ext g s w g1 s1 w1) (hz : a1.tmps.size = a.tmps.size)
    (h2 : LeftD g1 s1 w1 a1 x tm2 d2 m2 S2 e a2 u2 w2) : LeftD g s w a x tm2 d2 m2 S2 e a2 u2 w2 := by
  cases x <;> cases e <;> simp only [LeftD] at h2 ⊢ <;> first | exact HereD.then h1 hz h2 | exact ⟨h2.1, HereD.then h1 hz h2.2⟩ | exact h2.elim

theorem codeD_plain {gl : Tr AVal} (hC : CallOk2 P gl C) (hP : Fine P) (hnb : n ≤ glBase) {k N : Nat} {c₀ : Frame} {cs : List Frame} (c : Code) {Q : Exit → Act → List Frame → World → Prop} {fr fr' : Fr} {S S' : St}
    {x : XExit} {m : Option AVal} {u : FrameMode} {g : Sg} {w : World} {a : Act} (hok : codeOk c = true) (h : evCode C imp P k n false c fr S = some (x, fr', S')) (hi : Inv g S.get w) (hG : Glob gl g.imm w)
    (hf : Frm g S.get w fr.tm a.tmps) (hd : RepD g S.get w fr.dfs a.defers) (hm : ModeRep g S.get w m u) (hn : n ≤ a.tmps.size)
    (hQ : ∀ e a' u' w', LeftD g S.get w a x fr'.tm fr'.dfs m S' e a' u' w' → Q e a' ({ c₀ with mode := u' } :: cs) w') : c.wpSIn Fence.wide N P Q a ({ c₀ with mode := u } :: cs) w := by
  refine wpSIn_of_wpIn rfl (code_wp (ro := none) hC hP hnb (fun _ => rfl) c hok h hi hG hf hd hn fun e a' w' hl => hQ e a' u w' ?_)
  cases x <;> cases e <;> simp only [Left] at hl <;> simp only [LeftD] <;> first
    | (obtain ⟨⟨g', e1, e2, e3, e4⟩, e5⟩ := hl; exact ⟨⟨g', e1, e2, e3, e4, hm.ext e1⟩, e5⟩)
    | (obtain ⟨h0, ⟨g', e1, e2, e3, e4⟩, e5⟩ := hl; exact ⟨h0, ⟨g', e1, e2, e3, e4, hm.ext e1⟩, e5⟩)
    | exact hl.elim

theorem codeD_wp {gl : Tr AVal} (hC : CallOk2 P gl C) (hP : Fine P) (hnb : n ≤ glBase) {k N : Nat} {c₀ : Frame} {cs : List Frame} :
    ∀ (c : Code) {Q : Exit → Act → List Frame → World → Prop} {fr fr' : Fr} {S S' : St} {x : XExit} {m m' : Option AVal} {u : FrameMode} {g : Sg} {w : World} {a : Act}, codeOk c = true →
    evD C imp P k n c fr S m = some (x, fr', S', m') → Inv g S.get w → Glob gl g.imm w → Frm g S.get w fr.tm a.tmps → RepD g S.get w fr.dfs a.defers → ModeRep g S.get w m u → n ≤ a.tmps.size →
    (∀ e a' u' w', LeftD g S.get w a x fr'.tm fr'.dfs m' S' e a' u' w' → Q e a' ({ c₀ with mode := u' } :: cs) w') → c.wpSIn Fence.wide N P Q a ({ c₀ with mode := u } :: cs) w := by
  have plain : ∀ (c : Code) {Q : Exit → Act → List Frame → World → Prop} {fr fr' : Fr} {S S' : St} {x : XExit} {m m' : Option AVal} {u : FrameMode} {g : Sg} {w : World} {a : Act}, codeOk c = true →
      withM m (evCode C imp P k n false c fr S) = some (x, fr', S', m') → Inv g S.get w → Glob gl g.imm w → Frm g S.get w fr.tm a.tmps →
      RepD g S.get w fr.dfs a.defers → ModeRep g S.get w m u → n ≤ a.tmps.size →
      (∀ e a' u' w', LeftD g S.get w a x fr'.tm fr'.dfs m' S' e a' u' w' → Q e a' ({ c₀ with mode := u' } :: cs) w') → c.wpSIn Fence.wide N P Q a ({ c₀ with mode := u } :: cs) w := by
    intro c Q fr fr' S S' x m m' u g w a hok h hi hG hf hd hm hn hQ
    unfold withM at h
    split at h <;> simp at h
    rename_i x1 fr1 s1 h1
    obtain ⟨rfl, rfl, rfl, rfl⟩ := h
    exact codeD_plain hC hP hnb c hok h1 hi hG hf hd hm hn hQ
  intro c
  induction c with
  | seq c1 c2 ih1 ih2 =>
    intro Q fr fr' S S' x m m' u g w a hok h hi hG hf hd hm hn hQ
    have hok' := hok
    simp only [codeOk, Bool.and_eq_true] at hok
    simp only [evD] at h
    split at h
    · exact plain _ hok' h hi hG hf hd hm hn hQ
    · split at h
      · rename_i fr1 S1 m1 h1
        refine wpSIn_seq (ih1 hok.1 h1 hi hG hf hd hm hn fun e a1 u1 w1 hl => ?_)
        cases e <;> simp only [LeftD] at hl
        obtain ⟨⟨g1, e1, e2, e3, e4, e5⟩, e6⟩ := hl
        exact ih2 hok.2 h e2 (hG.ext e1) e3 e4 e5 (by omega) fun e a2 u2 w2 h2 => hQ e a2 u2 w2 (LeftD.after e1 e6 h2)
      · rename_i hno
        refine wpSIn_seq (ih1 hok.1 h hi hG hf hd hm hn fun e a1 u1 w1 hl => ?_)
        cases e with
        | normal =>
          cases x <;> simp only [LeftD] at hl
          exact absurd h (hno _ _ _)
        | _ => exact hQ _ _ _ _ hl
  | region id ops draw =>
    intro Q fr fr' S S' x m m' u g w a hok h hi hG hf hd hm hn hQ
    simp only [evD] at h
    split at h
    · split at h <;> simp at h
      rename_i tm s' m1 h1
      obtain ⟨rfl, rfl, rfl, rfl⟩ := h
      refine wpSIn_region ?_
      rw [List.range_eq_range']
      exact opsD_wp hnb (i := 0) h1 (by simp) (Nat.zero_le _) hi hf hd hm hn (fun a' u' w' hh => hQ .normal a' u' w' hh)
    · simp at h
    · exact plain _ hok h hi hG hf hd hm hn hQ
  | _ =>
    intro Q fr fr' S S' x m m' u g w a hok h hi hG hf hd hm hn hQ
    simp only [evD] at h
    split at h <;> first | exact plain _ hok h hi hG hf hd hm hn hQ | (simp at h; done)

theorem dfr_wp {gl : Tr AVal} (hC : CallOk2 P gl C) (hP : Fine P) {k N f : Nat} {args : List AVal} {us : List Value} {S S' : St} {m m' : Option AVal} {u : FrameMode}
    (h : evDfr C gl imp P k f args S m = some (S', m')) (hi : Inv g S.get w) (hG : Glob gl g.imm w) (hr : RepAs g S.get w args us) (hm : ModeRep g S.get w m u) :
    HasBody P f ∧ CallsDIn Fence.wide N P f us.toArray u w fun e u' w' => (∃ v, e = .returned v) ∧ ∃ g', Ext g S.get w g' S'.get w' ∧ Inv g' S'.get w' ∧ ModeRep g' S'.get w' m' u' := by
  unfold evDfr at h
  split at h <;> try (simp at h; done)
  rename_i fn hf
  split at h <;> try (simp at h; done)
  rename_i c hb
  split at h <;> try (simp at h; done)
  rename_i hl1 hl2
  have hl1 := Nat.le_of_ble_eq_true hl1
  have hl2 := Nat.le_of_ble_eq_true hl2
  split at h <;> try (simp at h; done)
  rename_i x fr s' m1 hev
  have hlen := RepAs.length hr
  have key : ∃ rd, fr.dfs = [] ∧ (∃ vs, resultsA P fr.tm s' fn.results.toList = some (vs, rd)) ∧ (x = .normal ∨ x = .ret) ∧ S' = s'.did rd [] ∧ m' = m1 := by
    split at h <;> simp at h
    · rename_i h1 h2; exact ⟨_, h1, ⟨_, h2⟩, .inl rfl, h.1.symm, h.2.symm⟩
    · rename_i h1 h2; exact ⟨_, h1, ⟨_, h2⟩, .inr rfl, h.1.symm, h.2.symm⟩
  obtain ⟨rd, k1, ⟨vs, k2⟩, k3, rfl, rfl⟩ := key
  have hgs : (s'.did rd []).get = s'.get := did_get _ _ _
  rw [hgs]
  refine ⟨⟨fn, c, hf, hb⟩, callsDIn_of_wpSIn hf hb trivial fun c₀ cs hu => ?_⟩
  have hc0 : c₀ :: cs = { c₀ with mode := u } :: cs := by subst hu; rfl
  rw [hc0]
  have hn : max args.length fn.ntmps ≤ (us.toArray ++ Array.replicate (fn.ntmps - us.toArray.size) undef).size := by simp; omega
  refine codeD_wp hC hP (by omega) c (hP.code f fn c hf hb) hev hi hG (args_frm hG hr hl1 _) rfl hm hn fun e a' u' w' hl => ?_
  have fin : HereD g S.get w { tmps := us.toArray ++ Array.replicate (fn.ntmps - us.toArray.size) undef, defers := [] } fr.tm fr.dfs m' s'.get a' u' w' →
      a'.defers = [] ∧ ∃ u'', ({ c₀ with mode := u' } :: cs : List Frame) = { c₀ with mode := u'' } :: cs ∧ ∃ v, (results fn a'.tmps).run P w' = .ok v w' ∧
        ((∃ v', Ending.returned v = .returned v') ∧ ∃ g', Ext g S.get w g' s'.get w' ∧ Inv g' s'.get w' ∧ ModeRep g' s'.get w' m' u'') := by
    rintro ⟨⟨g', e1, e2, e3, e4, e5⟩, _⟩
    rw [k1] at e4
    obtain ⟨r, h1, _⟩ := result_rep e2 e3 k2
    exact ⟨e4, u', rfl, r, h1, ⟨r, rfl⟩, g', e1, e2, e5⟩
  rcases k3 with rfl | rfl
  · cases e <;> simp only [LeftD] at hl
    exact fin hl
  · cases e <;> simp only [LeftD] at hl
    exact fin hl

theorem unwind_wp {gl : Tr AVal} (hC : CallOk2 P gl C) (hP : Fine P) {k N : Nat} {fn : Func} {tm : Tr AVal} {tmps : Array Value} {R : Ending → World → Prop} :
    ∀ {dfs : List Dfr} {ds : List Deferred} {S S' : St} {m m' : Option AVal} {u : FrameMode} {g : Sg} {w : World}, evUnwind C gl imp P k dfs S m = some (S', m') → Inv g S.get w → Glob gl g.imm w →
    RepD g S.get w dfs ds → Frm g S.get w tm tmps → ModeNow g S.get w m u →
    (∀ g' w' u', Ext g S.get w g' S'.get w' → Inv g' S'.get w' → Frm g' S'.get w' tm tmps → ModeNow g' S'.get w' m' u' → LeavesInM Fence.wide N P fn tmps R [] u' w') → LeavesInM Fence.wide N P fn tmps R ds u w
  | [], ds, S, S', m, m', u, g, w, h, hi, hG, hD, hf, hm, hQ => by
    simp [evUnwind] at h
    obtain ⟨rfl, rfl⟩ := h
    have hD : ds = [] := hD
    subst hD
    exact hQ g w u (.refl _ _ _) hi hf hm
  | .mark id :: r, ds, S, S', m, m', u, g, w, h, hi, hG, hD, hf, hm, hQ => by
    obtain ⟨b, t, rfl, hb, hD⟩ := hD
    simp only [evUnwind] at h
    split at h <;> try (simp at h; done)
    rename_i hid
    obtain ⟨o, q1, q2⟩ := hi.at_ho hid hb
    have q2 : o = .deferred (some []) := q2
    subst q2
    obtain ⟨e1, e2⟩ := set_ho hi hid hb (h := .dl false) (o := .deferred none) rfl
    rw [← did1 [id]] at e1 e2
    have hu : u ≠ .run := by
      cases m with
      | none => have : u = .returning := hm; rw [this]; simp
      | some x => obtain ⟨v, rfl, _⟩ := hm; simp
    refine ⟨hu, .inl ⟨b, _, rfl, run_takeDeferred q1, ?_⟩⟩
    refine unwind_wp hC hP h e2 (hG.ext e1) (hD.ext e1) (hf.ext e1) (by cases m with
      | none => exact hm
      | some x => obtain ⟨v, h1, h2⟩ := hm; exact ⟨v, h1, RepA.ext e1 _ _ h2⟩) fun g' w' u' f1 f2 f3 f4 => hQ g' w' u' (e1.trans f1) f2 f3 f4
  | .call f cap :: r, ds, S, S', m, m', u, g, w, h, hi, hG, hD, hf, hm, hQ => by
    obtain ⟨vs, t, rfl, hv, hD⟩ := hD
    simp only [evUnwind] at h
    split at h <;> try (simp at h; done)
    rename_i s1 m1 h1
    have hu : u ≠ .run := by
      cases m with
      | none => have : u = .returning := hm; rw [this]; simp
      | some x => obtain ⟨v, rfl, _⟩ := hm; simp
    obtain ⟨hb, hc⟩ := dfr_wp (N := N - 1) hC hP h1 hi hG hv hm.rep
    refine ⟨hu, .inr ⟨by simp [Fence.wide], .func f, vs.toArray, f, vs.toArray, rfl, by simp [invoke, run_callFunc hP.own hb], fun _ _ => trivial, CallsDIn.mono hc fun e u' w' he => ?_⟩⟩
    obtain ⟨⟨v, rfl⟩, g', e1, e2, e3⟩ := he
    exact unwind_wp hC hP h e2 (hG.ext e1) (hD.ext e1) (hf.ext e1) e3.settle fun g' w' u' f1 f2 f3 f4 => hQ g' w' u' (e1.trans f1) f2 f3 f4

theorem leave_wp {gl : Tr AVal} (hC : CallOk2 P gl C) (hP : Fine P) {k N : Nat} {fn : Func} {fr : Fr} {g0 : Sg} {s0 : Sto} {w0 : World} {tmps : Array Value} {ds : List Deferred} {S : St} {m : Option AVal} {u : FrameMode} {r : CR}
    (h : evLeave C gl imp P k fn fr S m = some r) (h0 : Ext g0 s0 w0 g S.get w) (hi : Inv g S.get w) (hG : Glob gl g.imm w) (hD : RepD g S.get w fr.dfs ds) (hf : Frm g S.get w fr.tm tmps) (hm : ModeNow g S.get w m u) :
    LeavesInM Fence.wide N P fn tmps (fun e w' => Came g0 s0 w0 r e w') ds u w := by
  unfold evLeave at h
  split at h
  · rename_i s' h1
    split at h <;> simp at h
    rename_i vs rd h2
    subst h
    refine unwind_wp hC hP h1 hi hG hD hf hm fun g' w' u' e1 e2 e3 e4 => ?_
    have e4 : u' = .returning := e4
    subst e4
    obtain ⟨v, q1, q2⟩ := result_rep e2 e3 h2
    have hgs : (s'.did rd []).get = s'.get := did_get _ _ _
    refine ⟨v, q1, g', ?_, ?_, ?_⟩
    · rw [hgs]; exact h0.trans e1
    · rw [hgs]; exact e2
    · rw [hgs]; exact q2
  · rename_i s' v h1
    simp at h
    subst h
    refine unwind_wp hC hP h1 hi hG hD hf hm fun g' w' u' e1 e2 e3 e4 => ?_
    obtain ⟨x, rfl, e5⟩ := e4
    exact ⟨g', x, rfl, h0.trans e1, e2, e5⟩
  · simp at h

theorem evFunc_ok {gl : Tr AVal} (hC : CallOk2 P gl C) (hP : Fine P) {k f : Nat} {args : List AVal} {S : St} {r : CR} {us : List Value} (h : evFunc C gl imp P k f args S = some r) (hi : Inv g S.get w)
    (hG : Glob gl g.imm w) (hr : RepAs g S.get w args us) : HasBody P f ∧ CallsIn Fence.wide 0 P f us.toArray w (Came g S.get w r) := by
  unfold evFunc at h
  split at h <;> try (simp at h; done)
  rename_i fn hf
  split at h <;> try (simp at h; done)
  rename_i c hb
  split at h <;> try (simp at h; done)
  rename_i hl1 hl2
  have hl1 := Nat.le_of_ble_eq_true hl1
  have hl2 := Nat.le_of_ble_eq_true hl2
  refine ⟨⟨fn, c, hf, hb⟩, callsIn_of_wp_marks hf hb trivial ?_⟩
  have hlen := RepAs.length hr
  have hn : max args.length fn.ntmps ≤ (us.toArray ++ Array.replicate (fn.ntmps - us.toArray.size) undef).size := by simp; omega
  split at h <;> try (simp at h; done)
  · rename_i fr S' hev
    refine code_wp (ro := none) hC hP (by omega) (fun _ => rfl) c (hP.code f fn c hf hb) hev hi hG (args_frm hG hr hl1 _) rfl hn fun e a' w' hl => ?_
    cases e <;> simp only [Left] at hl
    obtain ⟨⟨g', e1, e2, e3, e4⟩, _⟩ := hl
    exact leave_wp hC hP h e1 e2 (hG.ext e1) e4 e3 rfl
  · rename_i fr S' hev
    refine code_wp (ro := none) hC hP (by omega) (fun _ => rfl) c (hP.code f fn c hf hb) hev hi hG (args_frm hG hr hl1 _) rfl hn fun e a' w' hl => ?_
    cases e <;> simp only [Left] at hl
    obtain ⟨⟨g', e1, e2, e3, e4⟩, _⟩ := hl
    exact leave_wp hC hP h e1 e2 (hG.ext e1) e4 e3 rfl
  · rename_i v fr S' hev
    refine code_wp (ro := none) hC hP (by omega) (fun _ => rfl) c (hP.code f fn c hf hb) hev hi hG (args_frm hG hr hl1 _) rfl hn fun e a' w' hl => ?_
    cases e <;> simp only [Left] at hl
    obtain ⟨⟨g', u, rfl, e1, e2, e3, e4, e5⟩, _⟩ := hl
    exact leave_wp hC hP h e1 e2 (hG.ext e1) e5 e4 ⟨u, rfl, e3⟩

end
end Go.Proofs.YtceccojmekpneaaGreatDoor.Sw
