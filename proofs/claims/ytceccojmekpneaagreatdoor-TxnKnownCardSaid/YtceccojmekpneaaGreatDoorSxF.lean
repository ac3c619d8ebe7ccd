/- Code. -/
import Derived.Test.YtceccojmekpneaaGreatDoorSxD
import Derived.Scope
namespace Go.Proofs.YtceccojmekpneaaGreatDoor.Sw
open Go.RowKit

/-- what is asked of a program, once. -/
structure Fine (P : Program) : Prop where
  own : NoOwn P
  mixed : P.follows .mixedOrders = true
  code : ∀ (f : Nat) (fn : Func) (c : Code), P.funcs[f]? = some fn → fn.body = some c → codeOk c = true

section
variable {C : CallFn} {imp : Nat → Bool} {P : Program} {n : Nat} {g : Sg} {S : St} {w : World}

theorem tm_false {items : Items} : ∀ {i : Nat} {tm : Tr AVal}, runTm (fun _ => false) i items tm = tm := by
  induction items with
  | nil => intro i tm; rfl
  | cons q items ih => intro i tm; obtain ⟨o, x⟩ := q; simp only [runTm]; exact ih
theorem st_false {items : Items} : ∀ {i : Nat} {S : Sto}, runSt (fun _ => false) i items S = S := by
  induction items with
  | nil => intro i S; rfl
  | cons q items ih => intro i S; obtain ⟨o, x⟩ := q; simp only [runSt]; exact ih

/-- what is so after some code, by how it was left. -/
def Left (g : Sg) (s : Sto) (w : World) (a : Act) (x : XExit) (tm' : Tr AVal) (dfs' : List Dfr) (S' : St) (e : Exit) (a' : Act) (w' : World) : Prop :=
  match x, e with
  | .normal, .normal => Here g s w a tm' dfs' S'.get a' w'
  | .exit i, .exit j => i = j ∧ Here g s w a tm' dfs' S'.get a' w'
  | .ret, .ret => Here g s w a tm' dfs' S'.get a' w'
  | .pan v, .panic chain => HerePan g s w a v tm' dfs' S'.get chain a' w'
  | _, _ => False

theorem Left.after {g g1 : Sg} {s s1 : Sto} {w w1 w2 : World} {a a1 a2 : Act} {x : XExit} {tm2 : Tr AVal} {d2 : List Dfr} {S2 : St} {e : Exit} (h1 : Ext g s w g1 s1 w1) (hz : a1.tmps.size = a.tmps.size)
    (h2 : Left g1 s1 w1 a1 x tm2 d2 S2 e a2 w2) : Left g s w a x tm2 d2 S2 e a2 w2 := by
  cases x <;> cases e <;> simp only [Left] at h2 ⊢ <;> first | exact Here.then h1 hz h2 | exact ⟨h2.1, Here.then h1 hz h2.2⟩ | exact h2.elim | exact HerePan.then h1 hz h2

theorem region_wp {ro : Option Nat} {gl : Tr AVal} (hC : CallOk2 P gl C) (hP : Fine P) (hnb : n ≤ glBase) {N id : Nat} {Q : Exit → Act → World → Prop} {rd : Bool} (hro : rd = false → ro = none) {ops : Array Oper} {draw : Bool}
    (hs : draw = true → statOk ops = true) {fr fr' : Fr} {S S' : St} {x : XExit} {g : Sg} {w : World} {a : Act}
    (h : evRegion C imp P n rd ops draw fr S = some (x, fr', S')) (hi : Inv g S.get w) (hG : Glob gl g.imm w) (hf : Frm g S.get w fr.tm a.tmps) (hd : RepD g S.get w fr.dfs a.defers) (hn : n ≤ a.tmps.size)
    (hQ : ∀ e a' w', Left g S.get w a x fr'.tm fr'.dfs S' e a' w' → Q e a' w') : (Code.region id ops draw).wpIn (Fw ro) N P Q a w := by
  unfold evRegion at h
  cases draw with
  | false =>
    refine wpIn_region ?_
    rw [List.range_eq_range']
    split at h
    · rename_i tm s recs ds ho
      simp only at h
      have key : (ro = none ∨ ds = []) ∧ x = .normal ∧ fr' = { tm := tm, dfs := ds ++ fr.dfs } ∧ S' = s := by
        split at h <;> simp at h
        rename_i hno
        obtain ⟨rfl, rfl, rfl⟩ := h
        refine ⟨?_, rfl, rfl, rfl⟩
        cases rd with
        | false => exact .inl (hro rfl)
        | true => cases ds with
          | nil => exact .inr rfl
          | cons q ds => exact (hno q ds rfl rfl).elim
      obtain ⟨k1, rfl, rfl, rfl⟩ := key
      exact ops_wp hC hP.own hnb (dfs := fr.dfs) (i := 0) ho k1 (by simp) (Nat.zero_le _) hi hG hf hd hn (fun a' w' hh => hQ .normal a' w' hh)
    · rename_i v tm s ds ho
      simp only at h
      have key : (ro = none ∨ ds = []) ∧ x = .pan v ∧ fr' = { tm := tm, dfs := ds ++ fr.dfs } ∧ S' = s := by
        split at h <;> simp at h
        rename_i hno
        obtain ⟨rfl, rfl, rfl⟩ := h
        refine ⟨?_, rfl, rfl, rfl⟩
        cases rd with
        | false => exact .inl (hro rfl)
        | true => cases ds with
          | nil => exact .inr rfl
          | cons q ds => exact (hno q ds rfl rfl).elim
      obtain ⟨k1, rfl, rfl, rfl⟩ := key
      exact ops_wp hC hP.own hnb (dfs := fr.dfs) (i := 0) ho k1 (by simp) (Nat.zero_le _) hi hG hf hd hn (fun a' w' chain hh => hQ (.panic chain) a' w' hh)
    · simp at h
  | true =>
    refine wpIn_region_any hP.mixed ?_
    split at h
    · rename_i tm s recs ds ho
      simp only at h
      split at h <;> try (simp at h; done)
      split at h <;> simp at h
      rename_i hpf
      obtain ⟨rfl, rfl, rfl⟩ := h
      obtain ⟨items, h1, h2, h3, h4, h5⟩ := evOps_trace hC.loc ho
      subst h2 h4
      refine any_wp (n := n) (dfs := fr.dfs) (a₀ := a) hC hP.own hnb (hs rfl) h1 hpf h5 (g₀ := g) (s₀ := S.get) (w₀ := w) hG (fun a' w' hh => hQ .normal a' w' (by rw [← h3] at hh; exact hh)) hn ops.size _ a _ (by simp) ?_ ?_ ?_
      · simp
      · intro j i hj
        simp [Array.getElem?_replicate] at hj
        split at hj <;> simp at hj
      · have e1 : (fun m => (Array.replicate ops.size false).getD m false) = fun _ => false := by
          funext m
          simp only [Array.getD_eq_getD_getElem?, Array.getElem?_replicate]
          split <;> rfl
        rw [e1, tm_false, st_false]
        exact ⟨⟨g, Ext.drew _ _ _, hi.drew, hf.ext (Ext.drew _ _ _), hd.ext (Ext.drew _ _ _)⟩, rfl⟩
    · simp at h
    · simp at h

theorem wpIn_scope {c : Code} {N : Nat} {Q : Exit → Act → World → Prop} {a : Act} {w : World} (h : c.wpIn (Fw none) N P (Exit.noGoto Q) a w) : (Code.scope c).wpIn (Fw none) N P Q a w :=
  wpIn_wide.2 (wp_scope_straight (wpIn_wide.1 h))

theorem wpIn_loop_fuel {ro : Option Nat} {c : Code} {N : Nat} {Q : Exit → Act → World → Prop} (J : Nat → Act → World → Prop)
    (round : ∀ j a w, J j a w → c.wpIn (Fw ro) N P (Exit.then (fun a' w' => ∃ i, i < j ∧ J i a' w') Q) a w) {j : Nat} {a : Act} {w : World} (h : J j a w) : (Code.loop c).wpIn (Fw ro) N P Q a w := by
  have least : ∀ (a : Act) (w : World), (∃ j, J j a w) → ∃ j, J j a w ∧ ∀ i, J i a w → j ≤ i := by
    intro a w ⟨j, hj⟩
    induction j using Nat.strongRecOn with
    | _ j ih =>
      by_cases hl : ∃ i, i < j ∧ J i a w
      · obtain ⟨i, h1, h2⟩ := hl
        exact ih i h1 h2
      · exact ⟨j, hj, fun i hi => Nat.le_of_not_lt fun hlt => hl ⟨i, hlt, hi⟩⟩
  let μ : Act → World → Nat := fun a w => open Classical in if h : ∃ j, J j a w then Classical.choose (least a w h) else 0
  have hμ : ∀ a w (h : ∃ j, J j a w), J (μ a w) a w ∧ ∀ i, J i a w → μ a w ≤ i := by
    intro a w h
    have : μ a w = Classical.choose (least a w h) := by simp only [μ]; rw [dif_pos h]
    rw [this]
    exact Classical.choose_spec (least a w h)
  refine wpIn_loop (fun a w => ∃ j, J j a w) μ ⟨j, h⟩ fun a w hI => ?_
  obtain ⟨h1, h2⟩ := hμ a w hI
  refine wpIn_mono (round _ _ _ h1) fun e a' w' he => ?_
  cases e <;> try exact he
  obtain ⟨i, h3, h4⟩ := he
  have h5 := hμ a' w' ⟨i, h4⟩
  exact ⟨⟨i, h4⟩, Nat.lt_of_le_of_lt (h5.2 i h4) h3⟩

/-- a loop over a function begins. -/
theorem start_run (hi : Inv g S.get w) {S1 : St} {n : Nat} (hnb : n ≤ glBase) {ps : Array Tmp} {assign body : Code} {tm : Tr AVal} {tmps : Array Value} (hf : Frm g S.get w tm tmps) (hn : n ≤ tmps.size)
    (hok : codeOk assign = true ∧ codeOk body = true) (h : startRange n ps.toList assign body tm S = some S1) (fn : FuncId) :
    ∃ g1 w1, (Instr.enterLoop fn tmps ps assign body none).run P w = .ok (w.heap.size + 1, [{ target := .collected w.heap.size, args := #[] }]) w1 ∧ Ext g S.get w g1 S1.get w1 ∧ Inv g1 S1.get w1 ∧
      g1.bx S.next = some w.heap.size ∧ g1.bx (S.next + 1) = some (w.heap.size + 1) := by
  unfold startRange at h
  split at h <;> simp at h
  rename_i h1 h2
  subst h
  obtain ⟨g1, e1, i1, b1⟩ := new_ho hi h1 (h := .dl true) (o := .deferred (some [])) rfl
  have h2' : upd S.get S.next (.ho (.dl true)) (S.next + 1) = none := by rw [upd_other _ _ (by omega)]; exact h2
  obtain ⟨g2, e2, i2, b2⟩ := new_ho i1 h2' (h := .lp tm n ps.toList assign body .ready none)
    (o := .loop { state := .ready, pending := none, fn, tmps, params := ps, assign, body, defers := w.heap.size }) ⟨_, rfl, rfl, rfl, rfl, rfl, rfl, ⟨hn, hnb, hok.1, hok.2⟩, hf.ext e1⟩
  have hst : (({ S with next := S.next + 16 } : St).did [S.next, S.next + 1] [(S.next, .ho (.dl true)), (S.next + 1, .ho (.lp tm n ps.toList assign body .ready none))]).get =
      upd (upd S.get S.next (.ho (.dl true))) (S.next + 1) (.ho (.lp tm n ps.toList assign body .ready none)) := did_get _ _ _
  refine ⟨g2, _, run_enterLoop_outer fn tmps ps assign body, ?_, ?_, e2.bx _ _ b1, by simpa using b2⟩
  · rw [hst]; exact e1.trans e2
  · rw [hst]; exact i2

/-- what is left to do, as code. -/
def PendWp (F : Fence) (N : Nat) (P : Program) (Q : Exit → Act → World → Prop) (a : Act) (w : World) : Option Code → Prop
  | none => Q .normal a w
  | some c => c.wpIn F N P Q a w

theorem pendX_wp {F : Fence} {N : Nat} {pend : Option Code} {x : XExit} (h : pendX pend = some x) {Q : Exit → Act → World → Prop} {a : Act} {w : World}
    (hQ : match x with | .normal => Q .normal a w | .ret => Q .ret a w | .exit i => Q (.exit i) a w | .pan _ => True) :
    PendWp F N P Q a w pend := by
  unfold pendX at h
  split at h <;> simp at h <;> subst h
  · exact hQ
  · exact wpIn_ret hQ
  · exact wpIn_exit hQ

theorem code_wp {gl : Tr AVal} (hC : CallOk2 P gl C) (hP : Fine P) (hnb : n ≤ glBase) {k N : Nat} {rd : Bool} {ro : Option Nat} (hro : rd = false → ro = none) :
    ∀ (c : Code) {Q : Exit → Act → World → Prop} {fr fr' : Fr} {S S' : St} {x : XExit} {g : Sg} {w : World} {a : Act}, codeOk c = true →
    evCode C imp P k n rd c fr S = some (x, fr', S') → Inv g S.get w → Glob gl g.imm w → Frm g S.get w fr.tm a.tmps → RepD g S.get w fr.dfs a.defers → n ≤ a.tmps.size →
    (∀ e a' w', Left g S.get w a x fr'.tm fr'.dfs S' e a' w' → Q e a' w') → c.wpIn (Fw ro) N P Q a w := by
  intro c
  induction c with
  | skip =>
    intro Q fr fr' S S' x g w a _ h hi hG hf hd hn hQ
    simp [evCode] at h
    obtain ⟨rfl, rfl, rfl⟩ := h
    exact wpIn_skip (hQ .normal a w (Here.refl hi hf hd))
  | label l =>
    intro Q fr fr' S S' x g w a _ h hi hG hf hd hn hQ
    simp [evCode] at h
    obtain ⟨rfl, rfl, rfl⟩ := h
    exact wpIn_label (hQ .normal a w (Here.refl hi hf hd))
  | region id ops draw =>
    intro Q fr fr' S S' x g w a hok h hi hG hf hd hn hQ
    simp only [evCode] at h
    exact region_wp hC hP hnb hro (fun hd => by subst hd; exact hok) h hi hG hf hd hn hQ
  | seq c1 c2 ih1 ih2 =>
    intro Q fr fr' S S' x g w a hok h hi hG hf hd hn hQ
    simp only [codeOk, Bool.and_eq_true] at hok
    simp only [evCode] at h
    split at h
    · rename_i fr1 S1 h1
      refine wpIn_seq (ih1 hok.1 h1 hi hG hf hd hn fun e a1 w1 hl => ?_)
      cases e <;> simp only [Left] at hl
      obtain ⟨⟨g1, e1, e2, e3, e4⟩, e5⟩ := hl
      exact ih2 hok.2 h e2 (hG.ext e1) e3 e4 (by omega) fun e a2 w2 h2 => hQ e a2 w2 (Left.after e1 e5 h2)
    · rename_i hno
      refine wpIn_seq (ih1 hok.1 h hi hG hf hd hn fun e a1 w1 hl => ?_)
      cases e with
      | normal =>
        cases x <;> simp only [Left] at hl
        exact absurd h (hno _ _)
      | _ => exact hQ _ _ _ hl
  | cond o c1 c2 ih1 ih2 =>
    intro Q fr fr' S S' x g w a hok h hi hG hf hd hn hQ
    simp only [codeOk, Bool.and_eq_true] at hok
    simp only [evCode] at h
    split at h
    · rename_i hc
      exact wpIn_cond_true (operand_rep hf hc) (ih1 hok.1 h hi hG hf hd hn hQ)
    · rename_i hc
      exact wpIn_cond_false (operand_rep hf hc) (ih2 hok.2 h hi hG hf hd hn hQ)
    · simp at h
  | block id c ih =>
    intro Q fr fr' S S' x g w a hok h hi hG hf hd hn hQ
    simp only [codeOk] at hok
    simp only [evCode] at h
    split at h
    · rename_i i fr1 S1 h1
      refine wpIn_block (ih hok h1 hi hG hf hd hn fun e a1 w1 hl => ?_)
      cases e <;> simp only [Left] at hl
      rename_i j
      obtain ⟨rfl, hl⟩ := hl
      simp only [Exit.inBlock]
      split at h
      · rename_i hb
        have hb := Nat.eq_of_beq_eq_true hb
        simp at h
        obtain ⟨rfl, rfl, rfl⟩ := h
        rw [if_pos hb]
        exact hQ .normal _ _ hl
      · rename_i hb
        simp at h
        obtain ⟨rfl, rfl, rfl⟩ := h
        rw [if_neg (fun e => by subst e; rw [Nat.beq_refl] at hb; simp at hb)]
        exact hQ (.exit i) _ _ ⟨rfl, hl⟩
    · rename_i hno
      refine wpIn_block (ih hok h hi hG hf hd hn fun e a1 w1 hl => ?_)
      cases e with
      | exit j =>
        cases x <;> simp only [Left] at hl
        exact absurd h (hno _ _ _)
      | _ => exact hQ _ _ _ hl
  | loop c ih =>
    intro Q fr fr' S S' x g w a hok h hi hG hf hd hn hQ
    simp only [codeOk] at hok
    simp only [evCode] at h
    let J : Nat → Act → World → Prop := fun j a1 w1 => ∃ fr1 S1, loopN (evCode C imp P k n rd c) j fr1 S1 = some (x, fr', S') ∧ Here g S.get w a fr1.tm fr1.dfs S1.get a1 w1
    refine wpIn_loop_fuel J (j := k) ?_ ⟨fr, S, h, Here.refl hi hf hd⟩
    rintro j a1 w1 ⟨fr1, S1, h1, hh⟩
    obtain ⟨⟨g1, e1, e2, e3, e4⟩, e5⟩ := hh
    cases j with
    | zero => simp [loopN] at h1
    | succ j =>
      simp only [loopN] at h1
      split at h1
      · rename_i fr2 S2 h2
        refine ih hok h2 e2 (hG.ext e1) e3 e4 (by omega) fun e a2 w2 hl => ?_
        cases e <;> simp only [Left] at hl
        exact ⟨j, Nat.lt_succ_self j, fr2, S2, h1, Here.then e1 e5 hl⟩
      · rename_i hno
        refine ih hok h1 e2 (hG.ext e1) e3 e4 (by omega) fun e a2 w2 hl => ?_
        cases e with
        | normal =>
          cases x <;> simp only [Left] at hl
          exact absurd h1 (hno _ _)
        | _ => exact hQ _ _ _ (Left.after e1 e5 hl)
  | exit id =>
    intro Q fr fr' S S' x g w a _ h hi hG hf hd hn hQ
    simp [evCode] at h
    obtain ⟨rfl, rfl, rfl⟩ := h
    exact wpIn_exit (hQ (.exit id) a w ⟨rfl, Here.refl hi hf hd⟩)
  | scope c ih =>
    intro Q fr fr' S S' x g w a hok h hi hG hf hd hn hQ
    simp only [codeOk] at hok
    simp only [evCode] at h
    split at h <;> try (simp at h; done)
    obtain rfl := hro rfl
    refine wpIn_scope (ih hok h hi hG hf hd hn fun e a1 w1 hl => ?_)
    cases e with
    | goto l => cases x <;> simp only [Left] at hl
    | _ => exact hQ _ _ _ hl
  | ret =>
    intro Q fr fr' S S' x g w a _ h hi hG hf hd hn hQ
    simp [evCode] at h
    obtain ⟨rfl, rfl, rfl⟩ := h
    exact wpIn_ret (hQ .ret a w (Here.refl hi hf hd))
  | rangeFunc go ps assign body ih1 ih2 =>
    intro Q fr fr' S S' x g w a hok h hi hG hf hd hn hQ
    simp only [evCode] at h
    split at h <;> try (simp at h; done)
    rename_i gv hgv
    split at h <;> try (simp at h; done)
    rename_i f cap hfn
    split at h <;> try (simp at h; done)
    rename_i s1 hst
    obtain rfl := hro rfl
    obtain ⟨vs, v1, v2⟩ := fnOf_rep (operand_rep hf hgv) hfn
    refine wpIn_rangeFunc fun fn _ => ?_
    obtain ⟨g1, w1, r1, e1, i1, b1, b2⟩ := start_run (P := P) hi hnb hf hn (by simpa [codeOk] using hok) hst fn
    have hargs : RepAs g1 s1.get w1 (.rf .yld (S.next + 1) :: cap) (.func (.yield (w.heap.size + 1)) #[] #[] :: vs) := ⟨_, _, rfl, ⟨_, b2, rfl⟩, RepAs.ext e1 _ _ v2⟩
    unfold endRange at h
    split at h
    · rename_i rv s2 hcall
      obtain ⟨hb, hcl⟩ := hC.fn _ _ _ _ _ _ _ hcall i1 (hG.ext e1) hargs
      split at h <;> try (simp at h; done)
      rename_i tm' n' ps' as' bd' st pend hget
      have key : st ≠ .busy ∧ pendX pend = some x ∧ fr' = { fr with dfs := .mark S.next :: fr.dfs } ∧ S' = s2.did [S.next + 1] [(S.next + 1, .ho (.lp tm' n' ps' as' bd' .exhausted pend))] := by
        split at h <;> simp at h
        rename_i hno hpx
        obtain ⟨rfl, rfl, rfl⟩ := h
        exact ⟨fun e => hno e, hpx, rfl, rfl⟩
      obtain ⟨k1, k2, rfl, rfl⟩ := key
      refine ⟨w.heap.size + 1, [{ target := .collected w.heap.size, args := #[] }], w1, { target := .fn (.func f) vs.toArray, args := #[.func (.yield (w.heap.size + 1)) #[] #[]] }, w1, f,
        (.func (.yield (w.heap.size + 1)) #[] #[] :: vs).toArray, w1, r1, ?_, fun _ _ => trivial, ?_, by simp [Fw, Fence.wide], ?_⟩
      · have e : resolve a.eval (rangeCall go (w.heap.size + 1)) 0 = Deferred.ofValue (a.eval go) #[.func (.yield (w.heap.size + 1)) #[] #[]] := by
          simp only [resolve, List.map_toArray, List.map_cons, List.map_nil]; rfl
        rw [e, v1]
        simp [Deferred.ofValue]
      · simp [invoke, run_callFunc hP.own hb]
      · refine CallsIn.mono (show CallsIn (Fw none) (N - 1) P f _ w1 _ from hcl.more (Nat.zero_le _)) fun e w3 hc => ?_
        cases e with
        | panicked chain => exact hc.elim
        | outgrown => exact hc.elim
        | returned u =>
          obtain ⟨g2, f1, f2, f3⟩ := hc
          have bl := f1.bx _ _ b2
          obtain ⟨o, q1, r, rfl, q2, q3, q4, q5, q6, q7, q8⟩ := f2.at_ho hget bl
          obtain ⟨z1, z2⟩ := set_ho f2 hget bl (h := .lp tm' n' ps' as' bd' .exhausted pend) (o := .loop { r with state := .exhausted }) ⟨_, rfl, rfl, q3, q4, q5, q6, q7, q8⟩
          have hs3 : upd s2.get (S.next + 1) (.ho (.lp tm' n' ps' as' bd' .exhausted pend)) = (s2.did [S.next + 1] [(S.next + 1, .ho (.lp tm' n' ps' as' bd' .exhausted pend))]).get := by rw [did_get]; rfl
          rw [hs3] at z1 z2
          refine ⟨pend, _, by rw [← q3]; exact run_endLoop q1 (by rw [q2]; exact k1), ?_⟩
          have hext := (e1.trans f1).trans z1
          have hh : Here g S.get w a fr.tm (.mark S.next :: fr.dfs) (s2.did [S.next + 1] [(S.next + 1, .ho (.lp tm' n' ps' as' bd' .exhausted pend))]).get
              { a with defers := [{ target := .collected w.heap.size, args := #[] }] ++ a.defers } (w3.putObj (w.heap.size + 1) (.loop { r with state := .exhausted })) :=
            ⟨⟨g2, hext, z2, hf.ext hext, ⟨w.heap.size, a.defers, rfl, (f1.trans z1).bx _ _ b1, hd.ext hext⟩⟩, rfl⟩
          have := pendX_wp (F := Fw none) (N := N) (P := P) k2 (Q := Q) (a := { a with defers := [{ target := .collected w.heap.size, args := #[] }] ++ a.defers })
            (w := w3.putObj (w.heap.size + 1) (.loop { r with state := .exhausted })) (by
              cases x with
              | normal => exact hQ .normal _ _ hh
              | ret => exact hQ .ret _ _ hh
              | exit i => exact hQ (.exit i) _ _ ⟨rfl, hh⟩
              | pan v => trivial)
          cases pend with
          | none => exact this
          | some c => exact this
    · rename_i v s2 hcall
      obtain ⟨hb, hcl⟩ := hC.fn _ _ _ _ _ _ _ hcall i1 (hG.ext e1) hargs
      simp at h
      obtain ⟨rfl, rfl, rfl⟩ := h
      refine ⟨w.heap.size + 1, [{ target := .collected w.heap.size, args := #[] }], w1, { target := .fn (.func f) vs.toArray, args := #[.func (.yield (w.heap.size + 1)) #[] #[]] }, w1, f,
        (.func (.yield (w.heap.size + 1)) #[] #[] :: vs).toArray, w1, r1, ?_, fun _ _ => trivial, ?_, by simp [Fw, Fence.wide], ?_⟩
      · have e : resolve a.eval (rangeCall go (w.heap.size + 1)) 0 = Deferred.ofValue (a.eval go) #[.func (.yield (w.heap.size + 1)) #[] #[]] := by
          simp only [resolve, List.map_toArray, List.map_cons, List.map_nil]; rfl
        rw [e, v1]
        simp [Deferred.ofValue]
      · simp [invoke, run_callFunc hP.own hb]
      · refine CallsIn.mono (show CallsIn (Fw none) (N - 1) P f _ w1 _ from hcl.more (Nat.zero_le _)) fun e w3 hc => ?_
        cases e with
        | returned u => exact hc.elim
        | outgrown => exact hc.elim
        | panicked chain =>
          obtain ⟨g2, u, rfl, f1, f2, f3⟩ := hc
          have hext := e1.trans f1
          exact hQ (.panic _) _ _ ⟨⟨g2, u, rfl, hext, f2, f3, hf.ext hext, ⟨w.heap.size, a.defers, rfl, f1.bx _ _ b1, hd.ext hext⟩⟩, rfl⟩
    · simp at h
  | _ =>
    intro Q fr fr' S S' x g w a _ h
    simp [evCode] at h

end
end Go.Proofs.YtceccojmekpneaaGreatDoor.Sw
