/- Operations, calls among them: what comes of each. -/
import Derived.Test.YtceccojmekpneaaGreatDoorSwV
import Derived.RangeFuncRecord
namespace Go.Proofs.YtceccojmekpneaaGreatDoor.Sw
open Go.RowKit

/-- a function with a body, that is no function of the model's own. -/
def HasBody (P : Program) (f : Nat) : Prop := ∃ fn c, P.funcs[f]? = some fn ∧ fn.body = some c

/-- no function is one of the model's own. -/
def NoOwn (P : Program) : Prop := ∀ (f : Nat) (fn : Func), P.funcs[f]? = some fn → (fn.name == "runtime.NumGoroutine") = false

/-- what a call comes to. -/
def Came (g : Sg) (s : Sto) (w : World) (r : CR) (e : Ending) (w' : World) : Prop :=
  match r, e with
  | .ret v S', .returned u => ∃ g', Ext g s w g' S'.get w' ∧ Inv g' S'.get w' ∧ RepA g' S'.get w' v u
  | .pan v S', .panicked chain => ∃ g' u, chain = [{ v := u, recovered := false }] ∧ Ext g s w g' S'.get w' ∧ Inv g' S'.get w' ∧ RepA g' S'.get w' v u
  | _, _ => False

/-- the fence of an activation: of a function; of a round of a loop over a function. -/
def Fw (ro : Option Nat) : Fence := { Fence.wide with round := ro }

/-- what is known of package-level variables. -/
def Glob (gl : Tr AVal) (I : Nat → Nat → Prop) (w : World) : Prop :=
  ∀ t x, gl.get t = some x → glBase ≤ t ∧ ∃ y, x = .p y ∧ RepP I w y (.pointer (some ⟨t - glBase, 0, none⟩))

theorem Glob.keeps {gl : Tr AVal} {I I' : Nat → Nat → Prop} {w w' : World} (hk : Keeps I I' w w') (h : Glob gl I w) : Glob gl I' w' := fun t x hx => by
  obtain ⟨h1, y, rfl, h2⟩ := h t x hx
  exact ⟨h1, y, rfl, RepP.keeps hk _ _ h2⟩

theorem Glob.ext {gl : Tr AVal} {g g' : Sg} {s s' : Sto} {w w' : World} (he : Ext g s w g' s' w') (h : Glob gl g.imm w) : Glob gl g'.imm w' := h.keeps he.keeps

/-- what is promised of calls. -/
structure CallOk (P : Program) (gl : Tr AVal) (C : CallFn) : Prop where
  fn : ∀ (f : Nat) (args : List AVal) (S : St) (r : CR) (g : Sg) (w : World) (us : List Value), C (.fn f) args S = some r → Inv g S.get w → Glob gl g.imm w → RepAs g S.get w args us →
    HasBody P f ∧ CallsIn Fence.wide 0 P f us.toArray w (Came g S.get w r)
  iso : ∀ (f : Nat) (args : List AVal) (r : CR) (g : Sg) (w : World) (us : List Value), C (.iso f) args St.empty = some r → Inv g St.empty.get w → Glob gl g.imm w → RepAs g St.empty.get w args us →
    HasBody P f ∧ CallsIn Fence.wide 0 P f us.toArray w (Came g St.empty.get w r)
  yld : ∀ (id : Nat) (args : List AVal) (S : St) (r : CR) (g : Sg) (w : World) (us : List Value), C (.yld id) args S = some r → Inv g S.get w → Glob gl g.imm w → RepAs g S.get w args us →
    ∃ (l : Nat) (rec : Loop), g.bx id = some l ∧ w.heap[l]? = some (.loop rec) ∧ us.length = rec.params.size ∧
      RoundIn Fence.wide 0 P l rec.fn ((rec.params.zip us.toArray).foldl (fun tmps (t, a) => tmps.setIfInBounds t a) rec.tmps) rec.assign rec.body w (Came g S.get w r)

/-- what an operation that calls comes to. -/
def CameR (g : Sg) (s : Sto) (w : World) (r : R) (e : Ending) (w' : World) : Prop :=
  match r, e with
  | .eff x, .returned u => ∃ g', Ext g s w g' (upds s x.wr) w' ∧ Inv g' (upds s x.wr) w' ∧ RepA g' (upds s x.wr) w' x.v u
  | .all v S', .returned u => ∃ g', Ext g s w g' S'.get w' ∧ Inv g' S'.get w' ∧ RepA g' S'.get w' v u
  | .pan v S', .panicked chain => ∃ g' u, chain = [{ v := u, recovered := false }] ∧ Ext g s w g' S'.get w' ∧ Inv g' S'.get w' ∧ RepA g' S'.get w' v u
  | _, _ => False

section
variable {P : Program} {g : Sg} {S : St} {w : World}

theorem inv_empty {I : Nat → Nat → Prop} {w : World} (h : ∀ b o, I b o → b < w.heap.size) : Inv ⟨I, fun _ => none, fun _ => none, fun _ => 0, w.heap.size⟩ St.empty.get w := by
  have hn : ∀ id, St.empty.get id = none := fun id => Tr.get_lf id
  refine ⟨fun id cs h => ?_, fun id sz n xs cur lost fz h => ?_, fun _ _ _ _ h => by simp at h, fun _ _ h => by simp at h, fun _ _ _ h => by simp at h, h, Nat.le_refl _, fun id o h => ?_⟩
  · rw [hn] at h; simp at h
  · rw [hn] at h; simp at h
  · rw [hn] at h; simp at h

theorem callAt_sound {C : CallFn} {gl : Tr AVal} (hC : CallOk P gl C) (hi : Inv g S.get w) (hG : Glob gl g.imm w) {imp : Nat → Bool} {b f : Nat} {args : List AVal} {us : List Value} {r : R} (hr : RepAs g S.get w args us)
    (h : callAt C imp S b f args = some r) : HasBody P f ∧ CallsIn Fence.wide 0 P f us.toArray w (CameR g S.get w r) := by
  have himm : ∀ (ids : List Nat) (b o : Nat), immOf g S.get ids b o → b < w.heap.size := fun ids b o h => by
    rcases h with h | ⟨id, st, m, sz, n, xs, cur, lost, fz, h1, h2, _⟩
    · exact hi.immS b o h
    · exact (hi.rgS _ _ _ _ h2).2.2
  unfold callAt at h
  split at h
  · split at h <;> try (simp at h; done)
    rename_i ps ids hp
    have h1 := purs_rep (pur_rep (fun _ => rfl) hi depth) hp hr
    have hi1 := inv_empty (himm ids)
    have hG1 : Glob gl (immOf g S.get ids) w := hG.keeps (.mono fun _ _ h => .inl h)
    have hr1 : RepAs ⟨immOf g S.get ids, fun _ => none, fun _ => none, fun _ => 0, w.heap.size⟩ St.empty.get w (ps.map .p) us := mapP_rep h1
    split at h
    · rename_i v S' hc
      obtain ⟨hb, hcall⟩ := hC.iso _ _ _ _ _ _ hc hi1 hG1 hr1
      refine ⟨hb, CallsIn.mono hcall fun e w' hcm => ?_⟩
      cases e with
      | returned u =>
        obtain ⟨g2, e1, e2, e3⟩ := hcm
        split at h <;> try (simp at h; done)
        rename_i v1 ho
        split at h
        · rename_i v' wr ha
          split at h <;> simp at h
          rename_i hfr
          subst h
          exact call_back (fun _ => rfl) hi (fun _ => rfl) ⟨e2, e1.below, e1.base, fun b o hb h => e1.immB b o hb h⟩ e3 ho ha hfr
      | panicked chain => exact hcm.elim
      | outgrown => exact hcm.elim
    · rename_i v S' hc
      obtain ⟨hb, hcall⟩ := hC.iso _ _ _ _ _ _ hc hi1 hG1 hr1
      refine ⟨hb, CallsIn.mono hcall fun e w' hcm => ?_⟩
      cases e with
      | returned u => exact hcm.elim
      | outgrown => exact hcm.elim
      | panicked chain =>
        obtain ⟨g2, u, rfl, e1, e2, e3⟩ := hcm
        split at h <;> try (simp at h; done)
        rename_i x a hx
        split at h <;> simp at h
        rename_i hf
        subst h
        obtain ⟨f1, f2⟩ := hi.past e1.below (I := fun _ _ => False) (fun _ _ h => h.elim) (fun _ _ h => h.elim)
        exact ⟨_, u, rfl, f1, f2, flat_rep x u hf (pur_rep (fun _ => rfl) e2 _ _ _ _ _ hx e3)⟩
    · simp at h
  · split at h <;> simp at h <;> rename_i hc <;> subst h <;> obtain ⟨hb, hcall⟩ := hC.fn _ _ { S with log := .e } _ _ _ _ hc hi hG hr <;> refine ⟨hb, CallsIn.mono hcall fun e w' hcm => ?_⟩ <;>
      cases e <;> exact hcm

/-- what the next operation may count on, after one that came to r. -/
def ThenR (g : Sg) (S : St) (w : World) (r : R) (K : Value → World → Prop) (Q : Value → World → Prop) : Prop :=
  match r with
  | .eff x => ∀ u g' w', Ext g S.get w g' (upds S.get x.wr) w' → Inv g' (upds S.get x.wr) w' → RepA g' (upds S.get x.wr) w' x.v u → K u w'
  | .all v S' => ∀ u g' w', Ext g S.get w g' S'.get w' → Inv g' S'.get w' → RepA g' S'.get w' v u → K u w'
  | .pan v S' => ∀ u g' w', Ext g S.get w g' S'.get w' → Inv g' S'.get w' → RepA g' S'.get w' v u → Q u w'
  | .dfr _ _ => False

theorem came_then {r : R} {K Q : Value → World → Prop} (h : ThenR g S w r K Q) {e : Ending} {w' : World} (hc : CameR g S.get w r e w') :
    match e with | .returned u => K u w' | .panicked chain => ∃ u, chain = [{ v := u, recovered := false }] ∧ Q u w' | .outgrown => False := by
  cases r <;> cases e <;> simp only [CameR] at hc <;> try exact hc.elim
  · obtain ⟨g', e1, e2, e3⟩ := hc; exact h _ _ _ e1 e2 e3
  · obtain ⟨g', e1, e2, e3⟩ := hc; exact h _ _ _ e1 e2 e3
  · obtain ⟨g', u, rfl, e1, e2, e3⟩ := hc; exact ⟨u, rfl, h _ _ _ e1 e2 e3⟩

theorem run_callFunc (hN : NoOwn P) {f : Nat} (hb : HasBody P f) (args : Array Value) : (Go.callFunc f args).run P w = .ok (.enter f args) w := by
  obtain ⟨fn, c, h1, h2⟩ := hb
  have := hN f fn h1
  simp at this
  simp [Go.callFunc, h1, h2, this]

theorem enter_wp {ro : Option Nat} {o : Oper} {a : Act} {n f : Nat} {args : Array Value} {K : Act → World → Prop} {Q : Exit → Act → World → Prop} {r : R}
    (hno : ∀ c, o.op ≠ .defer c) (hrun : (execOp a.eval o).run P w = .ok (.enter f args) w) (hcall : CallsIn Fence.wide 0 P f args w (CameR g S.get w r))
    (hK : ThenR g S w r (fun u w' => K (a.put o.dst u) w') (fun u w' => Q (.panic [{ v := u, recovered := false }]) a w')) : o.wpIn (Fw ro) n P a w K Q := by
  refine ⟨fun _ _ => trivial, ?_⟩
  rw [Oper.semAt_eq _ _ _ hno, hrun, Oper.uponIn_enter]
  refine ⟨fun h => by simp [Fw, Fence.wide] at h, CallsIn.mono (show CallsIn (Fw ro) (n - 1) P f args w (CameR g S.get w r) from hcall.more (Nat.zero_le _)) fun e w' hc => ?_⟩
  have := came_then hK hc
  cases e with
  | returned u => exact this
  | panicked chain => obtain ⟨u, rfl, h⟩ := this; exact h
  | outgrown => exact this.elim

/-- a call of the body of a loop over a function. -/
theorem round_wp {ro : Option Nat} {o : Oper} {a : Act} {n l f : Nat} {tmps : Array Value} {assign body : Code} {K : Act → World → Prop} {Q : Exit → Act → World → Prop} {v : AVal} {S' : St}
    (hno : ∀ c, o.op ≠ .defer c) (hrun : (execOp a.eval o).run P w = .ok (.round l f tmps assign body) w) (hcall : RoundIn Fence.wide 0 P l f tmps assign body w (Came g S.get w (.ret v S')))
    (hK : ThenR g S w (.all v S') (fun u w' => K (a.put o.dst u) w') (fun u w' => Q (.panic [{ v := u, recovered := false }]) a w')) : o.wpIn (Fw ro) n P a w K Q := by
  refine ⟨fun _ _ => trivial, ?_⟩
  rw [Oper.semAt_eq _ _ _ hno, hrun, Oper.uponIn_round]
  refine ⟨fun h => by simp [Fw, Fence.wide] at h, trivial, fun c cs hr => ?_⟩
  obtain ⟨e, w', hc, hs⟩ := hcall.2 c cs (room_wide _)
  refine ⟨e, w', ?_, hs⟩
  cases e with
  | returned u =>
    obtain ⟨g', e1, e2, e3⟩ := hc
    exact hK u g' w' e1 e2 e3
  | panicked chain => exact hc.elim
  | outgrown => exact hc.elim

theorem fnOf_rep {s : Sto} {x : AVal} {v : Value} {f : Fn} {cap : List AVal} (hx : RepA g s w x v) (h : fnOf x = some (f, cap)) : ∃ vs : List Value, v = .func f #[] vs.toArray ∧ RepAs g s w cap vs := by
  unfold fnOf at h
  split at h <;> simp at h
  · obtain ⟨rfl, rfl⟩ := h
    obtain ⟨vs, rfl, h⟩ := hx
    exact ⟨vs, rfl, mapP_rep h⟩
  · obtain ⟨rfl, rfl⟩ := h
    exact hx

theorem run_method {t : Nat} {v : Value} {name : String} {f k : Nat} (h : methodAt P t name = some f) : (method (k + 1) t v name).run P w = .ok (f, v) w := by
  unfold methodAt at h
  split at h <;> try (simp at h; done)
  rename_i i hti
  split at h <;> try (simp at h; done)
  rename_i m hm
  split at h <;> try (simp at h; done)
  rename_i f' ptr hpath hf
  have hp : m.path = #[] := by simpa using hpath
  split at h <;> simp at h
  · rename_i e hu
    subst h
    simp [method, run_typeInfo' hti, hm, hp, follow, hf, receiverAt, run_underlying' hu, Place.get]
  · rename_i d hno hu
    subst h
    cases d <;> simp [method, run_typeInfo' hti, hm, hp, follow, hf, receiverAt, run_underlying' hu, Place.get]
    rename_i e
    exact (hno e rfl).elim

theorem callOp_wp {ro : Option Nat} {C : CallFn} {gl : Tr AVal} (hC : CallOk P gl C) (hN : NoOwn P) (hi : Inv g S.get w) (hG : Glob gl g.imm w) {tm : Tr AVal} {a : Act} (hf : Frm g S.get w tm a.tmps) {imp : Nat → Bool} {n b : Nat} {o : Oper} {c : Call} {r : R}
    (ho : o.op = .call c) (h : callOp C imp P tm S b c = some r) {K : Act → World → Prop} {Q : Exit → Act → World → Prop}
    (hK : ThenR g S w r (fun u w' => K (a.put o.dst u) w') (fun u w' => Q (.panic [{ v := u, recovered := false }]) a w')) : o.wpIn (Fw ro) n P a w K Q := by
  have hmap : c.args.map a.eval = (c.args.toList.map a.eval).toArray := by apply Array.ext'; rw [Array.toList_map]
  unfold callOp at h
  split at h
  · rename_i x hcal
    split at h <;> try (simp at h; done)
    rename_i fv args hfv hargs
    split at h <;> try (simp at h; done)
    rotate_left
    · -- the body of a loop over a function
      rename_i hfn
      split at h <;> try (simp at h; done)
      rename_i id
      split at h <;> simp at h
      rename_i v s' hc
      subst h
      obtain ⟨l, h1, h2⟩ := operand_rep hf hfv
      obtain ⟨l', rec, h3, h4, h5, h6⟩ := hC.yld _ _ { S with log := .e } _ _ _ _ hc hi hG (operands_rep hf hargs)
      rw [h1] at h3
      simp at h3
      subst h3
      refine round_wp (by rw [ho]; simp) ?_ h6 hK
      have : (Instr.yield l (c.args.toList.map a.eval).toArray).run P w = _ := run_yield h4 (by simpa using h5)
      simp only [execOp, ho, resolve, hcal, h2, refVal, Deferred.ofValue, Sem.run_bind, Sem.run_pure, Result.andThen_ok, invoke, hmap]
      simpa using this
    rename_i f cap hfn
    obtain ⟨vs, h1, h2⟩ := fnOf_rep (operand_rep hf hfv) hfn
    obtain ⟨hb, hcall⟩ := callAt_sound hC hi hG (RepAs.append (operands_rep hf hargs) h2) h
    refine enter_wp (by rw [ho]; simp) ?_ hcall hK
    simp [execOp, ho, resolve, hcal, h1, Deferred.ofValue, invoke, run_callFunc hN hb, hmap]
  · rename_i x name hcal
    split at h <;> try (simp at h; done)
    rename_i y args hy hargs
    split at h <;> try (simp at h; done)
    rename_i t v hif
    split at h <;> try (simp at h; done)
    rename_i f hm
    obtain h1 := ifOf_rep (operand_rep hf hy) hif
    obtain ⟨u, h1, h2⟩ : ∃ u, a.eval x = .iface t u ∧ RepA g S.get w v u := by
      obtain ⟨t1, y, e1, u, e2, e3⟩ : ∃ t1 y, (t = t1 ∧ v = y) ∧ ∃ u, a.eval x = .iface t1 u ∧ RepA g S.get w y u := by simpa using h1
      obtain ⟨rfl, rfl⟩ := e1
      exact ⟨u, e2, e3⟩
    obtain ⟨hb, hcall⟩ := callAt_sound hC hi hG (show RepAs g S.get w (v :: args) (u :: c.args.toList.map a.eval) from ⟨u, _, rfl, h2, operands_rep hf hargs⟩) h
    refine enter_wp (by rw [ho]; simp) ?_ hcall hK
    have e1 : (#[u] : Array Value) ++ (c.args.toList.map a.eval).toArray = (u :: c.args.toList.map a.eval).toArray := by simp
    simp [execOp, ho, resolve, hcal, h1, invoke, callMethod, run_method hm, run_callFunc hN hb, hmap, Made.depth]
    exact List.take_of_length_le (by simp)
  · simp at h

end
end Go.Proofs.YtceccojmekpneaaGreatDoor.Sw
