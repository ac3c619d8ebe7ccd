/- A verified evaluator over the code that the model runs, and a machine over it for runs with unknown values: their words, their operations, and what they stand for. -/
import Derived.Test.YtdnbnpknpejpdaaGreatDoorEvB
import Derived.RecoverIn
import Derived.KernelRfl
import Derived.Lib.LaidTab
import Derived.RowKit3
set_option linter.unusedVariables false
set_option linter.unusedSimpArgs false
set_option linter.unusedSectionVars false
namespace Go.Proofs.YtdnbnpknpejpdaaGreatDoor.Sw
open Go.RowKit
section
variable {C:CallFn} {imp:Nat→Bool} {P:Program} {g:Sg} {s:Sto} {S:St} {w:World} {n:Nat}
theorem did1 {S:St} (rd:List Nat) {id:Nat} {o:Obj}:(S.did rd [(id,o)]).get=upd S.get id o:=aaB _ _ _
theorem cell_run {S:St} (hs:∀ id,s id=S.get id) (hi:Inv g s w) {t:Nat} {x:AVal} {v:Value} {e:Eff} (hx:RepA g s w x v) (h:loadOp P S t x=some e) :
    ∃ u,(do loadVar t (← asAddr v):Sem Value).run P w = .ok u w∧RepA g s w e.v u:=by
  obtain ⟨_,u,h1,h2⟩:=load_run hs hi hx h
  refine ⟨u, ?_,h2⟩
  have:∃ ad,v = .pointer (some ad):=by
    cases v with
    | pointer p =>
      cases p with
      | some ad=>exact ⟨ad,rfl⟩
      | none=>simp [Instr.loadAt,Instr.sureAddr] at h1
    | _=>simp [Instr.loadAt,Instr.sureAddr] at h1
  obtain ⟨ad,rfl⟩:=this
  simpa [Instr.loadAt,Instr.sureAddr,asAddr] using h1
def resVar (tmps:Array Value) (x:ResultVar):Sem Value:=match x with
  | .tmp t=>pure (tmps.getD t undef)
  | .cell a t=>do loadVar t (← asAddr (tmps.getD a undef))
theorem afg {S:St} (hi:Inv g S.get w) {tm:Tr AVal} {tmps:Array Value} (hf:Frm g S.get w tm tmps):∀ {l:List ResultVar} {vs:List AVal} {rd:List Nat},aaN P tm S l=some (vs,rd) →
    ∃ us,(l.mapM (resVar tmps)).run P w = .ok us w∧RepAs g S.get w vs us
  | [],vs,rd,h=>by
    simp [aaN] at h
    obtain ⟨rfl,_⟩:=h
    exact ⟨[],rfl,rfl⟩
  | .tmp t :: l,vs,rd,h=>by
    simp only [aaN] at h
    split at h <;> simp at h
    rename_i v xs rd' h1 h2
    obtain ⟨rfl,_⟩:=h
    have q2:RepA g S.get w v (tmps.getD t undef):=aac (a:={ tmps,defers:=[] }) hf h1
    obtain ⟨us,q3,q4⟩:=afg hi hf h2
    refine ⟨_ :: us, ?_,_,us,rfl,q2,q4⟩
    simp only [List.mapM_cons,resVar,Sem.run_bind,Sem.run_pure,Result.andThen_ok,q3]
  | .cell t ty :: l,vs,rd,h=>by
    simp only [aaN] at h
    split at h <;> try (simp at h; done)
    rename_i x h0
    split at h <;> simp at h
    rename_i e xs rd' h1 h2
    obtain ⟨rfl,_⟩:=h
    have q2:RepA g S.get w x (tmps.getD t undef):=aac (a:={ tmps,defers:=[] }) hf h0
    obtain ⟨r,q5,q6⟩:=cell_run (fun _=>rfl) hi q2 h1
    obtain ⟨us,q3,q4⟩:=afg hi hf h2
    refine ⟨r :: us, ?_,r,us,rfl,q6,q4⟩
    rw [List.mapM_cons,Sem.run_bind,show (resVar tmps (.cell t ty)).run P w = .ok r w from q5]
    simp only [Sem.run_bind,Sem.run_pure,Result.andThen_ok,q3]
theorem akw {S:St} (hi:Inv g S.get w) {tm:Tr AVal} {tmps:Array Value} (hf:Frm g S.get w tm tmps) {fn:Func} {vs:List AVal} {rd:List Nat} (h:aaN P tm S fn.results.toList=some (vs,rd)) :
    ∃ u,(results fn tmps).run P w = .ok u w∧RepA g S.get w (akx vs) u:=by
  obtain ⟨us,h1,h2⟩:=afg hi hf h
  refine ⟨if h:us.toArray.size=1 then us.toArray[0] else .tuple us.toArray, ?_, ?_⟩
  · have e1:results fn tmps=(do let vs ← fn.results.mapM (resVar tmps); pure (if h:vs.size=1 then vs[0] else .tuple vs)):=rfl
    rw [e1,Array.mapM_eq_mapM_toList]
    simp only [Sem.run_bind,Sem.run_map,h1,Result.andThen_ok,Sem.run_pure]
  · unfold akx
    split
    · obtain ⟨u,us',rfl,h3,h4⟩:=h2
      have h4:us' = []:=h4
      subst h4
      simpa using h3
    · rename_i hno
      have:us.length ≠ 1:=by
        rw [RepAs.length h2]
        intro hl
        obtain ⟨v,rfl⟩:=List.length_eq_one_iff.1 hl
        exact hno v rfl
      rw [dif_neg (by simpa using this)]
      exact ajX h2
theorem argsTm_get {gl:Tr AVal}:∀ {args:List AVal} {i t:Nat},(argsTm gl i args).get t=if i≤t∧t < i + args.length then args[t - i]? else gl.get t
  | [],i,t=>by
    rw [if_neg (by simp)]
    rfl
  | v :: args,i,t=>by
    simp only [argsTm,Tr.aa0,argsTm_get (args:=args) (i:=i + 1)]
    by_cases h1:i=t
    · subst h1; simp
    · rw [if_neg h1]
      by_cases h2:i≤t∧t < i + (v :: args).length
      · have h3:i + 1≤t∧t < i + 1 + args.length:=by simp at h2; omega
        rw [if_pos h3,if_pos h2]
        have:t - i=(t - (i + 1)) + 1:=by omega
        rw [this,List.getElem?_cons_succ]
      · have h3:¬ (i + 1≤t∧t < i + 1 + args.length):=by simp at h2; omega
        rw [if_neg h3,if_neg h2]
theorem ahE {gl:Tr AVal} {args:List AVal} {us:List Value} (hG:Glob gl g.imm w) (hr:RepAs g s w args us) (hl:args.length≤glBase) (rest:Array Value) :
    Frm g s w (argsTm gl 0 args) (us.toArray ++ rest):=by
  intro t x ht
  rw [argsTm_get] at ht
  split at ht
  · rename_i h0
    simp at h0 ht
    obtain ⟨u,h1,h2⟩:=hr.get ht
    have hlt:=(List.getElem?_eq_some_iff.1 h1).1
    refine ⟨u, ?_,h2⟩
    unfold slot
    rw [if_pos (by omega),Array.getElem?_append_left (by simpa using hlt)]
    simpa using h1
  · obtain ⟨h1,y,rfl,h2⟩:=hG t x ht
    refine ⟨_, ?_,h2⟩
    unfold slot
    rw [if_neg (by omega)]
def acm (g:Sg) (s:Sto) (w:World):Option AVal→FrameMode→Prop
  | none,u=>u = .returning ∨ ∃ v,u = .panicking [{ v,recovered:=true }]
  | some x,u=>∃ v,u = .panicking [{ v,recovered:=false }]∧RepA g s w x v
theorem acm.ext {g' : Sg} {s' : Sto} {w' : World} (he:Ext g s w g' s' w') {m:Option AVal} {u:FrameMode} (h:acm g s w m u):acm g' s' w' m u:=by
  cases m with
  | none=>exact h
  | some x=>obtain ⟨v,h1,h2⟩:=h; exact ⟨v,h1,RepA.ext he _ _ h2⟩
def ai1 (g:Sg) (s:Sto) (w:World):Option AVal→FrameMode→Prop
  | none,u=>u = .returning
  | some x,u=>∃ v,u = .panicking [{ v,recovered:=false }]∧RepA g s w x v
theorem ai1.rep {m:Option AVal} {u:FrameMode} (h:ai1 g s w m u):acm g s w m u:=by
  cases m with
  | none=>exact .inl h
  | some x=>exact h
theorem acm.settle {m:Option AVal} {u:FrameMode} (h:acm g s w m u):ai1 g s w m (Go.settle u):=by
  cases m with
  | none =>
    rcases h with rfl | ⟨v,rfl⟩
    · rfl
    · simp [Go.settle,ai1]
  | some x =>
    obtain ⟨v,rfl,h2⟩:=h
    exact ⟨v,by simp [Go.settle],h2⟩
structure HereD (g:Sg) (s:Sto) (w:World) (a:Act) (tm' : Tr AVal) (dfs' : List Dfr) (m' : Option AVal) (s' : Sto) (a' : Act) (u' : FrameMode) (w' : World):Prop where
  ex:∃ g',Ext g s w g' s' w' ∧ Inv g' s' w' ∧ Frm g' s' w' tm' a'.tmps∧RepD g' s' w' dfs' a'.defers∧acm g' s' w' m' u'
  size:a'.tmps.size=a.tmps.size
theorem HereD.then {g1:Sg} {s1 s2:Sto} {w1 w2:World} {a a1 a2:Act} {tm2:Tr AVal} {d2:List Dfr} {m2:Option AVal} {u2:FrameMode} (e:Ext g s w g1 s1 w1) (hz:a1.tmps.size=a.tmps.size)
    (h:HereD g1 s1 w1 a1 tm2 d2 m2 s2 a2 u2 w2):HereD g s w a tm2 d2 m2 s2 a2 u2 w2:=by
  obtain ⟨⟨g2,f1,f2⟩,f3⟩:=h
  exact ⟨⟨g2,e.trans f1,f2⟩,f3.trans hz⟩
theorem isRecover_spec {op:Op} (h:aj3 op=true):∃ c,op = .call c∧c.callee = .builtin .recover:=by
  unfold aj3 at h
  split at h
  · exact ⟨_,rfl,rfl⟩
  · simp at h
theorem opsD_wp (hnb:n≤glBase) {N:Nat} {ops:Array Oper} {dfs:List Dfr} {c₀:Frame} {cs:List Frame} {Q:Exit→Act→List Frame→World→Prop} :
    ∀ {l:List Oper} {i b:Nat} {tm tm' : Tr AVal} {S S' : St} {m m' : Option AVal} {u:FrameMode} {g:Sg} {w:World} {a:Act},
    evOpsD P n ops l b tm S m=some (tm',S',m')→l=ops.toList.drop i→i≤ops.size→Inv g S.get w→Frm g S.get w tm a.tmps→RepD g S.get w dfs a.defers→acm g S.get w m u→n≤a.tmps.size →
    (∀ a' u' w',HereD g S.get w a tm' dfs m' S'.get a' u' w' → Q .normal a' ({ c₀ with mode:=u' } :: cs) w') →
    wpOpsSIn Fence.wide N P ops Q (List.range' i (ops.size - i)) a ({ c₀ with mode:=u } :: cs) w
  | [],i,b,tm,tm',S,S',m,m',u,g,w,a,h,hl,hi,hinv,hf,hD,hm,hn,hQ=>by
    simp [evOpsD] at h
    obtain ⟨rfl,rfl,rfl⟩:=h
    have:ops.size - i=0:=by
      have:=congrArg List.length hl
      simp at this
      omega
    rw [this]
    exact hQ a u w ⟨⟨g, .refl _ _ _,hinv,hf,hD,hm⟩,rfl⟩
  | o :: l,i,b,tm,tm',S,S',m,m',u,g,w,a,h,hl,hi,hinv,hf,hD,hm,hn,hQ=>by
    have hlen:i < ops.size:=by
      have:=congrArg List.length hl
      simp at this
      omega
    have ho:ops[i]? = some o:=by
      have:(ops.toList.drop i)[0]? = some o:=by rw [← hl]; simp
      simpa using this
    have hl' : l=ops.toList.drop (i + 1):=by
      have:(ops.toList.drop i).drop 1=l:=by rw [← hl]; simp
      rw [← this,List.drop_drop]
    have er:List.range' i (ops.size - i)=i :: List.range' (i + 1) (ops.size - (i + 1)):=by
      rw [show ops.size - i=(ops.size - (i + 1)) + 1 by omega,List.range'_succ]
    have next:∀ {x:AVal} {S1:St} {tm1:Tr AVal} {m1:Option AVal} {u1:FrameMode} {v:Value} {g1:Sg} {w1:World},tm1=putD tm o.dst x→(∀ d,o.dst=some d→d < n) →
        Ext g S.get w g1 S1.get w1→Inv g1 S1.get w1→RepA g1 S1.get w1 x v→acm g1 S1.get w1 m1 u1→evOpsD P n ops l (b + 16) tm1 S1 m1=some (tm',S',m') →
        wpOpsSIn Fence.wide N P ops Q (List.range' (i + 1) (ops.size - (i + 1))) (a.put o.dst v) ({ c₀ with mode:=u1 } :: cs) w1:=by
      intro x S1 tm1 m1 u1 v g1 w1 htm hd e1 e2 e3 hm1 h
      subst htm
      refine opsD_wp hnb h hl' (by omega) e2 (Frm.put (hf.ext e1) e3 (fun d hd'=>⟨Nat.lt_of_lt_of_le (hd d hd') hn,Nat.lt_of_lt_of_le (hd d hd') hnb⟩)) (by simpa using hD.ext e1) hm1 (by simpa using hn) ?_
      intro a' u' w' hh
      exact hQ a' u' w' (HereD.then e1 (by simp) hh)
    rw [er]
    simp only [wpOpsSIn,ho]
    refine ⟨fun _ _=>trivial, ?_⟩
    simp only [evOpsD] at h
    split at h
    · rename_i hw
      rw [acg hf hw]
      simp only [if_true]
      split at h
      · rename_i hrec
        split at h <;> try (simp at h; done)
        rename_i tm1 ht
        obtain ⟨h1,h2⟩:=aaP ht
        obtain ⟨c,hc1,hc2⟩:=isRecover_spec hrec
        have hrun:(execOp a.eval o).run P w = .ok .recover w:=by
          simp [execOp,hc1,resolve,hc2,invoke,builtin]
        rw [hrun]
        simp only
        cases m with
        | none =>
          have hno:recoverD ({ c₀ with mode:=u } :: cs)=none:=by
            rcases hm with rfl | ⟨v,rfl⟩ <;> simp [recoverD]
          rw [hno]
          exact next h1 h2 (.refl _ _ _) hinv (show RepA g S.get w (.p .nili) .nilIface from rfl) hm h
        | some x =>
          obtain ⟨v,rfl,hx⟩:=hm
          have hyes:recoverD ({ c₀ with mode:=.panicking [{ v,recovered:=false }] } :: cs)=some (v, { c₀ with mode:=.panicking [{ v,recovered:=true }] } :: cs):=by simp [recoverD]
          rw [hyes]
          exact next (m1:=none) h1 h2 (.refl _ _ _) hinv hx (.inr ⟨v,rfl⟩) h
      · split at h <;> try (simp at h; done)
        rename_i e he
        split at h <;> try (simp at h; done)
        rename_i tm1 ht
        obtain ⟨h1,h2⟩:=aaP ht
        obtain ⟨v,g',w',hr,k2,k3,k4⟩:=ajS (fun _=>rfl) hinv hf he
        have hs:upds S.get e.wr=(S.did e.rd e.wr).get:=(aaB _ _ _).symm
        rw [show List.foldl (fun s x=>upd s x.1 x.2) S.get e.wr=upds S.get e.wr from rfl,hs] at k2 k3 k4
        rcases hr with hr | ⟨hr,rfl⟩
        · rw [hr]; exact next h1 h2 k2 k3 k4 (hm.ext k2) h
        · rw [hr]; exact next h1 h2 k2 k3 k4 (hm.ext k2) h
    · rename_i hw
      rw [acg hf hw]
      simp only [Bool.false_eq_true,if_false]
      split at h <;> try (simp at h; done)
      rename_i tm1 ht
      obtain ⟨h1,h2⟩:=aaP ht
      exact next h1 h2 (.refl _ _ _) hinv ajr hm h
    · simp at h
def LeftD (g:Sg) (s:Sto) (w:World) (a:Act) (x:XExit) (tm' : Tr AVal) (dfs' : List Dfr) (m' : Option AVal) (S' : St) (e:Exit) (a' : Act) (u' : FrameMode) (w' : World):Prop :=
  match x,e with
  | .normal, .normal=>HereD g s w a tm' dfs' m' S'.get a' u' w'
  | .exit i, .exit j=>i=j∧HereD g s w a tm' dfs' m' S'.get a' u' w'
  | .ret, .ret=>HereD g s w a tm' dfs' m' S'.get a' u' w'
  | .pan _, .panic _=>True
  | _,_=>False
theorem LeftD.after {g1:Sg} {s1:Sto} {w1 w2:World} {a a1 a2:Act} {x:XExit} {tm2:Tr AVal} {d2:List Dfr} {m2:Option AVal} {S2:St} {e:Exit} {u2:FrameMode} (h1:Ext g s w g1 s1 w1) (hz:a1.tmps.size=a.tmps.size)
    (h2:LeftD g1 s1 w1 a1 x tm2 d2 m2 S2 e a2 u2 w2):LeftD g s w a x tm2 d2 m2 S2 e a2 u2 w2:=by
  cases x <;> cases e <;> simp only [LeftD] at h2 ⊢ <;> first | exact HereD.then h1 hz h2 | exact ⟨h2.1,HereD.then h1 hz h2.2⟩ | exact h2.elim
theorem codeD_plain {gl:Tr AVal} (hC:aa6 P gl C) (hP:Fine P) (hnb:n≤glBase) {k N:Nat} {c₀:Frame} {cs:List Frame} (c:Code) {Q:Exit→Act→List Frame→World→Prop} {fr fr' : Fr} {S S' : St}
    {x:XExit} {m:Option AVal} {u:FrameMode} {g:Sg} {w:World} {a:Act} (hok:codeOk c=true) (h:evCode C imp P k n false c fr S=some (x,fr',S')) (hi:Inv g S.get w) (hG:Glob gl g.imm w)
    (hf:Frm g S.get w fr.tm a.tmps) (hd:RepD g S.get w fr.dfs a.defers) (hm:acm g S.get w m u) (hn:n≤a.tmps.size)
    (hQ:∀ e a' u' w',LeftD g S.get w a x fr'.tm fr'.dfs m S' e a' u' w' → Q e a' ({ c₀ with mode:=u' } :: cs) w'):c.wpSIn Fence.wide N P Q a ({ c₀ with mode:=u } :: cs) w:=by
  refine wpSIn_of_wpIn rfl (alT (ro:=none) hC hP hnb (fun _=>rfl) c hok h hi hG hf hd hn fun e a' w' hl=>hQ e a' u w' ?_)
  cases x <;> cases e <;> simp only [Left] at hl <;> simp only [LeftD] <;> first
    | (obtain ⟨⟨g',e1,e2,e3,e4⟩,e5⟩:=hl; exact ⟨⟨g',e1,e2,e3,e4,hm.ext e1⟩,e5⟩)
    | (obtain ⟨h0,⟨g',e1,e2,e3,e4⟩,e5⟩:=hl; exact ⟨h0,⟨g',e1,e2,e3,e4,hm.ext e1⟩,e5⟩)
    | exact hl.elim
theorem codeD_wp {gl:Tr AVal} (hC:aa6 P gl C) (hP:Fine P) (hnb:n≤glBase) {k N:Nat} {c₀:Frame} {cs:List Frame} :
    ∀ (c:Code) {Q:Exit→Act→List Frame→World→Prop} {fr fr' : Fr} {S S' : St} {x:XExit} {m m' : Option AVal} {u:FrameMode} {g:Sg} {w:World} {a:Act},codeOk c=true →
    evD C imp P k n c fr S m=some (x,fr',S',m')→Inv g S.get w→Glob gl g.imm w→Frm g S.get w fr.tm a.tmps→RepD g S.get w fr.dfs a.defers→acm g S.get w m u→n≤a.tmps.size →
    (∀ e a' u' w',LeftD g S.get w a x fr'.tm fr'.dfs m' S' e a' u' w' → Q e a' ({ c₀ with mode:=u' } :: cs) w')→c.wpSIn Fence.wide N P Q a ({ c₀ with mode:=u } :: cs) w:=by
  have plain:∀ (c:Code) {Q:Exit→Act→List Frame→World→Prop} {fr fr' : Fr} {S S' : St} {x:XExit} {m m' : Option AVal} {u:FrameMode} {g:Sg} {w:World} {a:Act},codeOk c=true →
      withM m (evCode C imp P k n false c fr S)=some (x,fr',S',m')→Inv g S.get w→Glob gl g.imm w→Frm g S.get w fr.tm a.tmps →
      RepD g S.get w fr.dfs a.defers→acm g S.get w m u→n≤a.tmps.size →
      (∀ e a' u' w',LeftD g S.get w a x fr'.tm fr'.dfs m' S' e a' u' w' → Q e a' ({ c₀ with mode:=u' } :: cs) w')→c.wpSIn Fence.wide N P Q a ({ c₀ with mode:=u } :: cs) w:=by
    intro c Q fr fr' S S' x m m' u g w a hok h hi hG hf hd hm hn hQ
    unfold withM at h
    split at h <;> simp at h
    rename_i x1 fr1 s1 h1
    obtain ⟨rfl,rfl,rfl,rfl⟩:=h
    exact codeD_plain hC hP hnb c hok h1 hi hG hf hd hm hn hQ
  intro c
  induction c with
  | seq c1 c2 ih1 ih2 =>
    intro Q fr fr' S S' x m m' u g w a hok h hi hG hf hd hm hn hQ
    have hok':=hok
    simp only [codeOk,Bool.and_eq_true] at hok
    simp only [evD] at h
    split at h
    · exact plain _ hok' h hi hG hf hd hm hn hQ
    · split at h
      · rename_i fr1 S1 m1 h1
        refine wpSIn_seq (ih1 hok.1 h1 hi hG hf hd hm hn fun e a1 u1 w1 hl=>?_)
        cases e <;> simp only [LeftD] at hl
        obtain ⟨⟨g1,e1,e2,e3,e4,e5⟩,e6⟩:=hl
        exact ih2 hok.2 h e2 (hG.ext e1) e3 e4 e5 (by omega) fun e a2 u2 w2 h2=>hQ e a2 u2 w2 (LeftD.after e1 e6 h2)
      · rename_i hno
        refine wpSIn_seq (ih1 hok.1 h hi hG hf hd hm hn fun e a1 u1 w1 hl=>?_)
        cases e with
        | normal =>
          cases x <;> simp only [LeftD] at hl
          exact absurd h (hno _ _ _)
        | _=>exact hQ _ _ _ _ hl
  | region id ops draw =>
    intro Q fr fr' S S' x m m' u g w a hok h hi hG hf hd hm hn hQ
    simp only [evD] at h
    split at h
    · split at h <;> simp at h
      rename_i tm s' m1 h1
      obtain ⟨rfl,rfl,rfl,rfl⟩:=h
      refine wpSIn_region ?_
      rw [List.range_eq_range']
      exact opsD_wp hnb (i:=0) h1 (by simp) (Nat.zero_le _) hi hf hd hm hn (fun a' u' w' hh=>hQ .normal a' u' w' hh)
    · simp at h
    · exact plain _ hok h hi hG hf hd hm hn hQ
  | _ =>
    intro Q fr fr' S S' x m m' u g w a hok h hi hG hf hd hm hn hQ
    simp only [evD] at h
    split at h <;> first | exact plain _ hok h hi hG hf hd hm hn hQ | (simp at h; done)
theorem dfr_wp {gl:Tr AVal} (hC:aa6 P gl C) (hP:Fine P) {k N f:Nat} {args:List AVal} {us:List Value} {S S' : St} {m m' : Option AVal} {u:FrameMode}
    (h:evDfr C gl imp P k f args S m=some (S',m')) (hi:Inv g S.get w) (hG:Glob gl g.imm w) (hr:RepAs g S.get w args us) (hm:acm g S.get w m u) :
    afZ P f∧CallsDIn Fence.wide N P f us.toArray u w fun e u' w'=>(∃ v,e = .returned v) ∧ ∃ g',Ext g S.get w g' S'.get w' ∧ Inv g' S'.get w' ∧ acm g' S'.get w' m' u':=by
  unfold evDfr at h
  split at h <;> try (simp at h; done)
  rename_i fn hf
  split at h <;> try (simp at h; done)
  rename_i c hb
  split at h <;> try (simp at h; done)
  rename_i hl1 hl2
  have hl1:=Nat.le_of_ble_eq_true hl1
  have hl2:=Nat.le_of_ble_eq_true hl2
  split at h <;> try (simp at h; done)
  rename_i x fr s' m1 hev
  have hlen:=RepAs.length hr
  have key:∃ rd,fr.dfs = []∧(∃ vs,aaN P fr.tm s' fn.results.toList=some (vs,rd))∧(x = .normal ∨ x = .ret)∧S' = s'.did rd []∧m' = m1:=by
    split at h <;> simp at h
    · rename_i h1 h2; exact ⟨_,h1,⟨_,h2⟩, .inl rfl,h.1.symm,h.2.symm⟩
    · rename_i h1 h2; exact ⟨_,h1,⟨_,h2⟩, .inr rfl,h.1.symm,h.2.symm⟩
  obtain ⟨rd,k1,⟨vs,k2⟩,k3,rfl,rfl⟩:=key
  have hgs:(s'.did rd []).get=s'.get:=aaB _ _ _
  rw [hgs]
  refine ⟨⟨fn,c,hf,hb⟩,callsDIn_of_wpSIn hf hb trivial fun c₀ cs hu=>?_⟩
  have hc0:c₀ :: cs = { c₀ with mode:=u } :: cs:=by subst hu; rfl
  rw [hc0]
  have hn:max args.length fn.ntmps≤(us.toArray ++ Array.replicate (fn.ntmps - us.toArray.size) undef).size:=by simp; omega
  refine codeD_wp hC hP (by omega) c (hP.code f fn c hf hb) hev hi hG (ahE hG hr hl1 _) rfl hm hn fun e a' u' w' hl=>?_
  have fin:HereD g S.get w { tmps:=us.toArray ++ Array.replicate (fn.ntmps - us.toArray.size) undef,defers:=[] } fr.tm fr.dfs m' s'.get a' u' w' →
      a'.defers = [] ∧ ∃ u'',({ c₀ with mode:=u' } :: cs:List Frame) = { c₀ with mode:=u'' } :: cs ∧ ∃ v,(results fn a'.tmps).run P w' = .ok v w' ∧
        ((∃ v',Ending.returned v = .returned v') ∧ ∃ g',Ext g S.get w g' s'.get w' ∧ Inv g' s'.get w' ∧ acm g' s'.get w' m' u''):=by
    rintro ⟨⟨g',e1,e2,e3,e4,e5⟩,_⟩
    rw [k1] at e4
    obtain ⟨r,h1,_⟩:=akw e2 e3 k2
    exact ⟨e4,u',rfl,r,h1,⟨r,rfl⟩,g',e1,e2,e5⟩
  rcases k3 with rfl | rfl
  · cases e <;> simp only [LeftD] at hl
    exact fin hl
  · cases e <;> simp only [LeftD] at hl
    exact fin hl
theorem ajj {gl:Tr AVal} (hC:aa6 P gl C) (hP:Fine P) {k N:Nat} {fn:Func} {tm:Tr AVal} {tmps:Array Value} {R:Ending→World→Prop} :
    ∀ {dfs:List Dfr} {ds:List Deferred} {S S' : St} {m m' : Option AVal} {u:FrameMode} {g:Sg} {w:World},abw C gl imp P k dfs S m=some (S',m')→Inv g S.get w→Glob gl g.imm w →
    RepD g S.get w dfs ds→Frm g S.get w tm tmps→ai1 g S.get w m u →
    (∀ g' w' u',Ext g S.get w g' S'.get w' → Inv g' S'.get w' → Frm g' S'.get w' tm tmps→ai1 g' S'.get w' m' u' → LeavesInM Fence.wide N P fn tmps R [] u' w')→LeavesInM Fence.wide N P fn tmps R ds u w
  | [],ds,S,S',m,m',u,g,w,h,hi,hG,hD,hf,hm,hQ=>by
    simp [abw] at h
    obtain ⟨rfl,rfl⟩:=h
    have hD:ds = []:=hD
    subst hD
    exact hQ g w u (.refl _ _ _) hi hf hm
  | .hid b :: r,ds,S,S',m,m',u,g,w,h,hi,hG,hD,hf,hm,hQ=>by simp [abw] at h
  | .mark id :: r,ds,S,S',m,m',u,g,w,h,hi,hG,hD,hf,hm,hQ=>by
    obtain ⟨b,t,rfl,hb,hD⟩:=hD
    simp only [abw] at h
    split at h <;> try (simp at h; done)
    rename_i hid
    obtain ⟨o,q1,q2⟩:=hi.at_ho hid hb
    have q2:o = .deferred (some []):=q2
    subst q2
    obtain ⟨e1,e2⟩:=set_ho hi hid hb (h:=.dl false) (o:=.deferred none) rfl
    rw [← did1 [id]] at e1 e2
    have hu:u ≠ .run:=by
      cases m with
      | none=>have:u = .returning:=hm; rw [this]; simp
      | some x=>obtain ⟨v,rfl,_⟩:=hm; simp
    refine ⟨hu, .inl ⟨b,_,rfl,run_takeDeferred q1, ?_⟩⟩
    refine ajj hC hP h e2 (hG.ext e1) (hD.ext e1) (hf.ext e1) (by cases m with
      | none=>exact hm
      | some x=>obtain ⟨v,h1,h2⟩:=hm; exact ⟨v,h1,RepA.ext e1 _ _ h2⟩) fun g' w' u' f1 f2 f3 f4=>hQ g' w' u' (e1.trans f1) f2 f3 f4
  | .call f cap :: r,ds,S,S',m,m',u,g,w,h,hi,hG,hD,hf,hm,hQ=>by
    obtain ⟨vs,t,rfl,hv,hD⟩:=hD
    simp only [abw] at h
    split at h <;> try (simp at h; done)
    rename_i s1 m1 h1
    have hu:u ≠ .run:=by
      cases m with
      | none=>have:u = .returning:=hm; rw [this]; simp
      | some x=>obtain ⟨v,rfl,_⟩:=hm; simp
    obtain ⟨hb,hc⟩:=dfr_wp (N:=N - 1) hC hP h1 hi hG hv hm.rep
    refine ⟨hu, .inr ⟨by simp [Fence.wide], .func f,vs.toArray,f,vs.toArray,rfl,by simp [invoke,abK hP.own hb],fun _ _=>trivial,CallsDIn.mono hc fun e u' w' he=>?_⟩⟩
    obtain ⟨⟨v,rfl⟩,g',e1,e2,e3⟩:=he
    exact ajj hC hP h e2 (hG.ext e1) (hD.ext e1) (hf.ext e1) e3.settle fun g' w' u' f1 f2 f3 f4=>hQ g' w' u' (e1.trans f1) f2 f3 f4
theorem leave_wp {gl:Tr AVal} (hC:aa6 P gl C) (hP:Fine P) {k N:Nat} {fn:Func} {fr:Fr} {g0:Sg} {s0:Sto} {w0:World} {tmps:Array Value} {ds:List Deferred} {S:St} {m:Option AVal} {u:FrameMode} {r:CR}
    (h:agR C gl imp P k fn fr S m=some r) (h0:Ext g0 s0 w0 g S.get w) (hi:Inv g S.get w) (hG:Glob gl g.imm w) (hD:RepD g S.get w fr.dfs ds) (hf:Frm g S.get w fr.tm tmps) (hm:ai1 g S.get w m u) :
    LeavesInM Fence.wide N P fn tmps (fun e w'=>Came g0 s0 w0 r e w') ds u w:=by
  unfold agR at h
  split at h
  · rename_i s' h1
    split at h <;> simp at h
    rename_i vs rd h2
    subst h
    refine ajj hC hP h1 hi hG hD hf hm fun g' w' u' e1 e2 e3 e4=>?_
    have e4:u' = .returning:=e4
    subst e4
    obtain ⟨v,q1,q2⟩:=akw e2 e3 h2
    have hgs:(s'.did rd []).get=s'.get:=aaB _ _ _
    refine ⟨v,q1,g', ?_, ?_, ?_⟩
    · rw [hgs]; exact h0.trans e1
    · rw [hgs]; exact e2
    · rw [hgs]; exact q2
  · rename_i s' v h1
    simp at h
    subst h
    refine ajj hC hP h1 hi hG hD hf hm fun g' w' u' e1 e2 e3 e4=>?_
    obtain ⟨x,rfl,e5⟩:=e4
    exact ⟨g',x,rfl,h0.trans e1,e2,e5⟩
  · simp at h
theorem evFunc_ok {gl:Tr AVal} (hC:aa6 P gl C) (hP:Fine P) {k f:Nat} {args:List AVal} {S:St} {r:CR} {us:List Value} (h:evFunc C gl imp P k f args S=some r) (hi:Inv g S.get w)
    (hG:Glob gl g.imm w) (hr:RepAs g S.get w args us):afZ P f∧CallsIn Fence.wide 0 P f us.toArray w (Came g S.get w r):=by
  unfold evFunc at h
  split at h <;> try (simp at h; done)
  rename_i fn hf
  split at h <;> try (simp at h; done)
  rename_i c hb
  split at h <;> try (simp at h; done)
  rename_i hl1 hl2
  have hl1:=Nat.le_of_ble_eq_true hl1
  have hl2:=Nat.le_of_ble_eq_true hl2
  refine ⟨⟨fn,c,hf,hb⟩,callsIn_of_wp_marks hf hb trivial ?_⟩
  have hlen:=RepAs.length hr
  have hn:max args.length fn.ntmps≤(us.toArray ++ Array.replicate (fn.ntmps - us.toArray.size) undef).size:=by simp; omega
  split at h <;> try (simp at h; done)
  · rename_i fr S' hev
    refine alT (ro:=none) hC hP (by omega) (fun _=>rfl) c (hP.code f fn c hf hb) hev hi hG (ahE hG hr hl1 _) rfl hn fun e a' w' hl=>?_
    cases e <;> simp only [Left] at hl
    obtain ⟨⟨g',e1,e2,e3,e4⟩,_⟩:=hl
    exact leave_wp hC hP h e1 e2 (hG.ext e1) e4 e3 rfl
  · rename_i fr S' hev
    refine alT (ro:=none) hC hP (by omega) (fun _=>rfl) c (hP.code f fn c hf hb) hev hi hG (ahE hG hr hl1 _) rfl hn fun e a' w' hl=>?_
    cases e <;> simp only [Left] at hl
    obtain ⟨⟨g',e1,e2,e3,e4⟩,_⟩:=hl
    exact leave_wp hC hP h e1 e2 (hG.ext e1) e4 e3 rfl
  · rename_i v fr S' hev
    refine alT (ro:=none) hC hP (by omega) (fun _=>rfl) c (hP.code f fn c hf hb) hev hi hG (ahE hG hr hl1 _) rfl hn fun e a' w' hl=>?_
    cases e <;> simp only [Left] at hl
    obtain ⟨⟨g',u,rfl,e1,e2,e3,e4,e5⟩,_⟩:=hl
    exact leave_wp hC hP h e1 e2 (hG.ext e1) e5 e4 ⟨u,rfl,e3⟩
end
end Go.Proofs.YtdnbnpknpejpdaaGreatDoor.Sw
namespace Go.Proofs.YtdnbnpknpejpdaaGreatDoor.Sw
open Go.RowKit
section
variable {C:CallFn} {imp:Nat→Bool} {P:Program} {g:Sg} {s:Sto} {S:St} {w:World} {n:Nat}
theorem aiu (hnb:n≤glBase):∀ {ps:List Nat} {args:List AVal} {us:List Value} {tm tm' : Tr AVal} {tmps:Array Value},agw n ps args tm=some tm' → Frm g s w tm tmps→RepAs g s w args us→n≤tmps.size →
    us.length=ps.length∧Frm g s w tm' ((ps.zip us).foldl (fun tmps (t,a)=>tmps.setIfInBounds t a) tmps)∧((ps.zip us).foldl (fun tmps (t,a)=>tmps.setIfInBounds t a) tmps).size=tmps.size
  | [],[],us,tm,tm',tmps,h,hf,hr,_=>by
    simp [agw] at h
    subst h
    have hr:us = []:=hr
    subst hr
    exact ⟨rfl,hf,rfl⟩
  | p :: ps,v :: vs,us,tm,tm',tmps,h,hf,hr,hn=>by
    obtain ⟨u,us,rfl,h1,h2⟩:=hr
    simp only [agw] at h
    split at h <;> try (simp at h; done)
    rename_i tm1 ht
    obtain ⟨k1,k2⟩:=aaP ht
    subst k1
    have hp:=k2 p rfl
    have hf' : Frm g s w (putD tm (some p) v) (tmps.setIfInBounds p u) :=
      Frm.put (a:={ tmps,defers:=[] }) (dst:=some p) hf h1 (fun d hd=>by simp at hd; subst hd; exact ⟨Nat.lt_of_lt_of_le hp hn,Nat.lt_of_lt_of_le hp hnb⟩)
    obtain ⟨q1,q2,q3⟩:=aiu hnb h hf' h2 (by simpa using hn)
    exact ⟨by simp [q1],q2,by simpa using q3⟩
  | [],_ :: _,us,tm,tm',tmps,h,_,_,_=>by simp [agw] at h
  | _ :: _,[],us,tm,tm',tmps,h,_,_,_=>by simp [agw] at h
theorem endRound_run (hi:Inv g S.get w) {id l:Nat} (hb:g.bx id=some l) {x:XExit} {r:CR} (h:ab8 id x S=some r) {g0:Sg} {s0:Sto} {w0:World} (h0:Ext g0 s0 w0 g S.get w) :
    ∃ jump,(match x with | .normal=>jump=none | .ret=>jump=some .ret | .exit i=>jump=some (.exit i) | .pan _=>False) ∧
      ∃ v w',(Instr.endRound l jump).run P w = .ok v w' ∧ Came g0 s0 w0 r (.returned v) w':=by
  unfold ab8 at h
  split at h <;> try (simp at h; done)
  rename_i tm n ps as bd hid
  obtain ⟨o,q1,rec,rfl,q2,q3,q4,q5,q6,q7,q8⟩:=hi.at_ho hid hb
  split at h <;> simp at h <;> subst h
  · obtain ⟨e1,e2⟩:=set_ho hi hid hb (h:=.lp tm n ps as bd .ready none) (o:=.loop { rec with state:=.ready,pending:=none }) ⟨_,rfl,rfl,rfl,q4,q5,q6,q7,q8⟩
    rw [← did1 [id]] at e1 e2
    exact ⟨none,rfl,_,_,run_endRound none q1,g,h0.trans e1,e2,rfl⟩
  · obtain ⟨e1,e2⟩:=set_ho hi hid hb (h:=.lp tm n ps as bd .done (some .ret)) (o:=.loop { rec with state:=.done,pending:=some .ret }) ⟨_,rfl,rfl,rfl,q4,q5,q6,q7,q8⟩
    rw [← did1 [id]] at e1 e2
    exact ⟨some .ret,rfl,_,_,run_endRound (some .ret) q1,g,h0.trans e1,e2,rfl⟩
  · rename_i i
    obtain ⟨e1,e2⟩:=set_ho hi hid hb (h:=.lp tm n ps as bd .done (some (.exit i))) (o:=.loop { rec with state:=.done,pending:=some (.exit i) }) ⟨_,rfl,rfl,rfl,q4,q5,q6,q7,q8⟩
    rw [← did1 [id]] at e1 e2
    exact ⟨some (.exit i),rfl,_,_,run_endRound (some (.exit i)) q1,g,h0.trans e1,e2,rfl⟩
theorem evRound_ok {gl:Tr AVal} (hC:aa6 P gl C) (hP:Fine P) {k id:Nat} {args:List AVal} {r:CR} {us:List Value} (h:alQ C imp P k id args S=some r) (hi:Inv g S.get w)
    (hG:Glob gl g.imm w) (hr:RepAs g S.get w args us) :
    ∃ (l:Nat) (rec:Loop),g.bx id=some l∧w.heap[l]? = some (.loop rec)∧us.length=rec.params.size ∧
      RoundIn Fence.wide 0 P l rec.fn ((rec.params.zip us.toArray).foldl (fun tmps (t,a)=>tmps.setIfInBounds t a) rec.tmps) rec.assign rec.body w (Came g S.get w r):=by
  unfold alQ at h
  split at h <;> try (simp at h; done)
  rename_i tm n ps assign body hid
  obtain ⟨l,o,hb,q1,rec,rfl,q2,q3,q4,q5,q6,⟨q7,q8,q9,q10⟩,q11⟩:=hi.ho id _ hid
  split at h <;> try (simp at h; done)
  rename_i tm1 hput
  obtain ⟨p1,p2,p3⟩:=aiu q8 hput q11 hr q7
  have hz:(rec.params.zip us.toArray).foldl (fun tmps (t,a)=>tmps.setIfInBounds t a) rec.tmps=(ps.zip us).foldl (fun tmps (t,a)=>tmps.setIfInBounds t a) rec.tmps:=by
    rw [← Array.foldl_toList,Array.toList_zip,q4]
  refine ⟨l,rec,hb,q1,by rw [p1, ← q4]; simp, ?_⟩
  rw [hz,q5,q6]
  split at h <;> try (simp at h; done)
  rename_i fr1 s1 h1
  split at h <;> try (simp at h; done)
  rename_i tm' n' ps' as' bd' hid1
  split at h <;> try (simp at h; done)
  rename_i x fr3 s3 h3
  refine roundIn_of_wpIn (F:=Fence.wide) trivial ?_
  refine alT (ro:=some l) hC hP q8 (by simp) assign q9 h1 hi hG p2 rfl (by rw [p3]; exact q7) fun e a1 w1 hl=>?_
  cases e <;> simp only [Left] at hl
  obtain ⟨⟨g1,e1,i1,f1,d1⟩,z1⟩:=hl
  have hb1:=e1.bx _ _ hb
  obtain ⟨o1,r1,rec1,rfl,r2,r3,r4,r5,r6,r7,r8⟩:=i1.at_ho hid1 hb1
  obtain ⟨e2,i2⟩:=set_ho i1 hid1 hb1 (h:=.lp tm' n' ps' as' bd' .busy none) (o:=.loop { rec1 with state:=.busy }) ⟨_,rfl,rfl,r3,r4,r5,r6,r7,r8⟩
  rw [← did1 [id]] at e2 i2
  refine ⟨_,run_beginRound r1 r2, ?_⟩
  have hsz:n≤a1.tmps.size:=by rw [z1,p3]; exact q7
  refine alT (ro:=some l) hC hP q8 (by simp) body q10 h3 i2 (hG.ext (e1.trans e2)) (f1.ext e2) (d1.ext e2) hsz fun e a3 w3 hl3=>?_
  have fin:∀ {x' : XExit},x' = x→(∃ g',Ext g1 (s1.did [id] [(id, .ho (.lp tm' n' ps' as' bd' .busy none))]).get (w1.putObj l (.loop { rec1 with state:=.busy })) g' s3.get w3∧Inv g' s3.get w3) →
      ∃ jump,(match x' with | .normal=>jump=none | .ret=>jump=some .ret | .exit i=>jump=some (.exit i) | .pan _=>False) ∧
        ∃ v w',(Instr.endRound l jump).run P w3 = .ok v w' ∧ Came g S.get w r (.returned v) w':=by
    rintro x' rfl ⟨g3,e3,i3⟩
    exact endRound_run i3 (e3.bx _ _ (e2.bx _ _ hb1)) h ((e1.trans e2).trans e3)
  cases x with
  | normal =>
    cases e <;> simp only [Left] at hl3
    obtain ⟨⟨g3,e3,i3,_⟩,_⟩:=hl3
    obtain ⟨j,rfl,v,w',k1,k2⟩:=fin rfl ⟨g3,e3,i3⟩
    exact ⟨v,w',k1,k2⟩
  | ret =>
    cases e <;> simp only [Left] at hl3
    obtain ⟨⟨g3,e3,i3,_⟩,_⟩:=hl3
    obtain ⟨j,rfl,v,w',k1,k2⟩:=fin rfl ⟨g3,e3,i3⟩
    exact ⟨v,w',k1,k2⟩
  | exit i =>
    cases e <;> simp only [Left] at hl3
    obtain ⟨rfl,⟨g3,e3,i3,_⟩,_⟩:=hl3
    obtain ⟨j,rfl,v,w',k1,k2⟩:=fin rfl ⟨g3,e3,i3⟩
    exact ⟨v,w',k1,k2⟩
  | pan v =>
    unfold ab8 at h
    split at h <;> simp at h
def Known (P:Program) (gl:Tr AVal) (f:Nat) (args:List AVal) (v:AVal) (wr:List (Nat × Obj)):Prop :=
  ∀ (g:Sg) (w:World) (us:List Value),Inv g St.empty.get w→Glob gl g.imm w→RepAs g St.empty.get w args us →
    afZ P f∧CallsIn Fence.wide 0 P f us.toArray w (Came g St.empty.get w (.ret v (St.empty.did [] wr)))
def MemoOk (P:Program) (gl:Tr AVal) (M:Memo):Prop :=
  ∀ (f:Nat) (args:List AVal) (r:CR),M f args=some r → ∃ v wr,r = .ret v (St.empty.did [] wr)∧Known P gl f args v wr
theorem ab7 {gl:Tr AVal} {M:Memo} (hM:MemoOk P gl M) (hP:Fine P) {k:Nat}:∀ (n:Nat),aa6 P gl (evCall M gl imp P k n)
  | 0=>{ fn:=fun f args S r g w us h=>by simp [evCall] at h,iso:=fun f args r g w us h=>by simp [evCall] at h,yld:=fun id args S r g w us h=>by simp [evCall] at h,loc:=ahA 0 }
  | n + 1 =>
    { fn:=fun _ _ _ _ _ _ _ h hi hG hr=>evFunc_ok (ab7 hM hP n) hP h hi hG hr
      yld:=fun _ _ _ _ _ _ _ h hi hG hr=>evRound_ok (ab7 hM hP n) hP h hi hG hr
      iso:=fun f args r g w us h hi hG hr=>by
        simp only [evCall] at h
        split at h
        · rename_i r' hm
          simp at h
          subst h
          obtain ⟨v,wr,rfl,hk⟩:=hM f args _ hm
          exact hk g w us hi hG hr
        · exact evFunc_ok (ab7 hM hP n) hP h hi hG hr
      loc:=ahA (n + 1) }
theorem known_of {gl:Tr AVal} {M:Memo} (hM:MemoOk P gl M) (hP:Fine P) {k n f:Nat} {args:List AVal} {v:AVal} {rd:List Nat} {wr:List (Nat × Obj)}
    (h:callAt (evCall M gl imp P k n) imp St.empty 0 f args=some (.eff ⟨v,rd,wr⟩)):Known P gl f args v wr:=fun g w us hi hG hr=>by
  obtain ⟨h1,h2⟩:=aev (ab7 hM hP n).toCallOk hi hG hr h
  refine ⟨h1,CallsIn.mono h2 fun e w' hc=>?_⟩
  cases e with
  | returned u =>
    obtain ⟨g',e1,e2,e3⟩:=hc
    rw [← aaB (rd:=[])] at e1 e2 e3
    exact ⟨g',e1,e2,e3⟩
  | panicked _=>exact hc.elim
  | outgrown=>exact hc.elim
theorem evCall_closed {gl:Tr AVal} {M:Memo} (hM:MemoOk P gl M) (hP:Fine P) {k n f:Nat} {v:PVal} {s' : St} (h:evCall M gl imp P k n (.iso f) [] St.empty=some (.ret (.p v) s')) {I:Nat→Nat→Prop}
    (hI:∀ b o,I b o→b < w.heap.size) (hG:Glob gl I w) :
    Calls P f #[] w (fun e w'=>∃ u,e = .returned u∧(∃ I',RepP I' w' v u)∧Below w.heap.size w w'):=by
  obtain ⟨_,hc⟩:=(ab7 hM hP n).iso f [] _ _ w [] h (agL hI) hG rfl
  refine (callsIn_wide (n:=0)).1 (CallsIn.mono hc fun e w' hcm=>?_)
  cases e with
  | returned u =>
    obtain ⟨g',e1,e2,e3⟩:=hcm
    exact ⟨u,rfl,⟨_,e3⟩,e1.below⟩
  | panicked _=>exact hcm.elim
  | outgrown=>exact hcm.elim
end
end Go.Proofs.YtdnbnpknpejpdaaGreatDoor.Sw
namespace Go.Proofs.YtdnbnpknpejpdaaGreatDoor.Sw
def sameI:Int→Int→Bool
  | .ofNat a, .ofNat b=>Nat.beq a b
  | .negSucc a, .negSucc b=>Nat.beq a b
  | _,_=>false
def kNum:IntKind→Nat
  | .i8=>0 | .i16=>1 | .i32=>2 | .i64=>3 | .u8=>4 | .u16=>5 | .u32=>6 | .u64=>7
def sameB:Bool→Bool→Bool
  | true,b=>b
  | false,true=>false
  | false,false=>true
def sameFn:Fn→Fn→Bool
  | .func f, .func g=>Nat.beq f g
  | _,_=>false
def sameP:PVal→PVal→Bool
  | .bool a, .bool b=>sameB a b
  | .int k a, .int l b=>match sameI a b with
    | true=>Nat.beq (kNum k) (kNum l)
    | false=>false
  | .str a, .str b=>aaC a b
  | .nilp, .nilp=>true
  | .nils, .nils=>true
  | .nilm, .nilm=>true
  | .nilf, .nilf=>true
  | .nili, .nili=>true
  | .agg a, .agg b=>samePs a b
  | .tup a, .tup b=>samePs a b
  | .iface t x, .iface u y=>match Nat.beq t u with
    | true=>sameP x y
    | false=>false
  | .sl a, .sl b=>samePs a b
  | .ip x, .ip y=>sameP x y
  | .fn f a, .fn g b=>match sameFn f g with
    | true=>samePs a b
    | false=>false
  | _,_=>false
 where
  samePs:List PVal→List PVal→Bool
    | [],[]=>true
    | x :: xs,y :: ys=>match sameP x y with
      | true=>samePs xs ys
      | false=>false
    | _,_=>false
def aaY:List PVal→List AVal→Bool
  | [],[]=>true
  | x :: xs, .p y :: ys=>match aaY xs ys with
    | true=>sameP x y
    | false=>false
  | _,_=>false
theorem sameI_eq:∀ {a b:Int},sameI a b=true→a=b
  | .ofNat a, .ofNat b,h=>by rw [Nat.eq_of_beq_eq_true h]
  | .negSucc a, .negSucc b,h=>by rw [Nat.eq_of_beq_eq_true h]
  | .ofNat _, .negSucc _,h=>by simp [sameI] at h
  | .negSucc _, .ofNat _,h=>by simp [sameI] at h
theorem apt {k l:IntKind} (h:Nat.beq (kNum k) (kNum l)=true):k=l:=by
  have h:=Nat.eq_of_beq_eq_true h
  cases k <;> cases l <;> first | rfl | (simp [kNum] at h)
theorem sameB_eq {a b:Bool} (h:sameB a b=true):a=b:=by cases a <;> cases b <;> simp_all [sameB]
theorem ajq : ∀ {a b:List Nat},aaC a b=true→a=b
  | [],[],_=>rfl
  | x :: a,y :: b,h=>by
    simp only [aaC] at h
    split at h <;> try (simp at h; done)
    rename_i e
    rw [Nat.eq_of_beq_eq_true e,ajq h]
  | [],_ :: _,h=>by simp [aaC] at h
  | _ :: _,[],h=>by simp [aaC] at h
theorem sameFn_eq {f g:Fn} (h:sameFn f g=true):f=g:=by
  unfold sameFn at h
  split at h
  · rw [Nat.eq_of_beq_eq_true h]
  · simp at h
mutual
theorem am7:∀ (x y:PVal),sameP x y=true→x=y
  | .bool a,y,h=>by cases y <;> simp only [sameP] at h <;> first | (rw [sameB_eq h]) | simp at h
  | .int k a,y,h=>by
    cases y <;> simp only [sameP] at h <;> try (simp at h; done)
    split at h <;> try (simp at h; done)
    rename_i e
    rw [sameI_eq e,apt h]
  | .str a,y,h=>by cases y <;> simp only [sameP] at h <;> first | (rw [ajq h]) | simp at h
  | .nilp,y,h=>by cases y <;> simp only [sameP] at h <;> first | rfl | simp at h
  | .nils,y,h=>by cases y <;> simp only [sameP] at h <;> first | rfl | simp at h
  | .nilm,y,h=>by cases y <;> simp only [sameP] at h <;> first | rfl | simp at h
  | .nilf,y,h=>by cases y <;> simp only [sameP] at h <;> first | rfl | simp at h
  | .nili,y,h=>by cases y <;> simp only [sameP] at h <;> first | rfl | simp at h
  | .agg a,y,h=>by cases y <;> simp only [sameP] at h <;> first | (rw [agl _ _ h]) | simp at h
  | .tup a,y,h=>by cases y <;> simp only [sameP] at h <;> first | (rw [agl _ _ h]) | simp at h
  | .iface t a,y,h=>by
    cases y <;> simp only [sameP] at h <;> try (simp at h; done)
    split at h <;> try (simp at h; done)
    rename_i e
    rw [Nat.eq_of_beq_eq_true e,am7 _ _ h]
  | .sl a,y,h=>by cases y <;> simp only [sameP] at h <;> first | (rw [agl _ _ h]) | simp at h
  | .ip a,y,h=>by cases y <;> simp only [sameP] at h <;> first | (rw [am7 _ _ h]) | simp at h
  | .fn f a,y,h=>by
    cases y <;> simp only [sameP] at h <;> try (simp at h; done)
    split at h <;> try (simp at h; done)
    rename_i e
    rw [sameFn_eq e,agl _ _ h]
theorem agl:∀ (x y:List PVal),sameP.samePs x y=true→x=y
  | [],[],_=>rfl
  | x :: xs,y :: ys,h=>by
    simp only [sameP.samePs] at h
    split at h <;> try (simp at h; done)
    rename_i e
    rw [am7 _ _ e,agl _ _ h]
  | [],_ :: _,h=>by simp [sameP.samePs] at h
  | _ :: _,[],h=>by simp [sameP.samePs] at h
end
theorem anD:∀ {x:List PVal} {y:List AVal},aaY x y=true→x.map .p=y
  | [],[],_=>rfl
  | x :: xs, .p y :: ys,h=>by
    simp only [aaY] at h
    split at h <;> try (simp at h; done)
    rename_i e
    rw [List.map_cons,am7 _ _ h,anD e]
  | [],_ :: _,h=>by simp [aaY] at h
  | _ :: _,[],h=>by simp [aaY] at h
  | _ :: _, .agg _ :: _,h=>by simp [aaY] at h
  | _ :: _, .tup _ :: _,h=>by simp [aaY] at h
  | _ :: _, .iface _ _ :: _,h=>by simp [aaY] at h
  | _ :: _, .cl _ :: _,h=>by simp [aaY] at h
  | _ :: _, .own _ _ :: _,h=>by simp [aaY] at h
  | _ :: _, .ownm _ :: _,h=>by simp [aaY] at h
  | _ :: _, .box _ _ :: _,h=>by simp [aaY] at h
  | _ :: _, .arr _ _ _ _ _ :: _,h=>by simp [aaY] at h
  | _ :: _, .el _ _ _ _ :: _,h=>by simp [aaY] at h
  | _ :: _, .fn _ _ :: _,h=>by simp [aaY] at h
  | _ :: _, .fnb _ _ :: _,h=>by simp [aaY] at h
  | _ :: _, .rf _ _ :: _,h=>by simp [aaY] at h
  | _ :: _, .junk :: _,h=>by simp [aaY] at h
structure Ent where
  f:Nat
  args:List PVal
  v:AVal
  wr:List (Nat × Obj)
inductive BT where
  | lf
  | nd (f:Nat) (es:List Ent) (l r:BT)
def BT.at:BT→Nat→List Ent
  | .lf,_=>[]
  | .nd g es l r,f=>match Nat.beq f g with
    | true=>es
    | false=>match Nat.ble f g with
      | true=>l.at f
      | false=>r.at f
def entOf (args:List AVal):List Ent→Option CR
  | []=>none
  | e :: r=>match aaY e.args args with
    | true=>some (.ret e.v (St.empty.did [] e.wr))
    | false=>entOf args r
def BT.memo (t:BT):Memo:=fun f args=>entOf args (t.at f)
def Ent.Ok (P:Program) (gl:Tr AVal) (e:Ent):Prop:=Known P gl e.f (e.args.map .p) e.v e.wr
def allEnt (P:Program) (gl:Tr AVal) (f:Nat):List Ent→Prop
  | []=>True
  | e :: r=>(e.f=f∧e.Ok P gl)∧allEnt P gl f r
def BT.Ok (P:Program) (gl:Tr AVal):BT→Prop
  | .lf=>True
  | .nd f es l r=>allEnt P gl f es∧l.Ok P gl∧r.Ok P gl
theorem BT.at_ok {P:Program} {gl:Tr AVal}:∀ {t:BT} {f:Nat},t.Ok P gl→allEnt P gl f (t.at f)
  | .lf,_,_=>trivial
  | .nd g es l r,f,h=>by
    obtain ⟨h1,h2,h3⟩:=h
    unfold BT.at
    split
    · rename_i e; rw [Nat.eq_of_beq_eq_true e]; exact h1
    · split
      · exact BT.at_ok h2
      · exact BT.at_ok h3
theorem entOf_ok {P:Program} {gl:Tr AVal} {f:Nat} {args:List AVal} {r:CR}:∀ {es:List Ent},allEnt P gl f es→entOf args es=some r → ∃ v wr,r = .ret v (St.empty.did [] wr)∧Known P gl f args v wr
  | [],_,h=>by simp [entOf] at h
  | e :: es,ho,h=>by
    obtain ⟨⟨h1,h2⟩,h3⟩:=ho
    simp only [entOf] at h
    split at h
    · rename_i hs
      simp at h
      refine ⟨e.v,e.wr,h.symm, ?_⟩
      have h2:Known P gl e.f (e.args.map .p) e.v e.wr:=h2
      rw [anD hs,h1] at h2
      exact h2
    · exact entOf_ok h3 h
theorem BT.memo_ok {P:Program} {gl:Tr AVal} {t:BT} (h:t.Ok P gl):MemoOk P gl t.memo:=fun _ _ _ hm=>entOf_ok (BT.at_ok h) hm
theorem ent_ok {P:Program} {gl:Tr AVal} {imp:Nat→Bool} {t:BT} (ht:t.Ok P gl) (hP:Fine P) {k n:Nat} {e:Ent} {rd:List Nat}
    (h:callAt (evCall t.memo gl imp P k n) imp St.empty 0 e.f (e.args.map .p)=some (.eff ⟨e.v,rd,e.wr⟩)):e.Ok P gl:=known_of (BT.memo_ok ht) hP h
def inMask (m f:Nat):Bool:=Nat.beq (Nat.land (Nat.shiftRight m f) 1) 1
end Go.Proofs.YtdnbnpknpejpdaaGreatDoor.Sw
namespace Go.Proofs.YtdnbnpknpejpdaaGreatDoor.Sw
open Go.RowKit
theorem am2 {w w' : World} (h:Below w.heap.size w w') (may:MemPlace→Prop):w.keptBut w' may:=by
  refine ⟨h.os,h.output,fun i hi=>?_⟩
  rw [h.block i hi]
  split
  · rename_i e1 e2
    rw [e1] at e2
    simp only [Option.some.injEq,Obj.cells.injEq] at e2
    obtain ⟨rfl,rfl,rfl⟩:=e2
    exact ⟨rfl,rfl,rfl,fun _ _=>rfl⟩
  · rename_i e1 e2
    rw [e1] at e2
    simp only [Option.some.injEq,Obj.map.injEq] at e2
    obtain ⟨rfl,rfl⟩:=e2
    exact .inr ⟨rfl,rfl⟩
  · rfl
theorem known_true {P:Program} {gl:Tr AVal} {f:Nat} {w:World} (hk:Known P gl f [] (.p (.bool true)) []) (hG:Glob gl (fun b _=>b < w.heap.size) w) :
    Calls P f #[] w (fun e w'=>e = .returned (.bool true)∧Below w.heap.size w w'):=by
  obtain ⟨_,hc⟩:=hk _ w [] (agL (I:=fun b _=>b < w.heap.size) fun _ _ h=>h) hG rfl
  refine (callsIn_wide (n:=0)).1 (CallsIn.mono hc fun e w' hcm=>?_)
  cases e with
  | returned u =>
    obtain ⟨g',e1,e2,e3⟩:=hcm
    have e3:u = .bool true:=e3
    rw [e3]
    exact ⟨rfl,e1.below⟩
  | panicked _=>exact hcm.elim
  | outgrown=>exact hcm.elim
def tabP (k:IntKind) (zs:List Int):PVal:=.ip (.agg (zs.map (.int k)))
theorem reps_ints {I:Nat→Nat→Prop} {w:World} {k:IntKind}:∀ (zs:List Int),RepPs I w (zs.map (.int k)) (zs.map fun z=>Value.int k z)
  | []=>rfl
  | _z :: zs=>⟨_,_,rfl,rfl,reps_ints zs⟩
theorem rep_tab {P:Program} {w:World} {name:String} {k:IntKind} {zs:List Int} {g:Nat} (h:Lib.TabIs P w name k zs) (hg:P.globalNamed name=some g) :
    RepP (fun b _=>b < w.heap.size) w (tabP k zs) (.pointer (some ⟨g,0,none⟩)):=by
  refine ⟨g,0, .agg (zs.map fun z=>Value.int k z).toArray,rfl,⟨_,rfl,reps_ints zs,fun x hx=>?_⟩,fun i c hc=>?_⟩
  · obtain ⟨z,_,rfl⟩:=List.mem_map.1 hx
    rfl
  · have hc:(zs.map fun z=>Value.int k z)[i]? = some c:=hc
    have hi:i < zs.length:=by
      have:=(List.getElem?_eq_some_iff.1 hc).1
      simpa using this
    have h1:=h.cell hg i hi
    rw [Nat.zero_add]
    refine ⟨?_, ?_⟩
    · rw [h1]
      simp only [List.getElem?_map,Option.map_eq_some_iff] at hc
      obtain ⟨z,hz,rfl⟩:=hc
      simp [List.getD,hz]
    · simp only [World.cell?] at h1
      by_cases hs:g < w.heap.size
      · exact hs
      · simp [Array.getElem?_eq_none (by omega:w.heap.size≤g)] at h1
theorem glob_empty {I:Nat→Nat→Prop} {w:World}:Glob .lf I w:=fun t x h=>by
  rw [Tr.get_lf] at h
  simp at h
theorem anf {gl:Tr AVal} {I:Nat→Nat→Prop} {w:World} (h:Glob gl I w) {g:Nat} {y:PVal} (hr:RepP I w y (.pointer (some ⟨g,0,none⟩))):Glob (gl.set (glBase + g) (.p y)) I w:=fun t x hx=>by
  by_cases e:t=glBase + g
  · subst e
    rw [Tr.aa0,if_pos rfl] at hx
    simp at hx
    subst hx
    exact ⟨Nat.le_add_right _ _,y,rfl,by rw [Nat.add_sub_cancel_left]; exact hr⟩
  · rw [Tr.aa0,if_neg (fun h=>e h.symm)] at hx
    exact h t x hx
end Go.Proofs.YtdnbnpknpejpdaaGreatDoor.Sw
namespace Go.Proofs.YtdnbnpknpejpdaaGreatDoor.Sw
section
variable {α:Type}
def chk (b:Bool) (x:Option α):Option α:=match b with
  | true=>x
  | false=>none
def ifB (b:Bool) (x y:Option α):Option α:=match b with
  | true=>x
  | false=>y
def selB (b u v:Bool):Bool:=match b with
  | true=>u
  | false=>v
def bindK {β:Type} (o:Option β) (K:β→Option α):Option α:=match o with
  | some x=>K x
  | none=>none
def listK {β:Type} (l:List β) (A:Option α) (K:β→List β→Option α):Option α:=match l with
  | []=>A
  | x :: r=>K x r
def natK (z:Int) (K:Nat→Option α):Option α:=match z with
  | .ofNat n=>K n
  | .negSucc _=>none
def intK (k:IntKind) (x:PVal) (K:Int→Option α):Option α:=match x with
  | .int k' z=>match Nat.beq (kNum k) (kNum k') with
    | true=>K z
    | false=>none
  | _=>none
def boolK (x:PVal) (K:Bool→Option α):Option α:=match x with
  | .bool b=>K b
  | _=>none
def strK (x:PVal) (K:List Nat→Option α):Option α:=match x with
  | .str l=>K l
  | _=>none
def aggK (x:PVal) (K:List PVal→Option α):Option α:=match x with
  | .agg l=>K l
  | _=>none
def tupK (x:PVal) (K:List PVal→Option α):Option α:=match x with
  | .tup l=>K l
  | _=>none
def slK (x:PVal) (K:List PVal→Option α):Option α:=match x with
  | .nils=>K []
  | .sl l=>K l
  | _=>none
def ipK (x:PVal) (K:PVal→Option α):Option α:=match x with
  | .ip v=>K v
  | _=>none
def fnK (x:PVal) (K:Nat→List PVal→Option α):Option α:=match x with
  | .fn (.func f) cap=>K f cap
  | _=>none
def ifK (x:PVal) (K:Nat→PVal→Option α):Option α:=match x with
  | .iface t v=>K t v
  | _=>none
def nthK {β:Type} (l:List β) (n:Nat) (K:β→Option α):Option α:=match nth l n with
  | some x=>K x
  | none=>none
def consK (l:List PVal) (K:PVal→List PVal→Option α):Option α:=match l with
  | []=>none
  | x :: r=>K x r
def endK (l:List PVal) (x:Option α):Option α:=match l with
  | []=>x
  | _ :: _=>none
def pK (v:AVal) (K:PVal→Option α):Option α:=match v with
  | .p x=>K x
  | _=>none
def nownK (v:AVal) (A:Option α) (K:Nat→List PVal→Option α):Option α:=match v with
  | .p .nils=>A
  | .own sz xs=>K sz xs
  | _=>none
def nclK (v:AVal) (A:Option α) (K:List PVal→Option α):Option α:=match v with
  | .p .nils=>A
  | .cl xs=>K xs
  | _=>none
def oneP (x:PVal):Bool:=match x with
  | .agg _=>false
  | .tup _=>false
  | _=>true
end
inductive Cs where
  | int (k:IntKind)
  | bool
  | str
  | opq
inductive Sh where
  | one (c:Cs)
  | agg (l:List Cs)
def Cs.view {α:Type} (c:Cs) (x:PVal) (K:PVal→Option α):Option α:=match c with
  | .int k=>intK k x fun z=>K (.int k z)
  | .bool=>boolK x fun b=>K (.bool b)
  | .str=>strK x fun l=>K (.str l)
  | .opq=>K x
def ajf {α:Type}:List Cs→List PVal→(List PVal→Option α)→Option α
  | [],l,K=>endK l (K [])
  | c :: cs,l,K=>consK l fun x r=>c.view x fun x'=>ajf cs r fun r'=>K (x' :: r')
def Sh.view {α:Type} (s:Sh) (x:PVal) (K:PVal→Option α):Option α:=match s with
  | .one c=>c.view x K
  | .agg l=>aggK x fun cs=>ajf l cs fun cs'=>K (.agg cs')
def viewA {α:Type} (s:Sh) (v:AVal) (K:AVal→Option α):Option α:=match v with
  | .p x=>s.view x fun x'=>K (.p x')
  | v=>K v
inductive XObj where
  | box (cs:List AVal)
  | arr (sz:Nat) (xs:List PVal) (ep lost fz:Nat)
  | pbox (cs:List PVal)
  | lp (k:Nat) (vals:List AVal) (st:LoopState) (pend:Option Code)
structure Site where
  live:List Nat
  n:Nat
  ps:List Nat
  assign:Code
  body:Code
class Sites where
  site:Nat→Site
def tmOf (gl:Tr AVal):List Nat→List AVal→Tr AVal
  | t :: ts,v :: vs=>(tmOf gl ts vs).set t v
  | _,_=>gl
def XObj.to [Sites]:XObj→Obj
  | .box cs=>.box cs
  | .arr sz xs ep lost fz=>.arr sz xs.length (xs.map .p) ep lost fz
  | .pbox cs=>.box (cs.map .p)
  | .lp k vals st pend=>.ho (.lp (tmOf .lf (Sites.site k).live vals) (Sites.site k).n (Sites.site k).ps (Sites.site k).assign (Sites.site k).body st pend)
structure XSt where
  next:Nat
  objs:Tr XObj
def XSt.get (σ:XSt) (id:Nat):Option XObj:=σ.objs.get id
def XSt.set (σ:XSt) (id:Nat) (o:XObj):XSt:={ σ with objs:=σ.objs.set id o }
def Tr.mapv {α β:Type} (f:α → β):Tr α→Tr β
  | .lf=>.lf
  | .nd v l r=>.nd (match v with | some x=>some (f x) | none=>none) (l.mapv f) (r.mapv f)
def XSt.to [Sites] (σ:XSt):St:={ next:=σ.next,objs:=σ.objs.mapv XObj.to }
def Tr.cut {α:Type}:List Bool→Tr α→Tr α
  | [], .nd _ l r=>.nd none l r
  | b :: p, .nd v l r=>match b with
    | true=>.nd v (Tr.cut p l) r
    | false=>.nd v l (Tr.cut p r)
  | _, .lf=>.lf
def XSt.sets (σ:XSt):List (Nat × Obj)→Option XSt
  | []=>some σ
  | (id, .box cs) :: r=>(σ.set id (.box cs)).sets r
  | _ :: _=>none
section
variable {α:Type} [Sites]
abbrev Nx (α:Type):=AVal→XSt→List Nat→List Nat→Option α
def seen (σ:XSt) (b:Nat):List Nat→Bool
  | []=>true
  | id :: r=>match (match σ.get id with | some _=>true | none=>Nat.beq id b) with
    | true=>seen σ b r
    | false=>false
def plainK (P:Program) (tm:Tr AVal) (σ:XSt) (b:Nat) (op:Op) (K:Nx α):Option α :=
  match aau P tm σ.to b op with
  | some e=>match seen σ b e.rd,seen σ b (e.wr.map (·.1)), σ.sets e.wr with
    | true,true,some σ'=>K e.v σ' e.rd (e.wr.map (·.1))
    | _,_,_=>none
  | none=>none
def opdK (tm:Tr AVal) (o:Operand) (K:AVal→Option α):Option α:=match operand tm o with
  | some v=>K v
  | none=>none
def typeK (P:Program) (t:Nat) (K:Bool→Nat→Option α):Option α:=match aggT P t,szT P t with
  | some g,some n=>K g n
  | _,_=>none
def objK (g:Bool) (n:Nat) (sh:Sh) (v:AVal) (K:XObj→Option α):Option α :=
  match g with
  | false=>match v with
    | .p x=>chk (oneP x) (chk (Nat.beq n 1) (K (.box [.p x])))
    | .agg _=>none
    | .tup _=>none
    | .own _ _=>none
    | .ownm _=>none
    | .junk=>none
    | v=>chk (Nat.beq n 1) (K (.box [v]))
  | true=>match v with
    | .p x=>match sh with
      | .agg l=>aggK x fun cs=>ajf l cs fun cs=>chk (Nat.beq cs.length n) (K (.box (cs.map .p)))
      | .one _=>aggK x fun cs=>chk (Nat.beq cs.length n) (K (.pbox cs))
    | .agg cs=>chk (Nat.beq cs.length n) (K (.box cs))
    | _=>none
def freeK (σ:XSt) (b:Nat) (x:Option α):Option α:=match σ.get b with
  | none=>x
  | some _=>none
def lenK (P:Program) (t:Nat) (v:AVal) (K:AVal→Option α):Option α :=
  match P.underlying t with
  | some .string=>match v with
    | .p x=>strK x fun l=>K (.p (.int .i64 l.length))
    | _=>none
  | some (.slice _)=>match v with
    | .p x=>slK x fun l=>K (.p (.int .i64 l.length))
    | .cl l=>K (.p (.int .i64 l.length))
    | .arr _ _ _ len _=>K (.p (.int .i64 len))
    | _=>none
  | some (.array n _)=>K (.p (.int .i64 n))
  | _=>none
def ixK (v:AVal) (K:Nat→Option α):Option α:=match v with
  | .p (.int _ z)=>natK z K
  | _=>none
def elemK (sz:Nat) (sh:Sh) (l:List PVal) (n:Nat) (K:PVal→Option α):Option α :=
  nthK l n fun x=>sh.view x fun x'=>chk (Nat.beq (cellsP x').length sz) (K x')
def alF (P:Program) (shs:Nat→Sh) (σ:XSt) (t:Nat) (v i:AVal) (K:Nx α):Option α :=
  match P.underlying t with
  | some (.slice e)=>match szT P e with
    | some sz=>match v with
      | .p x=>slK x fun l=>ixK i fun n=>elemK sz (shs e) l n fun y=>K (.p (.ip y)) σ [] []
      | .cl l=>ixK i fun n=>elemK sz (shs e) l n fun y=>K (.p (.ip y)) σ [] []
      | .arr id ep off len _=>match σ.get id with
        | some (.arr sz' _ _ lost _)=>ixK i fun n=>chk (Nat.blt n len) (chk (Nat.beq sz sz') (chk (Nat.ble lost ep) (K (.el id ep (off + n) 0) σ [id] [])))
        | _=>none
      | _=>none
    | none=>none
  | some (.array len e)=>match szT P e with
    | some sz=>match v with
      | .box id off=>ixK i fun n=>chk (Nat.blt n len) (K (.box id (off + n * sz)) σ [] [])
      | .el id ep j off=>ixK i fun n=>chk (Nat.blt n len) (K (.el id ep j (off + n * sz)) σ [] [])
      | .p x=>ipK x fun x=>match aggT P e with
        | some false=>aggK x fun cs=>ixK i fun n=>chk (Nat.blt n len) (nthK cs (n * sz) fun y=>(shs e).view y fun y'=>K (.p (.ip y')) σ [] [])
        | some true=>aggK x fun cs=>ixK i fun n=>chk (Nat.blt n len) (chk (Nat.ble (n * sz + sz) cs.length) ((shs e).view (.agg ((cs.drop (n * sz)).take sz)) fun y'=>K (.p (.ip y')) σ [] []))
        | none=>none
      | _=>none
    | none=>none
  | _=>none
def partK (g:Bool) (cs:List PVal) (off n:Nat) (K:PVal→Option α):Option α :=
  match g with
  | true=>chk (Nat.ble (off + n) cs.length) (K (.agg ((cs.drop off).take n)))
  | false=>nthK cs off K
def partAK (g:Bool) (cs:List AVal) (off n:Nat) (K:AVal→Option α):Option α :=
  match g with
  | true=>chk (Nat.ble (off + n) cs.length) (K (mkAgg ((cs.drop off).take n)))
  | false=>nthK cs off K
def loadK (P:Program) (shs:Nat→Sh) (σ:XSt) (t:Nat) (v:AVal) (K:Nx α):Option α :=
  typeK P t fun g n=>match v with
    | .p x=>ipK x fun x=>match g with
      | true=>aggK x fun cs=>chk (Nat.beq cs.length n) ((shs t).view (.agg cs) fun y=>K (.p y) σ [] [])
      | false=>chk (!isAggP x) ((shs t).view x fun x=>K (.p x) σ [] [])
    | .box id off=>match σ.get id with
      | some (.box cs)=>partAK g cs off n fun v=>viewA (shs t) v fun v'=>K v' σ [id] []
      | some (.pbox cs)=>partK g cs off n fun y=>(shs t).view y fun y'=>K (.p y') σ [id] []
      | _=>none
    | .el id ep i off=>match σ.get id with
      | some (.arr _ xs _ lost _)=>chk (Nat.ble lost ep) (nthK xs i fun y=>match g with
        | false=>ifB (oneP y) (chk (Nat.beq off 0) ((shs t).view y fun y'=>K (.p y') σ [id] []))
          (aggK y fun cs=>nthK cs off fun y=>(shs t).view y fun y'=>K (.p y') σ [id] [])
        | true=>aggK y fun cs=>partK true cs off n fun y=>(shs t).view y fun y'=>K (.p y') σ [id] [])
      | _=>none
    | _=>none
def purK (v:AVal) (K:PVal→Option α):Option α:=match v with
  | .p x=>K x
  | _=>none
def storeK (P:Program) (shs:Nat→Sh) (σ:XSt) (t:Nat) (a v:AVal) (K:Nx α):Option α :=
  typeK P t fun g n=>match a with
    | .box id off=>match σ.get id with
      | some (.box cs)=>objK g n (shs t) v fun o=>match o with
        | .box new=>match aaT cs off new with
          | some cs'=>K (.p (.tup [])) (σ.set id (.box cs')) [id] [id]
          | none=>none
        | .pbox new=>chk (Nat.beq off 0) (chk (Nat.beq n cs.length) (K (.p (.tup [])) (σ.set id (.pbox new)) [id] [id]))
        | _=>none
      | some (.pbox cs)=>purK v fun x=>match g with
        | false=>chk (oneP x) (chk (Nat.beq n 1) (chk (Nat.blt off cs.length) (K (.p (.tup [])) (σ.set id (.pbox (cs.set off x))) [id] [id])))
        | true=>aggK x fun new=>chk (Nat.beq new.length n) (chk (Nat.ble (off + n) cs.length) (K (.p (.tup [])) (σ.set id (.pbox (cs.take off ++ new ++ cs.drop (off + n)))) [id] [id]))
      | _=>none
    | .el id ep i 0=>match σ.get id with
      | some (.arr sz xs cur _ fz)=>chk (Nat.beq ep cur) (chk (Nat.ble fz i) (chk (Nat.blt i xs.length) (purK v fun x=>match g with
        | false=>chk (oneP x) (chk (Nat.beq n 1) (nthK xs i fun y=>chk (oneP y) (K (.p (.tup [])) (σ.set id (.arr sz (xs.set i x) cur cur fz)) [id] [id])))
        | true=>aggK x fun new=>chk (Nat.beq new.length n) (nthK xs i fun y=>aggK y fun cs=>chk (Nat.beq cs.length n) (K (.p (.tup [])) (σ.set id (.arr sz (xs.set i (.agg new)) cur cur fz)) [id] [id])))))
      | _=>none
    | _=>none
def sourceK (σ:XSt) (v:AVal) (K:List PVal→List Nat→Option α):Option α:=match v with
  | .p x=>slK x fun l=>K l []
  | .cl l=>K l []
  | .arr id ep off len _=>match σ.get id with
    | some (.arr _ xs _ lost _)=>chk (Nat.ble lost ep) (chk (Nat.ble (off + len) xs.length) (K ((xs.drop off).take len) [id]))
    | _=>none
  | _=>none
def widths (g:Bool) (sz:Nat):List PVal→Bool
  | []=>true
  | x :: r=>match (match g with
    | true=>match x with | .agg cs=>Nat.beq cs.length sz | _=>false
    | false=>oneP x && Nat.beq sz 1) with
    | true=>widths g sz r
    | false=>false
def appendK (P:Program) (σ:XSt) (b t:Nat) (v u:AVal) (K:Nx α):Option α :=
  match elemT P t with
  | some e=>match szT P e,bytesT P e,aggT P e with
    | some sz,some by_,some g=>sourceK σ u fun ys rd=>chk (widths g sz ys) (chk (zeroOk P e g sz) (chk (Nat.blt 0 by_) (match v with
      | .p .nils=>listK ys (K (.p .nils) σ rd [])
        fun y r=>chk (Nat.ble ((y :: r).length * by_) 1099511627776) (freeK σ b (K (.arr b 0 0 (y :: r).length false) (σ.set b (.arr sz (y :: r) 0 0 0)) (b :: rd) [b]))
      | .cl xs=>listK ys (K (.cl xs) σ rd [])
        fun y r=>chk (widths g sz xs) (chk (Nat.ble ((xs.length + (y :: r).length) * by_) 1099511627776) (freeK σ b (K (.arr b 0 0 (xs.length + (y :: r).length) false) (σ.set b (.arr sz (xs ++ y :: r) 0 0 0)) (b :: rd) [b])))
      | .arr id ep 0 len false=>match σ.get id with
        | some (.arr sz' xs cur lost fz)=>chk (Nat.beq sz sz') (chk (Nat.ble lost ep) (chk (Nat.beq len xs.length) (chk (Nat.ble ((len + ys.length) * by_) 1099511627776) (listK ys (K v σ (id :: rd) [])
          fun y r=>K (.arr id (cur + 1) 0 (len + (y :: r).length) false) (σ.set id (.arr sz (xs ++ y :: r) (cur + 1) lost fz)) (id :: rd) [id]))))
        | _=>none
      | .arr id ep off len true=>match σ.get id with
        | some (.arr sz' xs _ lost _)=>chk (Nat.beq sz sz') (chk (Nat.ble lost ep) (chk (Nat.ble ((len + ys.length) * by_) 1099511627776) (chk (Nat.ble (off + len) xs.length) (listK ys (K v σ (id :: rd) [])
          fun y r=>freeK σ b (K (.arr b 0 0 (len + (y :: r).length) false) (σ.set b (.arr sz ((xs.drop off).take len ++ y :: r) 0 0 0)) (b :: id :: rd) [b])))))
        | _=>none
      | _=>none)))
    | _,_,_=>none
  | none=>none
end
end Go.Proofs.YtdnbnpknpejpdaaGreatDoor.Sw
namespace Go.Proofs.YtdnbnpknpejpdaaGreatDoor.Sw
def idx:List Nat→Nat→Option Nat
  | [],_=>none
  | x :: r,n=>match Nat.beq x n with
    | true=>some 0
    | false=>match idx r n with
      | some k=>some (k + 1)
      | none=>none
def isSome {β:Type}:Option β→Bool
  | some _=>true
  | none=>false
mutual
def idsA:AVal→List Nat
  | .agg cs=>idsAs cs
  | .tup cs=>idsAs cs
  | .iface _ v=>idsA v
  | .fn _ cs=>idsAs cs
  | .fnb _ cs=>idsAs cs
  | .box id _=>[id]
  | .arr id _ _ _ _=>[id]
  | .p _=>[]
  | .cl _=>[]
  | .own _ _=>[]
  | .ownm _=>[]
  | .el _ _ _ _=>[]
  | .rf _ id=>[id]
  | .junk=>[]
def idsAs:List AVal→List Nat
  | []=>[]
  | v :: r=>idsA v ++ idsAs r
end
mutual
def mapA (f:Nat→Option Nat) (e:Nat→Nat→Option Nat):AVal→Option AVal
  | .p x=>some (.p x)
  | .cl xs=>some (.cl xs)
  | .agg cs=>match mapAs f e cs with
    | some cs=>some (.agg cs)
    | none=>none
  | .tup cs=>match mapAs f e cs with
    | some cs=>some (.tup cs)
    | none=>none
  | .iface t v=>match mapA f e v with
    | some v=>some (.iface t v)
    | none=>none
  | .fn g cs=>match mapAs f e cs with
    | some cs=>some (.fn g cs)
    | none=>none
  | .fnb g cs=>match mapAs f e cs with
    | some cs=>some (.fnb g cs)
    | none=>none
  | .box id off=>match f id with
    | some j=>some (.box j off)
    | none=>none
  | .arr id ep off len c=>match f id,e id ep with
    | some j,some ep'=>some (.arr j ep' off len c)
    | _,_=>none
  | .rf k id=>match f id with
    | some j=>some (.rf k j)
    | none=>none
  | .own _ _=>none
  | .ownm _=>none
  | .el _ _ _ _=>none
  | .junk=>none
def mapAs (f:Nat→Option Nat) (e:Nat→Nat→Option Nat):List AVal→Option (List AVal)
  | []=>some []
  | v :: r=>match mapA f e v,mapAs f e r with
    | some v,some r=>some (v :: r)
    | _,_=>none
end
def mapO (f:Nat→Option Nat) (e:Nat→Nat→Option Nat) (n:Nat):XObj→Option XObj
  | .box cs=>match mapAs f e cs with
    | some cs=>some (.box cs)
    | none=>none
  | .arr sz xs _ _ fz=>some (.arr sz xs n n fz)
  | .pbox cs=>some (.pbox cs)
  | .lp k vals st pend=>match mapAs f e vals with
    | some vals=>some (.lp k vals st pend)
    | none=>none
def epNow (σ:XSt) (id ep:Nat):Option Nat:=match σ.get id with
  | some (.arr _ _ cur _ _)=>match Nat.beq ep cur with
    | true=>some 0
    | false=>none
  | _=>none
def renAs (ids:List Nat) (σ:XSt):List AVal→Option (List AVal):=mapAs (idx ids) (epNow σ)
def renOs (ids:List Nat) (σ:XSt):List Nat→Option (List XObj)
  | []=>some []
  | id :: r=>match σ.get id with
    | some o=>match mapO (idx ids) (epNow σ) 0 o,renOs ids σ r with
      | some o,some r=>some (o :: r)
      | _,_=>none
    | none=>none
def reach (σ:XSt):Nat→List Nat→List Nat→List Nat
  | 0,_,acc=>acc
  | _ + 1,[],acc=>acc
  | k + 1,id :: q,acc=>match isSome (idx acc id) with
    | true=>reach σ k q acc
    | false=>match σ.get id with
      | some (.box cs)=>reach σ k (q ++ idsAs cs) (acc ++ [id])
      | some (.lp _ vals _ _)=>reach σ k (q ++ idsAs vals) (acc ++ [id])
      | _=>reach σ k q (acc ++ [id])
def distinct:List Nat→Bool
  | []=>true
  | x :: r=>match isSome (idx r x) with
    | true=>false
    | false=>distinct r
def firsts:Nat→Nat→List Nat→Bool
  | 0,_,_=>true
  | _ + 1,_,[]=>false
  | m + 1,i,x :: r=>match Nat.beq x i with
    | true=>firsts m (i + 1) r
    | false=>false
structure XC where
  vals:List AVal
  objs:List XObj
def getAll (tm:Tr AVal):List Nat→Option (List AVal)
  | []=>some []
  | t :: r=>match tm.get t,getAll tm r with
    | some v,some vs=>some (v :: vs)
    | _,_=>none
def objsOf:Nat→List XObj→Tr XObj
  | _,[]=>.lf
  | i,o :: r=>(objsOf (i + 1) r).set i o
def XC.st (c:XC):XSt:={ next:=c.objs.length,objs:=objsOf 0 c.objs }
def upTo:Nat→Nat→List Nat
  | 0,_=>[]
  | m + 1,i=>i :: upTo m (i + 1)
section
variable {α:Type}
def aiV (m:Nat) (σ:XSt) (vs:List AVal) (ids:List Nat) (K:XC→Option α):Option α:=match distinct ids,firsts m 0 ids with
  | true,true=>match renAs ids σ vs,renOs ids σ ids with
    | some vs',some os=>K ⟨vs',os⟩
    | _,_=>none
  | _,_=>none
def canon (m:Nat) (live:List Nat) (tm:Tr AVal) (σ:XSt) (K:XC→Option α):Option α:=match getAll tm live with
  | some vs=>aiV m σ vs (reach σ 64 (upTo m 0 ++ idsAs vs) []) K
  | none=>none
end
inductive XT where
  | fn (f:Nat)
  | yld
structure XRes where
  v:AVal
  objs:List XObj
def Told:Type 1:=∀ (α:Type),XT→XC→(XRes→Option α)→Option α
def nuOf (ids:List Nat) (b j:Nat):Option Nat:=match nth ids j with
  | some id=>some id
  | none=>some (b + (j - ids.length))
def epNew (ids:List Nat) (σ:XSt) (j:Nat):Nat:=match nth ids j with
  | some id=>match σ.get id with
    | some (.arr _ _ cur _ _)=>cur + 1
    | _=>0
  | none=>0
def epBack (ids:List Nat) (σ:XSt) (j ep:Nat):Option Nat:=match Nat.beq ep 0 with
  | true=>some (epNew ids σ j)
  | false=>none
def fresh0:XObj→Bool
  | .arr _ _ cur lost _=>match Nat.beq cur 0,Nat.beq lost 0 with
    | true,true=>true
    | _,_=>false
  | _=>true
def backOs (ids:List Nat) (σ:XSt) (b:Nat):Nat→List XObj→Option (List (Nat × XObj))
  | _,[]=>some []
  | j,o :: r=>match fresh0 o,nuOf ids b j,mapO (nuOf ids b) (epBack ids σ) (epNew ids σ j) o,backOs ids σ b (j + 1) r with
    | true,some id,some o',some r=>some ((id,o') :: r)
    | _,_,_,_=>none
def sameKind:XObj→XObj→Bool
  | .arr .., .arr ..=>true
  | .box _, .box _=>true
  | .box _, .pbox _=>true
  | .pbox _, .box _=>true
  | .pbox _, .pbox _=>true
  | .lp k .., .lp k' ..=>Nat.beq k k'
  | _,_=>false
def aeW:List XObj→List XObj→Bool
  | [],_=>true
  | x :: xs,y :: ys=>match sameKind x y with
    | true=>aeW xs ys
    | false=>false
  | _ :: _,[]=>false
def XSt.puts (σ:XSt):List (Nat × XObj)→XSt
  | []=>σ
  | (id,o) :: r=>(σ.set id o).puts r
section
variable {α:Type}
def sharedAt (td:Told) (σ:XSt) (b:Nat) (t:XT) (roots:List AVal) (ids:List Nat) (K:Nx α):Option α :=
  aiV 0 σ roots ids fun c=>td α t c fun res =>
    match mapA (nuOf ids b) (epBack ids σ) res.v,backOs ids σ b 0 res.objs,aeW c.objs res.objs,Nat.ble res.objs.length (ids.length + 16) with
    | some v,some ps,true,true=>K v (σ.puts ps) (ps.map (·.1)) (ps.map (·.1))
    | _,_,_,_=>none
def sharedK (td:Told) (σ:XSt) (b:Nat) (t:XT) (roots:List AVal) (K:Nx α):Option α:=sharedAt td σ b t roots (reach σ 64 (idsAs roots) []) K
end
section
variable {α:Type} [Sites]
def depthX:Nat:=12
def nslK (x:PVal) (A:Option α) (K:List PVal→Option α):Option α:=match x with
  | .nils=>A
  | .sl l=>K l
  | _=>none
def sliceP (x:PVal) (l h:Nat):PVal:=match x with
  | .sl xs=>.sl ((xs.drop l).take (h - l))
  | x=>x
def boundK (x:Option AVal) (d:Nat) (K:Nat→Option α):Option α:=match x with
  | none=>K d
  | some v=>ixK v K
def cutK (lo hi:Option AVal) (len:Nat) (K:Nat→Nat→Option α):Option α :=
  boundK lo 0 fun l=>boundK hi len fun h=>chk (Nat.ble l h) (chk (Nat.ble h len) (K l h))
def sliceK (P:Program) (σ:XSt) (t:Nat) (v:AVal) (lo hi mx:Option AVal) (K:Nx α):Option α :=
  match mx with
  | some m=>match P.underlying t,v,hi with
    | some (.slice e), .p x,some h=>match szT P e with
      | some sz=>nslK x (cutK lo (some h) 0 fun _ h=>ixK m fun m=>chk (Nat.beq m h) (K (.p .nils) σ [] []))
        fun xs=>cutK lo (some h) xs.length fun l h=>ixK m fun m=>chk (Nat.beq m h) (chk (wide sz xs) (K (.cl ((xs.drop l).take (h - l))) σ [] []))
      | none=>none
    | _,_,_=>none
  | none =>
            match P.underlying t,v with
    | some .string, .p x=>strK x fun bs=>cutK lo hi bs.length fun l h=>K (.p (.str ((bs.drop l).take (h - l)))) σ [] []
    | some (.slice e), .p x=>match szT P e with
      | some sz=>slK x fun xs=>cutK lo hi xs.length fun l h=>chk (wide sz xs) (K (.p (sliceP x l h)) σ [] [])
      | none=>none
    | some (.slice e), .cl xs=>match szT P e with
      | some sz=>cutK lo hi xs.length fun l h=>chk (wide sz xs) (K (.p (.sl ((xs.drop l).take (h - l)))) σ [] [])
      | none=>none
    | some (.slice e), .arr id ep off len c=>match szT P e, σ.get id with
      | some sz,some (.arr sz' _ _ _ _)=>cutK lo hi len fun l h=>chk (Nat.beq sz sz')
        (ifB (Nat.beq l h)
          (match c with
            | true=>K (.p (.sl [])) σ [id] []
            | false=>ifB (Nat.beq l 0) (K (.arr id ep off 0 false) σ [id] []) (K (.p (.sl [])) σ [id] []))
          (match c with
            | true=>chk (Nat.beq h len) (K (.arr id ep (off + l) (h - l) true) σ [id] [])
            | false=>K (.arr id ep (off + l) (h - l) false) σ [id] []))
      | _,_=>none
    | _,_=>none
def fieldK (P:Program) (shs:Nat→Sh) (t f:Nat) (v:AVal) (K:AVal→Option α):Option α :=
  match fieldT P t f with
  | some fd=>typeK P fd.type fun g n=>match v with
    | .p x=>aggK x fun cs=>partK g cs fd.offset n fun y=>(shs fd.type).view y fun y'=>K (.p y')
    | .agg cs=>partAK g cs fd.offset n K
    | _=>none
  | none=>none
def alP (P:Program) (shs:Nat→Sh) (t f:Nat) (v:AVal) (K:AVal→Option α):Option α :=
  match fieldT P t f with
  | some fd=>typeK P fd.type fun g n=>match n with
    | 0=>none
    | _=>match v with
      | .box id off=>K (.box id (off + fd.offset))
      | .el id ep i off=>K (.el id ep i (off + fd.offset))
      | .p x=>ipK x fun x=>aggK x fun cs=>partK g cs fd.offset n fun y=>(shs fd.type).view y fun y'=>K (.p (.ip y'))
      | _=>none
  | none=>none
def indexK (P:Program) (shs:Nat→Sh) (t:Nat) (v i:AVal) (K:AVal→Option α):Option α :=
  match P.underlying t with
  | some .string=>match v with
    | .p x=>strK x fun bs=>ixK i fun n=>nthK bs n fun c=>K (.p (.int .u8 (Int.ofNat c)))
    | _=>none
  | some (.array len e)=>typeK P e fun g sz=>match v with
    | .p x=>aggK x fun cs=>ixK i fun n=>chk (Nat.blt n len) (partK g cs (n * sz) sz fun y=>(shs e).view y fun y'=>K (.p y'))
    | _=>none
  | _=>none
def pickK (c x y:AVal) (K:AVal→Option α):Option α:=match c with
  | .p (.bool b)=>match x,y with
    | .p (.bool u), .p (.bool v)=>K (.p (.bool (selB b u v)))
    | x,y=>ifB b (K x) (K y)
  | _=>none
def ann (P:Program):List Field→List PVal→List PVal→Option Bool
  | [],_,_=>some true
  | f :: fs,a,b=>match f.name == "_",aggT P f.type,nth a f.offset,nth b f.offset with
    | false,some false,some x,some y=>match ab9 (P.underlying f.type) x y,ann P fs a b with
      | some u,some v=>some (selB u v false)
      | _,_=>none
    | _,_,_,_=>none
def am8 (P:Program) (e c:Nat) (a b:List PVal):Nat→Nat→Option Bool
  | _,0=>some true
  | i,k + 1=>match nth a (i * c),nth b (i * c) with
    | some x,some y=>match ab9 (P.underlying e) x y,am8 P e c a b (i + 1) k with
      | some u,some v=>some (selB u v false)
      | _,_=>none
    | _,_=>none
def ajn (P:Program) (t:Nat) (a b:List PVal):Option Bool :=
  match P.underlying t with
  | some (.array n e)=>match aggT P e,szT P e with
    | some false,some c=>am8 P e c a b 0 n
    | _,_=>none
  | some (.struct fs)=>match P.stoodInHeld t with
    | false=>ann P fs.toList a b
    | true=>none
  | _=>none
def nilSK (x:PVal) (K:Bool→Option α):Option α:=match x with
  | .nils=>K true
  | .sl _=>K false
  | _=>none
def nilPK (x:PVal) (K:Bool→Option α):Option α:=match x with
  | .nilp=>K true
  | .ip _=>K false
  | _=>none
def nilFK (x:PVal) (K:Bool→Option α):Option α:=match x with
  | .nilf=>K true
  | .fn _ _=>K false
  | _=>none
def nilIK (x:PVal) (K:Bool→Option α):Option α:=match x with
  | .nili=>K true
  | .iface _ _=>K false
  | _=>none
def nilEqK (d:Option TypeDesc) (op:BinOp) (x y:PVal) (K:AVal→Option α):Option α :=
  match op with
  | .eql=>match d,y with
    | some (.slice _), .nils=>nilSK x fun b=>K (.p (.bool b))
    | some (.pointer _), .nilp=>nilPK x fun b=>K (.p (.bool b))
    | some (.func _ _ _), .nilf=>nilFK x fun b=>K (.p (.bool b))
    | some (.interface _), .nili=>nilIK x fun b=>K (.p (.bool b))
    | _,_=>none
  | .neq=>match d,y with
    | some (.slice _), .nils=>nilSK x fun b=>K (.p (.bool (!b)))
    | some (.pointer _), .nilp=>nilPK x fun b=>K (.p (.bool (!b)))
    | some (.func _ _ _), .nilf=>nilFK x fun b=>K (.p (.bool (!b)))
    | some (.interface _), .nili=>nilIK x fun b=>K (.p (.bool (!b)))
    | _,_=>none
  | _=>none
def isNilP (x:PVal):Bool:=match x with
  | .nils=>true
  | .nilp=>true
  | .nilf=>true
  | .nili=>true
  | _=>false
def binV (P:Program) (op:BinOp) (t:Nat) (ox oy:Operand) (x y:AVal) (K:AVal→Option α):Option α :=
  match x,y with
  | .p (.int k a), .p (.int k' b)=>match op with
    | .quo=>chk (Nat.beq (kNum k) (kNum k')) (ifB (decide (b=0)) none (K (.p (.int k (k.wrap (a.tdiv b))))))
    | .rem=>chk (Nat.beq (kNum k) (kNum k')) (ifB (decide (b=0)) none (K (.p (.int k (a.tmod b)))))
    | .shl=>ifB (decide (b < 0)) none (K (.p (.int k (k.wrap (a * 2 ^ (min b.toNat k.bits))))))
    | .shr=>ifB (decide (b < 0)) none (K (.p (.int k (a.fdiv (2 ^ (min b.toNat k.bits))))))
    | op=>chk (Nat.beq (kNum k) (kNum k')) (match intBin op k a b with
      | some z=>K (.p z)
      | none=>none)
  | .p (.str a), .p (.str b)=>match op with
    | .add=>chk (Nat.ble (a.length + b.length) 1099511627776) (K (.p (.str (a ++ b))))
    | op=>match strBin op a b with
      | some z=>K (.p z)
      | none=>none
  | .p (.agg a), .p (.agg b)=>match op,P.eqGuardType P.depth t with
    | .eql,false=>bindK (ajn P t a b) fun z=>K (.p (.bool z))
    | .neq,false=>bindK (ajn P t a b) fun z=>K (.p (.bool (!z)))
    | _,_=>none
  | .p x, .p y=>match P.underlying t with
    | some .bool=>match x,y with
      | .bool a, .bool b=>match op with
        | .eql=>K (.p (.bool (a == b)))
        | .neq=>K (.p (.bool (!(a == b))))
        | _=>none
      | _,_=>none
    | _=>none
  | x,y=>match binary P op t ox oy x y with
    | some v=>K v
    | none=>none
def nilC (o:Operand) (v:AVal):Bool:=match isConst o with
  | true=>match v with
    | .p x=>isNilP x
    | _=>false
  | false=>false
def binE (P:Program) (op:BinOp) (t:Nat) (ox oy:Operand) (x y:AVal) (K:AVal→Option α):Option α:=match binary P op t ox oy x y with
  | some v=>K v
  | none=>none
def binK (P:Program) (op:BinOp) (t:Nat) (ox oy:Operand) (x y:AVal) (K:AVal→Option α):Option α :=
  match nilC oy y with
  | true=>match x,y with
    | .p x, .p y=>nilEqK (P.underlying t) op x y K
    | x,y=>binE P op t ox oy x y K
  | false=>match nilC ox x with
    | true=>match x,y with
      | .p x, .p y=>nilEqK (P.underlying t) op y x K
      | x,y=>binE P op t ox oy x y K
    | false=>binV P op t ox oy x y K
def adA (f:AVal→(PVal→List Nat→Option α)→Option α):List AVal→(List PVal→List Nat→Option α)→Option α
  | [],K=>K [] []
  | v :: r,K=>f v fun x a=>adA f r fun xs b=>K (x :: xs) (a ++ b)
def handK (bw:Bool) (σ:XSt):Nat→AVal→(PVal→List Nat→Option α)→Option α
  | 0,_,_=>none
  | d + 1,v,K=>match v with
    | .p x=>K x []
    | .cl l=>K (.sl l) []
    | .agg cs=>adA (handK bw σ d) cs fun ps ids=>K (.agg ps) ids
    | .tup cs=>adA (handK bw σ d) cs fun ps ids=>K (.tup ps) ids
    | .iface t v=>handK bw σ d v fun x ids=>K (.iface t x) ids
    | .fn f cs=>adA (handK bw σ d) cs fun ps ids=>K (.fn f ps) ids
    | .arr id ep off len _=>match d, σ.get id with
      | _ + 1,some (.arr _ xs _ lost _)=>chk (Nat.ble lost ep) (chk (Nat.ble (off + len) xs.length) (K (.sl ((xs.drop off).take len)) [id]))
      | _,_=>none
    | .box id 0=>match σ.get id with
      | some (.pbox cs)=>match d with
        | 0=>none
        | _ + 1=>chk bw (chk (Nat.blt 1 cs.length) (K (.ip (.agg cs)) [id]))
      | some (.box cs)=>chk bw (adA (handK bw σ d) cs fun ps ids=>K (.ip (ipOf ps)) (id :: ids))
      | _=>none
    | _=>none
def handsK (bw:Bool) (σ:XSt) (l:List AVal) (K:List PVal→List Nat→Option α):Option α:=adA (handK bw σ depthX) l K
inductive Rs where
  | one (s:Sh)
  | many (l:List Sh)
  | own
  | clip
def viewsP:List Sh→List PVal→(List PVal→Option α)→Option α
  | [],l,K=>endK l (K [])
  | s :: ss,l,K=>consK l fun x r=>s.view x fun x'=>viewsP ss r fun r'=>K (x' :: r')
def Rs.view (s:Rs) (v:AVal) (Kp:PVal→Option α) (Ko:Nat→List PVal→Option α) (Kc:List PVal→Option α):Option α:=match s with
  | .one s=>pK v fun x=>s.view x Kp
  | .many l=>pK v fun x=>tupK x fun vs=>viewsP l vs fun vs'=>Kp (.tup vs')
  | .own=>nownK v (Kp .nils) Ko
  | .clip=>nclK v (Kp .nils) Kc
inductive XE where
  | normal
  | exit (id:Nat)
  | ret
abbrev Rec1:=Nat→List PVal→Option AVal
structure Cfg where
  shs:Nat→Sh
  res:Nat→Rs
  imp:Nat→Bool
  gl:Tr AVal:=.lf
  m:Nat:=0
  rd:Bool:=false
  sk:Nat→Nat:=fun _=>0
  ro:Nat→XE→List Nat:=fun _ _=>[]
def XSt.freeze:List Nat→XSt→Option XSt
  | [], σ=>some σ
  | id :: r, σ=>match σ.get id with
    | some (.arr sz xs ep lost _)=>XSt.freeze r (σ.set id (.arr sz xs ep lost xs.length))
    | _=>none
def apM (ids:List Nat) (σ:XSt) (K:XSt→Option α):Option α:=match XSt.freeze ids σ with
  | some σ'=>K σ'
  | none=>none
def pureK (σ:XSt) (ids:List Nat) (K:Nx α) (x:PVal):Option α:=match ids with
  | []=>K (.p x) σ [] []
  | _ :: _=>ifB (flatP x) (K (.p x) σ ids []) (apM ids σ fun σ'=>K (.p x) σ' ids ids)
def isoK (cf:Cfg) (rec:Rec1) (σ:XSt) (b site f:Nat) (args:List AVal) (tail:List PVal) (K:Nx α):Option α :=
  chk (!cf.imp f) (handsK (lends cf.imp f) σ args fun ps ids=>bindK (rec f (ps ++ tail)) fun v=>(cf.res site).view v
    (pureK σ ids K)
    (fun sz xs=>freeK σ b (apM ids σ fun σ'=>K (.arr b 0 0 xs.length false) (σ'.set b (.arr sz xs 0 0 0)) (ids ++ [b]) (ids ++ [b])))
    (fun xs=>chk (clips cf.imp f) (apM ids σ fun σ'=>K (.cl xs) σ' ids ids)))
def shares (imp:Nat→Bool) (f:Nat) (args:List AVal):Bool:=match imp f with
  | true=>true
  | false=>match pureAs (pureA (lends imp f) depth) args with
    | true=>false
    | false=>true
def callF (cf:Cfg) (td:Told) (rec:Rec1) (σ:XSt) (b site f:Nat) (args:List AVal) (tail:List PVal) (K:Nx α):Option α :=
  match shares cf.imp f (args ++ tail.map .p) with
  | true=>sharedK td σ b (.fn f) (args ++ tail.map .p) K
  | false=>isoK cf rec σ b site f args tail K
def callK (P:Program) (cf:Cfg) (td:Told) (rec:Rec1) (tm:Tr AVal) (σ:XSt) (b site:Nat) (c:Call) (K:Nx α):Option α :=
  match c.callee with
  | .value (.func f)=>match operands tm c.args.toList with
    | some args=>callF cf td rec σ b site f args [] K
    | none=>none
  | .value o=>opdK tm o fun fv=>match operands tm c.args.toList with
    | some args=>match fv with
      | .p x=>fnK x fun f cap=>isoK cf rec σ b site f args cap K
      | .fn (.func f) cap=>callF cf td rec σ b site f (args ++ cap) [] K
      | .fnb (.func f) first=>callF cf td rec σ b site f (first ++ args) [] K
      | .rf .yld id=>match σ.get id with
        | some (.lp _ _ _ _)=>sharedK td σ b .yld (.rf .yld id :: args) K
        | _=>none
      | _=>none
    | none=>none
  | .invoke o name=>opdK tm o fun x=>match operands tm c.args.toList with
    | some args=>match x with
      | .p x=>ifK x fun t v=>bindK (methodAt P t name) fun f=>isoK cf rec σ b site f (.p v :: args) [] K
      | .iface t v=>bindK (methodAt P t name) fun f=>callF cf td rec σ b site f (v :: args) [] K
      | _=>none
    | none=>none
  | _=>none
def assertK (P:Program) (v:AVal) (a:Nat) (ok:Bool) (K:AVal→Option α):Option α:=match v with
  | .p x=>match ifaceT P a,P.underlying a,zeroT P a with
    | false,some _,some z=>ifK x fun t y=>ifB (Nat.beq t a)
        (match ok with | true=>K (.p (.tup [y, .bool true])) | false=>K (.p y))
        (match ok with | true=>K (.p (.tup [z, .bool false])) | false=>none)
    | _,_,_=>none
  | v=>match aew P v a ok with
    | some z=>K z
    | none=>none
def cellsK (g:Bool) (n:Nat) (sh:Sh) (v:AVal) (K:List AVal→Option α):Option α:=objK g n sh v fun o=>match o.to with
  | .box cs=>K cs
  | _=>none
def fillK (P:Program) (shs:Nat→Sh) (fs:Array Field):List AVal→List (Nat × AVal)→(List AVal→Option α)→Option α
  | cs,[],K=>K cs
  | cs,(i,v) :: r,K=>match fs[i]? with
    | some f=>match szT P f.type,aggT P f.type with
      | some n,some g=>cellsK g n (shs f.type) v fun new=>match aaT cs f.offset new with
        | some cs'=>fillK P shs fs cs' r K
        | none=>none
      | _,_=>none
    | none=>none
def buildK (P:Program) (shs:Nat→Sh) (t:Nat) (parts:List (Nat × AVal)) (K:AVal→Option α):Option α :=
  match zeroT P t with
  | some (.agg zs)=>match P.underlying t with
    | some (.struct fs)=>match fs.toList.all fun f=>(szT P f.type).isSome with
      | true=>fillK P shs fs (zs.map .p) parts fun cs=>K (mkAgg cs)
      | false=>none
    | _=>match alU P t parts with
      | some z=>K z
      | none=>none
  | _=>none
def elemsK (g:Bool) (n:Nat) (sh:Sh):Nat→List (Nat × AVal)→(List AVal→Option α)→Option α
  | _,[],K=>K []
  | k,(i,v) :: r,K=>match Nat.beq i k with
    | true=>cellsK g n sh v fun _=>elemsK g n sh (k + 1) r fun vs=>K (v :: vs)
    | false=>none
def aiX (P:Program) (shs:Nat→Sh) (tm:Tr AVal) (σ:XSt) (b t len:Nat) (ops:Array (Nat × Operand)) (parts:List (Nat × AVal)) (K:Nx α):Option α :=
  match elemT P t with
  | some e=>match szT P e,aggT P e with
    | some n,some g=>match zeroOk P e g n,Nat.beq parts.length len,Nat.ble (len * n) 16777216 with
      | true,true,true=>elemsK g n (shs e) 0 parts fun vs=>match unP vs with
        | some ps=>K (.cl ps) σ [] []
        | none=>plainK P tm σ b (.buildSlice t len ops) K
      | _,_,_=>none
    | _,_=>none
  | none=>none
def xop (P:Program) (cf:Cfg) (td:Told) (rec:Rec1) (tm:Tr AVal) (σ:XSt) (b site:Nat) (op:Op) (K:Nx α):Option α :=
  match op with
  | .pick c x y=>opdK tm c fun c=>opdK tm x fun x=>opdK tm y fun y=>pickK c x y fun v=>K v σ [] []
  | .binOp op t x y _=>opdK tm x fun v=>opdK tm y fun u=>binK P op t x y v u fun z=>K z σ [] []
  | .box t x=>opdK tm x fun v=>typeK P t fun g n=>objK g n (cf.shs t) v fun o=>freeK σ b (K (.box b 0) (σ.set b o) [b] [b])
  | .alloc t=>match zeroT P t with
    | some z=>typeK P t fun g n=>objK g n (cf.shs t) (.p z) fun o=>freeK σ b (K (.box b 0) (σ.set b o) [b] [b])
    | none=>none
  | .load t x=>opdK tm x fun v=>loadK P cf.shs σ t v K
  | .store t x y=>opdK tm x fun a=>opdK tm y fun v=>storeK P cf.shs σ t a v K
  | .fieldAddr t x f=>opdK tm x fun v=>alP P cf.shs t f v fun z=>K z σ [] []
  | .field t x f=>opdK tm x fun v=>fieldK P cf.shs t f v fun z=>K z σ [] []
  | .indexAddr t x i=>opdK tm x fun v=>opdK tm i fun i=>alF P cf.shs σ t v i K
  | .index t x i=>opdK tm x fun v=>opdK tm i fun i=>indexK P cf.shs t v i fun z=>K z σ [] []
  | .build t parts=>match aaL tm parts.toList with
    | some ps=>buildK P cf.shs t ps fun z=>K z σ [] []
    | none=>none
  | .buildSlice t len parts=>match aaL tm parts.toList with
    | some ps=>aiX P cf.shs tm σ b t len parts ps K
    | none=>none
  | .slice t x lo hi mx=>opdK tm x fun v=>match operand? tm lo,operand? tm hi,operand? tm mx with
    | some lo,some hi,some mx=>sliceK P σ t v lo hi mx K
    | _,_,_=>none
  | .call { callee:=.builtin .len,args,argTypes }=>match args.toList,argTypes.toList with
    | [x],[t]=>opdK tm x fun v=>lenK P t v fun z=>K z σ [] []
    | _,_=>none
  | .call { callee:=.builtin .append,args,argTypes }=>match args.toList,argTypes.toList with
    | [x,y],[t,t2]=>match notInt P t2 with
      | true=>opdK tm x fun v=>opdK tm y fun u=>appendK P σ b t v u K
      | false=>none
    | _,_=>none
  | .call { callee:=.builtin _, .. }=>plainK P tm σ b op K
  | .call c=>callK P cf td rec tm σ b site c K
  | .panic _=>none
  | .defer _=>none
  | .typeAssert x _ a ok=>opdK tm x fun v=>assertK P v a ok fun z=>K z σ [] []
  | op=>plainK P tm σ b op K
def wantK (ops:Array Oper) (tm:Tr AVal) (o:Oper) (K:Bool→Tr AVal→Option α):Option α :=
  match o.guard with
  | none=>K true tm
  | some (j,want)=>match ops[j]? with
    | some oj=>match oj.dst with
      | some d=>match operand tm (.tmp d) with
        | some (.p (.bool b))=>ifB b (K want (tm.set d (.p (.bool true)))) (K (match want with | true=>false | false=>true) (tm.set d (.p (.bool false))))
        | some (.p (.tup []))=>K false tm
        | _=>none
      | none=>none
    | none=>none
def dstK (n:Nat) (tm:Tr AVal) (d:Option Nat) (v:AVal) (K:Tr AVal→Option α):Option α:=match setDst n tm d v with
  | some tm'=>K tm'
  | none=>none
def opsK (P:Program) (cf:Cfg) (td:Told) (rec:Rec1) (n:Nat) (ops:Array Oper):List Oper→Nat→Nat→Tr AVal→XSt→List (Nat × Rec)→(Tr AVal→XSt→List (Nat × Rec)→Option α)→Option α
  | [],_,_,tm, σ,recs,K=>K tm σ recs
  | o :: r,i,b,tm, σ,recs,K=>wantK ops tm o fun w tm=>match w with
    | true=>xop P cf td rec tm σ b (o.dst.getD 0) o.op fun v σ' rd wr=>viewA (cf.shs o.type) v fun v'=>dstK n tm o.dst v' fun tm' =>
      opsK P cf td rec n ops r (i + 1) (b + 16) tm' σ' (addRec i ⟨rd,wr⟩ recs) K
    | false=>dstK n tm o.dst (.p (.tup [])) fun tm'=>opsK P cf td rec n ops r (i + 1) (b + 16) tm' σ recs K
def regionK (P:Program) (cf:Cfg) (td:Told) (rec:Rec1) (n:Nat) (ops:Array Oper) (draw:Bool) (tm:Tr AVal) (σ:XSt) (K:Tr AVal→XSt→Option α):Option α :=
  opsK P cf td rec n ops ops.toList 0 σ.next tm σ [] fun tm' σ' recs=>match draw with
    | false=>K tm' { σ' with next:=σ.next + 16 * ops.size }
    | true=>chk (abL (Region.before ops) recs) (K tm' { σ' with next:=σ.next + 16 * ops.size })
abbrev Loops (α:Type):=Nat→Tr AVal→XSt→(XE→Tr AVal→XSt→Option α)→Option α
def fnOfX:AVal→Option (Nat × List AVal)
  | .p (.fn (.func f) cap)=>some (f,cap.map .p)
  | .fn (.func f) cap=>some (f,cap)
  | _=>none
def leftK (cf:Cfg) (tm:Tr AVal) (σ:XSt) (t:Nat) (K:XE→Tr AVal→XSt→Option α) (x:XE):Option α :=
  canon cf.m (cf.ro t x) tm σ fun c=>K x (tmOf cf.gl (cf.ro t x) c.vals) c.st
def rangeK (cf:Cfg) (td:Told) (tm:Tr AVal) (σ:XSt) (t:Nat) (K:XE→Tr AVal→XSt→Option α):Option α:=match operand tm (.tmp t) with
  | some fv=>match fnOfX fv,getAll tm (Sites.site (cf.sk t)).live with
    | some (f,cap),some vals =>
      sharedK td { σ.set (σ.next + 1) (.lp (cf.sk t) vals .ready none) with next:=σ.next + 32 } (σ.next + 2) (.fn f) (.rf .yld (σ.next + 1) :: cap) fun _ σ2 _ _=>match σ2.get (σ.next + 1) with
        | some (.lp k vals' st pend)=>match st,pend with
          | .busy,_=>none
          | _,none=>leftK cf tm (σ2.set (σ.next + 1) (.lp k vals' .exhausted pend)) t K .normal
          | _,some .ret=>leftK cf tm (σ2.set (σ.next + 1) (.lp k vals' .exhausted pend)) t K .ret
          | _,some (.exit i)=>leftK cf tm (σ2.set (σ.next + 1) (.lp k vals' .exhausted pend)) t K (.exit i)
          | _,_=>none
        | _=>none
    | _,_=>none
  | none=>none
def codeK (P:Program) (cf:Cfg) (td:Told) (rec:Rec1) (n:Nat) (lo:Loops α):Code→Tr AVal→XSt→(XE→Tr AVal→XSt→Option α)→Option α
  | .skip,tm, σ,K=>K .normal tm σ
  | .label _,tm, σ,K=>K .normal tm σ
  | .region _ ops draw,tm, σ,K=>regionK P cf td rec n ops draw tm σ (K .normal)
  | .seq a b,tm, σ,K=>codeK P cf td rec n lo a tm σ fun x tm' σ'=>match x with
    | .normal=>codeK P cf td rec n lo b tm' σ' K
    | x=>K x tm' σ'
  | .cond c a b,tm, σ,K=>match operand tm c with
    | some (.p x)=>boolK x fun v=>ifB v (codeK P cf td rec n lo a tm σ K) (codeK P cf td rec n lo b tm σ K)
    | _=>none
  | .block id (.loop _),tm, σ,K=>lo id tm σ K
  | .block id c,tm, σ,K=>codeK P cf td rec n lo c tm σ fun x tm' σ'=>match x with
    | .exit i=>match Nat.beq i id with
      | true=>K .normal tm' σ'
      | false=>K (.exit i) tm' σ'
    | x=>K x tm' σ'
  | .exit id,tm, σ,K=>K (.exit id) tm σ
  | .scope c,tm, σ,K=>match cf.rd with
    | false=>codeK P cf td rec n lo c tm σ K
    | true=>none
  | .ret,tm, σ,K=>K .ret tm σ
  | .rangeFunc (.tmp t) _ _ _,tm, σ,K=>match cf.rd with
    | false=>rangeK cf td tm σ t K
    | true=>none
  | _,_,_,_=>none
end
end Go.Proofs.YtdnbnpknpejpdaaGreatDoor.Sw
namespace Go.Proofs.YtdnbnpknpejpdaaGreatDoor.Sw
section
variable {α:Type} {r:α}
theorem aaf {b:Bool} {x:Option α} (h:chk b x=some r):b=true∧x=some r:=by
  cases b <;> simp [chk] at h
  exact ⟨rfl,h⟩
theorem ace {b:Bool} {x y:Option α} (h:ifB b x y=some r):(b=true∧x=some r) ∨ (b=false∧y=some r):=by
  cases b with
  | true=>exact .inl ⟨rfl,h⟩
  | false=>exact .inr ⟨rfl,h⟩
theorem adV {β:Type} {o:Option β} {K:β→Option α} (h:bindK o K=some r):∃ x,o=some x∧K x=some r:=by
  cases o with
  | none=>simp [bindK] at h
  | some x=>exact ⟨x,rfl,h⟩
theorem ahv {β:Type} {l:List β} {A:Option α} {K:β→List β→Option α} (h:listK l A K=some r):(l = []∧A=some r) ∨ ∃ x t,l=x :: t∧K x t=some r:=by
  cases l with
  | nil=>exact .inl ⟨rfl,h⟩
  | cons x t=>exact .inr ⟨x,t,rfl,h⟩
theorem pK_some {v:AVal} {K:PVal→Option α} (h:pK v K=some r):∃ x,v = .p x∧K x=some r:=by
  unfold pK at h
  split at h <;> try (simp at h; done)
  exact ⟨_,rfl,h⟩
theorem nownK_some {v:AVal} {A:Option α} {K:Nat→List PVal→Option α} (h:nownK v A K=some r):(v = .p .nils∧A=some r) ∨ ∃ sz xs,v = .own sz xs∧K sz xs=some r:=by
  unfold nownK at h
  split at h <;> try (simp at h; done)
  · exact .inl ⟨rfl,h⟩
  · exact .inr ⟨_,_,rfl,h⟩
theorem nclK_some {v:AVal} {A:Option α} {K:List PVal→Option α} (h:nclK v A K=some r):(v = .p .nils∧A=some r) ∨ ∃ xs,v = .cl xs∧K xs=some r:=by
  unfold nclK at h
  split at h <;> try (simp at h; done)
  · exact .inl ⟨rfl,h⟩
  · exact .inr ⟨_,rfl,h⟩
theorem ifK_some {x:PVal} {K:Nat→PVal→Option α} (h:ifK x K=some r):∃ t v,x = .iface t v∧K t v=some r:=by
  unfold ifK at h
  split at h <;> try (simp at h; done)
  exact ⟨_,_,rfl,h⟩
theorem natK_some {z:Int} {K:Nat→Option α} (h:natK z K=some r):∃ n,z = .ofNat n∧K n=some r:=by
  cases z <;> simp [natK] at h
  exact ⟨_,rfl,h⟩
theorem intK_some {k:IntKind} {x:PVal} {K:Int→Option α} (h:intK k x K=some r):∃ z,x = .int k z∧K z=some r:=by
  unfold intK at h
  split at h <;> try (simp at h; done)
  split at h <;> try (simp at h; done)
  rename_i hk
  rw [apt hk]
  exact ⟨_,rfl,h⟩
theorem boolK_some {x:PVal} {K:Bool→Option α} (h:boolK x K=some r):∃ z,x = .bool z∧K z=some r:=by
  unfold boolK at h
  split at h <;> try (simp at h; done)
  exact ⟨_,rfl,h⟩
theorem ajo {x:PVal} {K:List Nat→Option α} (h:strK x K=some r):∃ z,x = .str z∧K z=some r:=by
  unfold strK at h
  split at h <;> try (simp at h; done)
  exact ⟨_,rfl,h⟩
theorem abc {x:PVal} {K:List PVal→Option α} (h:aggK x K=some r):∃ z,x = .agg z∧K z=some r:=by
  unfold aggK at h
  split at h <;> try (simp at h; done)
  exact ⟨_,rfl,h⟩
theorem tupK_some {x:PVal} {K:List PVal→Option α} (h:tupK x K=some r):∃ z,x = .tup z∧K z=some r:=by
  unfold tupK at h
  split at h <;> try (simp at h; done)
  exact ⟨_,rfl,h⟩
theorem am6 {x:PVal} {K:List PVal→Option α} (h:slK x K=some r):(x = .nils∧K []=some r) ∨ ∃ z,x = .sl z∧K z=some r:=by
  unfold slK at h
  split at h <;> try (simp at h; done)
  · exact .inl ⟨rfl,h⟩
  · exact .inr ⟨_,rfl,h⟩
theorem ipK_some {x:PVal} {K:PVal→Option α} (h:ipK x K=some r):∃ v,x = .ip v∧K v=some r:=by
  unfold ipK at h
  split at h <;> try (simp at h; done)
  exact ⟨_,rfl,h⟩
theorem fnK_some {x:PVal} {K:Nat→List PVal→Option α} (h:fnK x K=some r):∃ f c,x = .fn (.func f) c∧K f c=some r:=by
  unfold fnK at h
  split at h <;> try (simp at h; done)
  exact ⟨_,_,rfl,h⟩
theorem acP {β:Type} {l:List β} {n:Nat} {K:β→Option α} (h:nthK l n K=some r):∃ x,nth l n=some x∧K x=some r:=by
  unfold nthK at h
  split at h <;> try (simp at h; done)
  exact ⟨_,by assumption,h⟩
theorem consK_some {l:List PVal} {K:PVal→List PVal→Option α} (h:consK l K=some r):∃ x t,l=x :: t∧K x t=some r:=by
  cases l <;> simp [consK] at h
  exact ⟨_,_,rfl,h⟩
theorem endK_some {l:List PVal} {x:Option α} (h:endK l x=some r):l = []∧x=some r:=by
  cases l <;> simp [endK] at h
  exact ⟨rfl,h⟩
theorem acd {v:AVal} {K:Nat→Option α} (h:ixK v K=some r):∃ n,natOf v=some n∧K n=some r:=by
  unfold ixK at h
  split at h <;> try (simp at h; done)
  obtain ⟨n,rfl,h⟩:=natK_some h
  exact ⟨n,rfl,h⟩
theorem aaA {tm:Tr AVal} {o:Operand} {K:AVal→Option α} (h:opdK tm o K=some r):∃ v,operand tm o=some v∧K v=some r:=by
  unfold opdK at h
  split at h <;> try (simp at h; done)
  exact ⟨_,by assumption,h⟩
theorem acY {P:Program} {t:Nat} {K:Bool→Nat→Option α} (h:typeK P t K=some r):∃ g n,aggT P t=some g∧szT P t=some n∧K g n=some r:=by
  unfold typeK at h
  split at h <;> try (simp at h; done)
  exact ⟨_,_,by assumption,by assumption,h⟩
theorem Cs.aaK {c:Cs} {x:PVal} {K:PVal→Option α} (h:c.view x K=some r):K x=some r:=by
  cases c with
  | int k=>obtain ⟨z,rfl,h1⟩:=intK_some (show intK k x _=some r from h); exact h1
  | bool=>obtain ⟨z,rfl,h1⟩:=boolK_some (show boolK x _=some r from h); exact h1
  | str=>obtain ⟨z,rfl,h1⟩:=ajo (show strK x _=some r from h); exact h1
  | opq=>exact h
theorem aeF:∀ {l:List Cs} {xs:List PVal} {K:List PVal→Option α},ajf l xs K=some r→K xs=some r
  | [],xs,K,h=>by
    obtain ⟨rfl,h⟩:=endK_some (show endK xs (K [])=some r from h)
    exact h
  | c :: l,xs,K,h=>by
    obtain ⟨x,t,rfl,h1⟩:=consK_some (show consK xs _=some r from h)
    exact aeF (l:=l) (K:=fun r'=>K (x :: r')) (Cs.aaK h1)
theorem Sh.aaK {s:Sh} {x:PVal} {K:PVal→Option α} (h:s.view x K=some r):K x=some r:=by
  cases s with
  | one c=>exact Cs.aaK h
  | agg l =>
    obtain ⟨cs,rfl,h⟩:=abc (show aggK x _=some r from h)
    exact aeF h
theorem viewA_some {s:Sh} {v:AVal} {K:AVal→Option α} (h:viewA s v K=some r):K v=some r:=by
  unfold viewA at h
  split at h
  · exact Sh.aaK h
  · exact h
theorem ant:∀ {l:List Sh} {xs:List PVal} {K:List PVal→Option α},viewsP l xs K=some r→K xs=some r
  | [],xs,K,h=>by
    obtain ⟨rfl,h⟩:=endK_some (show endK xs (K [])=some r from h)
    exact h
  | c :: l,xs,K,h=>by
    obtain ⟨x,t,rfl,h1⟩:=consK_some (show consK xs _=some r from h)
    exact ant (l:=l) (K:=fun r'=>K (x :: r')) (Sh.aaK (K:=fun x'=>viewsP l t fun r'=>K (x' :: r')) h1)
theorem alS {sz:Nat} {sh:Sh} {l:List PVal} {n:Nat} {K:PVal→Option α} (h:elemK sz sh l n K=some r):∃ x,nth l n=some x∧Nat.beq (cellsP x).length sz=true∧K x=some r:=by
  obtain ⟨x,h1,h⟩:=acP h
  obtain ⟨h2,h⟩:=aaf (Sh.aaK h)
  exact ⟨x,h1,h2,h⟩
theorem aeX {g:Bool} {cs:List PVal} {off n:Nat} {K:PVal→Option α} (h:partK g cs off n K=some r):∃ x,partP g cs off n=some x∧K x=some r:=by
  cases g with
  | true =>
    obtain ⟨h1,h⟩:=aaf (show chk _ _=some r from h)
    exact ⟨_,by simp [partP,h1],h⟩
  | false =>
    obtain ⟨x,h1,h⟩:=acP (show nthK cs off K=some r from h)
    exact ⟨x,h1,h⟩
theorem aoX {g:Bool} {cs:List AVal} {off n:Nat} {K:AVal→Option α} (h:partAK g cs off n K=some r):∃ x,part g cs off n=some x∧K x=some r:=by
  cases g with
  | true =>
    obtain ⟨h1,h⟩:=aaf (show chk _ _=some r from h)
    exact ⟨_,by simp [part,h1],h⟩
  | false =>
    obtain ⟨x,h1,h⟩:=acP (show nthK cs off K=some r from h)
    exact ⟨x,h1,h⟩
end
section
variable [Sites]
theorem Tr.apX {α β:Type} (f:α → β):∀ (p:List Bool) (t:Tr α),(t.mapv f).find p=(t.find p).map f
  | [], .lf=>rfl
  | _ :: _, .lf=>rfl
  | [], .nd v l r=>by cases v <;> rfl
  | true :: p, .nd v l r=>Tr.apX f p l
  | false :: p, .nd v l r=>Tr.apX f p r
theorem XSt.to_get (σ:XSt) (id:Nat):σ.to.get id=(σ.get id).map XObj.to:=Tr.apX _ _ _
theorem XSt.aa0 (σ:XSt) (m n:Nat) (o:XObj):(σ.set m o).get n=if m=n then some o else σ.get n:=Tr.aa0 _ _ _ _
structure SE (s:St) (σ:XSt) (b:Nat):Prop where
  get:∀ id o, σ.get id=some o→s.get id=some o.to
  free:∀ id,b≤id→s.get id=none
theorem SE.lt {s:St} {σ:XSt} {b:Nat} (h:SE s σ b) {id:Nat} {o:XObj} (ho:σ.get id=some o):id < b:=by
  rcases Nat.lt_or_ge id b with h1 | h1
  · exact h1
  · have:=h.get id o ho
    rw [h.free id h1] at this
    simp at this
theorem SE.same {s s' : St} {σ:XSt} {b b' : Nat} (h:SE s σ b) (hs:s'.get=s.get) (hb:b≤b'):SE s' σ b' :=
  ⟨fun id o ho=>by rw [hs]; exact h.get id o ho,fun id hi=>by rw [hs]; exact h.free id (Nat.le_trans hb hi)⟩
theorem SE.set {s s' : St} {σ:XSt} {b b' id:Nat} {o:XObj} (h:SE s σ b) (hs:s'.get=upds s.get [(id,o.to)]) (hb:b≤b') (hid:id < b'):SE s' (σ.set id o) b':=by
  have e:∀ i,s'.get i=if i=id then some o.to else s.get i:=fun i=>by rw [hs]; rfl
  refine ⟨fun i x hx=>?_,fun i hi=>?_⟩
  · rw [XSt.aa0] at hx
    rw [e]
    by_cases hii:id=i
    · rw [if_pos hii] at hx
      simp at hx
      subst hx
      rw [if_pos hii.symm]
    · rw [if_neg hii] at hx
      rw [if_neg (fun e=>hii e.symm)]
      exact h.get i x hx
  · rw [e,if_neg (by omega)]
    exact h.free i (Nat.le_trans hb hi)
theorem SE.at {s:St} {σ:XSt} {b:Nat} (h:SE s σ b):s.get b=none:=h.free b (Nat.le_refl _)
theorem seen_same {s:St} {σ:XSt} {b:Nat} (h:SE s σ b):∀ {l:List Nat},seen σ b l=true → ∀ id ∈ l,s.get id = σ.to.get id
  | [],_,_,hid=>by cases hid
  | i :: l,hs,id,hid=>by
    simp only [seen] at hs
    split at hs <;> try (simp at hs; done)
    rename_i hb
    rcases List.mem_cons.1 hid with rfl | hid
    · rw [XSt.to_get]
      split at hb
      · rename_i o ho
        rw [ho,h.get _ _ ho]; rfl
      · rename_i ho
        rw [ho,Nat.eq_of_beq_eq_true hb,h.at]; rfl
    · exact seen_same h hs id hid
theorem sets_ok:∀ {wr:List (Nat × Obj)} {s s' : St} {σ σ' : XSt} {b b' : Nat},SE s σ b → σ.sets wr=some σ' → s'.get=upds s.get wr→b≤b' → (∀ q ∈ wr,q.1 < b')→SE s' σ' b'
  | [],s,s', σ, σ',b,b',h,hw,hs,hb,_=>by
    simp [XSt.sets] at hw
    subst hw
    exact h.same hs hb
  | (id,o) :: wr,s,s', σ, σ',b,b',h,hw,hs,hb,hl=>by
    cases o with
    | box cs =>
      simp only [XSt.sets] at hw
      have h1:SE (s.did [] [(id, .box cs)]) (σ.set id (.box cs)) b':=h.set (o:=.box cs) (aaB _ _ _) hb (hl (id, .box cs) (by simp))
      exact sets_ok h1 hw (by rw [hs,aaB]; rfl) (Nat.le_refl _) (fun q hq=>hl q (by simp [hq]))
    | arr=>simp [XSt.sets] at hw
    | ho=>simp [XSt.sets] at hw
end
end Go.Proofs.YtdnbnpknpejpdaaGreatDoor.Sw
namespace Go.Proofs.YtdnbnpknpejpdaaGreatDoor.Sw
section
variable [Sites] {α:Type} {r:α} {P:Program} {shs:Nat→Sh} {s:St} {σ:XSt} {b:Nat}
def OpIs (P:Program) (tm:Tr AVal) (s:St) (b:Nat) (op:Op) (v:AVal) (σ' : XSt) (rd wr:List Nat):Prop :=
  ∃ e:Eff,aau P tm s b op=some e∧e.v=v∧e.rd=rd∧e.wr.map (·.1)=wr∧SE (s.did e.rd e.wr) σ' (b + 16)
theorem OpIs.read {tm:Tr AVal} {op:Op} {v:AVal} {rd:List Nat} (hs:SE s σ b) (h:aau P tm s b op=some ⟨v,rd,[]⟩):OpIs P tm s b op v σ rd [] :=
  ⟨_,h,rfl,rfl,rfl,hs.same (aaB _ _ _) (by omega)⟩
theorem OpIs.set {tm:Tr AVal} {op:Op} {v:AVal} {rd:List Nat} {id:Nat} {o:XObj} (hs:SE s σ b) (hid:id≤b) (h:aau P tm s b op=some ⟨v,rd,[(id,o.to)]⟩):OpIs P tm s b op v (σ.set id o) rd [id] :=
  ⟨_,h,rfl,rfl,rfl,hs.set (aaB _ _ _) (by omega) (by omega)⟩
theorem agh:∀ (l:List PVal),unP (l.map .p)=some l
  | []=>rfl
  | x :: l=>by simp [unP,agh l]
theorem mkAgg_map (l:List PVal):mkAgg (l.map .p) = .p (.agg l):=by simp [mkAgg,agh]
theorem ao8 {β γ:Type} (f:β → γ):∀ (l:List β) (n:Nat),nth (l.map f) n=(nth l n).map f
  | [],_=>rfl
  | _ :: _,0=>rfl
  | _ :: l,n + 1=>ao8 f l n
theorem part_map {g:Bool} {cs:List PVal} {off n:Nat} {y:PVal} (h:partP g cs off n=some y):part g (cs.map .p) off n=some (.p y):=by
  cases g with
  | true =>
    simp only [partP] at h
    split at h <;> simp at h
    rename_i hb
    subst h
    simp only [part,List.length_map,hb]
    rw [← List.map_drop, ← List.map_take,mkAgg_map]
  | false =>
    have h:nth cs off=some y:=h
    show nth (cs.map AVal.p) off=_
    rw [ao8,h]; rfl
theorem lenK_ok {t:Nat} {v:AVal} {K:AVal→Option α} (h:lenK P t v K=some r):∃ z,lenOp P t v=some z∧K z=some r:=by
  unfold lenK at h
  unfold lenOp
  split at h
  · rename_i hu
    simp only [hu]
    split at h <;> try (simp at h; done)
    obtain ⟨l,rfl,h⟩:=ajo h
    exact ⟨_,rfl,h⟩
  · rename_i hu
    simp only [hu]
    split at h <;> try (simp at h; done)
    · rcases am6 h with ⟨rfl,h⟩ | ⟨l,rfl,h⟩
      · exact ⟨_,rfl,h⟩
      · exact ⟨_,rfl,h⟩
    · exact ⟨_,rfl,h⟩
    · exact ⟨_,rfl,h⟩
  · rename_i hu
    simp only [hu]
    exact ⟨_,rfl,h⟩
  · simp at h
theorem indexAddrK_ok (hs:SE s σ b) {t:Nat} {v i:AVal} {K:Nx α} (h:alF P shs σ t v i K=some r):∃ z rd,abN P s t v i=some ⟨z,rd,[]⟩∧K z σ rd []=some r:=by
  unfold alF at h
  unfold abN
  split at h
  · rename_i el hu
    split at h <;> try (simp at h; done)
    rename_i sz hsz
    split at h <;> try (simp at h; done)
    · rcases am6 h with ⟨rfl,h⟩ | ⟨l,rfl,h⟩
      · obtain ⟨n,hn,h⟩:=acd h
        obtain ⟨x,h1,_⟩:=alS h
        simp [nth] at h1
      · obtain ⟨n,hn,h⟩:=acd h
        obtain ⟨x,h1,h2,h⟩:=alS h
        exact ⟨_,_,by simp only [hn,hu,hsz,h1,h2] <;> rfl,h⟩
    · obtain ⟨n,hn,h⟩:=acd h
      obtain ⟨x,h1,h2,h⟩:=alS h
      exact ⟨_,_,by simp only [hn,hu,hsz,h1,h2] <;> rfl,h⟩
    · split at h <;> try (simp at h; done)
      rename_i id ep off len c sz' xs cur lost fz ho
      obtain ⟨n,hn,h⟩:=acd h
      obtain ⟨h1,h⟩:=aaf h
      obtain ⟨h2,h⟩:=aaf h
      obtain ⟨h3,h⟩:=aaf h
      exact ⟨_,_,by simp only [hn,hu,hsz,hs.get _ _ ho,XObj.to,h1,h2,h3] <;> rfl,h⟩
  · rename_i ln el hu
    split at h <;> try (simp at h; done)
    rename_i sz hsz
    split at h <;> try (simp at h; done)
    · obtain ⟨n,hn,h⟩:=acd h
      obtain ⟨h1,h⟩:=aaf h
      exact ⟨_,_,by simp only [hn,hu,hsz,h1] <;> rfl,h⟩
    · obtain ⟨n,hn,h⟩:=acd h
      obtain ⟨h1,h⟩:=aaf h
      exact ⟨_,_,by simp only [hn,hu,hsz,h1] <;> rfl,h⟩
    · obtain ⟨x,rfl,h0⟩:=ipK_some h
      clear h
      split at h0 <;> try (simp at h0; done)
      · rename_i hg
        obtain ⟨cs,rfl,h⟩:=abc h0
        obtain ⟨n,hn,h⟩:=acd h
        obtain ⟨h1,h⟩:=aaf h
        obtain ⟨y,h2,h⟩:=acP h
        exact ⟨_,_,by simp only [hn,hu,hsz,h1,hg,partP,h2] <;> rfl,Sh.aaK h⟩
      · rename_i hg
        obtain ⟨cs,rfl,h⟩:=abc h0
        obtain ⟨n,hn,h⟩:=acd h
        obtain ⟨h1,h⟩:=aaf h
        obtain ⟨h2,h⟩:=aaf h
        exact ⟨_,_,by simp only [hn,hu,hsz,h1,hg,partP,h2] <;> rfl,Sh.aaK h⟩
  · simp at h
theorem loadK_ok (hs:SE s σ b) {t:Nat} {v:AVal} {K:Nx α} (h:loadK P shs σ t v K=some r):∃ z rd,loadOp P s t v=some ⟨z,rd,[]⟩∧K z σ rd []=some r:=by
  unfold loadK at h
  obtain ⟨g,n,hg,hn,h1⟩:=acY h
  clear h
  have h:=h1
  clear h1
  unfold loadOp
  simp only [hg,hn]
  split at h <;> try (simp at h; done)
  · obtain ⟨x,rfl,h⟩:=ipK_some h
    cases g with
    | true =>
      simp only at h ⊢
      obtain ⟨cs,rfl,h⟩:=abc h
      obtain ⟨h1,h⟩:=aaf h
      exact ⟨_,_,by simp only [h1] <;> rfl,Sh.aaK h⟩
    | false =>
      simp only at h ⊢
      obtain ⟨h1,h⟩:=aaf h
      refine ⟨_,[], ?_,Sh.aaK h⟩
      cases x <;> first | rfl | (simp [isAggP] at h1)
  · rename_i id off
    split at h <;> try (simp at h; done)
    · rename_i cs ho
      obtain ⟨y,h1,h⟩:=aoX h
      exact ⟨_,_,by simp only [at_,hs.get _ _ ho,XObj.to,h1] <;> rfl,viewA_some h⟩
    · rename_i cs ho
      obtain ⟨y,h1,h⟩:=aeX h
      exact ⟨_,_,by simp only [at_,hs.get _ _ ho,XObj.to,part_map h1] <;> rfl,Sh.aaK h⟩
  · rename_i id ep i off
    split at h <;> try (simp at h; done)
    rename_i sz xs cur lost fz ho
    obtain ⟨h1,h⟩:=aaf h
    obtain ⟨y,h2,h⟩:=acP h
    have hat:at_ s (.el id ep i off)=some (cells (.p y),off,[id]):=by
      simp only [at_,hs.get _ _ ho,XObj.to,h1,ao8,h2,Option.map_some]
    rw [hat]
    cases g with
    | true =>
      simp only at h ⊢
      obtain ⟨cs,rfl,h4⟩:=abc h
      obtain ⟨z,h3,h⟩:=aeX h4
      exact ⟨_,_,by simp only [cells,part_map h3] <;> rfl,Sh.aaK h⟩
    | false =>
      simp only at h ⊢
      rcases ace h with ⟨hone,h⟩ | ⟨_,h⟩
      · obtain ⟨h3,h⟩:=aaf h
        have h3:=Nat.eq_of_beq_eq_true h3
        subst h3
        have hc:cells (.p y) = [.p y]:=by cases y <;> first | rfl | simp [oneP] at hone
        exact ⟨_,_,by rw [hc] <;> rfl,Sh.aaK h⟩
      · obtain ⟨cs,rfl,h4⟩:=abc h
        obtain ⟨z,h3,h⟩:=acP h4
        exact ⟨_,_,by simp only [cells,part_map (g:=false) (n:=n) (show partP false cs off n=some z from h3)] <;> rfl,Sh.aaK h⟩
end
end Go.Proofs.YtdnbnpknpejpdaaGreatDoor.Sw
namespace Go.Proofs.YtdnbnpknpejpdaaGreatDoor.Sw
section
variable [Sites] {α:Type} {r:α} {P:Program} {shs:Nat→Sh} {s:St} {σ:XSt} {b:Nat}
theorem fieldK_ok {t f:Nat} {v:AVal} {K:AVal→Option α} (h:fieldK P shs t f v K=some r):∃ z,ap2 P t f v=some z∧K z=some r:=by
  unfold fieldK at h
  unfold ap2
  split at h <;> try (simp at h; done)
  rename_i fd hf
  obtain ⟨g,n,hg,hn,h1⟩:=acY h
  split at h1 <;> try (simp at h1; done)
  · obtain ⟨cs,rfl,h2⟩:=abc h1
    obtain ⟨y,h3,h4⟩:=aeX h2
    exact ⟨_,by simp only [hf,hg,hn,partV,h3] <;> rfl,Sh.aaK h4⟩
  · obtain ⟨y,h3,h4⟩:=aoX h1
    exact ⟨_,by simp only [hf,hg,hn,partV,h3],h4⟩
theorem fieldAddrK_ok {t f:Nat} {v:AVal} {K:AVal→Option α} (h:alP P shs t f v K=some r):∃ z,ad3 P t f v=some z∧K z=some r:=by
  unfold alP at h
  unfold ad3
  split at h <;> try (simp at h; done)
  rename_i fd hf
  obtain ⟨g,n,hg,hn,h1⟩:=acY h
  split at h1 <;> try (simp at h1; done)
  rename_i hne
  simp only [hf,hg,hn]
  split at h1 <;> try (simp at h1; done)
  · exact ⟨_,rfl,h1⟩
  · exact ⟨_,rfl,h1⟩
  · obtain ⟨x,rfl,h1⟩:=ipK_some h1
    obtain ⟨cs,rfl,h2⟩:=abc h1
    obtain ⟨y,h3,h4⟩:=aeX h2
    exact ⟨_,by simp only [h3] <;> rfl,Sh.aaK h4⟩
theorem indexK_ok {t:Nat} {v i:AVal} {K:AVal→Option α} (h:indexK P shs t v i K=some r):∃ z,apv P t v i=some z∧K z=some r:=by
  unfold indexK at h
  unfold apv
  split at h
  · rename_i hu
    split at h <;> try (simp at h; done)
    obtain ⟨bs,rfl,h1⟩:=ajo h
    obtain ⟨n,hn,h2⟩:=acd h1
    obtain ⟨c,h3,h4⟩:=acP h2
    exact ⟨_,by simp only [hn,hu,h3] <;> rfl,h4⟩
  · rename_i ln e hu
    obtain ⟨g,n,hg,hn,h1⟩:=acY h
    split at h1 <;> try (simp at h1; done)
    obtain ⟨cs,rfl,h2⟩:=abc h1
    obtain ⟨k,hk,h3⟩:=acd h2
    obtain ⟨h4,h5⟩:=aaf h3
    obtain ⟨y,h6,h7⟩:=aeX h5
    exact ⟨_,by simp only [hk,hu,hg,hn,h4,partV,h6] <;> rfl,Sh.aaK h7⟩
  · simp at h
theorem afR {x:Option AVal} {d:Nat} {K:Nat→Option α} (h:boundK x d K=some r):∃ n,bound x d=some n∧K n=some r:=by
  unfold boundK at h
  split at h
  · exact ⟨_,rfl,h⟩
  · obtain ⟨n,hn,h⟩:=acd h
    exact ⟨n,hn,h⟩
theorem agT {lo hi:Option AVal} {len:Nat} {K:Nat→Nat→Option α} (h:cutK lo hi len K=some r):∃ l h',cut lo hi none len=some (l,h',false)∧K l h' = some r:=by
  unfold cutK at h
  obtain ⟨l,h1,h⟩:=afR h
  obtain ⟨h',h2,h⟩:=afR h
  obtain ⟨h3,h⟩:=aaf h
  obtain ⟨h4,h⟩:=aaf h
  exact ⟨l,h',by simp only [cut,h1,h2,h3,h4],h⟩
theorem nslK_some {x:PVal} {A:Option α} {K:List PVal→Option α} (h:nslK x A K=some r):(x = .nils∧A=some r) ∨ ∃ l,x = .sl l∧K l=some r:=by
  unfold nslK at h
  split at h <;> try (simp at h; done)
  · exact .inl ⟨rfl,h⟩
  · exact .inr ⟨_,rfl,h⟩
theorem cutK3_some {lo:Option AVal} {h0 m:AVal} {len:Nat} {K:Nat→Nat→Option α} (h:(cutK lo (some h0) len fun l h=>ixK m fun m=>chk (Nat.beq m h) (K l h))=some r) :
    ∃ l h',cut lo (some h0) (some m) len=some (l,h',true)∧K l h' = some r:=by
  unfold cutK at h
  obtain ⟨l,h1,h⟩:=afR h
  obtain ⟨h',h2,h⟩:=afR h
  obtain ⟨h3,h⟩:=aaf h
  obtain ⟨h4,h⟩:=aaf h
  obtain ⟨m',h5,h⟩:=acd h
  obtain ⟨h6,h⟩:=aaf h
  exact ⟨l,h',by simp only [cut,h1,h2,h3,h4,h5,h6],h⟩
theorem sliceK_ok (hs:SE s σ b) {t:Nat} {v:AVal} {lo hi mx:Option AVal} {K:Nx α} (h:sliceK P σ t v lo hi mx K=some r):∃ z rd,afd P s t v lo hi mx=some ⟨z,rd,[]⟩∧K z σ rd []=some r:=by
  unfold sliceK at h
  unfold afd
  split at h
  · rename_i m
    split at h <;> try (simp at h; done)
    rename_i e x h0 hu
    split at h <;> try (simp at h; done)
    rename_i sz hsz
    rcases nslK_some h with ⟨rfl,h1⟩ | ⟨xs,rfl,h1⟩
    · obtain ⟨l,h',h2,h3⟩:=cutK3_some h1
      exact ⟨_,_,by simp only [hu,hsz,h2] <;> rfl,h3⟩
    · obtain ⟨l,h',h2,h3⟩:=cutK3_some h1
      obtain ⟨h4,h5⟩:=aaf h3
      exact ⟨_,_,by simp only [hu,hsz,h2,h4] <;> rfl,h5⟩
  split at h <;> try (simp at h; done)
  · rename_i x hu
    obtain ⟨bs,rfl,h1⟩:=ajo h
    obtain ⟨l,h',h2,h3⟩:=agT h1
    exact ⟨_,_,by simp only [hu,h2] <;> rfl,h3⟩
  · rename_i e x hu
    split at h <;> try (simp at h; done)
    rename_i sz hsz
    rcases am6 h with ⟨rfl,h1⟩ | ⟨xs,rfl,h1⟩
    · obtain ⟨l,h',h2,h3⟩:=agT h1
      obtain ⟨_,h5⟩:=aaf h3
      have h2' : cut lo hi none 0=some (l,h',false):=h2
      exact ⟨_,_,by simp only [hu,hsz,h2'] <;> rfl,h5⟩
    · obtain ⟨l,h',h2,h3⟩:=agT h1
      obtain ⟨h4,h5⟩:=aaf h3
      exact ⟨_,_,by simp only [hu,hsz,h2,h4] <;> rfl,h5⟩
  · rename_i e xs hu
    split at h <;> try (simp at h; done)
    rename_i sz hsz
    obtain ⟨l,h',h2,h3⟩:=agT h
    obtain ⟨h4,h5⟩:=aaf h3
    exact ⟨_,_,by simp only [hu,hsz,h2,h4] <;> rfl,h5⟩
  · rename_i e id ep off len c hu
    split at h <;> try (simp at h; done)
    rename_i sz sz' xs cur lost fz hsz ho
    obtain ⟨l,h',h2,h3⟩:=agT h
    obtain ⟨h4,h5⟩:=aaf h3
    have hg:=hs.get _ _ ho
    rcases ace h5 with ⟨hlh,h5⟩ | ⟨hlh,h5⟩
    · cases c with
      | true =>
        simp only at h5
        refine ⟨_,_, ?_,h5⟩
        simp only [hu,hsz,h2,hg,XObj.to,h4,hlh]
      | false =>
        simp only at h5
        rcases ace h5 with ⟨h0,h5⟩ | ⟨h0,h5⟩
        · refine ⟨_,_, ?_,h5⟩
          have:=Nat.eq_of_beq_eq_true h0
          subst this
          simp only [hu,hsz,h2,hg,XObj.to,h4,hlh]
        · refine ⟨_,_, ?_,h5⟩
          simp only [hu,hsz,h2,hg,XObj.to,h4,hlh]
          cases l with
          | zero=>simp at h0
          | succ l=>rfl
    · cases c with
      | true =>
        obtain ⟨h6,h5⟩:=aaf (show chk _ _=some r from h5)
        refine ⟨_,_, ?_,h5⟩
        simp only [hu,hsz,h2,hg,XObj.to,h4,hlh,h6]
        rfl
      | false =>
        simp only at h5
        refine ⟨_,_, ?_,h5⟩
        simp only [hu,hsz,h2,hg,XObj.to,h4,hlh]
        rfl
theorem ahq {n:Nat} {x:PVal} (h:oneP x=true) (hn:Nat.beq n 1=true):aa3 false n (.p x)=some [.p x]:=by
  cases x <;> first | (simp [oneP] at h; done) | simp [aa3,hn]
theorem objK_ok {g:Bool} {n:Nat} {sh:Sh} {v:AVal} {K:XObj→Option α} (h:objK g n sh v K=some r):∃ cs o,aa3 g n v=some cs∧o.to = .box cs∧cs.length=n∧K o=some r:=by
  unfold objK at h
  cases g with
  | false =>
    simp only at h
    split at h <;> try (simp at h; done)
    · obtain ⟨h1,h⟩:=aaf h
      obtain ⟨h2,h⟩:=aaf h
      exact ⟨_,_,ahq h1 h2,rfl,by simp [Nat.eq_of_beq_eq_true h2],h⟩
    · rename_i h1 h2 h3 h4 h5 h6
      obtain ⟨h7,h⟩:=aaf h
      refine ⟨_,_, ?_,rfl,by simp [Nat.eq_of_beq_eq_true h7],h⟩
      cases v with
      | p x=>exact absurd rfl (h1 x)
      | agg cs=>exact absurd rfl (h2 cs)
      | tup cs=>exact absurd rfl (h3 cs)
      | own a c=>exact absurd rfl (h4 a c)
      | ownm a=>exact absurd rfl (h5 a)
      | junk=>exact absurd rfl h6
      | _=>simp [aa3,h7]
  | true =>
    simp only at h
    split at h <;> try (simp at h; done)
    · split at h
      · obtain ⟨cs,rfl,h1⟩:=abc h
        obtain ⟨h2,h3⟩:=aaf (aeF h1)
        exact ⟨_,_,by simp only [aa3,h2],rfl,by simp [Nat.eq_of_beq_eq_true h2],h3⟩
      · obtain ⟨cs,rfl,h1⟩:=abc h
        obtain ⟨h2,h3⟩:=aaf h1
        exact ⟨_, .pbox cs,by simp only [aa3,h2],rfl,by simp [Nat.eq_of_beq_eq_true h2],h3⟩
    · obtain ⟨h2,h3⟩:=aaf h
      exact ⟨_,_,by simp only [aa3,h2],rfl,Nat.eq_of_beq_eq_true h2,h3⟩
theorem cellsK_ok {g:Bool} {n:Nat} {sh:Sh} {v:AVal} {K:List AVal→Option α} (h:cellsK g n sh v K=some r):∃ cs,aa3 g n v=some cs∧K cs=some r:=by
  obtain ⟨cs,o,h1,h2,_,h3⟩:=objK_ok h
  rw [h2] at h3
  exact ⟨cs,h1,h3⟩
theorem fillK_ok {P:Program} {shs:Nat→Sh} {fs:Array Field}:∀ (parts:List (Nat × AVal)) (cs:List AVal) {K:List AVal→Option α},fillK P shs fs cs parts K=some r → ∃ cs',ac6 P fs cs parts=some cs' ∧ K cs' = some r
  | [],cs,K,h=>⟨cs,rfl,h⟩
  | (i,v) :: l,cs,K,h=>by
    simp only [fillK] at h
    split at h <;> try (simp at h; done)
    rename_i f hf
    split at h <;> try (simp at h; done)
    rename_i n g hn hg
    obtain ⟨new,h1,h⟩:=cellsK_ok h
    split at h <;> try (simp at h; done)
    rename_i cs1 h2
    obtain ⟨cs',h3,h4⟩:=fillK_ok l cs1 h
    exact ⟨cs',by simp only [ac6,hf,hn,hg,h1,h2,h3],h4⟩
theorem buildK_ok {P:Program} {shs:Nat→Sh} {t:Nat} {parts:List (Nat × AVal)} {K:AVal→Option α} (h:buildK P shs t parts K=some r):∃ z,alU P t parts=some z∧K z=some r:=by
  unfold buildK at h
  split at h <;> try (simp at h; done)
  rename_i zs hz
  split at h
  · rename_i fs hu
    split at h <;> try (simp at h; done)
    rename_i ha
    obtain ⟨cs,h1,h2⟩:=fillK_ok _ _ h
    exact ⟨_,by simp only [alU,hz,hu,ha,h1,Option.map],h2⟩
  · split at h <;> try (simp at h; done)
    rename_i z h1
    exact ⟨z,h1,h⟩
theorem elemsK_ok {g:Bool} {n:Nat} {sh:Sh}:∀ (parts:List (Nat × AVal)) (k:Nat) {K:List AVal→Option α},elemsK g n sh k parts K=some r → ∃ vs,aiU g n k parts=some vs∧K vs=some r
  | [],k,K,h=>⟨[],rfl,h⟩
  | (i,v) :: l,k,K,h=>by
    simp only [elemsK] at h
    split at h <;> try (simp at h; done)
    rename_i hi
    obtain ⟨cs,h1,h⟩:=cellsK_ok h
    obtain ⟨vs,h2,h3⟩:=elemsK_ok l (k + 1) h
    exact ⟨v :: vs,by simp only [aiU,hi,h1,h2],h3⟩
theorem adU {x:Option α} (h:freeK σ b x=some r):σ.get b=none∧x=some r:=by
  unfold freeK at h
  split at h <;> try (simp at h; done)
  exact ⟨by assumption,h⟩
theorem putCells_all {cs new:List PVal} (e:new.length=cs.length):aaT (cs.map AVal.p) 0 (new.map .p)=some (new.map .p):=by
  have hb:Nat.ble (0 + (new.map AVal.p).length) (cs.map AVal.p).length=true:=Nat.ble_eq_true_of_le (by simp [e])
  simp only [aaT,hb]
  simp [e]
theorem ams {cs:List PVal} {off:Nat} {new:List PVal} (h:off + new.length≤cs.length) :
    aaT (cs.map .p) off (new.map .p)=some ((cs.take off ++ new ++ cs.drop (off + new.length)).map .p):=by
  have:Nat.ble (off + new.length) cs.length=true:=Nat.ble_eq_true_of_le h
  simp [aaT,this,List.map_take,List.map_drop]
theorem storeK_ok {tm:Tr AVal} (hs:SE s σ b) {t:Nat} {x y:Operand} {a v:AVal} {K:Nx α} (hx:operand tm x=some a) (hy:operand tm y=some v) (h:storeK P shs σ t a v K=some r) :
    ∃ z σ' rd wr,OpIs P tm s b (.store t x y) z σ' rd wr∧K z σ' rd wr=some r:=by
  unfold storeK at h
  obtain ⟨g,n,hg,hn,h1⟩:=acY h
  clear h
  have key:∀ {id:Nat} {o:XObj},id < b→ac0 P s t a v=some ⟨.p (.tup []),[id],[(id,o.to)]⟩→OpIs P tm s b (.store t x y) (.p (.tup [])) (σ.set id o) [id] [id]:=fun hid he =>
    OpIs.set hs (Nat.le_of_lt hid) (by simp only [aau,hx,hy]; exact he)
  split at h1 <;> try (simp at h1; done)
  · rename_i id off
    split at h1 <;> try (simp at h1; done)
    · rename_i cs ho
      obtain ⟨new,o,h2,h3,h4,h5⟩:=objK_ok h1
      split at h5 <;> try (simp at h5; done)
      · rename_i new'
        have h3:Obj.box new' = .box new:=h3
        simp only [Obj.box.injEq] at h3
        subst h3
        split at h5 <;> try (simp at h5; done)
        rename_i cs' h6
        exact ⟨_,_,_,_,key (o:=.box cs') (hs.lt ho) (by simp only [ac0,hg,hn,h2,hs.get _ _ ho,XObj.to,h6] <;> rfl),h5⟩
      · rename_i new'
        have h3:Obj.box (new'.map .p) = .box new:=h3
        simp only [Obj.box.injEq] at h3
        subst h3
        obtain ⟨h6,h7⟩:=aaf h5
        obtain ⟨h8,h9⟩:=aaf h7
        have h6:=Nat.eq_of_beq_eq_true h6
        have h8:=Nat.eq_of_beq_eq_true h8
        subst h6
        have hp:aaT cs 0 (new'.map .p)=some (new'.map .p):=by
          have e:new'.length=cs.length:=by rw [List.length_map] at h4; omega
          have hb:Nat.ble (0 + (new'.map AVal.p).length) cs.length=true:=Nat.ble_eq_true_of_le (by simp [e])
          simp only [aaT,hb]
          simp [e]
        exact ⟨_,_,_,_,key (o:=.pbox new') (hs.lt ho) (by simp only [ac0,hg,hn,h2,hs.get _ _ ho,XObj.to,hp] <;> rfl),h9⟩
    · rename_i cs ho
      unfold purK at h1
      split at h1 <;> try (simp at h1; done)
      cases g with
      | false =>
        obtain ⟨h2,h3⟩:=aaf (show chk _ _=some r from h1)
        obtain ⟨h4,h5⟩:=aaf h3
        obtain ⟨h6,h7⟩:=aaf h5
        rename_i y'
        have hlt:off < cs.length:=by
          have:Nat.ble (off + 1) cs.length=true:=h6
          exact Nat.le_of_ble_eq_true this
        have hp:=ams (cs:=cs) (off:=off) (new:=[y']) (by simp; omega)
        have he:cs.take off ++ [y'] ++ cs.drop (off + [y'].length)=cs.set off y':=by
          rw [List.set_eq_take_append_cons_drop,if_pos hlt]
          simp
        rw [he] at hp
        exact ⟨_,_,_,_,key (o:=.pbox (cs.set off y')) (hs.lt ho) (by simp only [ac0,hg,hn,ahq h2 h4,hs.get _ _ ho,XObj.to]; rw [show [AVal.p y'] = [y'].map .p from rfl,hp]; rfl),h7⟩
      | true =>
        obtain ⟨new,rfl,h2⟩:=abc (show aggK _ _=some r from h1)
        obtain ⟨h3,h4⟩:=aaf h2
        obtain ⟨h5,h6⟩:=aaf h4
        have e1:=Nat.eq_of_beq_eq_true h3
        have hp:=ams (cs:=cs) (off:=off) (new:=new) (by rw [e1]; exact Nat.le_of_ble_eq_true h5)
        rw [e1] at hp
        exact ⟨_,_,_,_,key (o:=.pbox (cs.take off ++ new ++ cs.drop (off + n))) (hs.lt ho) (by simp only [ac0,hg,hn,aa3,h3,hs.get _ _ ho,XObj.to,hp] <;> rfl),h6⟩
  · rename_i id ep i
    split at h1 <;> try (simp at h1; done)
    rename_i sz xs cur lost fz ho
    obtain ⟨h2,h3⟩:=aaf h1
    obtain ⟨h4,h5⟩:=aaf h3
    obtain ⟨h6,h7⟩:=aaf h5
    have e1:=Nat.eq_of_beq_eq_true h2
    subst e1
    have hlt:i < xs.length:=by
      have:Nat.ble (i + 1) xs.length=true:=h6
      exact Nat.le_of_ble_eq_true this
    unfold purK at h7
    split at h7 <;> try (simp at h7; done)
    rename_i y'
    have hsn:∀ z:PVal,setNth (xs.map AVal.p) i (.p z)=some ((xs.set i z).map .p):=fun z=>by
      rw [ajp,if_pos (by simpa using hlt),List.map_set]
    cases g with
    | false =>
      obtain ⟨k2,k3⟩:=aaf (show chk _ _=some r from h7)
      obtain ⟨k4,k5⟩:=aaf k3
      obtain ⟨z,k6,k7⟩:=acP k5
      obtain ⟨k8,k9⟩:=aaf k7
      have hc:cells (.p z) = [.p z]:=by cases z <;> first | rfl | (simp [oneP] at k8; done)
      have hr:reform (.p z) [.p y'] = .p y':=by cases z <;> first | rfl | (simp [oneP] at k8; done)
      have hpc:aaT [AVal.p z] 0 [.p y']=some [.p y']:=by simp [aaT]
      refine ⟨_,_,_,_,key (o:=.arr sz (xs.set i y') ep ep fz) (hs.lt ho) ?_,k9⟩
      simp only [ac0,hg,hn,ahq k2 k4,hs.get _ _ ho,XObj.to,Nat.beq_refl,h4,ao8,k6,Option.map_some,hc,hpc,hr,hsn,List.length_set]
    | true =>
      obtain ⟨new,rfl,k2⟩:=abc (show aggK _ _=some r from h7)
      obtain ⟨k3,k4⟩:=aaf k2
      obtain ⟨z,k5,k6⟩:=acP k4
      obtain ⟨cs,rfl,k7⟩:=abc k6
      obtain ⟨k8,k9⟩:=aaf k7
      have e1:=Nat.eq_of_beq_eq_true k3
      have e2:=Nat.eq_of_beq_eq_true k8
      have hpc:aaT (cs.map AVal.p) 0 (new.map .p)=some (new.map .p):=putCells_all (by omega)
      have hr:reform (.p (.agg cs)) (new.map .p) = .p (.agg new):=mkAgg_map new
      refine ⟨_,_,_,_,key (o:=.arr sz (xs.set i (.agg new)) ep ep fz) (hs.lt ho) ?_,k9⟩
      simp only [ac0,hg,hn,aa3,k3,hs.get _ _ ho,XObj.to,Nat.beq_refl,h4,ao8,k5,Option.map_some,cells,hpc,hr,hsn,List.length_set]
end
end Go.Proofs.YtdnbnpknpejpdaaGreatDoor.Sw
namespace Go.Proofs.YtdnbnpknpejpdaaGreatDoor.Sw
section
variable [Sites] {α:Type} {r:α} {P:Program} {shs:Nat→Sh} {s:St} {σ:XSt} {b:Nat}
theorem ano {g:Bool} {sz:Nat}:∀ {l:List PVal},widths g sz l=true→aa7 g sz (l.map .p)=true
  | [],_=>rfl
  | x :: l,h=>by
    simp only [widths] at h
    split at h <;> try (simp at h; done)
    rename_i hx
    have ih:=ano h
    simp only [List.map_cons,aa7]
    cases g with
    | true =>
      simp only at hx
      split at hx <;> try (simp at hx; done)
      simp only [aa3,hx]
      exact ih
    | false =>
      simp only [Bool.and_eq_true] at hx
      rw [ahq hx.1 (by rw [Nat.eq_of_beq_eq_true hx.2]; rfl)]
      exact ih
theorem viewed_ok (hs:SE s σ b) {id ep off len sz cur lost fz:Nat} {xs:List PVal} (ho:σ.get id=some (.arr sz xs cur lost fz)) (h1:Nat.ble lost ep=true) (h2:Nat.ble (off + len) xs.length=true) :
    viewed s id ep off len=some (((xs.drop off).take len).map .p):=by
  simp only [viewed,hs.get _ _ ho,XObj.to,h1,h2,List.map_take,List.map_drop]
theorem sourceK_some (hs:SE s σ b) {v:AVal} {K:List PVal→List Nat→Option α} (h:sourceK σ v K=some r):∃ ys rd,source s v=some (ys.map .p,rd)∧K ys rd=some r:=by
  unfold sourceK at h
  split at h <;> try (simp at h; done)
  · rcases am6 h with ⟨rfl,h1⟩ | ⟨l,rfl,h1⟩
    · exact ⟨_,_,rfl,h1⟩
    · exact ⟨_,_,rfl,h1⟩
  · exact ⟨_,_,rfl,h⟩
  · split at h <;> try (simp at h; done)
    rename_i ho
    obtain ⟨h1,h2⟩:=aaf h
    obtain ⟨h3,h4⟩:=aaf h2
    exact ⟨_,_,by simp only [source,viewed_ok hs ho h1 h3],h4⟩
theorem appendK_ok {tm:Tr AVal} (hs:SE s σ b) {t t2:Nat} {x y:Operand} {v u:AVal} {ty:TypeId} {args:Array Operand} {ats:Array TypeId} {K:Nx α} (ha:args.toList = [x,y]) (ht:ats.toList = [t,t2])
    (hx:operand tm x=some v) (hy:operand tm y=some u) (hni:notInt P t2=true) (h:appendK P σ b t v u K=some r) :
    ∃ z σ' rd wr,OpIs P tm s b (.call { callee:=.builtin .append,args:=args,argTypes:=ats }) z σ' rd wr∧K z σ' rd wr=some r:=by
  have _:=ty
  unfold appendK at h
  split at h <;> try (simp at h; done)
  rename_i e he
  split at h <;> try (simp at h; done)
  rename_i sz by_ g hsz hby hg
  obtain ⟨ys,rd,hsrc,h1⟩:=sourceK_some hs h
  clear h
  obtain ⟨hw,h2⟩:=aaf h1
  obtain ⟨hz,h3⟩:=aaf h2
  obtain ⟨hb0,h4⟩:=aaf h3
  clear h1 h2 h3
  have hpre:(aa7 g sz (ys.map .p) && zeroOk P e g sz && Nat.blt 0 by_)=true:=by simp [ano hw,hz,hb0]
  have pl:aau P tm s b (.call { callee:=.builtin .append,args:=args,argTypes:=ats })=abx P b t v u s:=by
    simp only [aau,ha,ht,hx,hy,hni]
  split at h4 <;> try (simp at h4; done)
  · rcases ahv h4 with ⟨rfl,h4⟩ | ⟨y1,l,rfl,h4⟩
    · have hs1:source s u=some ([],rd):=hsrc
      have hp1:(aa7 g sz [] && zeroOk P e g sz && Nat.blt 0 by_)=true:=hpre
      exact ⟨_,_,_,_,OpIs.read hs (by rw [pl]; simp only [abx,he,hsz,hby,hg,hs1,hp1] <;> rfl),h4⟩
    · have hs1:source s u=some (.p y1 :: l.map .p,rd):=hsrc
      have hp1:(aa7 g sz (.p y1 :: l.map .p) && zeroOk P e g sz && Nat.blt 0 by_)=true:=hpre
      obtain ⟨h5,h6⟩:=aaf h4
      obtain ⟨h7,h8⟩:=adU h6
      refine ⟨_,_,_,_,OpIs.set (o:=.arr sz (y1 :: l) 0 0 0) hs (Nat.le_refl _) ?_,h8⟩
      rw [pl]
      simp only [abx,he,hsz,hby,hg,hs1,hp1,List.length_cons,List.length_map] at h5 ⊢
      simp only [h5,hs.at,XObj.to,List.map_cons,List.length_cons]
  · rename_i xs
    rcases ahv h4 with ⟨rfl,h4⟩ | ⟨y1,l,rfl,h4⟩
    · have hs1:source s u=some ([],rd):=hsrc
      have hp1:(aa7 g sz [] && zeroOk P e g sz && Nat.blt 0 by_)=true:=hpre
      exact ⟨_,_,_,_,OpIs.read hs (by rw [pl]; simp only [abx,he,hsz,hby,hg,hs1,hp1] <;> rfl),h4⟩
    · have hs1:source s u=some (.p y1 :: l.map .p,rd):=hsrc
      have hp1:(aa7 g sz (.p y1 :: l.map .p) && zeroOk P e g sz && Nat.blt 0 by_)=true:=hpre
      obtain ⟨hwx,h5⟩:=aaf h4
      obtain ⟨h5,h6⟩:=aaf h5
      obtain ⟨h7,h8⟩:=adU h6
      refine ⟨_,_,_,_,OpIs.set (o:=.arr sz (xs ++ y1 :: l) 0 0 0) hs (Nat.le_refl _) ?_,h8⟩
      rw [pl]
      simp only [abx,he,hsz,hby,hg,hs1,hp1,List.length_cons,List.length_map] at h5 ⊢
      simp only [h5,hs.at,ano hwx,XObj.to,List.map_append,List.map_cons,List.length_append,List.length_cons]
  · rename_i id ep len
    split at h4 <;> try (simp at h4; done)
    rename_i sz' xs cur lost fz ho
    obtain ⟨k1,hA0⟩:=aaf h4
    obtain ⟨k2,hA1⟩:=aaf hA0
    obtain ⟨k3,hA2⟩:=aaf hA1
    obtain ⟨k4,h5⟩:=aaf hA2
    clear h4 hA0 hA1 hA2
    have e3:=Nat.eq_of_beq_eq_true k3
    subst e3
    have e1:=Nat.eq_of_beq_eq_true k1
    subst e1
    have hle:Nat.ble (0 + xs.length) xs.length=true:=Nat.ble_eq_true_of_le (by omega)
    rcases ahv h5 with ⟨rfl,h5⟩ | ⟨y1,l,rfl,h5⟩
    · have kk:Nat.ble ((xs.length + 0) * by_) 1099511627776=true:=k4
      have hs1:source s u=some ([],rd):=hsrc
      have hp1:(aa7 g sz [] && zeroOk P e g sz && Nat.blt 0 by_)=true:=hpre
      exact ⟨_,_,_,_,OpIs.read hs (by rw [pl]; simp only [abx,he,hsz,hby,hg,hs1,hp1,hs.get _ _ ho,XObj.to,k1,k2,List.length_nil,kk,hle] <;> rfl),h5⟩
    · have hs1:source s u=some (.p y1 :: l.map .p,rd):=hsrc
      have hp1:(aa7 g sz (.p y1 :: l.map .p) && zeroOk P e g sz && Nat.blt 0 by_)=true:=hpre
      refine ⟨_,_,_,_,OpIs.set (o:=.arr sz (xs ++ y1 :: l) (cur + 1) lost fz) hs (Nat.le_of_lt (hs.lt ho)) ?_,h5⟩
      rw [pl]
      simp only [abx,he,hsz,hby,hg,hs1,hp1,List.length_cons,List.length_map] at k4 ⊢
      simp only [hs.get _ _ ho,XObj.to,k1,k2,k4,hle,Nat.beq_refl,List.map_append,List.map_cons,List.length_append,List.length_cons]
  · rename_i id ep off len
    split at h4 <;> try (simp at h4; done)
    rename_i sz' xs cur lost fz ho
    obtain ⟨k1,hA0⟩:=aaf h4
    obtain ⟨k2,hA1⟩:=aaf hA0
    obtain ⟨k4,hA2⟩:=aaf hA1
    obtain ⟨k5,hA3⟩:=aaf hA2
    clear h4 hA0 hA1 hA2
    have e1:=Nat.eq_of_beq_eq_true k1
    subst e1
    rcases ahv hA3 with ⟨rfl,hA3⟩ | ⟨y1,l,rfl,hA3⟩
    · have kk:Nat.ble ((len + 0) * by_) 1099511627776=true:=k4
      have hs1:source s u=some ([],rd):=hsrc
      have hp1:(aa7 g sz [] && zeroOk P e g sz && Nat.blt 0 by_)=true:=hpre
      exact ⟨_,_,_,_,OpIs.read hs (by rw [pl]; simp only [abx,he,hsz,hby,hg,hs1,hp1,hs.get _ _ ho,XObj.to,k1,k2,List.length_nil,kk,k5] <;> rfl),hA3⟩
    · have hs1:source s u=some (.p y1 :: l.map .p,rd):=hsrc
      have hp1:(aa7 g sz (.p y1 :: l.map .p) && zeroOk P e g sz && Nat.blt 0 by_)=true:=hpre
      obtain ⟨h7,h8⟩:=adU hA3
      refine ⟨_,_,_,_,OpIs.set (o:=.arr sz ((xs.drop off).take len ++ y1 :: l) 0 0 0) hs (Nat.le_refl _) ?_,h8⟩
      rw [pl]
      have hlen:((xs.drop off).take len).length=len:=by
        have:=Nat.le_of_ble_eq_true k5
        simp
        omega
      simp only [abx,he,hsz,hby,hg,hs1,hp1,List.length_cons,List.length_map] at k4 ⊢
      simp only [hs.get _ _ ho,XObj.to,k1,k2,k4,k5,hs.at,List.map_append,List.map_cons,List.length_append,List.length_cons,List.map_take,List.map_drop,hlen]
theorem pickK_ok {tm:Tr AVal} {c x y:Operand} {vc vx vy:AVal} {K:AVal→Option α} (h1:operand tm c=some vc) (h2:operand tm x=some vx) (h3:operand tm y=some vy) (h:pickK vc vx vy K=some r) :
    ∃ z,aau P tm s b (.pick c x y)=some (.pure z)∧K z=some r:=by
  unfold pickK at h
  split at h <;> try (simp at h; done)
  rename_i bb
  split at h
  · cases bb with
    | true=>exact ⟨_,by simp only [aau,h1,h2,someP]; rfl,h⟩
    | false=>exact ⟨_,by simp only [aau,h1,h3,someP]; rfl,h⟩
  · rcases ace h with ⟨rfl,h⟩ | ⟨rfl,h⟩
    · exact ⟨_,by simp only [aau,h1,h2,someP],h⟩
    · exact ⟨_,by simp only [aau,h1,h3,someP],h⟩
theorem aqk:∀ {fs:List Field} {a b' : List PVal} {z:Bool},ann P fs a b' = some z→ac1 P fs a b' = some z
  | [],_,_,_,h=>h
  | f :: fs,a,b',z,h=>by
    simp only [ann] at h
    simp only [ac1]
    split at h <;> try (simp at h; done)
    rename_i hf hg hx hy
    split at h <;> try (simp at h; done)
    rename_i u v hu hv
    simp at h
    subst h
    simp only [hf,hg,hx,hy,hu]
    cases u with
    | true=>exact aqk hv
    | false=>rfl
theorem anE {e c:Nat} {a b' : List PVal}:∀ {k i:Nat} {z:Bool},am8 P e c a b' i k=some z→aie P e c a b' i k=some z
  | 0,_,_,h=>h
  | k + 1,i,z,h=>by
    simp only [am8] at h
    simp only [aie]
    split at h <;> try (simp at h; done)
    rename_i hx hy
    split at h <;> try (simp at h; done)
    rename_i u v hu hv
    simp at h
    subst h
    simp only [hx,hy,hu]
    cases u with
    | true=>exact anE hv
    | false=>rfl
theorem structEqB_ok {t:Nat} {a b' : List PVal} {z:Bool} (h:ajn P t a b' = some z):structEq P t a b' = some z:=by
  unfold ajn at h
  unfold structEq
  split at h <;> try (simp at h; done)
  · rename_i hu
    simp only [hu]
    split at h <;> try (simp at h; done)
    rename_i hg hn
    simp only [hg,hn]
    exact anE h
  · rename_i hu
    simp only [hu]
    split at h <;> try (simp at h; done)
    rename_i hst
    simp only [hst]
    exact aqk h
end
end Go.Proofs.YtdnbnpknpejpdaaGreatDoor.Sw
namespace Go.Proofs.YtdnbnpknpejpdaaGreatDoor.Sw
section
variable [Sites] {α:Type} {r:α} {P:Program}
theorem nilSK_some {x:PVal} {K:Bool→Option α} (h:nilSK x K=some r):∃ b,nilSl (.p x)=some b∧K b=some r:=by
  unfold nilSK at h
  split at h <;> try (simp at h; done)
  · exact ⟨_,rfl,h⟩
  · exact ⟨_,rfl,h⟩
theorem nilPK_some {x:PVal} {K:Bool→Option α} (h:nilPK x K=some r):∃ b,nilPt (.p x)=some b∧K b=some r:=by
  unfold nilPK at h
  split at h <;> try (simp at h; done)
  · exact ⟨_,rfl,h⟩
  · exact ⟨_,rfl,h⟩
theorem nilFK_some {x:PVal} {K:Bool→Option α} (h:nilFK x K=some r):∃ b,nilFn (.p x)=some b∧K b=some r:=by
  unfold nilFK at h
  split at h <;> try (simp at h; done)
  · exact ⟨_,rfl,h⟩
  · exact ⟨_,rfl,h⟩
theorem nilIK_some {x:PVal} {K:Bool→Option α} (h:nilIK x K=some r):∃ b,nilIf (.p x)=some b∧K b=some r:=by
  unfold nilIK at h
  split at h <;> try (simp at h; done)
  · exact ⟨_,rfl,h⟩
  · exact ⟨_,rfl,h⟩
theorem nilEqK_eqv {t:Nat} {d:Option TypeDesc} (hd:P.underlying t=d) {op:BinOp} {x y:PVal} {K:AVal→Option α} (h:nilEqK d op x y K=some r) :
    ∃ b,eqv P t (.p x) (.p y)=some b∧eqv P t (.p y) (.p x)=some b∧((op = .eql∧K (.p (.bool b))=some r) ∨ (op = .neq∧K (.p (.bool (!b)))=some r)) ∧
      (∀ k z,x ≠ .int k z)∧(∀ z,x ≠ .str z) ∧ ∀ z,x ≠ .agg z:=by
  unfold nilEqK at h
  split at h <;> try (simp at h; done)
  all_goals
    split at h <;> try (simp at h; done)
    · obtain ⟨b,h1,h⟩:=nilSK_some h
      refine ⟨b,by simp only [eqv,hd,h1]; cases b <;> rfl,by simp only [eqv,hd,h1]; cases b <;> rfl,by simp [h], ?_, ?_, ?_⟩ <;> (intros; intro e; subst e; simp [nilSl] at h1)
    · obtain ⟨b,h1,h⟩:=nilPK_some h
      refine ⟨b,by simp only [eqv,hd,h1]; cases b <;> rfl,by simp only [eqv,hd,h1]; cases b <;> rfl,by simp [h], ?_, ?_, ?_⟩ <;> (intros; intro e; subst e; simp [nilPt] at h1)
    · obtain ⟨b,h1,h⟩:=nilFK_some h
      refine ⟨b,by simp only [eqv,hd,h1]; cases b <;> rfl,by simp only [eqv,hd,h1]; cases b <;> rfl,by simp [h], ?_, ?_, ?_⟩ <;> (intros; intro e; subst e; simp [nilFn] at h1)
    · obtain ⟨b,h1,h⟩:=nilIK_some h
      refine ⟨b,by simp only [eqv,hd,h1]; cases b <;> rfl,by simp only [eqv,hd,h1]; cases b <;> rfl,by simp [h], ?_, ?_, ?_⟩ <;> (intros; intro e; subst e; simp [nilIf] at h1)
theorem binary_other {t:Nat} {ox oy:Operand} {x y:PVal} {b:Bool} (h1:eqv P t (.p x) (.p y)=some b) (hc:isConst ox=true ∨ isConst oy=true)
    (hx:∀ k z,x ≠ .int k z) (hx2:∀ z,x ≠ .str z) (hx3:∀ z,x ≠ .agg z) :
    binary P .eql t ox oy (.p x) (.p y)=some (.p (.bool b))∧binary P .neq t ox oy (.p x) (.p y)=some (.p (.bool (!b))):=by
  have hb:(afS (.p x) (.p y) && !(isConst ox || isConst oy))=false:=by rcases hc with h | h <;> simp [h]
  cases x with
  | int k z=>exact absurd rfl (hx k z)
  | str z=>exact absurd rfl (hx2 z)
  | agg z=>exact absurd rfl (hx3 z)
  | _=>constructor <;> simp only [binary,hb,h1] <;> rfl
theorem binary_other' {t:Nat} {ox oy:Operand} {x y:PVal} {b:Bool} (h1:eqv P t (.p x) (.p y)=some b) (hc:isConst ox=true ∨ isConst oy=true)
    (hx:∀ k z,y ≠ .int k z) (hx2:∀ z,y ≠ .str z) (hx3:∀ z,y ≠ .agg z) :
    binary P .eql t ox oy (.p x) (.p y)=some (.p (.bool b))∧binary P .neq t ox oy (.p x) (.p y)=some (.p (.bool (!b))):=by
  have hb:(afS (.p x) (.p y) && !(isConst ox || isConst oy))=false:=by rcases hc with h | h <;> simp [h]
  cases y with
  | int k z=>exact absurd rfl (hx k z)
  | str z=>exact absurd rfl (hx2 z)
  | agg z=>exact absurd rfl (hx3 z)
  | _=>cases x <;> (constructor <;> simp only [binary,hb,h1] <;> rfl)
theorem binV_ok {t:Nat} {op:BinOp} {ox oy:Operand} {x y:AVal} {K:AVal→Option α} (h:binV P op t ox oy x y K=some r) :
    ∃ z,binary P op t ox oy x y=some z∧K z=some r:=by
  unfold binV at h
  split at h
  · rename_i k a k' b
    split at h
    · obtain ⟨hk,k1⟩:=aaf h
      rcases ace k1 with ⟨_,k2⟩ | ⟨hb,k2⟩
      · simp at k2
      have hk:=apt hk
      subst hk
      exact ⟨_,by simp at hb; simp [binary,intBin,hb],k2⟩
    · obtain ⟨hk,k1⟩:=aaf h
      rcases ace k1 with ⟨_,k2⟩ | ⟨hb,k2⟩
      · simp at k2
      have hk:=apt hk
      subst hk
      exact ⟨_,by simp at hb; simp [binary,intBin,hb],k2⟩
    · rcases ace h with ⟨_,h⟩ | ⟨hb,h⟩
      · simp at h
      exact ⟨_,by simp at hb; simp [binary,ahn,Int.not_lt.2 hb],h⟩
    · rcases ace h with ⟨_,h⟩ | ⟨hb,h⟩
      · simp at h
      exact ⟨_,by simp at hb; simp [binary,ahn,Int.not_lt.2 hb],h⟩
    · obtain ⟨hk,k1⟩:=aaf h
      clear h
      have hk:=apt hk
      subst hk
      split at k1 <;> try (simp at k1; done)
      rename_i z hz
      refine ⟨_, ?_,k1⟩
      simp only [binary]
      split <;> simp_all
  · split at h
    · obtain ⟨h1,h2⟩:=aaf h
      exact ⟨_,by simp [binary,strBin,h1],h2⟩
    · split at h <;> try (simp at h; done)
      rename_i z hz
      exact ⟨_,by simp [binary,hz],h⟩
  · split at h <;> try (simp at h; done)
    all_goals
      rename_i hg
      obtain ⟨z,hz,h⟩:=adV h
      exact ⟨_,by simp only [binary,hg,structEqB_ok hz,Option.map],h⟩
  · split at h
    · rename_i hu
      split at h <;> try (simp at h; done)
      split at h <;> try (simp at h; done)
      all_goals exact ⟨_,by simp [binary,eqv,hu,afS],h⟩
    · simp at h
  · split at h <;> try (simp at h; done)
    rename_i hz
    exact ⟨_,hz,h⟩
theorem nilC_const {o:Operand} {v:AVal} (h:nilC o v=true):isConst o=true:=by
  unfold nilC at h
  split at h
  · assumption
  · simp at h
theorem binK_ok {t:Nat} {op:BinOp} {ox oy:Operand} {x y:AVal} {K:AVal→Option α} (h:binK P op t ox oy x y K=some r) :
    ∃ z,binary P op t ox oy x y=some z∧K z=some r:=by
  have hE:∀ {x y:AVal},binE P op t ox oy x y K=some r → ∃ z,binary P op t ox oy x y=some z∧K z=some r:=by
    intro x y h
    unfold binE at h
    split at h <;> try (simp at h; done)
    exact ⟨_,by assumption,h⟩
  unfold binK at h
  split at h
  · split at h
    · obtain ⟨b,h1,h2,h3,h4,h5,h6⟩:=nilEqK_eqv rfl h
      obtain ⟨k1,k2⟩:=binary_other (ox:=ox) (oy:=oy) h1 (.inr (nilC_const ‹_›)) h4 h5 h6
      rcases h3 with ⟨rfl,h3⟩ | ⟨rfl,h3⟩
      · exact ⟨_,k1,h3⟩
      · exact ⟨_,k2,h3⟩
    · exact hE h
  · split at h
    · split at h
      · obtain ⟨b,h1,h2,h3,h4,h5,h6⟩:=nilEqK_eqv rfl h
        obtain ⟨k1,k2⟩:=binary_other' (ox:=ox) (oy:=oy) h2 (.inl (nilC_const ‹_›)) h4 h5 h6
        rcases h3 with ⟨rfl,h3⟩ | ⟨rfl,h3⟩
        · exact ⟨_,k1,h3⟩
        · exact ⟨_,k2,h3⟩
      · exact hE h
    · exact binV_ok h
end
end Go.Proofs.YtdnbnpknpejpdaaGreatDoor.Sw
namespace Go.Proofs.YtdnbnpknpejpdaaGreatDoor.Sw
section
variable [Sites] {α:Type} {r:α} {P:Program} {s:St} {σ:XSt} {b:Nat}
theorem purs_p (s:St) (d:Nat):∀ (l:List PVal),purs (pur s (d + 1)) (l.map .p)=some (l,[])
  | []=>rfl
  | x :: l=>by
    simp only [List.map_cons,purs,purs_p s d l]
    simp [pur]
theorem pur_arr (s:St) (d id ep off len:Nat) (c:Bool):pur s (d + 1) (.arr id ep off len c)=(match viewed s id ep off len with | some xs=>(purs (pur s d) xs).map fun (ys,a)=>(.sl ys,id :: a) | none=>none):=rfl
theorem pur_box (s:St) (d id:Nat):pur s (d + 1) (.box id 0)=(match s.get id with | some (.box cs)=>(purs (pur s d) cs).map fun (ys,a)=>(.ip (ipOf ys),id :: a) | _=>none):=rfl
theorem abH {f:AVal→(PVal→List Nat→Option α)→Option α} {d:Nat} {bw:Bool}
    (hf:∀ {v:AVal} {K:PVal→List Nat→Option α},f v K=some r → ∃ x ids,pur s d v=some (x,ids)∧pureA bw d v=true∧K x ids=some r) :
    ∀ {vs:List AVal} {K:List PVal→List Nat→Option α},adA f vs K=some r → ∃ ps ids,purs (pur s d) vs=some (ps,ids)∧pureAs (pureA bw d) vs=true∧K ps ids=some r
  | [],K,h=>⟨[],[],rfl,rfl,h⟩
  | v :: vs,K,h=>by
    obtain ⟨x,a,h1,h2,h3⟩:=hf (show f v _=some r from h)
    obtain ⟨xs,c,h4,h5,h6⟩:=abH hf h3
    exact ⟨_,_,by simp only [purs,h1,h4],by simp only [pureAs,h2,h5],h6⟩
theorem adT (hs:SE s σ b) {bw:Bool}:∀ {d:Nat} {v:AVal} {K:PVal→List Nat→Option α},handK bw σ d v K=some r →
    ∃ x ids,pur s d v=some (x,ids)∧pureA bw d v=true∧K x ids=some r
  | 0,v,K,h=>by simp [handK] at h
  | d + 1,v,K,h=>by
    simp only [handK] at h
    split at h <;> try (simp at h; done)
    · exact ⟨_,_,rfl,rfl,h⟩
    · exact ⟨_,_,rfl,rfl,h⟩
    · obtain ⟨ps,ids,h1,h2,h3⟩:=abH (fun {v K}=>adT hs (d:=d)) h
      exact ⟨_,_,by simp only [pur,h1,Option.map],by simpa only [pureA] using h2,h3⟩
    · obtain ⟨ps,ids,h1,h2,h3⟩:=abH (fun {v K}=>adT hs (d:=d)) h
      exact ⟨_,_,by simp only [pur,h1,Option.map],by simpa only [pureA] using h2,h3⟩
    · obtain ⟨x,ids,h1,h2,h3⟩:=adT hs h
      exact ⟨_,_,by simp only [pur,h1,Option.map],by simpa only [pureA] using h2,h3⟩
    · obtain ⟨ps,ids,h1,h2,h3⟩:=abH (fun {v K}=>adT hs (d:=d)) h
      exact ⟨_,_,by simp only [pur,h1,Option.map],by simpa only [pureA] using h2,h3⟩
    · split at h <;> try (simp at h; done)
      rename_i ho
      obtain ⟨h1,h2⟩:=aaf h
      obtain ⟨h3,h4⟩:=aaf h2
      refine ⟨_,_, ?_,rfl,h4⟩
      rw [pur_arr,viewed_ok hs ho h1 h3]
      simp only
      rw [purs_p]; rfl
    · split at h <;> try (simp at h; done)
      · rename_i cs ho
        split at h <;> try (simp at h; done)
        obtain ⟨h1,h2⟩:=aaf h
        obtain ⟨h3,h4⟩:=aaf h2
        have hg:s.get _=some (.box (cs.map .p)):=hs.get _ _ ho
        refine ⟨_,_, ?_,by simpa only [pureA] using h1,h4⟩
        rw [pur_box,hg]
        simp only
        rw [purs_p]
        simp only [Option.map]
        have:ipOf cs = .agg cs:=by
          have h3:Nat.ble 2 cs.length=true:=h3
          have:=Nat.le_of_ble_eq_true h3
          match cs with
          | []=>rfl
          | [c]=>simp at this
          | _ :: _ :: _=>rfl
        rw [this]
      · rename_i cs ho
        obtain ⟨h1,h2⟩:=aaf h
        obtain ⟨ps,ids,h3,h4,h5⟩:=abH (fun {v K}=>adT hs (d:=d)) h2
        have hg:s.get _=some (.box cs):=hs.get _ _ ho
        exact ⟨_,_,by rw [pur_box,hg]; simp only [h3,Option.map],by simpa only [pureA] using h1,h5⟩
theorem apx (hs:SE s σ b) {bw:Bool} {vs:List AVal} {K:List PVal→List Nat→Option α} (h:handsK bw σ vs K=some r) :
    ∃ ps ids,purs (pur s depth) vs=some (ps,ids)∧pureAs (pureA bw depth) vs=true∧K ps ids=some r :=
  abH (fun {_ _}=>adT hs) (show adA (handK bw σ depth) vs K=some r from h)
theorem amx:∀ {ids:List Nat},(∀ i ∈ ids, ∃ sz xs ep lost fz,s.get i=some (.arr sz (List.length xs) xs ep lost fz))→(freeze s ids).map (·.1)=ids
  | [],_=>rfl
  | i :: ids,h=>by
    obtain ⟨sz,xs,ep,lost,fz,h1⟩:=h i (by simp)
    have ih:=amx (ids:=ids) (fun j hj=>h j (List.mem_cons_of_mem _ hj))
    simp only [freeze,h1,List.map_cons,ih]
theorem alJ:∀ {ids:List Nat} {i:Nat} {o:Obj},(i,o) ∈ freeze s ids → ∃ sz n xs ep lost fz,s.get i=some (.arr sz n xs ep lost fz)∧o = .arr sz n xs ep lost n
  | [],_,_,h=>by cases h
  | j :: ids,i,o,h=>by
    simp only [freeze] at h
    split at h
    · rename_i hj
      rcases List.mem_cons.1 h with h | h
      · simp at h
        obtain ⟨rfl,rfl⟩:=h
        exact ⟨_,_,_,_,_,_,hj,rfl⟩
      · exact alJ h
    · exact alJ h
theorem upds_mem {l:List (Nat × Obj)}:∀ {t:Sto} {i:Nat},i ∈ l.map (·.1) → ∃ o,(i,o) ∈ l∧upds t l i=some o:=by
  induction l with
  | nil=>intro t i h; simp at h
  | cons q l ih =>
    intro t i h
    by_cases hm:i ∈ l.map (·.1)
    · obtain ⟨o,h1,h2⟩:=ih (t:=upd t q.1 q.2) hm
      exact ⟨o,by simp [h1],h2⟩
    · simp only [List.map_cons,List.mem_cons] at h
      rcases h with h | h
      · refine ⟨q.2,by simp [h], ?_⟩
        show upds (upd t q.1 q.2) l i=_
        rw [acK hm,h]
        simp [upd]
      · exact absurd h hm
theorem age:∀ {ids:List Nat} {σ σ' : XSt},XSt.freeze ids σ=some σ' →
    (∀ i ∈ ids, ∃ sz xs ep lost fz, σ.get i=some (.arr sz xs ep lost fz) ∧ σ'.get i=some (.arr sz xs ep lost xs.length))∧(∀ i,i ∉ ids → σ'.get i = σ.get i)
  | [], σ, σ',h=>by
    simp [XSt.freeze] at h
    subst h
    exact ⟨by simp,fun _ _=>rfl⟩
  | j :: ids, σ, σ',h=>by
    simp only [XSt.freeze] at h
    split at h <;> try (simp at h; done)
    rename_i sz xs ep lost fz hj
    obtain ⟨h1,h2⟩:=age h
    refine ⟨fun i hi=>?_,fun i hi=>?_⟩
    · by_cases e:j=i
      · subst e
        refine ⟨sz,xs,ep,lost,fz,hj, ?_⟩
        by_cases hm:j ∈ ids
        · obtain ⟨sz',xs',ep',lost',fz',k1,k2⟩:=h1 j hm
          rw [XSt.aa0,if_pos rfl] at k1
          simp at k1
          obtain ⟨rfl,rfl,rfl,rfl,rfl⟩:=k1
          exact k2
        · rw [h2 j hm,XSt.aa0,if_pos rfl]
      · have hi' : i ∈ ids:=by
          rcases List.mem_cons.1 hi with h | h
          · exact absurd h.symm e
          · exact h
        obtain ⟨sz',xs',ep',lost',fz',k1,k2⟩:=h1 i hi'
        rw [XSt.aa0,if_neg e] at k1
        exact ⟨_,_,_,_,_,k1,k2⟩
    · simp only [List.mem_cons,not_or] at hi
      rw [h2 i hi.2,XSt.aa0,if_neg (fun e=>hi.1 e.symm)]
theorem apL (hs:SE s σ b) {ids rd:List Nat} {σ' : XSt} (h:XSt.freeze ids σ=some σ'):(freeze s ids).map (·.1)=ids∧SE (s.did rd (freeze s ids)) σ' (b + 16):=by
  obtain ⟨h1,h2⟩:=age h
  have hn:(freeze s ids).map (·.1)=ids:=amx fun i hi=>by
    obtain ⟨sz,xs,ep,lost,fz,k1,_⟩:=h1 i hi
    have:=hs.get _ _ k1
    exact ⟨sz,xs.map .p,ep,lost,fz,by rw [this]; simp [XObj.to]⟩
  have hget:∀ i,(s.did rd (freeze s ids)).get i=upds s.get (freeze s ids) i:=fun i=>congrFun (aaB _ _ _) i
  refine ⟨hn,fun i o ho=>?_,fun i hi=>?_⟩
  · rw [hget]
    by_cases hm:i ∈ ids
    · obtain ⟨sz,xs,ep,lost,fz,k1,k2⟩:=h1 i hm
      rw [k2] at ho
      simp at ho
      subst ho
      obtain ⟨o,m1,m2⟩:=upds_mem (l:=freeze s ids) (t:=s.get) (i:=i) (by rw [hn]; exact hm)
      rw [m2]
      obtain ⟨sz',n',xs',ep',lost',fz',m3,rfl⟩:=alJ m1
      have:=hs.get _ _ k1
      rw [m3] at this
      simp [XObj.to] at this
      obtain ⟨rfl,rfl,rfl,rfl,rfl,rfl⟩:=this
      rfl
    · rw [acK (by rw [hn]; exact hm), ← hs.get i o (by rw [← h2 i hm]; exact ho)]
  · rw [hget]
    have hm:i ∉ ids:=fun hm=>by
      obtain ⟨sz,xs,ep,lost,fz,k1,_⟩:=h1 i hm
      have:=hs.lt k1
      omega
    rw [acK (by rw [hn]; exact hm)]
    exact hs.free i (by omega)
theorem agO (hs:SE s σ b):∀ {ids:List Nat} {σ' : XSt},XSt.freeze ids σ=some σ' → noBox s ids=true:=by
  intro ids σ' h
  have h1:=(age h).1
  clear h
  induction ids with
  | nil=>rfl
  | cons i ids ih =>
    obtain ⟨sz,xs,ep,lost,fz,k1,_⟩:=h1 i (by simp)
    simp only [noBox,hs.get _ _ k1,XObj.to]
    exact ih fun j hj=>h1 j (List.mem_cons_of_mem _ hj)
def RecOk (C:CallFn) (rec:Rec1):Prop:=∀ f ps v,rec f ps=some v → ∃ vE sE,C (.iso f) (ps.map .p) St.empty=some (.ret vE sE) ∧
  ((outR sE vE=some v∧clipOf true vE=none) ∨ ∃ xs,v = .cl xs∧vE = .cl xs)
def CallIs (C:CallFn) (imp:Nat→Bool) (s:St) (b f:Nat) (args:List AVal) (v:AVal) (σ' : XSt) (rd wr:List Nat):Prop :=
  ∃ e:Eff,callAt C imp s b f args=some (.eff e)∧e.v=v∧e.rd=rd∧e.wr.map (·.1)=wr∧SE (s.did e.rd e.wr) σ' (b + 16)
theorem agP {ids:List Nat} {K:XSt→Option α} (h:apM ids σ K=some r):∃ σ',XSt.freeze ids σ=some σ' ∧ K σ' = some r:=by
  unfold apM at h
  split at h <;> try (simp at h; done)
  exact ⟨_,by assumption,h⟩
theorem purs_tail (tail:List PVal):∀ {l:List AVal} {ps:List PVal} {ids:List Nat},purs (pur s depth) l=some (ps,ids)→purs (pur s depth) (l ++ tail.map .p)=some (ps ++ tail,ids)
  | [],ps,ids,h=>by
    simp [purs] at h
    obtain ⟨rfl,rfl⟩:=h
    exact purs_p s 11 tail
  | v :: l,ps,ids,h=>by
    simp only [purs] at h
    split at h <;> simp at h
    rename_i x a xs b hx hxs
    obtain ⟨rfl,rfl⟩:=h
    simp only [List.cons_append,purs,hx,purs_tail tail hxs]
theorem aoV {bw:Bool} (tail:List PVal):∀ {l:List AVal},pureAs (pureA bw depth) l=true→pureAs (pureA bw depth) (l ++ tail.map .p)=true
  | [],_=>by
    induction tail with
    | nil=>rfl
    | cons x t ih=>exact ih
  | v :: l,h=>by
    simp only [pureAs] at h
    split at h <;> try (simp at h; done)
    rename_i hv
    simp only [List.cons_append,pureAs,hv]
    exact aoV tail h
theorem isoK_ok {C:CallFn} {cf:Cfg} {rec:Rec1} (hC:RecOk C rec) (hs:SE s σ b) {site f:Nat} {args0:List AVal} {tail:List PVal} {K:Nx α} (h:isoK cf rec σ b site f args0 tail K=some r) :
    ∃ z σ' rd wr,CallIs C cf.imp s b f (args0 ++ tail.map .p) z σ' rd wr∧K z σ' rd wr=some r:=by
  unfold isoK at h
  obtain ⟨himp,h⟩:=aaf h
  have himp:cf.imp f=false:=by simpa using himp
  obtain ⟨ps0,ids,h10,h20,h3⟩:=apx hs h
  clear h
  have h1:=purs_tail (s:=s) tail h10
  have h2:=aoV (bw:=lends cf.imp f) tail h20
  generalize args0 ++ tail.map AVal.p=args at h1 h2 ⊢
  generalize ps0 ++ tail=ps at h1 h3
  obtain ⟨v,hv,h3⟩:=adV h3
  obtain ⟨vE,sE,hc,hout⟩:=hC f ps v hv
  have pure:∀ x,v = .p x→pureK σ ids K x=some r → ∃ z σ' rd wr,CallIs C cf.imp s b f args z σ' rd wr∧K z σ' rd wr=some r:=by
    intro x hx h4
    subst hx
    obtain ⟨ho,hcl⟩:outR sE vE=some (.p x)∧clipOf true vE=none:=by
      rcases hout with h | ⟨xs,h,_⟩
      · exact h
      · simp at h
    have hcl' : clipOf (clips cf.imp f) vE=none:=by
      cases clips cf.imp f with
      | true=>exact hcl
      | false=>cases vE <;> rfl
    have call:∀ w,(match flatA (.p x) with | true=>true | false=>noBox s ids)=true→(match flatA (.p x) with | true=>[] | false=>freeze s ids)=w→callAt C cf.imp s b f args=some (.eff ⟨.p x,ids,w⟩):=by
      intro w hn hw
      subst hw
      cases hfl:flatA (.p x) with
      | true =>
        simp only [callAt,himp,h2,h1,hc,hcl',ho,adopt,adopt1,ad6,hfl,List.map_nil,List.append_nil,List.length_nil]
      | false =>
        have hn:noBox s ids=true:=by rw [hfl] at hn; exact hn
        simp only [callAt,himp,h2,h1,hc,hcl',ho,adopt,adopt1,ad6,hfl,hn,List.map_nil,List.append_nil,List.length_nil]
    unfold pureK at h4
    split at h4
    · exact ⟨_,_,_,_,⟨_,call [] (by cases flatA (.p x) <;> rfl) (by cases flatA (.p x) <;> rfl),rfl,rfl,rfl,hs.same (aaB _ _ _) (by omega)⟩,h4⟩
    · rcases ace h4 with ⟨hf,h4⟩ | ⟨hf,h4⟩
      · exact ⟨_,_,_,_,⟨_,call [] (by simp [flatA,hf]) (by simp [flatA,hf]),rfl,rfl,rfl,hs.same (aaB _ _ _) (by omega)⟩,h4⟩
      · obtain ⟨σ',hfr,h4⟩:=agP h4
        obtain ⟨k1,k2⟩:=apL (rd:=_) hs hfr
        exact ⟨_,_,_,_,⟨_,call (freeze s (_ :: _)) (by rw [show flatA (.p x)=false from hf]; exact agO hs hfr) (by rw [show flatA (.p x)=false from hf]),rfl,rfl,k1,k2⟩,h4⟩
  cases hres:cf.res site with
  | one sh =>
    rw [hres] at h3
    obtain ⟨x,rfl,h4⟩:=pK_some (show pK v _=some r from h3)
    exact pure x rfl (Sh.aaK h4)
  | many l =>
    rw [hres] at h3
    obtain ⟨x,rfl,h4⟩:=pK_some (show pK v _=some r from h3)
    obtain ⟨vs,rfl,h4⟩:=tupK_some h4
    exact pure _ rfl (ant h4)
  | own =>
    rw [hres] at h3
    rcases nownK_some (show nownK v _ _=some r from h3) with ⟨rfl,h4⟩ | ⟨sz,xs,rfl,h4⟩
    · exact pure _ rfl h4
    · obtain ⟨hfree,h4⟩:=adU h4
      obtain ⟨σ',hfr,h4⟩:=agP h4
      obtain ⟨ho,hcl⟩:outR sE vE=some (.own sz xs)∧clipOf true vE=none:=by
        rcases hout with h | ⟨xs,h,_⟩
        · exact h
        · simp at h
      have hcl' : clipOf (clips cf.imp f) vE=none:=by
        cases clips cf.imp f with
        | true=>exact hcl
        | false=>cases vE <;> rfl
      obtain ⟨k1,k2⟩:=apL (rd:=[]) hs hfr
      have hb:s.get b=none:=hs.at
      refine ⟨_,_,_,_,⟨⟨.arr b 0 0 xs.length false,ids ++ [b],freeze s ids ++ [(b, .arr sz xs.length (xs.map .p) 0 0 0)]⟩, ?_,rfl,rfl,by simp [k1], ?_⟩,h4⟩
      · simp only [callAt,himp,h2,h1,hc,hcl',ho,adopt,adopt1,ad6,hb,flatA,agO hs hfr]
        rfl
      · have k3:SE ((s.did [] (freeze s ids)).did [] [(b,(XObj.arr sz xs 0 0 0).to)]) (σ'.set b (.arr sz xs 0 0 0)) (b + 16):=k2.set (aaB _ _ _) (Nat.le_refl _) (by omega)
        refine k3.same ?_ (Nat.le_refl _)
        rw [aaB,aaB,aaB,anv]
        rfl
  | clip =>
    rw [hres] at h3
    rcases nclK_some (show nclK v _ _=some r from h3) with ⟨rfl,h4⟩ | ⟨xs,rfl,h4⟩
    · exact pure _ rfl h4
    · obtain ⟨hclip,h4⟩:=aaf h4
      obtain ⟨σ',hfr,h4⟩:=agP h4
      have hvE:vE = .cl xs:=by
        rcases hout with ⟨h,hcl⟩ | ⟨ys,h,h'⟩
        · exfalso
          unfold outR at h
          split at h
          · rename_i z hz
            simp at h
            subst h
            split at hz
            · simp only [Option.map_eq_some_iff] at hz
              obtain ⟨_,_,hz⟩:=hz
              unfold mkTup at hz
              split at hz <;> simp at hz
            · simp only [Option.map_eq_some_iff] at hz
              obtain ⟨_,_,hz⟩:=hz
              unfold mkAgg at hz
              split at hz <;> simp at hz
            · split at hz <;> simp at hz
              rename_i z' hz'
              subst hz
              unfold outL at hz'
              split at hz' <;> try (simp at hz'; done)
              rename_i xs' rd ow ho'
              split at hz' <;> simp at hz'
              subst hz'
              simp only [outvs] at ho'
              split at ho' <;> simp at ho'
              rename_i x1 a1 b1 x2 a2 b2 e1 e2
              obtain ⟨⟨rfl,_⟩,_⟩:=ho'
              unfold outv at e1
              repeat' split at e1
              all_goals first | (simp at e1; done) | (simp only [Option.map_eq_some_iff] at e1; obtain ⟨_,_,e1⟩:=e1; simp at e1)
          · simp only [Option.map_eq_some_iff] at h
            obtain ⟨_,_,h⟩:=h
            simp at h
        · simp at h
          rw [h',h]
      subst hvE
      obtain ⟨k1,k2⟩:=apL (rd:=ids) hs hfr
      refine ⟨_,_,_,_,⟨⟨.cl xs,ids,freeze s ids⟩, ?_,rfl,rfl,k1,k2⟩,h4⟩
      simp only [callAt,himp,h2,h1,hc,hclip,clipOf,agO hs hfr]
end
end Go.Proofs.YtdnbnpknpejpdaaGreatDoor.Sw
namespace Go.Proofs.YtdnbnpknpejpdaaGreatDoor.Sw
open Go.RowKit
theorem adQ:∀ {l:List Nat} {n k:Nat},idx l n=some k→l[k]? = some n
  | [],_,_,h=>by simp [idx] at h
  | x :: l,n,k,h=>by
    simp only [idx] at h
    split at h
    · rename_i e
      simp at h
      subst h
      simp [Nat.eq_of_beq_eq_true e]
    · split at h <;> simp at h
      rename_i j hj
      subst h
      simpa using adQ hj
theorem idx_none:∀ {l:List Nat} {n:Nat},isSome (idx l n)=false→n ∉ l
  | [],_,_=>by simp
  | x :: l,n,h=>by
    simp only [idx] at h
    split at h
    · simp [isSome] at h
    · rename_i e
      have:isSome (idx l n)=false:=by
        split at h
        · simp [isSome] at h
        · rename_i e2; rw [e2]; rfl
      have h1:=idx_none this
      simp only [List.mem_cons,not_or]
      exact ⟨fun e2=>by subst e2; rw [Nat.beq_refl] at e; simp at e,h1⟩
theorem aeu:∀ {l:List Nat},distinct l=true → ∀ {i j n:Nat},l[i]? = some n→l[j]? = some n→i=j
  | [],_,i,j,n,h,_=>by simp at h
  | x :: l,hd,i,j,n,h1,h2=>by
    simp only [distinct] at hd
    split at hd
    · simp at hd
    · rename_i e
      have hx:=idx_none (by simpa using e)
      cases i with
      | zero=>cases j with
        | zero=>rfl
        | succ j =>
          simp at h1 h2
          subst h1
          exact absurd (List.mem_of_getElem? h2) hx
      | succ i=>cases j with
        | zero =>
          simp at h1 h2
          subst h2
          exact absurd (List.mem_of_getElem? h1) hx
        | succ j =>
          simp at h1 h2
          rw [aeu hd h1 h2]
theorem idx_of:∀ {l:List Nat} {k n:Nat},distinct l=true→l[k]? = some n→idx l n=some k:=by
  intro l k n hd h
  cases hi:idx l n with
  | none =>
    have:=idx_none (l:=l) (n:=n) (by rw [hi]; rfl)
    exact absurd (List.mem_of_getElem? h) this
  | some j=>rw [aeu hd (adQ hi) h]
theorem ao9 {β:Type}:∀ (l:List β) (n:Nat),nth l n=l[n]?
  | [],n=>by simp [nth]
  | x :: l,0=>by simp [nth]
  | x :: l,n + 1=>by simp [nth,ao9 l n]
theorem firsts_get:∀ {m i:Nat} {l:List Nat},firsts m i l=true → ∀ j,j < m→l[j]? = some (i + j)
  | 0,_,_,_,j,h=>by omega
  | _ + 1,_,[],h,_,_=>by simp [firsts] at h
  | m + 1,i,x :: l,h,j,hj=>by
    simp only [firsts] at h
    split at h <;> try (simp at h; done)
    rename_i e
    cases j with
    | zero=>simp [Nat.eq_of_beq_eq_true e]
    | succ j =>
      have:=firsts_get h j (by omega)
      simp only [List.getElem?_cons_succ,this]
      congr 1; omega
theorem objsOf_get:∀ (os:List XObj) (i j:Nat),(objsOf i os).get j=if i≤j then os[j - i]? else none
  | [],i,j=>by simp [objsOf,Tr.get_lf]
  | o :: os,i,j=>by
    simp only [objsOf,Tr.aa0,objsOf_get os (i + 1) j]
    by_cases h:i=j
    · subst h; simp
    · rw [if_neg h]
      by_cases h1:i≤j
      · obtain ⟨d,hd⟩:∃ d,j - i=d + 1:=⟨j - i - 1,by omega⟩
        rw [if_pos h1,if_pos (by omega),hd]
        have:j - (i + 1)=d:=by omega
        rw [this]; simp
      · rw [if_neg h1,if_neg (by omega)]
theorem XC.st_get (c:XC) (j:Nat):c.st.get j=c.objs[j]? := by
  show (objsOf 0 c.objs).get j=_
  rw [objsOf_get]; simp
theorem tmOf_get {gl:Tr AVal}:∀ {ts:List Nat} {vs:List AVal} {t:Nat} {x:AVal},(tmOf gl ts vs).get t=some x→(∃ k:Nat,ts[k]? = some t∧vs[k]? = some x) ∨ gl.get t=some x
  | [],vs,t,x,h=>by cases vs <;> exact .inr h
  | _ :: _,[],t,x,h=>.inr h
  | t' :: ts,v :: vs,t,x,h=>by
    simp only [tmOf,Tr.aa0] at h
    split at h
    · rename_i e
      simp at h
      exact .inl ⟨0,by simp [e],by simp [h]⟩
    · rcases tmOf_get h with ⟨k,h1,h2⟩ | h
      · exact .inl ⟨k + 1,by simpa using h1,by simpa using h2⟩
      · exact .inr h
theorem alH {tm:Tr AVal}:∀ {ts:List Nat} {vs:List AVal},getAll tm ts=some vs→vs.length=ts.length ∧ ∀ (k t:Nat),ts[k]? = some t → ∃ v,vs[k]? = some v∧tm.get t=some v
  | [],vs,h=>by
    simp [getAll] at h
    subst h
    exact ⟨rfl,fun k t hk=>by simp at hk⟩
  | t' :: ts,vs,h=>by
    simp only [getAll] at h
    split at h <;> simp at h
    rename_i v r h1 h2
    subst h
    obtain ⟨h3,h4⟩:=alH h2
    refine ⟨by simp [h3],fun k t hk=>?_⟩
    cases k with
    | zero =>
      simp at hk
      subst hk
      exact ⟨v,rfl,h1⟩
    | succ k =>
      simp at hk
      simpa using h4 k t hk
theorem tmOf_map {f:Nat→Option Nat} {e:Nat→Nat→Option Nat} {gl:Tr AVal}:∀ {ts:List Nat} {vs us:List AVal} {t:Nat} {x:AVal},mapAs f e vs=some us→(tmOf gl ts us).get t=some x →
    (∃ v,(tmOf gl ts vs).get t=some v∧mapA f e v=some x) ∨ gl.get t=some x
  | [],vs,us,t,x,_,h=>by cases us <;> exact .inr h
  | t' :: ts,[],us,t,x,hm,h=>by
    simp [mapAs] at hm
    subst hm
    exact .inr h
  | t' :: ts,v :: vs,us,t,x,hm,h=>by
    simp only [mapAs] at hm
    split at hm <;> simp at hm
    rename_i u r h1 h2
    subst hm
    simp only [tmOf,Tr.aa0] at h ⊢
    split at h
    · rename_i e'
      simp at h
      subst h
      exact .inl ⟨v,by simp [e'],h1⟩
    · rename_i e'
      rw [if_neg e']
      exact tmOf_map h2 h
section
variable {f:Nat→Option Nat} {e:Nat→Nat→Option Nat} {g g' : Sg} {s s' : Sto} {w w' : World}
structure Maps (f:Nat→Option Nat) (e:Nat→Nat→Option Nat) (g:Sg) (s:Sto) (w:World) (g' : Sg) (s' : Sto) (w' : World):Prop where
  keeps:Keeps g.imm g'.imm w w'
  bx:∀ id j b,f id=some j→g.bx id=some b→g'.bx j=some b
  view:∀ id j ep ep' off len c b o cap,f id=some j→e id ep=some ep' → ViewOk g s w id ep off len c b o cap→ViewOk g' s' w' j ep' off len c b o cap
mutual
theorem aj1 (h:Maps f e g s w g' s' w'):∀ (v u:AVal) (x:Value),mapA f e v=some u→RepA g s w v x→RepA g' s' w' u x
  | .p y,u,x,hr,hv=>by
    simp [mapA] at hr
    subst hr
    exact RepP.keeps h.keeps _ _ hv
  | .cl ys,u,x,hr,hv=>by
    simp [mapA] at hr
    subst hr
    rcases hv with ⟨b,o,sz,vs,e1,h1,h2,h3⟩ | q
    · exact .inl ⟨b,o,sz,vs,e1,RepPs.keeps h.keeps _ _ h1,h2,h3.keeps h.keeps⟩
    · exact .inr q
  | .agg cs,u,x,hr,hv=>by
    simp only [mapA] at hr
    split at hr <;> simp at hr
    rename_i us hu
    subst hr
    obtain ⟨vs,rfl,h1,h2⟩:=hv
    exact ⟨vs,rfl,acQ h cs us vs hu h1,h2⟩
  | .tup cs,u,x,hr,hv=>by
    simp only [mapA] at hr
    split at hr <;> simp at hr
    rename_i us hu
    subst hr
    obtain ⟨vs,rfl,h1⟩:=hv
    exact ⟨vs,rfl,acQ h cs us vs hu h1⟩
  | .iface t v,u,x,hr,hv=>by
    simp only [mapA] at hr
    split at hr <;> simp at hr
    rename_i y hu
    subst hr
    obtain ⟨z,rfl,h1⟩:=hv
    exact ⟨z,rfl,aj1 h v y z hu h1⟩
  | .fn f cs,u,x,hr,hv=>by
    simp only [mapA] at hr
    split at hr <;> simp at hr
    rename_i us hu
    subst hr
    obtain ⟨vs,rfl,h1⟩:=hv
    exact ⟨vs,rfl,acQ h cs us vs hu h1⟩
  | .fnb f cs,u,x,hr,hv=>by
    simp only [mapA] at hr
    split at hr <;> simp at hr
    rename_i us hu
    subst hr
    obtain ⟨vs,rfl,h1⟩:=hv
    exact ⟨vs,rfl,acQ h cs us vs hu h1⟩
  | .box id off,u,x,hr,hv=>by
    simp only [mapA] at hr
    split at hr <;> simp at hr
    rename_i j hj
    subst hr
    obtain ⟨b,h1,h2⟩:=hv
    exact ⟨b,h.bx _ _ _ hj h1,h2⟩
  | .arr id ep off len c,u,x,hr,hv=>by
    simp only [mapA] at hr
    split at hr <;> simp at hr
    rename_i j ep' hj he
    subst hr
    obtain ⟨b,o,cap,h1,h2,h3,h4⟩:=hv
    exact ⟨b,o,cap,h1,h2,h3,h.view _ _ _ _ _ _ _ _ _ _ hj he h4⟩
  | .rf k id,u,x,hr,hv=>by
    simp only [mapA] at hr
    split at hr <;> simp at hr
    rename_i j hj
    subst hr
    obtain ⟨b,h1,h2⟩:=hv
    exact ⟨b,h.bx _ _ _ hj h1,h2⟩
  | .own _ _,u,x,hr,hv=>by simp [mapA] at hr
  | .ownm _,u,x,hr,hv=>by simp [mapA] at hr
  | .el _ _ _ _,u,x,hr,hv=>by simp [mapA] at hr
  | .junk,u,x,hr,hv=>by simp [mapA] at hr
theorem acQ (h:Maps f e g s w g' s' w'):∀ (vs us:List AVal) (xs:List Value),mapAs f e vs=some us→RepAs g s w vs xs→RepAs g' s' w' us xs
  | [],us,xs,hr,hv=>by
    simp [mapAs] at hr
    subst hr
    exact hv
  | v :: vs,us,xs,hr,hv=>by
    simp only [mapAs] at hr
    split at hr <;> simp at hr
    rename_i u r h1 h2
    subst hr
    obtain ⟨y,ys,rfl,h3,h4⟩:=hv
    exact ⟨y,ys,rfl,aj1 h v u y h1 h3,acQ h vs r ys h2 h4⟩
end
theorem tmOf_frm (h:Maps f e g s w g' s' w') {ts:List Nat} {vs us:List AVal} {tmps:Array Value} (hm:mapAs f e vs=some us) (hf:Frm g s w (tmOf .lf ts vs) tmps):Frm g' s' w' (tmOf .lf ts us) tmps:=by
  intro t x ht
  rcases tmOf_map hm ht with ⟨v,h1,h2⟩ | h1
  · obtain ⟨u,h3,h4⟩:=hf t v h1
    exact ⟨u,h3,aj1 h _ _ _ h2 h4⟩
  · rw [Tr.get_lf] at h1; simp at h1
end
section
variable [Sites] {ids:List Nat} {σ:XSt} {g:Sg} {S S' : Sto} {w:World}
theorem agm:∀ {l:List Nat} {os:List XObj},renOs ids σ l=some os→os.length=l.length ∧ ∀ (k id:Nat),l[k]? = some id → ∃ o o', σ.get id=some o∧mapO (idx ids) (epNow σ) 0 o=some o' ∧ os[k]? = some o'
  | [],os,h=>by
    simp [renOs] at h
    subst h
    exact ⟨rfl,fun k id hk=>by simp at hk⟩
  | i :: l,os,h=>by
    simp only [renOs] at h
    split at h <;> try (simp at h; done)
    rename_i o ho
    split at h <;> simp at h
    rename_i o' r h1 h2
    subst h
    obtain ⟨h3,h4⟩:=agm h2
    refine ⟨by simp [h3],fun k id hk=>?_⟩
    cases k with
    | zero =>
      simp at hk
      subst hk
      exact ⟨o,o',ho,h1,rfl⟩
    | succ k =>
      simp at hk
      simpa using h4 k id hk
def renG (ids:List Nat) (g:Sg) (pr:Nat→Prop):Sg where
  imm:=g.imm
  bx:=fun j=>match ids[j]? with
    | some id=>g.bx id
    | none=>none
  rg:=fun b=>match g.rg b with
    | some (id,st,m)=>if g.cb id=b then (match idx ids id with | some j=>some (j,st,m) | none=>none) else none
    | none=>none
  cb:=fun j=>match ids[j]? with
    | some id=>g.cb id
    | none=>0
  base:=g.base
  pr:=pr
theorem renG_rg {pr:Nat→Prop} {b j st m:Nat} (hd:distinct ids=true):(renG ids g pr).rg b=some (j,st,m) ↔ ∃ id,ids[j]? = some id∧g.rg b=some (id,st,m)∧g.cb id=b:=by
  simp only [renG]
  constructor
  · intro h
    split at h <;> try (simp at h; done)
    rename_i id st' m' hr
    split at h <;> try (simp at h; done)
    rename_i hc
    split at h <;> simp at h
    rename_i j' hj
    obtain ⟨rfl,rfl,rfl⟩:=h
    exact ⟨id,adQ hj,hr,hc⟩
  · rintro ⟨id,h1,h2,h3⟩
    simp only [h2,h3,if_true,idx_of hd h1]
structure RenOk (ids:List Nat) (σ:XSt) (S S' : Sto):Prop where
  dis:distinct ids=true
  new:∀ j id,ids[j]? = some id → ∃ o o', σ.get id=some o∧S id=some o.to∧mapO (idx ids) (epNow σ) 0 o=some o' ∧ S' j=some o'.to
  no:∀ j,ids[j]? = none→S' j=none
theorem RenOk.maps (h:RenOk ids σ S S') (hi:Inv g S w) {pr:Nat→Prop}:Maps (idx ids) (epNow σ) g S w (renG ids g pr) S' w:=by
  refine ⟨fun _ _ _ h hc=>⟨h,hc⟩,fun id j b hj hb=>by simp only [renG,adQ hj]; exact hb,fun id j ep ep' off len c b o cap hj he hv=>?_⟩
  obtain ⟨x,x',k1,k2,k3,k4⟩:=h.new j id (adQ hj)
  unfold epNow at he
  rw [k1] at he
  split at he <;> try (simp at he; done)
  rename_i sz xs cur lost fz hx
  simp only [Option.some.injEq] at hx
  subst hx
  split at he <;> simp at he
  rename_i hep
  have hep:=Nat.eq_of_beq_eq_true hep
  subst hep he
  simp only [mapO,Option.some.injEq] at k3
  subst k3
  obtain ⟨sz',n',xs',cur',lost',fz',h4,h5⟩:=hv
  rw [k2] at h4
  simp [XObj.to] at h4
  obtain ⟨rfl,rfl,rfl,rfl,rfl,rfl⟩:=h4
  have hlost:=(hi.arr id _ _ _ _ _ _ k2).2.1
  obtain ⟨_,st,m,h6,h7,h8,h9,h10⟩:=h5 hlost
  refine ⟨_,_,_,_,_,_,k4,fun _=>⟨Nat.le_refl _,st,m,(renG_rg h.dis).2 ⟨id,adQ hj,h6,h10 rfl⟩,h7,h8,h9,fun _=>?_⟩⟩
  simp only [renG,adQ hj]
  exact h10 rfl
theorem Inv.ren (hi:Inv g S w) (h:RenOk ids σ S S') {pr:Nat→Prop} (hpr:PrOk (renG ids g pr) w.heap.size):Inv (renG ids g pr) S' w:=by
  have hm:Maps (idx ids) (epNow σ) g S w (renG ids g pr) S' w:=h.maps hi
  have back:∀ {j:Nat} {o:Obj},S' j=some o → ∃ id x x',ids[j]? = some id∧S id=some x.to∧mapO (idx ids) (epNow σ) 0 x=some x' ∧ o=x'.to:=by
    intro j o hj
    cases hid:ids[j]? with
    | none=>rw [h.no j hid] at hj; simp at hj
    | some id =>
      obtain ⟨x,x',h1,h2,h3,h4⟩:=h.new j id hid
      rw [h4] at hj
      simp at hj
      exact ⟨id,x,x',rfl,h2,h3,hj.symm⟩
  refine ⟨?_, ?_, ?_, ?_, ?_,hi.immS,hi.baseS, ?_,hpr⟩
  · intro j cs hj
    obtain ⟨id,x,x',h1,h5,h3,h4⟩:=back hj
    cases x with
    | box cs0 =>
      simp only [mapO] at h3
      split at h3 <;> simp at h3
      rename_i cs1 h6
      subst h3
      simp [XObj.to] at h4
      subst h4
      obtain ⟨b,c,t,k1,k2,k3,k4⟩:=hi.box id cs0 h5
      exact ⟨b,c,t,by simp only [renG,h1]; exact k1,k2,acQ hm _ _ _ h6 k3,k4⟩
    | arr sz xs ep lost fz =>
      simp [mapO] at h3
      subst h3
      simp [XObj.to] at h4
    | pbox cs0 =>
      simp [mapO] at h3
      subst h3
      simp [XObj.to] at h4
      subst h4
      obtain ⟨b,c,t,k1,k2,k3,k4⟩:=hi.box id (cs0.map .p) h5
      refine ⟨b,c,t,by simp only [renG,h1]; exact k1,k2, ?_,k4⟩
      exact aaU (g:=renG ids g pr) (aeG (g:=g) (agh cs0) k3)
    | lp k vals st pend =>
      simp only [mapO] at h3
      split at h3 <;> simp at h3
      subst h3
      simp [XObj.to] at h4
  · intro j sz n xs cur lost fz hj
    obtain ⟨id,x,x',h1,h5,h3,h4⟩:=back hj
    cases x with
    | box cs0 =>
      simp only [mapO] at h3
      split at h3 <;> simp at h3
      subst h3
      simp [XObj.to] at h4
    | pbox cs0 =>
      simp [mapO] at h3
      subst h3
      simp [XObj.to] at h4
    | lp k vals st pend =>
      simp only [mapO] at h3
      split at h3 <;> simp at h3
      subst h3
      simp [XObj.to] at h4
    | arr sz0 xs0 ep0 lost0 fz0 =>
      simp [mapO] at h3
      subst h3
      simp [XObj.to] at h4
      obtain ⟨rfl,rfl,rfl,rfl,rfl,rfl⟩:=h4
      obtain ⟨k1,k2,k3,k4⟩:=hi.arr id _ _ _ _ _ _ h5
      refine ⟨k1,Nat.le_refl _,k3,fun b st m hb=>?_⟩
      obtain ⟨id',q1,q2,q3⟩:=(renG_rg h.dis).1 hb
      rw [h1] at q1
      simp at q1
      subst q1
      obtain ⟨k5,c,t,vs,k6,k7,k8,k9,k10,k11⟩:=k4 b st m q2
      refine ⟨k5,c,t,vs,k6, ?_,k8,k9,k10,k11⟩
      rw [← List.map_take] at k7 ⊢
      exact aaU (g:=renG ids g pr) (aeG (g:=g) (agh _) k7)
  · intro b j st m hb
    obtain ⟨id,q1,q2,q3⟩:=(renG_rg h.dis).1 hb
    obtain ⟨⟨sz,n,xs,cur,lost,fz,k1⟩,k2,k3⟩:=hi.rgS b id st m q2
    obtain ⟨x,x',h1,h2,h3,h4⟩:=h.new j id q1
    rw [k1] at h2
    cases x <;> simp [XObj.to] at h2
    simp [mapO] at h3
    subst h3
    exact ⟨⟨_,_,_,_,_,_,h4⟩,k2,k3⟩
  · intro j b hb
    simp only [renG] at hb
    split at hb <;> try (simp at hb; done)
    rename_i id hid
    obtain ⟨k1,k2,k3,k4,k5⟩:=hi.bxS id b hb
    refine ⟨k1,k2,by simp only [renG,k3],k4, ?_⟩
    obtain ⟨x,x',h1,h4,h2,h3⟩:=h.new j id hid
    cases x with
    | box cs0 =>
      simp only [mapO] at h2
      split at h2 <;> simp at h2
      subst h2
      exact .inl ⟨_,h3⟩
    | pbox cs0 =>
      simp [mapO] at h2
      subst h2
      exact .inl ⟨_,h3⟩
    | lp k vals st pend =>
      simp only [mapO] at h2
      split at h2 <;> simp at h2
      subst h2
      exact .inr ⟨_,h3⟩
    | arr sz0 xs0 ep0 lost0 fz0 =>
      rcases k5 with ⟨cs,k5⟩ | ⟨hh,k5⟩ <;> (rw [h4] at k5; simp [XObj.to] at k5)
  · intro i j b h1 h2
    simp only [renG] at h1 h2
    split at h1 <;> try (simp at h1; done)
    rename_i id1 hid1
    split at h2 <;> try (simp at h2; done)
    rename_i id2 hid2
    have:=hi.inj _ _ _ h1 h2
    subst this
    exact aeu h.dis hid1 hid2
  · intro j hh hj
    obtain ⟨id,x,x',h1,h5,h3,h4⟩:=back hj
    cases x with
    | box cs0 =>
      simp only [mapO] at h3
      split at h3 <;> simp at h3
      subst h3
      simp [XObj.to] at h4
    | pbox cs0 =>
      simp [mapO] at h3
      subst h3
      simp [XObj.to] at h4
    | arr sz0 xs0 ep0 lost0 fz0 =>
      simp [mapO] at h3
      subst h3
      simp [XObj.to] at h4
    | lp k vals st pend =>
      simp only [mapO] at h3
      split at h3 <;> simp at h3
      rename_i us hu
      subst h3
      simp [XObj.to] at h4
      subst h4
      obtain ⟨b,o,k1,k2,r,rfl,k3,k4,k5,k6,k7,k8,k9⟩:=hi.ho id _ h5
      exact ⟨b,_,by simp only [renG,h1]; exact k1,k2,r,rfl,k3,k4,k5,k6,k7,k8,tmOf_frm hm hu k9⟩
end
end Go.Proofs.YtdnbnpknpejpdaaGreatDoor.Sw
namespace Go.Proofs.YtdnbnpknpejpdaaGreatDoor.Sw
open Go.RowKit
def nu (ids:List Nat) (b j:Nat):Nat:=match nth ids j with
  | some id=>id
  | none=>b + (j - ids.length)
theorem nuOf_eq (ids:List Nat) (b j:Nat):nuOf ids b j=some (nu ids b j):=by
  unfold nuOf nu
  cases nth ids j <;> rfl
theorem nu_lt {ids:List Nat} {b j id:Nat} (h:ids[j]? = some id):nu ids b j=id:=by
  unfold nu; rw [ao9,h]
theorem nu_ge {ids:List Nat} {b j:Nat} (h:ids.length≤j):nu ids b j=b + (j - ids.length):=by
  unfold nu; rw [ao9,List.getElem?_eq_none_iff.2 h]
theorem nu_inj {ids:List Nat} {b:Nat} (hd:distinct ids=true) (hlt:∀ id ∈ ids,id < b) {j j' : Nat} (h:nu ids b j=nu ids b j'):j=j':=by
  by_cases h1:j < ids.length
  · obtain ⟨x,hx⟩:∃ x,ids[j]? = some x:=⟨_,List.getElem?_eq_getElem h1⟩
    rw [nu_lt hx] at h
    by_cases h2:j' < ids.length
    · obtain ⟨y,hy⟩:∃ y,ids[j']? = some y:=⟨_,List.getElem?_eq_getElem h2⟩
      rw [nu_lt hy] at h
      subst h
      exact aeu hd hx hy
    · rw [nu_ge (by omega)] at h
      have:=hlt x (List.mem_of_getElem? hx)
      omega
  · rw [nu_ge (by omega)] at h
    by_cases h2:j' < ids.length
    · obtain ⟨y,hy⟩:∃ y,ids[j']? = some y:=⟨_,List.getElem?_eq_getElem h2⟩
      rw [nu_lt hy] at h
      have:=hlt y (List.mem_of_getElem? hy)
      omega
    · rw [nu_ge (by omega)] at h
      omega
theorem upds_at:∀ {l:List (Nat × Obj)} {s:Sto} {k id:Nat} {o:Obj},l[k]? = some (id,o)→(∀ (k' : Nat) (q:Nat × Obj),l[k']? = some q→q.1=id→k' = k)→upds s l id=some o
  | [],_,_,_,_,h,_=>by simp at h
  | q :: l,s,k,id,o,h,hu=>by
    cases k with
    | zero =>
      simp at h
      subst h
      show upds (upd s id o) l id=some o
      rw [acK (fun hm=>?_)]
      · simp
      · obtain ⟨q,hq,hqi⟩:=List.mem_map.1 hm
        obtain ⟨i,hi⟩:=List.mem_iff_getElem?.1 hq
        have:=hu (i + 1) q (by simpa using hi) hqi
        omega
    | succ k =>
      show upds (upd s q.1 q.2) l id=some o
      refine upds_at (k:=k) (by simpa using h) (fun k' q' h1 h2=>?_)
      have:=hu (k' + 1) q' (by simpa using h1) h2
      omega
section
variable [Sites] {ids:List Nat} {σ:XSt} {b:Nat}
theorem alY:∀ {l:List XObj} {i:Nat} {ps:List (Nat × XObj)},backOs ids σ b i l=some ps→ps.length=l.length ∧ ∀ (k:Nat) (o:XObj),l[k]? = some o →
    ∃ o',fresh0 o=true∧mapO (nuOf ids b) (epBack ids σ) (epNew ids σ (i + k)) o=some o' ∧ ps[k]? = some (nu ids b (i + k),o')
  | [],i,ps,h=>by
    simp [backOs] at h
    subst h
    exact ⟨rfl,fun k o hk=>by simp at hk⟩
  | o :: l,i,ps,h=>by
    simp only [backOs] at h
    split at h <;> try (simp at h; done)
    rename_i id o' r h1 h2 h3 h4
    simp at h
    subst h
    rw [nuOf_eq] at h2
    simp at h2
    subst h2
    obtain ⟨h5,h6⟩:=alY h4
    refine ⟨by simp [h5],fun k x hk=>?_⟩
    cases k with
    | zero =>
      simp at hk
      subst hk
      exact ⟨o',h1,h3,rfl⟩
    | succ k =>
      simp at hk
      obtain ⟨y,k1,k2,k3⟩:=h6 k x hk
      rw [show i + 1 + k=i + (k + 1) by omega] at k2 k3
      exact ⟨y,k1,k2,by simpa using k3⟩
theorem afe:∀ {xs ys:List XObj},aeW xs ys=true→xs.length≤ys.length ∧ ∀ (k:Nat) (x y:XObj),xs[k]? = some x→ys[k]? = some y→sameKind x y=true
  | [],ys,_=>⟨by simp,fun k x y h=>by simp at h⟩
  | x :: xs,[],h=>by simp [aeW] at h
  | x :: xs,y :: ys,h=>by
    simp only [aeW] at h
    split at h <;> try (simp at h; done)
    rename_i hxy
    obtain ⟨h1,h2⟩:=afe h
    refine ⟨by simp [h1],fun k u v hu hv=>?_⟩
    cases k with
    | zero =>
      simp at hu hv
      subst hu hv
      exact hxy
    | succ k=>exact h2 k u v (by simpa using hu) (by simpa using hv)
def unseen (ids:List Nat) (g:Sg) (w:World) (bl:Nat):Prop :=
  bl < w.heap.size∧(∀ id st k,id ∈ ids→g.rg bl=some (id,st,k)→g.cb id ≠ bl) ∧ ∀ id ∈ ids,g.bx id ≠ some bl
theorem unseen_ok {g:Sg} {w:World} (hd:distinct ids=true):PrOk (renG ids g (unseen ids g w)) w.heap.size:=by
  intro bl h
  obtain ⟨h1,h2,h3⟩:=h
  refine ⟨h1, ?_,fun i hi=>?_⟩
  · cases hr:(renG ids g (unseen ids g w)).rg bl with
    | none=>rfl
    | some q =>
      obtain ⟨j,st,k⟩:=q
      obtain ⟨id,q1,q2,q3⟩:=(renG_rg hd).1 hr
      exact absurd q3 (h2 id st k (List.mem_of_getElem? q1) q2)
  · simp only [renG] at hi
    split at hi <;> try (simp at hi; done)
    rename_i id hid
    exact h3 id (List.mem_of_getElem? hid) hi
structure After (g:Sg) (m:Nat) (w:World) (g' : Sg) (w' : World):Prop where
  base:g'.base=g.base
  below:Below g.base w w'
  keeps:Keeps g.imm g'.imm w w'
  immB:∀ b o,b < g.base→g'.imm b o→g.imm b o
  still:∀ b,g.pr b→g'.pr b∧w'.heap[b]? = w.heap[b]? ∧ ∀ o,g'.imm b o→g.imm b o
  bx:∀ j,j < m → ∀ b,g.bx j=some b→g'.bx j=some b
theorem After.refl (g:Sg) (m:Nat) (w:World):After g m w g w:=⟨rfl, .refl _ _, .refl _ _,fun _ _ _ h=>h,fun _ h=>⟨h,rfl,fun _ h=>h⟩,fun _ _ _ h=>h⟩
theorem After.ext {g g1 g2:Sg} {m:Nat} {s1 s2:Sto} {w w1 w2:World} (h:After g m w g1 w1) (e:Ext g1 s1 w1 g2 s2 w2):After g m w g2 w2 :=
  ⟨e.base.trans h.base,h.below.trans (h.base ▸ e.below),h.keeps.trans e.keeps,fun b o hb hi=>h.immB b o hb (e.immB b o (by rw [h.base]; exact hb) hi),
    fun b hb=>let ⟨h1,h2,h3⟩:=h.still b hb; ⟨by rw [e.still.1]; exact h1,(e.still.2 b h1).1.trans h2,fun o ho=>h3 o ((e.still.2 b h1).2 o ho)⟩,
    fun j hj b hb=>e.bx _ _ (h.bx j hj b hb)⟩
theorem ami {x y:XObj} (h:sameKind x y=true) {sz:Nat} {xs:List PVal} {c l f:Nat} (hx:x = .arr sz xs c l f):∃ sz' xs' c' l' f',y = .arr sz' xs' c' l' f':=by
  subst hx
  cases y <;> simp [sameKind] at h
  exact ⟨_,_,_,_,_,rfl⟩
theorem back_came {T T' : Sto} {g g' : Sg} {w w' : World} {os objs:List XObj} {ps:List (Nat × XObj)} (hi:Inv g T w) (hdis:distinct ids=true)
    (hσ:∀ id ∈ ids, ∃ o, σ.get id=some o∧T id=some o.to) (hos:renOs ids σ ids=some os) (hps:backOs ids σ b 0 objs=some ps) (hk:aeW os objs=true)
    (hlt:∀ id ∈ ids,id < b) (hfree:∀ j,ids.length≤j→j < objs.length→T (nu ids b j)=none) (hT' : T' = upds T (ps.map fun q=>(q.1,q.2.to)))
    {S' : Sto} (hS' : ∀ j,S' j=(objs[j]?).map XObj.to) (hi' : Inv g' S' w') (ha:After (renG ids g (unseen ids g w)) ids.length w g' w') :
    ∃ g'',Ext g T w g'' T' w' ∧ Inv g'' T' w' ∧ Maps (nuOf ids b) (epBack ids σ) g' S' w' g'' T' w':=by
  obtain ⟨hol,hoget⟩:=agm hos
  obtain ⟨hpl,hpget⟩:=alY hps
  obtain ⟨hkl,hkget⟩:=afe hk
  have hm:ids.length≤objs.length:=by rw [← hol]; exact hkl
  have ninj:∀ {j j' : Nat},nu ids b j=nu ids b j' → j=j':=fun h=>nu_inj hdis hlt h
  have hnew:∀ (j:Nat) (o:XObj),objs[j]? = some o → ∃ o',fresh0 o=true∧mapO (nuOf ids b) (epBack ids σ) (epNew ids σ j) o=some o' ∧ T' (nu ids b j)=some o'.to:=by
    intro j o hj
    obtain ⟨o',h1,h2,h3⟩:=hpget j o hj
    rw [Nat.zero_add] at h2 h3
    refine ⟨o',h1,h2, ?_⟩
    rw [hT']
    refine upds_at (k:=j) (by simp [h3]) (fun k' q hq hqi=>?_)
    simp only [List.getElem?_map,Option.map_eq_some_iff] at hq
    obtain ⟨p,hp,rfl⟩:=hq
    have hlt' : k' < objs.length:=by rw [← hpl]; exact (List.getElem?_eq_some_iff.1 hp).1
    obtain ⟨o2,_,_,h6⟩:=hpget k' _ (List.getElem?_eq_getElem hlt')
    rw [hp,Nat.zero_add] at h6
    simp at h6
    subst h6
    exact ninj hqi
  have hold:∀ id,(∀ j,j < objs.length→nu ids b j ≠ id)→T' id=T id:=by
    intro id hno
    rw [hT']
    refine acK (fun hmem=>?_)
    simp only [List.map_map,List.mem_map] at hmem
    obtain ⟨p,hp,hpi⟩:=hmem
    obtain ⟨k,hk1⟩:=List.mem_iff_getElem?.1 hp
    have hlt' : k < objs.length:=by rw [← hpl]; exact (List.getElem?_eq_some_iff.1 hk1).1
    obtain ⟨o2,_,_,h6⟩:=hpget k _ (List.getElem?_eq_getElem hlt')
    rw [hk1,Nat.zero_add] at h6
    simp at h6
    subst h6
    exact hno k hlt' hpi
  classical
  let mu:Nat→Option Nat:=fun id=>if h:∃ j,j < objs.length∧nu ids b j=id then some h.choose else none
  have mu_some:∀ {id j:Nat},mu id=some j ↔ j < objs.length∧nu ids b j=id:=by
    intro id j
    simp only [mu]
    constructor
    · intro h
      split at h <;> simp at h
      rename_i hex
      subst h
      exact hex.choose_spec
    · rintro ⟨h1,h2⟩
      rw [dif_pos ⟨j,h1,h2⟩]
      have hs:=(⟨j,h1,h2⟩:∃ j,j < objs.length∧nu ids b j=id).choose_spec
      simp only [Option.some.injEq]
      exact ninj (hs.2.trans h2.symm)
  have mu_none:∀ {id:Nat},mu id=none ↔ ∀ j,j < objs.length→nu ids b j ≠ id:=by
    intro id
    simp only [mu]
    constructor
    · intro h
      split at h <;> simp at h
      rename_i hex
      exact fun j h1 h2=>hex ⟨j,h1,h2⟩
    · intro h
      rw [dif_neg]
      rintro ⟨j,h1,h2⟩
      exact h j h1 h2
  have mu_nu:∀ {j:Nat},j < objs.length→mu (nu ids b j)=some j:=fun h=>mu_some.2 ⟨h,rfl⟩
  have mu_ids:∀ {id:Nat},mu id=none→id ∉ ids:=by
    intro id h hid
    obtain ⟨j,hj⟩:=List.mem_iff_getElem?.1 hid
    have:=(List.getElem?_eq_some_iff.1 hj).1
    exact mu_none.1 h j (by omega) (nu_lt hj)
  have mu_old:∀ {id j:Nat} {o:Obj},mu id=some j→T id=some o→ids[j]? = some id:=by
    intro id j o h ho
    obtain ⟨h1,h2⟩:=mu_some.1 h
    by_cases hj:j < ids.length
    · have:=List.getElem?_eq_getElem hj
      rw [this, ← h2,nu_lt this]
    · have:=hfree j (by omega) h1
      rw [h2,ho] at this
      simp at this
  have F1:∀ {id bl:Nat},mu id=none→g.bx id=some bl→unseen ids g w bl:=by
    intro id bl h hb
    obtain ⟨k1,k2,k3,k4,k5⟩:=hi.bxS id bl hb
    refine ⟨k2,fun id' st k _ hr=>by rw [k3] at hr; simp at hr,fun id' hid' hb'=>?_⟩
    have:=hi.inj _ _ _ hb' hb
    subst this
    exact mu_ids h hid'
  have F2:∀ {bl id st k:Nat},mu id=none→g.rg bl=some (id,st,k)→unseen ids g w bl:=by
    intro bl id st k h hr
    obtain ⟨k1,k2,k3⟩:=hi.rgS bl id st k hr
    refine ⟨k3,fun id' st' k' hid' hr'=>?_,fun id' hid' hb'=>?_⟩
    · rw [hr] at hr'
      simp at hr'
      exact absurd (hr'.1 ▸ hid') (mu_ids h)
    · rw [(hi.bxS _ _ hb').2.2.1] at hr; simp at hr
  have F3:∀ {bl:Nat},g.pr bl→unseen ids g w bl:=by
    intro bl h
    obtain ⟨k1,k2,k3⟩:=hi.prS bl h
    exact ⟨k1,fun id st k _ hr=>by rw [k2] at hr; simp at hr,fun id _ hb=>k3 id hb⟩
  have F4:∀ {bl:Nat},unseen ids g w bl→g'.pr bl∧g'.rg bl=none∧(∀ j,g'.bx j ≠ some bl)∧w'.heap[bl]? = w.heap[bl]? ∧ ∀ o,g'.imm bl o→g.imm bl o:=by
    intro bl h
    obtain ⟨h1,h2,h3⟩:=ha.still bl h
    obtain ⟨h4,h5,h6⟩:=hi'.prS bl h1
    exact ⟨h1,h5,h6,h2,h3⟩
  have hS'lt:∀ {j:Nat} {o:Obj},S' j=some o→j < objs.length:=by
    intro j o h
    rw [hS'] at h
    simp only [Option.map_eq_some_iff] at h
    obtain ⟨x,hx,_⟩:=h
    exact (List.getElem?_eq_some_iff.1 hx).1
  have g'bxlt:∀ {j bl:Nat},g'.bx j=some bl→j < objs.length:=by
    intro j bl h
    rcases (hi'.bxS j bl h).2.2.2.2 with ⟨cs,h1⟩ | ⟨x,h1⟩ <;> exact hS'lt h1
  let g2:Sg :=
    { imm:=g'.imm
      bx:=fun id=>match mu id with
        | some j=>g'.bx j
        | none=>g.bx id
      rg:=fun bl=>match g'.rg bl with
        | some (j,st,k)=>some (nu ids b j,st,k)
        | none=>match g.rg bl with
          | some (id,st,k)=>match mu id with
            | some _=>none
            | none=>some (id,st,k)
          | none=>none
      cb:=fun id=>match mu id with
        | some j=>g'.cb j
        | none=>g.cb id
      base:=g.base
      pr:=g.pr }
  have g2bx1:∀ {id j:Nat},mu id=some j→g2.bx id=g'.bx j:=fun h=>by simp only [g2,h]
  have g2bx0:∀ {id:Nat},mu id=none→g2.bx id=g.bx id:=fun h=>by simp only [g2,h]
  have g2cb1:∀ {id j:Nat},mu id=some j→g2.cb id=g'.cb j:=fun h=>by simp only [g2,h]
  have g2cb0:∀ {id:Nat},mu id=none→g2.cb id=g.cb id:=fun h=>by simp only [g2,h]
  have g2rg1:∀ {bl j st k:Nat},g'.rg bl=some (j,st,k)→g2.rg bl=some (nu ids b j,st,k):=fun h=>by simp only [g2,h]
  have g2rg0:∀ {bl id st k:Nat},mu id=none→g.rg bl=some (id,st,k)→g2.rg bl=some (id,st,k):=fun h hr=>by
    simp only [g2,(F4 (F2 h hr)).2.1,hr,h]
  have g2rg:∀ {bl id st k:Nat},g2.rg bl=some (id,st,k)→(∃ j,g'.rg bl=some (j,st,k)∧nu ids b j=id∧mu id=some j) ∨ (mu id=none∧g.rg bl=some (id,st,k)):=by
    intro bl id st k h
    simp only [g2] at h
    split at h
    · rename_i j st' k' hr
      simp at h
      obtain ⟨rfl,rfl,rfl⟩:=h
      obtain ⟨⟨_,_,_,_,_,_,h1⟩,_,_⟩:=hi'.rgS _ _ _ _ hr
      exact .inl ⟨j,hr,rfl,mu_nu (hS'lt h1)⟩
    · split at h <;> try (simp at h; done)
      rename_i id' st' k' hr
      split at h <;> simp at h
      rename_i hmu
      obtain ⟨rfl,rfl,rfl⟩:=h
      exact .inr ⟨hmu,hr⟩
  have hbase:g'.base=g.base:=ha.base
  have hsz:w.heap.size≤w'.heap.size:=ha.below.size
  have e:Ext g T w g2 T' w':=by
    refine ⟨ha.keeps,fun id bl hb=>?_, ?_, ?_,rfl,ha.below,ha.immB,rfl,fun bl hb=>?_⟩
    · cases hmu:mu id with
      | none=>rw [g2bx0 hmu]; exact hb
      | some j =>
        rw [g2bx1 hmu]
        have hT:∃ o,T id=some o:=by
          rcases (hi.bxS id bl hb).2.2.2.2 with ⟨cs,h1⟩ | ⟨x,h1⟩ <;> exact ⟨_,h1⟩
        obtain ⟨o,ho⟩:=hT
        have hj:=mu_old hmu ho
        exact ha.bx j (List.getElem?_eq_some_iff.1 hj).1 bl (by simp only [renG,hj]; exact hb)
    · rintro id ep off len c bl o cap ⟨sz,n,xs,cur,lost,fz,h1,h2⟩
      cases hmu:mu id with
      | none =>
        refine ⟨sz,n,xs,cur,lost,fz,by rw [hold id (mu_none.1 hmu)]; exact h1,fun hl=>?_⟩
        obtain ⟨h3,st,k,h4,h5,h6,h7,h8⟩:=h2 hl
        exact ⟨h3,st,k,g2rg0 hmu h4,h5,h6,fun hc=>by rw [alV (F4 (F2 hmu h4)).2.2.2.1]; exact h7 hc,fun he=>by rw [g2cb0 hmu]; exact h8 he⟩
      | some j =>
        have hj:=mu_old hmu h1
        obtain ⟨hjl,hjn⟩:=mu_some.1 hmu
        obtain ⟨x,k1,k2⟩:=hσ id (List.mem_of_getElem? hj)
        rw [h1] at k2
        cases x <;> simp [XObj.to] at k2
        rename_i sz0 xs0 cur0 lost0 fz0
        obtain ⟨rfl,rfl,rfl,rfl,rfl,rfl⟩:=k2
        obtain ⟨y,y',q1,q2,q3⟩:=hoget j id hj
        rw [k1] at q1
        simp at q1
        subst q1
        simp [mapO] at q2
        subst q2
        have hz:=List.getElem?_eq_getElem hjl
        obtain ⟨sz',xs',c',l',f',hz'⟩:=ami (hkget j _ _ q3 hz) rfl
        rw [hz'] at hz
        obtain ⟨o',r1,r2,r3⟩:=hnew j _ hz
        simp only [mapO,Option.some.injEq] at r2
        subst r2
        rw [hjn] at r3
        have hep:epNew ids σ j=cur + 1:=by
          unfold epNew
          rw [ao9,hj]
          simp only [k1]
        have hlc:=(hi.arr id _ _ _ _ _ _ h1).2.1
        refine ⟨_,_,_,_,_,_,r3,fun hl=>?_⟩
        exfalso
        rw [hep] at hl
        by_cases hl2:lost≤ep
        · have:=(h2 hl2).1; omega
        · omega
    · rintro id ep i off bl o ⟨sz,n,xs,cur,lost,fz,h1,h2⟩
      cases hmu:mu id with
      | none =>
        refine ⟨sz,n,xs,cur,lost,fz,by rw [hold id (mu_none.1 hmu)]; exact h1,fun hl=>?_⟩
        obtain ⟨h3,st,k,h4,h5,h6,h7⟩:=h2 hl
        exact ⟨h3,st,k,g2rg0 hmu h4,h5,h6,fun he=>by rw [g2cb0 hmu]; exact h7 he⟩
      | some j =>
        have hj:=mu_old hmu h1
        obtain ⟨hjl,hjn⟩:=mu_some.1 hmu
        obtain ⟨x,k1,k2⟩:=hσ id (List.mem_of_getElem? hj)
        rw [h1] at k2
        cases x <;> simp [XObj.to] at k2
        rename_i sz0 xs0 cur0 lost0 fz0
        obtain ⟨rfl,rfl,rfl,rfl,rfl,rfl⟩:=k2
        obtain ⟨y,y',q1,q2,q3⟩:=hoget j id hj
        rw [k1] at q1
        simp at q1
        subst q1
        simp [mapO] at q2
        subst q2
        have hz:=List.getElem?_eq_getElem hjl
        obtain ⟨sz',xs',c',l',f',hz'⟩:=ami (hkget j _ _ q3 hz) rfl
        rw [hz'] at hz
        obtain ⟨o',r1,r2,r3⟩:=hnew j _ hz
        simp only [mapO,Option.some.injEq] at r2
        subst r2
        rw [hjn] at r3
        have hep:epNew ids σ j=cur + 1:=by
          unfold epNew
          rw [ao9,hj]
          simp only [k1]
        have hlc:=(hi.arr id _ _ _ _ _ _ h1).2.1
        refine ⟨_,_,_,_,_,_,r3,fun hl=>?_⟩
        exfalso
        rw [hep] at hl
        by_cases hl2:lost≤ep
        · have:=(h2 hl2).1; omega
        · omega
    · obtain ⟨_,_,_,h4,h5⟩:=F4 (F3 hb)
      exact ⟨h4,h5⟩
  have fresh_arr:∀ {j sz:Nat} {xs:List PVal} {cur lost fz:Nat},objs[j]? = some (.arr sz xs cur lost fz)→cur=0∧lost=0:=by
    intro j sz xs cur lost fz hj
    obtain ⟨_,h1,_⟩:=hnew j _ hj
    simp only [fresh0] at h1
    split at h1 <;> simp at h1
    rename_i e1 e2
    exact ⟨Nat.eq_of_beq_eq_true e1,Nat.eq_of_beq_eq_true e2⟩
  have hmaps:Maps (nuOf ids b) (epBack ids σ) g' S' w' g2 T' w':=by
    refine ⟨fun _ _ _ h hc=>⟨h,hc⟩,fun j id bl hj hb=>?_,fun j id ep ep' off len c bl o cap hj he hv=>?_⟩
    · rw [nuOf_eq] at hj
      simp at hj
      subst hj
      rw [g2bx1 (mu_nu (g'bxlt hb))]
      exact hb
    · rw [nuOf_eq] at hj
      simp at hj
      subst hj
      unfold epBack at he
      split at he <;> simp at he
      rename_i he0
      have he0:=Nat.eq_of_beq_eq_true he0
      subst he0 he
      obtain ⟨sz,n,xs,cur,lost,fz,h1,h2⟩:=hv
      have hjl:=hS'lt h1
      rw [hS'] at h1
      simp only [Option.map_eq_some_iff] at h1
      obtain ⟨x,hx,hx2⟩:=h1
      cases x <;> simp [XObj.to] at hx2
      rename_i sz0 xs0 cur0 lost0 fz0
      obtain ⟨rfl,rfl,rfl,rfl,rfl,rfl⟩:=hx2
      obtain ⟨rfl,rfl⟩:=fresh_arr hx
      obtain ⟨o',r1,r2,r3⟩:=hnew j _ hx
      simp only [mapO,Option.some.injEq] at r2
      subst r2
      obtain ⟨h3,st,k,h4,h5,h6,h7,h8⟩:=h2 (Nat.le_refl _)
      exact ⟨_,_,_,_,_,_,r3,fun _=>⟨Nat.le_refl _,st,k,g2rg1 h4,h5,h6,h7,fun _=>by rw [g2cb1 (mu_nu hjl)]; exact h8 rfl⟩⟩
  have hobj:∀ {id:Nat} {x:Obj},T' id=some x→(∃ j o o',mu id=some j∧objs[j]? = some o∧nu ids b j=id∧fresh0 o=true∧mapO (nuOf ids b) (epBack ids σ) (epNew ids σ j) o=some o' ∧ x=o'.to∧S' j=some o.to) ∨
      (mu id=none∧T id=some x):=by
    intro id x hx
    cases hmu:mu id with
    | none =>
      rw [hold id (mu_none.1 hmu)] at hx
      exact .inr ⟨rfl,hx⟩
    | some j =>
      obtain ⟨h1,h2⟩:=mu_some.1 hmu
      have hz:=List.getElem?_eq_getElem h1
      obtain ⟨o',r1,r2,r3⟩:=hnew j _ hz
      rw [h2,hx] at r3
      simp at r3
      exact .inl ⟨j,_,o',rfl,hz,h2,r1,r2,r3,by rw [hS',hz]; rfl⟩
  refine ⟨g2,e,⟨?_, ?_, ?_, ?_, ?_,hi'.immS,Nat.le_trans hi.baseS hsz, ?_, ?_⟩,hmaps⟩
  · intro id cs h
    rcases hobj h with ⟨j,o,o',h1,h2,h3,h4,h5,h6,h7⟩ | ⟨h1,h2⟩
    · cases o with
      | box cs0 =>
        simp only [mapO] at h5
        split at h5 <;> simp at h5
        rename_i cs1 hc1
        subst h5
        simp [XObj.to] at h6
        subst h6
        obtain ⟨bl,c,t,k1,k2,k3,k4⟩:=hi'.box j cs0 h7
        exact ⟨bl,c,t,by rw [g2bx1 h1]; exact k1,k2,acQ hmaps _ _ _ hc1 k3,k4⟩
      | pbox cs0 =>
        simp [mapO] at h5
        subst h5
        simp [XObj.to] at h6
        subst h6
        obtain ⟨bl,c,t,k1,k2,k3,k4⟩:=hi'.box j (cs0.map .p) h7
        exact ⟨bl,c,t,by rw [g2bx1 h1]; exact k1,k2,aaU (g:=g2) (aeG (g:=g') (agh cs0) k3),k4⟩
      | arr sz xs cur lost fz =>
        simp [mapO] at h5
        subst h5
        simp [XObj.to] at h6
      | lp k vals st pend =>
        simp only [mapO] at h5
        split at h5 <;> simp at h5
        subst h5
        simp [XObj.to] at h6
    · obtain ⟨bl,c,t,k1,k2,k3,k4⟩:=hi.box id cs h2
      exact ⟨bl,c,t,by rw [g2bx0 h1]; exact k1,by rw [(F4 (F1 h1 k1)).2.2.2.1]; exact k2,RepAs.ext e _ _ k3,k4⟩
  · intro id sz n xs cur lost fz h
    rcases hobj h with ⟨j,o,o',h1,h2,h3,h4,h5,h6,h7⟩ | ⟨h1,h2⟩
    · cases o with
      | box cs0 =>
        simp only [mapO] at h5
        split at h5 <;> simp at h5
        subst h5
        simp [XObj.to] at h6
      | pbox cs0 =>
        simp [mapO] at h5
        subst h5
        simp [XObj.to] at h6
      | lp k vals st pend =>
        simp only [mapO] at h5
        split at h5 <;> simp at h5
        subst h5
        simp [XObj.to] at h6
      | arr sz0 xs0 cur0 lost0 fz0 =>
        simp [mapO] at h5
        subst h5
        simp [XObj.to] at h6
        obtain ⟨rfl,rfl,rfl,rfl,rfl,rfl⟩:=h6
        obtain ⟨k1,k2,k3,k4⟩:=hi'.arr j _ _ _ _ _ _ h7
        refine ⟨k1,Nat.le_refl _,k3,fun bl st m hb=>?_⟩
        rcases g2rg hb with ⟨j',q1,q2,q3⟩ | ⟨q1,_⟩
        · rw [h1] at q3
          simp at q3
          subst q3
          obtain ⟨k5,c,t,vs,k6,k7,k8,k9,k10,k11⟩:=k4 bl st m q1
          refine ⟨k5,c,t,vs,k6, ?_,k8,k9,k10,k11⟩
          rw [← List.map_take] at k7 ⊢
          exact aaU (g:=g2) (aeG (g:=g') (agh _) k7)
        · rw [h1] at q1; simp at q1
    · obtain ⟨k1,k2,k3,k4⟩:=hi.arr id _ _ _ _ _ _ h2
      refine ⟨k1,k2,k3,fun bl st m hb=>?_⟩
      rcases g2rg hb with ⟨j',q1,q2,q3⟩ | ⟨_,q2⟩
      · rw [h1] at q3; simp at q3
      · obtain ⟨k5,c,t,vs,k6,k7,k8,k9,k10,k11⟩:=k4 bl st m q2
        obtain ⟨_,_,_,f4,f5⟩:=F4 (F2 h1 q2)
        exact ⟨k5,c,t,vs,by rw [f4]; exact k6,RepAs.ext e _ _ k7,k8,k9,fun o ho=>k10 o (f5 o ho),k11⟩
  · intro bl id st m hb
    rcases g2rg hb with ⟨j,q1,q2,q3⟩ | ⟨q1,q2⟩
    · obtain ⟨⟨sz,n,xs,cur,lost,fz,k1⟩,k2,k3⟩:=hi'.rgS bl j st m q1
      have hjl:=hS'lt k1
      rw [hS'] at k1
      simp only [Option.map_eq_some_iff] at k1
      obtain ⟨x,hx,hx2⟩:=k1
      cases x <;> simp [XObj.to] at hx2
      obtain ⟨o',r1,r2,r3⟩:=hnew j _ hx
      simp [mapO] at r2
      subst r2
      rw [q2] at r3
      exact ⟨⟨_,_,_,_,_,_,r3⟩,by show g.base≤bl; omega,k3⟩
    · obtain ⟨⟨sz,n,xs,cur,lost,fz,k1⟩,k2,k3⟩:=hi.rgS bl id st m q2
      exact ⟨⟨sz,n,xs,cur,lost,fz,by rw [hold id (mu_none.1 q1)]; exact k1⟩,k2,by omega⟩
  · intro id bl hb
    cases hmu:mu id with
    | none =>
      rw [g2bx0 hmu] at hb
      obtain ⟨k1,k2,k3,k4,k5⟩:=hi.bxS id bl hb
      obtain ⟨_,f2,_,_,f5⟩:=F4 (F1 hmu hb)
      refine ⟨k1,by omega, ?_,fun o ho=>k4 o (f5 o ho), ?_⟩
      · simp only [g2,f2,k3]
      · rw [hold id (mu_none.1 hmu)]; exact k5
    | some j =>
      rw [g2bx1 hmu] at hb
      obtain ⟨k1,k2,k3,k4,k5⟩:=hi'.bxS j bl hb
      have hn:g2.rg bl=none:=by
        cases hr:g2.rg bl with
        | none=>rfl
        | some q =>
          obtain ⟨id',st,m⟩:=q
          rcases g2rg hr with ⟨j',q1,_⟩ | ⟨q1,q2⟩
          · rw [k3] at q1; simp at q1
          · exact absurd hb ((F4 (F2 q1 q2)).2.2.1 j)
      obtain ⟨hjl,hjn⟩:=mu_some.1 hmu
      have hz:=List.getElem?_eq_getElem hjl
      obtain ⟨o',r1,r2,r3⟩:=hnew j _ hz
      rw [hjn] at r3
      have hz2:S' j=some (objs[j]).to:=by rw [hS',hz]; rfl
      refine ⟨by show g.base≤bl; omega,k2,hn,k4, ?_⟩
      generalize hx:objs[j]=x at *
      cases x with
      | box cs0 =>
        simp only [mapO] at r2
        split at r2 <;> simp at r2
        subst r2
        exact .inl ⟨_,r3⟩
      | pbox cs0 =>
        simp [mapO] at r2
        subst r2
        exact .inl ⟨_,r3⟩
      | lp k vals st pend =>
        simp only [mapO] at r2
        split at r2 <;> simp at r2
        subst r2
        exact .inr ⟨_,r3⟩
      | arr sz0 xs0 ep0 lost0 fz0 =>
        rcases k5 with ⟨cs,k5⟩ | ⟨hh,k5⟩ <;> (rw [hz2] at k5; simp [XObj.to] at k5)
  · intro id id' bl h1 h2
    cases hmu:mu id with
    | none =>
      rw [g2bx0 hmu] at h1
      cases hmu' : mu id' with
      | none =>
        rw [g2bx0 hmu'] at h2
        exact hi.inj _ _ _ h1 h2
      | some j' =>
        rw [g2bx1 hmu'] at h2
        exact absurd h2 ((F4 (F1 hmu h1)).2.2.1 j')
    | some j =>
      rw [g2bx1 hmu] at h1
      cases hmu' : mu id' with
      | none =>
        rw [g2bx0 hmu'] at h2
        exact absurd h1 ((F4 (F1 hmu' h2)).2.2.1 j)
      | some j' =>
        rw [g2bx1 hmu'] at h2
        have:=hi'.inj _ _ _ h1 h2
        subst this
        rw [← (mu_some.1 hmu).2, ← (mu_some.1 hmu').2]
  · intro id hh h
    rcases hobj h with ⟨j,o,o',h1,h2,h3,h4,h5,h6,h7⟩ | ⟨h1,h2⟩
    · cases o with
      | box cs0 =>
        simp only [mapO] at h5
        split at h5 <;> simp at h5
        subst h5
        simp [XObj.to] at h6
      | pbox cs0 =>
        simp [mapO] at h5
        subst h5
        simp [XObj.to] at h6
      | arr sz0 xs0 ep0 lost0 fz0 =>
        simp [mapO] at h5
        subst h5
        simp [XObj.to] at h6
      | lp k vals st pend =>
        simp only [mapO] at h5
        split at h5 <;> simp at h5
        rename_i us hu
        subst h5
        simp [XObj.to] at h6
        subst h6
        obtain ⟨bl,ob,k1,k2,r,rfl,k3,k4,k5,k6,k7,k8,k9⟩:=hi'.ho j _ h7
        exact ⟨bl,_,by rw [g2bx1 h1]; exact k1,k2,r,rfl,k3,k4,k5,k6,k7,k8,tmOf_frm hmaps hu k9⟩
    · obtain ⟨bl,o,k1,k2,k3⟩:=hi.ho id hh h2
      exact ⟨bl,o,by rw [g2bx0 h1]; exact k1,by rw [(F4 (F1 h1 k1)).2.2.2.1]; exact k2,k3.ext e⟩
  · intro bl hb
    obtain ⟨k1,k2,k3⟩:=hi.prS bl hb
    obtain ⟨_,f2,f3,_,_⟩:=F4 (F3 hb)
    refine ⟨by omega,by simp only [g2,f2,k2],fun i h=>?_⟩
    cases hmu:mu i with
    | none=>rw [g2bx0 hmu] at h; exact k3 i h
    | some j=>rw [g2bx1 hmu] at h; exact f3 j h
end
end Go.Proofs.YtdnbnpknpejpdaaGreatDoor.Sw
namespace Go.Proofs.YtdnbnpknpejpdaaGreatDoor.Sw
open Go.RowKit
section
variable [Sites] {α:Type} {r:α} {P:Program} {s:St} {σ:XSt} {b:Nat} {C:CallFn} {cf:Cfg} {rec:Rec1} {tm:Tr AVal} {gl:Tr AVal} {td:Told}
def EvIs (C:CallFn) (imp:Nat→Bool) (P:Program) (tm:Tr AVal) (s:St) (b:Nat) (op:Op) (v:AVal) (σ' : XSt) (rd wr:List Nat):Prop :=
  ∃ e:Eff,evOp C imp P tm s b op=some (.eff e)∧e.v=v∧e.rd=rd∧e.wr.map (·.1)=wr∧SE (s.did e.rd e.wr) σ' (b + 16)
def aix:Op→Bool
  | .panic _=>false
  | .call c=>match c.callee with
    | .builtin _=>true
    | _=>false
  | .defer _=>false
  | _=>true
theorem evOp_plain {imp:Nat→Bool} {op:Op} (h:aix op=true):evOp C imp P tm s b op=(aau P tm s b op).map .eff:=by
  cases op <;> try rfl
  · simp only [evOp]
    simp only [aix] at h
    split at h <;> try (simp at h; done)
    rename_i hc
    simp only [hc]
  all_goals simp [aix] at h
theorem OpIs.ev {imp:Nat→Bool} {op:Op} (hp:aix op=true) {v:AVal} {σ' : XSt} {rd wr:List Nat} (h:OpIs P tm s b op v σ' rd wr):EvIs C imp P tm s b op v σ' rd wr:=by
  obtain ⟨e,h1,h2,h3,h4,h5⟩:=h
  exact ⟨e,by rw [evOp_plain hp,h1]; rfl,h2,h3,h4,h5⟩
theorem EvIs.read {imp:Nat→Bool} {op:Op} (hs:SE s σ b) (hp:aix op=true) {v:AVal} {rd:List Nat} (h:aau P tm s b op=some ⟨v,rd,[]⟩):EvIs C imp P tm s b op v σ rd []:=(OpIs.read hs h).ev hp
theorem EvIs.pure {imp:Nat→Bool} {op:Op} (hs:SE s σ b) (hp:aix op=true) {v:AVal} (h:aau P tm s b op=some (.pure v)):EvIs C imp P tm s b op v σ [] []:=.read hs hp h
theorem seen_lt (hs:SE s σ b):∀ {l:List Nat},seen σ b l=true → ∀ id ∈ l,id≤b
  | [],_,_,hid=>by cases hid
  | i :: l,h,id,hid=>by
    simp only [seen] at h
    split at h <;> try (simp at h; done)
    rename_i hb
    rcases List.mem_cons.1 hid with rfl | hid
    · split at hb
      · rename_i o ho
        exact Nat.le_of_lt (hs.lt ho)
      · exact Nat.le_of_eq (Nat.eq_of_beq_eq_true hb)
    · exact seen_lt hs h id hid
theorem aoW {imp:Nat→Bool} {op:Op} {K:Nx α} (hs:SE s σ b) (hp:aix op=true) (h:plainK P tm σ b op K=some r) :
    ∃ z σ' rd wr,EvIs C imp P tm s b op z σ' rd wr∧K z σ' rd wr=some r:=by
  unfold plainK at h
  split at h <;> try (simp at h; done)
  rename_i e he
  split at h <;> try (simp at h; done)
  rename_i σ' h1 h0 h2
  refine ⟨_,_,_,_,⟨e,by rw [evOp_plain hp,agx he (fun i hi=>(seen_same hs h1 i hi))]; rfl,rfl,rfl,rfl, ?_⟩,h⟩
  refine sets_ok hs h2 (aaB _ _ _) (by omega) fun q hq=>?_
  have:=seen_lt hs h0 q.1 (List.mem_map_of_mem hq)
  omega
theorem buildSliceK_ok {imp:Nat→Bool} {shs:Nat→Sh} {t len:Nat} {ops:Array (Nat × Operand)} {parts:List (Nat × AVal)} {K:Nx α} (hs:SE s σ b) (hp:aaL tm ops.toList=some parts) (h:aiX P shs tm σ b t len ops parts K=some r) :
    (∃ z,aau P tm s b (.buildSlice t len ops)=some (.pure z)∧K z σ [] []=some r) ∨ (∃ z σ' rd wr,EvIs C imp P tm s b (.buildSlice t len ops) z σ' rd wr∧K z σ' rd wr=some r):=by
  unfold aiX at h
  split at h <;> try (simp at h; done)
  rename_i e he
  split at h <;> try (simp at h; done)
  rename_i n g hn hg
  split at h <;> try (simp at h; done)
  rename_i h1 h2 h3
  obtain ⟨vs,h4,h⟩:=elemsK_ok _ _ h
  split at h
  · rename_i ps hps
    exact .inl ⟨_,by simp only [aau,hp,abP,he,hn,hg,h1,h2,h3,h4,hps],h⟩
  · exact .inr (aoW hs rfl h)
theorem assertK_ok {v:AVal} {a:Nat} {ok:Bool} {K:AVal→Option α} (h:assertK P v a ok K=some r):∃ z,aew P v a ok=some z∧K z=some r:=by
  unfold assertK at h
  split at h
  · split at h <;> try (simp at h; done)
    rename_i d z hi hd hz
    obtain ⟨t,y,rfl,h⟩:=ifK_some h
    have hne:∀ l,d ≠ .interface l:=fun l e=>by
      subst e
      unfold ifaceT at hi
      rw [hd] at hi
      simp at hi
    have hfit:fitsT P a t=some (Nat.beq t a):=by
      unfold fitsT
      rw [hd]
      cases d <;> first | rfl | exact absurd rfl (hne _)
    rcases ace h with ⟨hb,h⟩ | ⟨hb,h⟩
    · cases ok with
      | true=>exact ⟨_,by simp only [aew,ifOf,fitsD,hfit,hb,hi]; rfl,h⟩
      | false=>exact ⟨_,by simp only [aew,ifOf,fitsD,hfit,hb,hi],h⟩
    · cases ok with
      | true=>exact ⟨_,by simp only [aew,ifOf,fitsD,hfit,hb,hz],h⟩
      | false=>simp at h
  · split at h <;> try (simp at h; done)
    rename_i z hz
    exact ⟨z,hz,h⟩
def CameS (g:Sg) (m:Nat) (w:World) (objs:List XObj) (v:AVal) (e:Ending) (w' : World):Prop:=match e with
  | .returned u=>∃ g',After g m w g' w' ∧ Inv g' (XC.st ⟨[],objs⟩).to.get w' ∧ RepA g' (XC.st ⟨[],objs⟩).to.get w' v u
  | _=>False
def RoundOk (P:Program) (g:Sg) (w:World) (id:Nat) (us:List Value) (Q:Ending→World→Prop):Prop :=
  ∃ (l:Nat) (rec:Loop),g.bx id=some l∧w.heap[l]? = some (.loop rec)∧us.length=rec.params.size ∧
    RoundIn Fence.wide 0 P l rec.fn ((rec.params.zip us.toArray).foldl (fun tmps (t,a)=>tmps.setIfInBounds t a) rec.tmps) rec.assign rec.body w Q
def KnownT (P:Program) (gl:Tr AVal) (t:XT) (c:XC) (res:XRes):Prop :=
  ∀ (g:Sg) (w:World) (us:List Value),Inv g c.st.to.get w→Glob gl g.imm w→RepAs g c.st.to.get w c.vals us→match t with
    | .fn f=>afZ P f∧CallsIn Fence.wide 0 P f us.toArray w (CameS g c.objs.length w res.objs res.v)
    | .yld=>∀ id args,c.vals = .rf .yld id :: args→RoundOk P g w id us.tail (CameS g c.objs.length w res.objs res.v)
def ToldOk (P:Program) (gl:Tr AVal) (td:Told):Prop:=∀ (α:Type) (t:XT) (c:XC) (K:XRes→Option α) (r:α),td α t c K=some r → ∃ res,KnownT P gl t c res∧K res=some r
theorem SE.puts:∀ {ps:List (Nat × XObj)} {s s' : St} {σ:XSt} {b b' : Nat},SE s σ b→s'.get=upds s.get (ps.map fun q=>(q.1,q.2.to))→b≤b' → (∀ q ∈ ps,q.1 < b')→SE s' (σ.puts ps) b'
  | [],s,s', σ,b,b',h,hs,hb,_=>h.same hs hb
  | (id,o) :: ps,s,s', σ,b,b',h,hs,hb,hl=>by
    have h1:SE (s.did [] [(id,o.to)]) (σ.set id o) b':=h.set (aaB _ _ _) hb (hl (id,o) (by simp))
    exact SE.puts (ps:=ps) (s:=s.did [] [(id,o.to)]) h1 (by rw [hs,aaB]; rfl) (Nat.le_refl _) (fun q hq=>hl q (by simp [hq]))
structure Inst where
  t:Tgt
  args:List AVal
  nx:Nat
  rd:List Nat
  snap:Nat→Option Obj
  v:AVal
  wr:List (Nat × Obj)
def Inst.fits (i:Inst) (t:Tgt) (args:List AVal) (T:St):Prop:=t=i.t∧args=i.args∧T.next=i.nx ∧ ∀ id ∈ i.rd,T.get id=i.snap id
def Inst.st (i:Inst) (T:St):St:={ T.did i.rd i.wr with next:=T.next + 1 }
theorem Inst.st_get (i:Inst) (T:St):(i.st T).get=upds T.get i.wr:=aaB T i.rd i.wr
structure InstOk (P:Program) (gl:Tr AVal) (i:Inst):Prop where
  fn:∀ f,i.t = .fn f → ∀ (T:St) (g:Sg) (w:World) (us:List Value),(∀ id ∈ i.rd,T.get id=i.snap id)→Inv g T.get w→Glob gl g.imm w→RepAs g T.get w i.args us →
    afZ P f∧CallsIn Fence.wide 0 P f us.toArray w (Came g T.get w (.ret i.v (i.st T)))
  yld:∀ id,i.t = .yld id → ∀ (T:St) (g:Sg) (w:World) (us:List Value),(∀ id ∈ i.rd,T.get id=i.snap id)→Inv g T.get w→Glob gl g.imm w→RepAs g T.get w i.args us →
    RoundOk P g w id us (Came g T.get w (.ret i.v (i.st T)))
  iso:∀ f,i.t ≠ .iso f
def tgtOf:XT→List AVal→Option (Tgt × List AVal)
  | .fn f,roots=>some (.fn f,roots)
  | .yld, .rf .yld id :: args=>some (.yld id,args)
  | .yld,_=>none
theorem aid (hT:ToldOk P gl td) (hs:SE s σ b) {t:XT} {roots:List AVal} {ids:List Nat} {K:Nx α} {tt:Tgt × List AVal} (htt:tgtOf t roots=some tt) (hlp:∀ id,tt.1 = .yld id → ∃ k vals st pend, σ.get id=some (.lp k vals st pend)) (h:sharedAt td σ b t roots ids K=some r) :
    ∃ i σ',InstOk P gl i∧i.fits tt.1 tt.2 s∧i.wr.map (·.1)=i.rd∧SE (i.st s) σ' (b + 16)∧K i.v σ' i.rd i.rd=some r∧(∀ id ∈ i.rd, σ.get id ≠ none ∨ b≤id):=by
  unfold sharedAt aiV at h
  split at h <;> try (simp at h; done)
  rename_i hdis _
  split at h <;> try (simp at h; done)
  rename_i vs os hvs hos
  obtain ⟨res,hk,h⟩:=hT _ _ _ _ _ h
  split at h <;> try (simp at h; done)
  rename_i v ps hv hps hkind hlen
  have hlen:=Nat.le_of_ble_eq_true hlen
  obtain ⟨hol,hoget⟩:=agm hos
  obtain ⟨hpl,hpget⟩:=alY hps
  obtain ⟨hkl,_⟩:=afe hkind
  have hkl:os.length≤res.objs.length:=hkl
  have hin:∀ id ∈ ids, ∃ o, σ.get id=some o:=fun id hid=>by
    obtain ⟨j,hj⟩:=List.mem_iff_getElem?.1 hid
    obtain ⟨o,_,h1,_⟩:=hoget j id hj
    exact ⟨o,h1⟩
  have hlt:∀ id ∈ ids,id < b:=fun id hid=>let ⟨o,ho⟩:=hin id hid; hs.lt ho
  have hpsn:∀ j,j < res.objs.length→nu ids b j ∈ ps.map (·.1):=fun j hj=>by
    obtain ⟨o',_,_,h3⟩:=hpget j _ (List.getElem?_eq_getElem hj)
    rw [Nat.zero_add] at h3
    exact List.mem_map.2 ⟨_,List.mem_of_getElem? h3,rfl⟩
  have hwr:(ps.map fun q=>(q.1,q.2.to)).map (·.1)=ps.map (·.1):=by simp [List.map_map,Function.comp_def]
  have hnames:∀ q ∈ ps,q.1 < b + 16:=fun q hq=>by
    obtain ⟨j,hj⟩:=List.mem_iff_getElem?.1 hq
    have hjl:j < res.objs.length:=by rw [← hpl]; exact (List.getElem?_eq_some_iff.1 hj).1
    obtain ⟨o',_,_,h3⟩:=hpget j _ (List.getElem?_eq_getElem hjl)
    rw [hj,Nat.zero_add] at h3
    simp at h3
    subst h3
    show nu ids b j < b + 16
    by_cases hji:j < ids.length
    · rw [nu_lt (List.getElem?_eq_getElem hji)]
      have:=hlt _ (List.getElem_mem hji)
      omega
    · rw [nu_ge (by omega)]; omega
  have hold:∀ id ∈ ps.map (·.1), σ.get id ≠ none ∨ b≤id:=fun id hid=>by
    obtain ⟨q,hq,rfl⟩:=List.mem_map.1 hid
    obtain ⟨j,hj⟩:=List.mem_iff_getElem?.1 hq
    have hjl:j < res.objs.length:=by rw [← hpl]; exact (List.getElem?_eq_some_iff.1 hj).1
    obtain ⟨o',_,_,h3⟩:=hpget j _ (List.getElem?_eq_getElem hjl)
    rw [hj,Nat.zero_add] at h3
    simp at h3
    subst h3
    show σ.get (nu ids b j) ≠ none ∨ b≤nu ids b j
    by_cases hji:j < ids.length
    · rw [nu_lt (List.getElem?_eq_getElem hji)]
      obtain ⟨o,ho⟩:=hin _ (List.getElem_mem hji)
      exact .inl (by rw [ho]; simp)
    · rw [nu_ge (by omega)]; exact .inr (by omega)
  let i:Inst:=⟨tt.1,tt.2,s.next,ps.map (·.1),s.get,v,ps.map fun q=>(q.1,q.2.to)⟩
  have key:∀ (T:St) (g:Sg) (w:World) (us:List Value),(∀ id ∈ ps.map (·.1),T.get id=s.get id)→Inv g T.get w→RepAs g T.get w roots us →
      Inv (renG ids g (unseen ids g w)) (XC.st ⟨vs,os⟩).to.get w∧RepAs (renG ids g (unseen ids g w)) (XC.st ⟨vs,os⟩).to.get w vs us ∧
      ∀ e w',CameS (renG ids g (unseen ids g w)) os.length w res.objs res.v e w' → Came g T.get w (.ret v (i.st T)) e w':=by
    intro T g w us hTs hi hr
    have hσ:∀ id ∈ ids, ∃ o, σ.get id=some o∧T.get id=some o.to:=fun id hid=>by
      obtain ⟨o,ho⟩:=hin id hid
      obtain ⟨j,hj⟩:=List.mem_iff_getElem?.1 hid
      have hjl:=(List.getElem?_eq_some_iff.1 hj).1
      have:=hpsn j (by omega)
      rw [nu_lt hj] at this
      exact ⟨o,ho,by rw [hTs id this]; exact hs.get _ _ ho⟩
    have hst:∀ j,(XC.st ⟨vs,os⟩).to.get j=(os[j]?).map XObj.to:=fun j=>by rw [XSt.to_get,XC.st_get]
    have hok:RenOk ids σ T.get (XC.st ⟨vs,os⟩).to.get:=by
      refine ⟨hdis,fun j id hj=>?_,fun j hj=>?_⟩
      · obtain ⟨o,o',k1,k2,k3⟩:=hoget j id hj
        obtain ⟨o2,q1,q2⟩:=hσ id (List.mem_of_getElem? hj)
        rw [k1] at q1
        simp at q1
        subst q1
        exact ⟨o,o',k1,q2,k2,by rw [hst,k3]; rfl⟩
      · rw [hst]
        have:os[j]? = none:=by
          rw [List.getElem?_eq_none_iff] at hj ⊢
          omega
        rw [this]; rfl
    have hiC:=hi.ren hok (unseen_ok (g:=g) (w:=w) hdis)
    refine ⟨hiC,acQ (hok.maps hi) _ _ _ hvs hr,fun e w' hc=>?_⟩
    cases e with
    | panicked _=>exact hc.elim
    | outgrown=>exact hc.elim
    | returned u =>
      obtain ⟨g',h1,h2,h3⟩:=hc
      have hS' : ∀ j,(XC.st ⟨[],res.objs⟩).to.get j=(res.objs[j]?).map XObj.to:=fun j=>by rw [XSt.to_get,XC.st_get]
      obtain ⟨g2,e1,e2,e3⟩:=back_came (T':=(i.st T).get) hi hdis hσ hos hps hkind hlt (fun j hj1 hj2=>by
          rw [hTs _ (hpsn j hj2),nu_ge hj1]
          exact hs.free _ (by omega)) (i.st_get T) hS' h2 (by rw [hol] at h1; exact h1)
      exact ⟨g2,e1,e2,aj1 e3 _ _ _ hv h3⟩
  refine ⟨i, σ.puts ps,⟨fun f hf T g w us hTs hi hG hr=>?_,fun id hid T g w us hTs hi hG hr=>?_,fun f hf=>?_⟩,⟨rfl,rfl,rfl,fun _ _=>rfl⟩,hwr, ?_,h,hold⟩
  · have hf:tt.1 = .fn f:=hf
    have hr:RepAs g T.get w tt.2 us:=hr
    cases t with
    | yld =>
      unfold tgtOf at htt
      split at htt <;> simp at htt
      · rename_i ht; cases ht
      · rw [← htt] at hf; simp at hf
    | fn f' =>
      simp [tgtOf] at htt
      subst htt
      simp at hf
      subst hf
      obtain ⟨k1,k2,k3⟩:=key T g w us hTs hi hr
      obtain ⟨k4,k5⟩:=hk _ _ _ k1 hG k2
      exact ⟨k4,CallsIn.mono k5 k3⟩
  · have hid:tt.1 = .yld id:=hid
    have hr:RepAs g T.get w tt.2 us:=hr
    cases t with
    | fn f' =>
      simp [tgtOf] at htt
      subst htt
      simp at hid
    | yld =>
      unfold tgtOf at htt
      split at htt <;> simp at htt
      · rename_i ht; cases ht
      · rename_i id' args _
        subst htt
        simp at hid
        subst hid
        have hvs':=hvs
        unfold renAs at hvs'
        simp only [mapAs,mapA] at hvs'
        split at hvs' <;> try (simp at hvs'; done)
        rename_i u0 us0 hu0 hus0
        split at hu0 <;> simp at hu0
        rename_i j hj
        simp at hvs'
        subst hvs' hu0
        have hmem:=List.mem_of_getElem? (adQ hj)
        obtain ⟨k,vals,st,pend,hlp⟩:=hlp _ rfl
        have hj':=adQ hj
        have hjl:=(List.getElem?_eq_some_iff.1 hj').1
        have hnm:=hpsn j (by omega)
        rw [nu_lt hj'] at hnm
        have hTid:T.get id' = some (XObj.lp k vals st pend).to:=by rw [hTs id' hnm]; exact hs.get _ _ hlp
        obtain ⟨bl,o,k1,k2,_⟩:=hi.ho id' _ hTid
        obtain ⟨q1,q2,q3⟩:=key T g w (refVal .yld bl :: us) hTs hi ⟨_,_,rfl,⟨bl,k1,rfl⟩,hr⟩
        obtain ⟨l,rec,p1,p2,p3,p4⟩:=hk _ _ _ q1 hG q2 j us0 rfl
        refine ⟨l,rec, ?_,p2,p3,RoundIn.mono p4 q3⟩
        simp only [renG,hj'] at p1
        exact p1
  · cases t with
    | fn f' =>
      simp [tgtOf] at htt
      subst htt
      cases hf
    | yld =>
      unfold tgtOf at htt
      split at htt <;> simp at htt
      · rename_i ht; cases ht
      · subst htt; cases hf
  · exact SE.puts hs (i.st_get s) (by omega) hnames
def ShIs (P:Program) (gl:Tr AVal) (imp:Nat→Bool) (tm:Tr AVal) (s:St) (b:Nat) (op:Op) (v:AVal) (σ' : XSt) (rd wr:List Nat) (i:Inst):Prop :=
  InstOk P gl i∧i.nx=s.next∧(∀ C:CallFn,(∀ t args T,i.fits t args T→C t args T=some (.ret i.v (i.st T)))→evOp C imp P tm s b op=some (.all v (i.st { s with log:=.e }))) ∧
    i.rd=rd∧i.wr.map (·.1)=wr∧SE (i.st s) σ' (b + 16)
def XIsOp (P:Program) (gl:Tr AVal) (C:CallFn) (imp:Nat→Bool) (tm:Tr AVal) (s:St) (b:Nat) (op:Op) (v:AVal) (σ' : XSt) (rd wr:List Nat):Prop :=
  EvIs C imp P tm s b op v σ' rd wr ∨ ∃ i,ShIs P gl imp tm s b op v σ' rd wr i
theorem anm (hC:RecOk C rec) (hT:ToldOk P gl td) (hs:SE s σ b) {site f:Nat} {args:List AVal} {tail:List PVal} {K:Nx α} (h:callF cf td rec σ b site f args tail K=some r) :
    ∃ z σ' rd wr,(CallIs C cf.imp s b f (args ++ tail.map .p) z σ' rd wr ∨ ∃ i:Inst,InstOk P gl i∧i.nx=s.next ∧
      (∀ C:CallFn,(∀ t args T,i.fits t args T→C t args T=some (.ret i.v (i.st T)))→callAt C cf.imp s b f (args ++ tail.map .p)=some (.all z (i.st { s with log:=.e }))) ∧
      i.rd=rd∧i.wr.map (·.1)=wr∧SE (i.st s) σ' (b + 16))∧K z σ' rd wr=some r:=by
  unfold callF at h
  split at h
  · rename_i hsh
    obtain ⟨i, σ',h1,h2,h3,h4,h5,_⟩:=aid hT hs (tt:=(.fn f,args ++ tail.map .p)) rfl (fun id hid=>by simp at hid) h
    refine ⟨i.v, σ',i.rd,i.rd, .inr ⟨i,h1,h2.2.2.1.symm,fun C hk=>?_,rfl,h3,h4⟩,h5⟩
    have hfit:i.fits (.fn f) (args ++ tail.map .p) { s with log:=.e }:=⟨h2.1,h2.2.1,h2.2.2.1,h2.2.2.2⟩
    have hno:cf.imp f=true ∨ (cf.imp f=false∧pureAs (pureA (lends cf.imp f) depth) (args ++ tail.map .p)=false):=by
      unfold shares at hsh
      split at hsh
      · rename_i e; exact .inl e
      · rename_i e
        split at hsh <;> simp at hsh
        rename_i e2
        exact .inr ⟨e,e2⟩
    rcases hno with e | ⟨e,e2⟩
    · simp only [callAt,e,hk _ _ _ hfit]
    · simp only [callAt,e,e2,hk _ _ _ hfit]
  · obtain ⟨z, σ',rd,wr,h1,h2⟩:=isoK_ok hC hs h
    exact ⟨z, σ',rd,wr, .inl h1,h2⟩
theorem xop_ok (hC:RecOk C rec) (hT:ToldOk P gl td) (hs:SE s σ b) {site:Nat} {op:Op} {K:Nx α} (h:xop P cf td rec tm σ b site op K=some r) :
    ∃ z σ' rd wr,XIsOp P gl C cf.imp tm s b op z σ' rd wr∧K z σ' rd wr=some r:=by
  unfold xop at h
  split at h
  · obtain ⟨c,hc,h⟩:=aaA h
    obtain ⟨x,hx,h⟩:=aaA h
    obtain ⟨y,hy,h⟩:=aaA h
    obtain ⟨z,h1,h⟩:=pickK_ok (P:=P) (s:=s) (b:=b) hc hx hy h
    exact ⟨_,_,_,_, .inl <| .pure hs rfl h1,h⟩
  · obtain ⟨x,hx,h⟩:=aaA h
    obtain ⟨y,hy,h⟩:=aaA h
    obtain ⟨z,h1,h⟩:=binK_ok h
    exact ⟨_,_,_,_, .inl <| .pure hs rfl (by simp only [aau,hx,hy,h1,someP]),h⟩
  · obtain ⟨x,hx,h⟩:=aaA h
    obtain ⟨g,n,hg,hn,h⟩:=acY h
    obtain ⟨cs,o,h1,h2,h3,h⟩:=objK_ok h
    obtain ⟨h4,h⟩:=adU h
    exact ⟨_,_,_,_, .inl <| (OpIs.set hs (Nat.le_refl _) (by simp only [aau,hx,boxOp,hg,hn,h1,hs.at,h2])).ev rfl,h⟩
  · split at h <;> try (simp at h; done)
    rename_i z hz
    obtain ⟨g,n,hg,hn,h⟩:=acY h
    obtain ⟨cs,o,h1,h2,h3,h⟩:=objK_ok h
    obtain ⟨h4,h⟩:=adU h
    exact ⟨_,_,_,_, .inl <| (OpIs.set hs (Nat.le_refl _) (by simp only [aau,aiZ,hz,hg,hn,h1,hs.at,h2])).ev rfl,h⟩
  · obtain ⟨x,hx,h⟩:=aaA h
    obtain ⟨z,rd,h1,h⟩:=loadK_ok hs h
    exact ⟨_,_,_,_, .inl <| .read hs rfl (by simp only [aau,hx,h1]),h⟩
  · obtain ⟨x,hx,h⟩:=aaA h
    obtain ⟨y,hy,h⟩:=aaA h
    obtain ⟨z, σ',rd,wr,h1,h⟩:=storeK_ok hs hx hy h
    exact ⟨_,_,_,_, .inl (h1.ev rfl),h⟩
  · obtain ⟨x,hx,h⟩:=aaA h
    obtain ⟨z,h1,h⟩:=fieldAddrK_ok h
    exact ⟨_,_,_,_, .inl <| .pure hs rfl (by simp only [aau,hx,h1,someP]),h⟩
  · obtain ⟨x,hx,h⟩:=aaA h
    obtain ⟨z,h1,h⟩:=fieldK_ok h
    exact ⟨_,_,_,_, .inl <| .pure hs rfl (by simp only [aau,hx,h1,someP]),h⟩
  · obtain ⟨x,hx,h⟩:=aaA h
    obtain ⟨y,hy,h⟩:=aaA h
    obtain ⟨z,rd,h1,h⟩:=indexAddrK_ok hs h
    exact ⟨_,_,_,_, .inl <| .read hs rfl (by simp only [aau,hx,hy,h1]),h⟩
  · obtain ⟨x,hx,h⟩:=aaA h
    obtain ⟨y,hy,h⟩:=aaA h
    obtain ⟨z,h1,h⟩:=indexK_ok h
    exact ⟨_,_,_,_, .inl <| .pure hs rfl (by simp only [aau,hx,hy,h1,someP]),h⟩
  · split at h <;> try (simp at h; done)
    rename_i ps hps
    obtain ⟨z,h1,h⟩:=buildK_ok h
    exact ⟨_,_,_,_, .inl <| .pure hs rfl (by simp only [aau,hps,h1,someP]),h⟩
  · split at h <;> try (simp at h; done)
    rename_i ps hps
    rcases buildSliceK_ok (C:=C) (imp:=cf.imp) hs hps h with ⟨z,h1,h⟩ | ⟨z, σ',rd,wr,h1,h⟩
    · exact ⟨_,_,_,_, .inl <| .pure hs rfl h1,h⟩
    · exact ⟨z, σ',rd,wr, .inl h1,h⟩
  · obtain ⟨x,hx,h⟩:=aaA h
    split at h <;> try (simp at h; done)
    rename_i lo hi mx k1 k2 k3
    obtain ⟨z,rd,h1,h⟩:=sliceK_ok hs h
    exact ⟨_,_,_,_, .inl <| .read hs rfl (by simp only [aau,hx,k1,k2,k3,h1]),h⟩
  · split at h <;> try (simp at h; done)
    rename_i ha ht
    obtain ⟨x,hx,h⟩:=aaA h
    obtain ⟨z,h1,h⟩:=lenK_ok h
    exact ⟨_,_,_,_, .inl <| .pure hs rfl (by simp only [aau,ha,ht,hx,h1,someP]),h⟩
  · split at h <;> try (simp at h; done)
    rename_i ha ht
    split at h <;> try (simp at h; done)
    rename_i hni
    obtain ⟨x,hx,h⟩:=aaA h
    obtain ⟨y,hy,h⟩:=aaA h
    obtain ⟨z, σ',rd,wr,h1,h⟩:=appendK_ok hs (ty:=0) ha ht hx hy hni h
    exact ⟨_,_,_,_, .inl (h1.ev rfl),h⟩
  · obtain ⟨z, σ',rd,wr,h1,h2⟩:=aoW (C:=C) (imp:=cf.imp) hs rfl h
    exact ⟨z, σ',rd,wr, .inl h1,h2⟩
  · rename_i c hn1 hn2 hn3
    unfold callK at h
    split at h <;> try (simp at h; done)
    · rename_i f hc
      split at h <;> try (simp at h; done)
      rename_i args ha
      have hf:operand tm (.func f)=some (.p (.fn (.func f) [])):=rfl
      obtain ⟨z, σ',rd,wr,h0,h⟩:=anm hC hT hs h
      rcases h0 with ⟨e,h1,h2,h3,h4,h5⟩ | ⟨i,h1,h2,h3,h4,h5,h6⟩
      · refine ⟨_,_,_,_, .inl ⟨e, ?_,h2,h3,h4,h5⟩,h⟩
        simp only [evOp,hc,callOp,hf,ha,fnOf]
        exact h1
      · refine ⟨_,_,_,_, .inr ⟨i,h1,h2,fun C hk=>?_,h4,h5,h6⟩,h⟩
        have h3:=h3 C hk
        simp only [evOp,hc,callOp,hf,ha,fnOf]
        exact h3
    · rename_i o hno hc
      obtain ⟨fv,hf,h⟩:=aaA h
      split at h <;> try (simp at h; done)
      rename_i args ha
      split at h <;> try (simp at h; done)
      · obtain ⟨f,cap,rfl,h⟩:=fnK_some h
        obtain ⟨z, σ',rd,wr,⟨e,h1,h2,h3,h4,h5⟩,h⟩:=isoK_ok hC hs h
        refine ⟨_,_,_,_, .inl ⟨e, ?_,h2,h3,h4,h5⟩,h⟩
        simp only [evOp,hc,callOp,hf,ha,fnOf]
        exact h1
      · obtain ⟨z, σ',rd,wr,h0,h⟩:=anm hC hT hs h
        rcases h0 with ⟨e,h1,h2,h3,h4,h5⟩ | ⟨i,h1,h2,h3,h4,h5,h6⟩
        · refine ⟨_,_,_,_, .inl ⟨e, ?_,h2,h3,h4,h5⟩,h⟩
          simp only [evOp,hc,callOp,hf,ha,fnOf]
          simpa using h1
        · refine ⟨_,_,_,_, .inr ⟨i,h1,h2,fun C hk=>?_,h4,h5,h6⟩,h⟩
          have h3:=h3 C hk
          simp only [evOp,hc,callOp,hf,ha,fnOf]
          simpa using h3
      · obtain ⟨z, σ',rd,wr,h0,h⟩:=anm hC hT hs h
        rcases h0 with ⟨e,h1,h2,h3,h4,h5⟩ | ⟨i,h1,h2,h3,h4,h5,h6⟩
        · refine ⟨_,_,_,_, .inl ⟨e, ?_,h2,h3,h4,h5⟩,h⟩
          simp only [evOp,hc,callOp,hf,ha,fnOf]
          simpa using h1
        · refine ⟨_,_,_,_, .inr ⟨i,h1,h2,fun C hk=>?_,h4,h5,h6⟩,h⟩
          have h3:=h3 C hk
          simp only [evOp,hc,callOp,hf,ha,fnOf]
          simpa using h3
      · rename_i id
        split at h <;> try (simp at h; done)
        rename_i hlp
        obtain ⟨i, σ',h1,h2,h3,h4,h5,_⟩:=aid hT hs (tt:=(.yld id,args)) rfl (fun id' hid=>by simp at hid; subst hid; exact ⟨_,_,_,_,hlp⟩) h
        refine ⟨i.v, σ',i.rd,i.rd, .inr ⟨i,h1,h2.2.2.1.symm,fun C hk=>?_,rfl,h3,h4⟩,h5⟩
        have hfit:i.fits (.yld id) args { s with log:=.e }:=⟨h2.1,h2.2.1,h2.2.2.1,h2.2.2.2⟩
        simp only [evOp,hc,callOp,hf,ha,fnOf,hk _ _ _ hfit]
    · rename_i o name hc
      obtain ⟨x,hf,h⟩:=aaA h
      split at h <;> try (simp at h; done)
      rename_i args ha
      split at h <;> try (simp at h; done)
      · obtain ⟨t,v,rfl,h⟩:=ifK_some h
        obtain ⟨f,hm,h⟩:=adV h
        obtain ⟨z, σ',rd,wr,⟨e,h1,h2,h3,h4,h5⟩,h⟩:=isoK_ok hC hs h
        refine ⟨_,_,_,_, .inl ⟨e, ?_,h2,h3,h4,h5⟩,h⟩
        simp only [evOp,hc,callOp,hf,ha,ifOf,hm]
        simpa using h1
      · obtain ⟨f,hm,h⟩:=adV h
        obtain ⟨z, σ',rd,wr,h0,h⟩:=anm hC hT hs h
        rcases h0 with ⟨e,h1,h2,h3,h4,h5⟩ | ⟨i,h1,h2,h3,h4,h5,h6⟩
        · refine ⟨_,_,_,_, .inl ⟨e, ?_,h2,h3,h4,h5⟩,h⟩
          simp only [evOp,hc,callOp,hf,ha,ifOf,hm]
          simpa using h1
        · refine ⟨_,_,_,_, .inr ⟨i,h1,h2,fun C hk=>?_,h4,h5,h6⟩,h⟩
          have h3:=h3 C hk
          simp only [evOp,hc,callOp,hf,ha,ifOf,hm]
          simpa using h3
  · simp at h
  · simp at h
  · obtain ⟨x,hx,h⟩:=aaA h
    obtain ⟨z,h1,h⟩:=assertK_ok h
    exact ⟨_,_,_,_, .inl <| .pure hs rfl (by simp only [aau,hx,h1,someP]),h⟩
  · rename_i hp1 hp2 hp3 hp4 hp5 hp6 hp7 hp8 hp9 hp10 hp11 hp12 hp13 hp14 hp15 hp16
    obtain ⟨z, σ',rd,wr,h1,h2⟩:=aoW (C:=C) (imp:=cf.imp) hs (by cases op <;> first | rfl | simp_all) h
    exact ⟨z, σ',rd,wr, .inl h1,h2⟩
end
end Go.Proofs.YtdnbnpknpejpdaaGreatDoor.Sw
namespace Go.Proofs.YtdnbnpknpejpdaaGreatDoor.Sw
open Go.RowKit
section
variable [Sites] {α:Type} {r:α} {P:Program} {C:CallFn} {cf:Cfg} {rec:Rec1} {n:Nat} {ops:Array Oper} {gl:Tr AVal} {td:Told}
def TmEq (tm tm' : Tr AVal):Prop:=∀ t,tm'.get t=tm.get t
theorem TmEq.operand {tm tm' : Tr AVal} (h:TmEq tm tm') (o:Operand):operand tm' o=operand tm o:=by
  cases o <;> simp only [Go.Proofs.YtdnbnpknpejpdaaGreatDoor.Sw.operand,h _]
theorem TmEq.wanted {tm tm' : Tr AVal} (h:TmEq tm tm') (o:Oper):abt ops tm' o=abt ops tm o:=by
  simp only [abt,h.operand]
theorem TmEq.dst {tm tm' tm1:Tr AVal} (h:TmEq tm tm') {d:Option Nat} {v:AVal} (hd:setDst n tm d v=some tm1):∃ tm1',setDst n tm' d v=some tm1' ∧ TmEq tm1 tm1':=by
  cases d with
  | none =>
    simp [setDst] at hd
    subst hd
    exact ⟨tm',rfl,h⟩
  | some d =>
    simp only [setDst] at hd ⊢
    split at hd <;> simp at hd
    subst hd
    exact ⟨_,rfl,fun t=>by simp only [Tr.aa0,h t]⟩
theorem TmEq.again {tm tm' : Tr AVal} (h:TmEq tm tm') {d:Nat} {v:AVal} (hv:tm.get d=some v):TmEq (tm.set d v) tm':=fun t=>by
  rw [Tr.aa0,h t]
  split
  · rename_i e; rw [← e,hv]
  · rfl
theorem tmp_get {tm:Tr AVal} {d:Nat} {v:AVal} (h:operand tm (.tmp d)=some v):tm.get d=some v:=by
  simp only [operand] at h
  split at h <;> first | exact h | simp at h
theorem wantK_some {tm tm' : Tr AVal} {o:Oper} {K:Bool→Tr AVal→Option α} (he:TmEq tm tm') (h:wantK ops tm o K=some r) :
    ∃ w tm1,TmEq tm1 tm' ∧ abt ops tm' o=some w∧K w tm1=some r:=by
  unfold wantK at h
  split at h
  · rename_i hg
    exact ⟨true,tm,he,by simp only [abt,hg],h⟩
  · rename_i j want hg
    split at h <;> try (simp at h; done)
    rename_i oj hj
    split at h <;> try (simp at h; done)
    rename_i d hd
    rw [he.wanted]
    split at h <;> try (simp at h; done)
    · rename_i b hb
      rcases ace h with ⟨rfl,h⟩ | ⟨rfl,h⟩
      · exact ⟨_,_,he.again (tmp_get hb),by simp only [abt,hg,hj,hd,hb]; cases want <;> rfl,h⟩
      · exact ⟨_,_,he.again (tmp_get hb),by simp only [abt,hg,hj,hd,hb]; cases want <;> rfl,h⟩
    · rename_i hb
      exact ⟨false,tm,he,by simp only [abt,hg,hj,hd,hb],h⟩
theorem dstK_some {tm:Tr AVal} {d:Option Nat} {v:AVal} {K:Tr AVal→Option α} (h:dstK n tm d v K=some r):∃ tm',setDst n tm d v=some tm' ∧ K tm' = some r:=by
  unfold dstK at h
  split at h <;> try (simp at h; done)
  exact ⟨_,by assumption,h⟩
theorem sets_keeps:∀ (wr:List (Nat × Obj)) (s:St),(s.sets wr).next=s.next
  | [],_=>rfl
  | (i,o) :: wr,s=>sets_keeps wr (s.set i o)
theorem did_keeps (s:St) (rd:List Nat) (wr:List (Nat × Obj)):(s.did rd wr).next=s.next:=sets_keeps wr s
def IsoSame (C C0:CallFn):Prop:=∀ f args,C (.iso f) args St.empty=C0 (.iso f) args St.empty
theorem evOp_iso {C0:CallFn} (hC:IsoSame C C0) {imp:Nat→Bool} {tm:Tr AVal} {s:St} {b:Nat} {op:Op} {e:Eff} (h:evOp C0 imp P tm s b op=some (.eff e)):evOp C imp P tm s b op=some (.eff e):=by
  have call:∀ f args,callAt C0 imp s b f args=some (.eff e)→callAt C imp s b f args=some (.eff e):=by
    intro f args h
    unfold callAt at h ⊢
    split at h
    · have hC' : ∀ args,C (.iso f) args St.empty=C0 (.iso f) args St.empty:=hC f
      simp only [hC']
      exact h
    · split at h <;> simp at h
  have cOp:∀ c,callOp C0 imp P tm s b c=some (.eff e)→callOp C imp P tm s b c=some (.eff e):=by
    intro c h
    unfold callOp at h ⊢
    cases hcal:c.callee with
    | value o =>
      try simp only [hcal] at h
      try simp only [hcal]
      try dsimp only
      split at h <;> try (simp at h; done)
      rename_i fv args hfv hargs
      try simp only [hfv,hargs]
      split at h
      · rename_i hfo
        try simp only [hfo]
        exact call _ _ h
      · simp at h
      · rename_i hfo
        try simp only [hfo]
        split at h <;> try (simp at h; done)
        · split at h <;> simp at h
        · exact call _ _ h
    | invoke o name =>
      try simp only [hcal] at h
      try simp only [hcal]
      try dsimp only
      split at h <;> try (simp at h; done)
      rename_i x args hx hargs
      try simp only [hx,hargs]
      split at h <;> try (simp at h; done)
      rename_i t v hif
      try simp only [hif]
      split at h <;> try (simp at h; done)
      rename_i f hf
      try simp only [hf]
      exact call _ _ h
    | builtin bi=>simp [hcal] at h
  unfold evOp at h ⊢
  cases op with
  | call c =>
    cases hcal:c.callee with
    | builtin bi=>(try simp only [hcal] at h); (try simp only [hcal]); (try dsimp only); exact h
    | value o=>(try simp only [hcal] at h); (try simp only [hcal]); (try dsimp only); exact cOp c h
    | invoke o name=>(try simp only [hcal] at h); (try simp only [hcal]); (try dsimp only); exact cOp c h
  | _=>exact h
theorem opsK_ok (hC:RecOk C rec) (hT:ToldOk P gl td) (B:Array Nat):∀ {l:List Oper} {i b:Nat} {tm tmE:Tr AVal} {σ:XSt} {s:St} {recs:List (Nat × Rec)} {K:Tr AVal→XSt→List (Nat × Rec)→Option α},
    TmEq tm tmE→SE s σ b→opsK P cf td rec n ops l i b tm σ recs K=some r →
    ∃ (tm' tmE' : Tr AVal) (σ' : XSt) (s' : St) (recs' : List (Nat × Rec)) (L:List Inst),TmEq tm' tmE' ∧ SE s' σ' (b + 16 * l.length)∧(∀ x ∈ L,InstOk P gl x∧s.next≤x.nx)∧(∀ x ∈ L, ∀ y ∈ L,x.nx=y.nx→x=y) ∧
      (∀ C' : CallFn,IsoSame C' C→(∀ x ∈ L, ∀ t args T,Inst.fits x t args T→C' t args T=some (.ret x.v (x.st T))) →
        evOps C' cf.imp P n ops l i b tmE s recs []=some (.done tmE' s' recs' [])∧evAny C' cf.imp P n ops B l i b tmE s recs none=some (tmE',s',recs',none)) ∧
      K tm' σ' recs' = some r
  | [],i,b,tm,tmE, σ,s,recs,K,he,hs,h=>⟨tm,tmE, σ,s,recs,[],he,hs,by simp,by simp,fun _ _ _=>⟨rfl,rfl⟩,h⟩
  | o :: l,i,b,tm,tmE, σ,s,recs,K,he,hs,h=>by
    obtain ⟨w,tm1,he1,hw,h⟩:=wantK_some he (show wantK ops tm o _=some r from h)
    have hlen:b + 16 * (o :: l).length=(b + 16) + 16 * l.length:=by simp only [List.length_cons]; omega
    rw [hlen]
    split at h
    · obtain ⟨z, σ1,rd,wr,hop,h0⟩:=xop_ok (C:=C) hC hT hs h
      obtain ⟨tm2,h6,h9⟩:=dstK_some (viewA_some h0)
      obtain ⟨tm2',h7,h8⟩:=he1.dst h6
      rcases hop with ⟨e,h1,h2,h3,h4,h5⟩ | ⟨x,hx,hnx,hev,h3,h4,h5⟩
      · subst h2 h3 h4
        obtain ⟨tm',tmE', σ',s',recs',L,k1,k2,k3,k4,k5,k6⟩:=opsK_ok hC hT B h8 h5 h9
        have h1' : evOp C cf.imp P tmE s b o.op=some (.eff e):=by rw [evOp_tm (fun x _=>he1.operand x)]; exact h1
        refine ⟨tm',tmE', σ',s',recs',L,k1,k2,fun x hx=>⟨(k3 x hx).1,by have:=(k3 x hx).2; rw [did_keeps] at this; exact this⟩,k4,fun C' hI hK=>?_,k6⟩
        have h2':=evOp_iso hI h1'
        obtain ⟨q1,q2⟩:=k5 C' hI hK
        exact ⟨by simp only [evOps,hw,h2',h7]; exact q1,by simp only [evAny,hw,h2',h7]; exact q2⟩
      · subst h3 h4
        have hget:∀ (lg:Log),({ x.st { s with log:=.e } with log:=lg }:St).get=(x.st s).get:=fun lg=>by
          show (x.st { s with log:=.e }).get=(x.st s).get
          rw [Inst.st_get,Inst.st_get]; rfl
        have h5' : SE ({ x.st { s with log:=.e } with log:=.call (x.st { s with log:=.e }).log s.log }:St) σ1 (b + 16):=h5.same (hget _) (Nat.le_refl _)
        have hlog1:(x.st { s with log:=.e }).log.rdOf=x.rd:=by
          show (Log.op x.rd x.wr .e).rdOf=x.rd
          simp [Log.rdOf]
        have hlog2:(x.st { s with log:=.e }).log.flat.map (·.1)=x.wr.map (·.1):=by
          show (Log.op x.rd x.wr .e).flat.map (·.1)=_
          simp [Log.flat]
        obtain ⟨tm',tmE', σ',s',recs',L,k1,k2,k3,k4,k5,k6⟩:=opsK_ok hC hT B h8 h5' h9
        have hnext:∀ y ∈ L,s.next + 1≤y.nx:=fun y hy=>(k3 y hy).2
        refine ⟨tm',tmE', σ',s',recs',x :: L,k1,k2,fun y hy=>?_,fun y hy y' hy' e=>?_,fun C' hI hK=>?_,k6⟩
        · rcases List.mem_cons.1 hy with rfl | hy
          · exact ⟨hx,by omega⟩
          · exact ⟨(k3 y hy).1,by have:=hnext y hy; omega⟩
        · rcases List.mem_cons.1 hy with e1 | hy1
          · rcases List.mem_cons.1 hy' with e2 | hy2
            · rw [e1,e2]
            · have:=hnext y' hy2; rw [e1] at e; omega
          · rcases List.mem_cons.1 hy' with e2 | hy2
            · have:=hnext y hy1; rw [e2] at e; omega
            · exact k4 y hy1 y' hy2 e
        · have h1:=hev C' (hK x (by simp))
          have h1' : evOp C' cf.imp P tmE s b o.op=some (.all z (x.st { s with log:=.e })):=by rw [evOp_tm (fun x _=>he1.operand x)]; exact h1
          obtain ⟨q1,q2⟩:=k5 C' hI (fun y hy=>hK y (by simp [hy]))
          exact ⟨by simp only [evOps,hw,h1',h7,hlog1,hlog2]; exact q1,by simp only [evAny,hw,h1',h7,hlog1,hlog2]; exact q2⟩
    · obtain ⟨tm2,h6,h⟩:=dstK_some h
      obtain ⟨tm2',h7,h8⟩:=he1.dst h6
      obtain ⟨tm',tmE', σ',s',recs',L,k1,k2,k3,k4,k5,k6⟩:=opsK_ok hC hT B h8 (hs.same rfl (Nat.le_add_right b 16)) h
      refine ⟨tm',tmE', σ',s',recs',L,k1,k2,k3,k4,fun C' hI hK=>?_,k6⟩
      obtain ⟨q1,q2⟩:=k5 C' hI hK
      exact ⟨by simp only [evOps,hw,h7]; exact q1,by simp only [evAny,hw,h7]; exact q2⟩
noncomputable def aeO (C0:CallFn) (L:List Inst):CallFn:=fun t args T=>match t with
  | .iso f=>C0 (.iso f) args T
  | t=>open Classical in if h:∃ x ∈ L,Inst.fits x t args T then some (.ret h.choose.v (h.choose.st T)) else none
theorem aj2 {C0:CallFn} {L:List Inst} (hL:∀ x ∈ L,InstOk P gl x) (hd:∀ x ∈ L, ∀ y ∈ L,x.nx=y.nx→x=y):∀ x ∈ L, ∀ t args T,Inst.fits x t args T→aeO C0 L t args T=some (.ret x.v (x.st T)):=by
  intro x hx t args T hf
  have hex:∃ x ∈ L,Inst.fits x t args T:=⟨x,hx,hf⟩
  have key:hex.choose=x:=hd _ hex.choose_spec.1 _ hx (hex.choose_spec.2.2.2.1.symm.trans hf.2.2.1)
  cases t with
  | iso f=>exact absurd hf.1.symm ((hL x hx).iso f)
  | fn f=>simp only [aeO]; rw [dif_pos hex,key]
  | yld id=>simp only [aeO]; rw [dif_pos hex,key]
theorem agK {C0:CallFn} {L:List Inst} {t:Tgt} (ht:∀ f,t ≠ .iso f) {args:List AVal} {T:St} {q:CR} (h:aeO C0 L t args T=some q):∃ x ∈ L,Inst.fits x t args T∧q = .ret x.v (x.st T):=by
  cases t with
  | iso f=>exact absurd rfl (ht f)
  | fn f =>
    simp only [aeO] at h
    split at h <;> simp at h
    rename_i hex
    exact ⟨_,hex.choose_spec.1,hex.choose_spec.2,h.symm⟩
  | yld id =>
    simp only [aeO] at h
    split at h <;> simp at h
    rename_i hex
    exact ⟨_,hex.choose_spec.1,hex.choose_spec.2,h.symm⟩
theorem knowing_ok {C0:CallFn} (hC:aa6 P gl C0) {L:List Inst} (hL:∀ x ∈ L,InstOk P gl x) (hd:∀ x ∈ L, ∀ y ∈ L,x.nx=y.nx→x=y):aa6 P gl (aeO C0 L) where
  fn:=fun f args S q g w us h hi hG hr=>by
    obtain ⟨x,hx,h1,rfl⟩:=agK (fun _ e=>by cases e) h
    exact (hL x hx).fn f h1.1.symm S g w us h1.2.2.2 hi hG (h1.2.1 ▸ hr)
  iso:=fun f args q g w us h hi hG hr=>hC.iso f args q g w us h hi hG hr
  yld:=fun id args S q g w us h hi hG hr=>by
    obtain ⟨x,hx,h1,rfl⟩:=agK (fun _ e=>by cases e) h
    exact (hL x hx).yld id h1.1.symm S g w us h1.2.2.2 hi hG (h1.2.1 ▸ hr)
  loc:=fun t ht args S q S' h=>by
    obtain ⟨x,hx,h1,h2⟩:=agK ht h
    have hq:q=(true,x.v)∧S' = x.st S:=by
      obtain ⟨b,v⟩:=q
      cases b <;> simp [mkCR] at h2
      obtain ⟨rfl,rfl⟩:=h2
      exact ⟨rfl,rfl⟩
    obtain ⟨rfl,rfl⟩:=hq
    refine ⟨.op x.rd x.wr .e,⟨⟨rfl,x.st_get S⟩,fun T hn hT=>⟨x.st T, ?_,⟨rfl,x.st_get T⟩, ?_⟩⟩⟩
    · exact aj2 hL hd x hx t args T ⟨h1.1,h1.2.1,hn.trans h1.2.2.1,fun id hid=>(hT id (by simp [Log.rdOf,hid])).trans (h1.2.2.2 id hid)⟩
    · show T.next + 1=S.next + 1
      rw [hn]
theorem regionK_ok (hC2:aa6 P gl C) (hC:RecOk C rec) (hT:ToldOk P gl td) {rd draw:Bool} {tm tmE:Tr AVal} {σ:XSt} {s:St} {dfs:List Dfr} {K:Tr AVal→XSt→Option α} (he:TmEq tm tmE) (hs:SE s σ σ.next) (hn:s.next = σ.next)
    (h:regionK P cf td rec n ops draw tm σ K=some r) :
    ∃ tm' tmE' σ' s' C',aa6 P gl C' ∧ TmEq tm' tmE' ∧ SE s' σ' σ'.next∧acV C' cf.imp P n rd ops draw { tm:=tmE,dfs } s=some (.normal, { tm:=tmE',dfs },s')∧K tm' σ' = some r:=by
  have hs0:SE ({ s with next:=s.next + 16 * ops.size }:St) σ σ.next:=hs.same rfl (Nat.le_refl _)
  obtain ⟨tm',tmE', σ',s',recs',L,k1,k2,k3,k4,k5,k6⟩:=opsK_ok hC hT (Region.before ops) he hs0 (show opsK P cf td rec n ops ops.toList 0 σ.next tm σ [] _=some r from h)
  have hL:∀ x ∈ L,InstOk P gl x:=fun x hx=>(k3 x hx).1
  obtain ⟨q1,q2⟩:=k5 (aeO C L) (fun _ _=>rfl) (aj2 hL k4)
  have ke:SE s' ({ σ' with next:=σ.next + 16 * ops.size }:XSt) (σ.next + 16 * ops.size):=⟨k2.get,by simpa using k2.free⟩
  rw [← hn] at q1 q2
  cases draw with
  | false =>
    refine ⟨tm',tmE',_,s',aeO C L,knowing_ok hC2 hL k4,k1,ke, ?_,k6⟩
    cases rd <;> (simp only [acV,q1]; rfl)
  | true =>
    obtain ⟨hp,k6⟩:=aaf k6
    exact ⟨tm',tmE',_,s',aeO C L,knowing_ok hC2 hL k4,k1,ke,by simp only [acV,q2,hp],k6⟩
end
end Go.Proofs.YtdnbnpknpejpdaaGreatDoor.Sw
namespace Go.Proofs.YtdnbnpknpejpdaaGreatDoor.Sw
open Go.RowKit
section
variable [Sites] {α:Type} {r:α} {P:Program} {C:CallFn} {cf:Cfg} {rec:Rec1} {n:Nat} {gl:Tr AVal} {td:Told}
def Hid (w0:World):List Dfr→Prop
  | []=>True
  | .hid b :: l=>w0.heap.size≤b∧(∀ d ∈ l,d ≠ .hid b)∧Hid w0 l
  | _ :: _=>False
theorem RepD.hid {w0:World} {g g' : Sg} {s s' : Sto} {w:World} (hp:∀ b,g.pr b→g'.pr b) (hm:∀ b o,g'.imm b o→g.imm b o):∀ {l:List Dfr} {ds:List Deferred},Hid w0 l→RepD g s w l ds→RepD g' s' w l ds
  | [],_,_,h=>h
  | .hid b :: l,_,hh,h=>by
    obtain ⟨t,rfl,h1,h2,h4,h3⟩:=h
    exact ⟨t,rfl,hp b h1,h2,fun o ho=>h4 o (hm b o ho),RepD.hid hp hm hh.2.2 h3⟩
  | .mark _ :: _,_,hh,_=>hh.elim
  | .call _ _ :: _,_,hh,_=>hh.elim
theorem RepD.pr {w0:World} {g:Sg} {s:Sto} {w:World}:∀ {l:List Dfr} {ds:List Deferred},Hid w0 l→RepD g s w l ds → ∀ b, .hid b ∈ l→g.pr b
  | [],_,_,_,_,hb=>by cases hb
  | .hid b :: l,_,hh,h,b',hb=>by
    obtain ⟨t,rfl,h1,h2,_,h3⟩:=h
    rcases List.mem_cons.1 hb with e | hb
    · cases e; exact h1
    · exact RepD.pr hh.2.2 h3 b' hb
  | .mark _ :: _,_,hh,_,_,_=>hh.elim
  | .call _ _ :: _,_,hh,_,_,_=>hh.elim
structure XIs (gl:Tr AVal) (g0:Sg) (m:Nat) (w0:World) (n:Nat) (tm:Tr AVal) (σ:XSt) (a:Act) (w:World):Prop where
  ex:∃ g S tmE dfs,TmEq tm tmE∧SE S σ σ.next∧Inv g S.get w∧Frm g S.get w tmE a.tmps∧Glob gl g.imm w∧After g0 m w0 g w∧RepD g S.get w dfs a.defers∧Hid w0 dfs
  size:n≤a.tmps.size
def XE.to:XE→Exit
  | .normal=>.normal
  | .exit i=>.exit i
  | .ret=>.ret
def St.count (S:St) (k:Nat):St:={ S with next:=k }
theorem regionK_wp (hC:aa6 P gl C) (hR:RecOk C rec) (hT:ToldOk P gl td) (hP:Fine P) (hnb:n≤glBase) {ro:Option Nat} (hro:cf.rd=false→ro=none) {N id:Nat} {Q:Exit→Act→World→Prop} {ops:Array Oper} {draw:Bool} (hst:draw=true→statOk ops=true)
    {g0:Sg} {m:Nat} {w0:World} {tm:Tr AVal} {σ:XSt} {a:Act} {w:World} {K:Tr AVal→XSt→Option α} (hx:XIs gl g0 m w0 n tm σ a w) (h:regionK P cf td rec n ops draw tm σ K=some r)
    (hQ:∀ tm' σ' a' w',XIs gl g0 m w0 n tm' σ' a' w' → K tm' σ' = some r→Q .normal a' w'):(Code.region id ops draw).wpIn (Fw ro) N P Q a w:=by
  obtain ⟨⟨g,S,tmE,dfs,h1,h2,h4,h5,h6,h7,hd,hh⟩,hz⟩:=hx
  obtain ⟨tm',tmE', σ',S',C',k0,k1,k2,k4,k5⟩:=regionK_ok (rd:=cf.rd) (dfs:=dfs) (s:=S.count σ.next) hC hR hT h1 (h2.same rfl (Nat.le_refl _)) rfl h
  refine region_wp (rd:=cf.rd) k0 hP hnb hro hst k4 h4 h6 h5 hd hz fun e a' w' hl=>?_
  cases e <;> simp only [Left] at hl
  obtain ⟨⟨g',e1,e2,e3,e4⟩,e5⟩:=hl
  have e1:Ext g S.get w g' S'.get w':=e1
  exact hQ tm' σ' a' w' ⟨⟨g',S',tmE',dfs,k1,k2,e2,e3,h6.ext e1,h7.ext e1,e4,hh⟩,by rw [e5]; exact hz⟩ k5
theorem canonAt_ok {g:Sg} {S:St} {w:World} {σ:XSt} {ids:List Nat} {os:List XObj} (vs:List AVal) (hi:Inv g S.get w) (hs:∀ id o, σ.get id=some o→S.get id=some o.to) (hdis:distinct ids=true) (hos:renOs ids σ ids=some os)
    {hb:Nat→Prop} (hhb:∀ b,hb b→b < w.heap.size∧g.rg b=none ∧ ∀ id ∈ ids,g.bx id ≠ some b) :
    Inv (renG ids g fun b=>g.pr b ∨ hb b) (XC.st ⟨vs,os⟩).to.get w∧Maps (idx ids) (epNow σ) g S.get w (renG ids g fun b=>g.pr b ∨ hb b) (XC.st ⟨vs,os⟩).to.get w:=by
  obtain ⟨hol,hoget⟩:=agm hos
  have hst:∀ j,(XC.st ⟨vs,os⟩).to.get j=(os[j]?).map XObj.to:=fun j=>by rw [XSt.to_get,XC.st_get]
  have hok:RenOk ids σ S.get (XC.st ⟨vs,os⟩).to.get:=by
    refine ⟨hdis,fun j id hj=>?_,fun j hj=>?_⟩
    · obtain ⟨o,o',k1,k2,k3⟩:=hoget j id hj
      exact ⟨o,o',k1,hs _ _ k1,k2,by rw [hst,k3]; rfl⟩
    · rw [hst]
      have:os[j]? = none:=by
        rw [List.getElem?_eq_none_iff] at hj ⊢
        omega
      rw [this]; rfl
  refine ⟨hi.ren hok fun b hb'=>?_,hok.maps hi⟩
  have hb' : g.pr b ∨ hb b:=hb'
  have key:b < w.heap.size∧g.rg b=none ∧ ∀ id ∈ ids,g.bx id ≠ some b:=by
    rcases hb' with h | h
    · obtain ⟨k1,k2,k3⟩:=hi.prS b h
      exact ⟨k1,k2,fun id _=>k3 id⟩
    · exact hhb b h
  refine ⟨key.1,by simp only [renG,key.2.1],fun j hj=>?_⟩
  simp only [renG] at hj
  split at hj <;> try (simp at hj; done)
  rename_i id hid
  exact key.2.2 id (List.mem_of_getElem? hid) hj
theorem amC {m:Nat} {σ:XSt} {vs:List AVal} {ids:List Nat} {K:XC→Option α} (h:aiV m σ vs ids K=some r) :
    ∃ vs' os,distinct ids=true∧firsts m 0 ids=true∧mapAs (idx ids) (epNow σ) vs=some vs' ∧ renOs ids σ ids=some os∧K ⟨vs',os⟩=some r:=by
  unfold aiV at h
  split at h <;> try (simp at h; done)
  rename_i h1 h2
  split at h <;> try (simp at h; done)
  rename_i vs' os h3 h4
  exact ⟨vs',os,h1,h2,h3,h4,h⟩
theorem After.ren {g0 g:Sg} {m:Nat} {w0 w:World} {ids:List Nat} {pr:Nat→Prop} (h:After g0 m w0 g w) (hf:firsts m 0 ids=true) (hp:∀ b,g.pr b→pr b):After g0 m w0 (renG ids g pr) w :=
  ⟨h.base,h.below,h.keeps,h.immB,fun b hb=>let ⟨h1,h2⟩:=h.still b hb; ⟨hp b h1,h2⟩,fun j hj b hb=>by
    have:=firsts_get hf j hj
    rw [Nat.zero_add] at this
    simp only [renG,this]
    exact h.bx j hj b hb⟩
theorem canon_gen {g0:Sg} {m:Nat} {w0:World} {tm tmE:Tr AVal} {σ:XSt} {a:Act} {w:World} {live:List Nat} {K:XC→Option α} {g:Sg} {S:St} {dfs' : List Dfr} (h1:TmEq tm tmE) (h2:∀ id o, σ.get id=some o→S.get id=some o.to) (hi:Inv g S.get w)
    (hf:Frm g S.get w tmE a.tmps) (hG:Glob gl g.imm w) (ha:After g0 m w0 g w) (hz:n≤a.tmps.size) {hb:Nat→Prop} (hh:Hid w0 dfs')
    (hhb:∀ b,hb b→b < w.heap.size∧g.rg b=none ∧ ∀ id o, σ.get id=some o→g.bx id ≠ some b) (hd:∀ g' s',(∀ b,g.pr b ∨ hb b→g'.pr b)→(∀ b o,g'.imm b o→g.imm b o)→RepD g' s' w dfs' a.defers) (h:canon m live tm σ K=some r) :
    ∃ c,XIs gl g0 m w0 n (tmOf gl live c.vals) c.st a w∧K c=some r:=by
  unfold canon at h
  split at h <;> try (simp at h; done)
  rename_i vs hvs
  obtain ⟨vs',os,hdis,hfirst,hr1,hos,h⟩:=amC h
  obtain ⟨hol,hoget⟩:=agm hos
  obtain ⟨hi',hm⟩:=canonAt_ok vs' hi h2 hdis hos (hb:=hb) (fun b hbb=>by
    obtain ⟨k1,k2,k3⟩:=hhb b hbb
    refine ⟨k1,k2,fun id hid=>?_⟩
    obtain ⟨j,hj⟩:=List.mem_iff_getElem?.1 hid
    obtain ⟨o,_,q1,_⟩:=hoget j id hj
    exact k3 id o q1)
  refine ⟨⟨vs',os⟩,⟨⟨_,(XC.st ⟨vs',os⟩).to,_,dfs',fun _=>rfl,⟨fun id o ho=>?_,fun id hid=>?_⟩,hi', ?_,hG,ha.ren hfirst (fun b hb=>.inl hb),hd _ _ (fun b hb=>hb) (fun _ _ h=>h),hh⟩,hz⟩,h⟩
  · rw [XSt.to_get,ho]; rfl
  · rw [XSt.to_get,XC.st_get]
    have:os[id]? = none:=by
      rw [List.getElem?_eq_none_iff]
      exact hid
    show ((os[id]?).map XObj.to)=none
    rw [this]; rfl
  · intro t x ht
    rcases tmOf_map hr1 ht with ⟨v,k1,k2⟩ | hg
    · have k3:tmE.get t=some v ∨ gl.get t=some v:=by
        rcases tmOf_get k1 with ⟨k,q1,q2⟩ | q
        · obtain ⟨v',q3,q4⟩:=(alH hvs).2 k t q1
          rw [q2] at q3
          simp at q3
          subst q3
          exact .inl (by rw [h1 t]; exact q4)
        · exact .inr q
      rcases k3 with k3 | k3
      · obtain ⟨y,k4,k5⟩:=hf t v k3
        exact ⟨y,k4,aj1 hm _ _ _ k2 k5⟩
      · obtain ⟨k4,y,rfl,k5⟩:=hG t v k3
        simp [mapA] at k2
        subst k2
        exact ⟨_,by simp only [slot]; rw [if_neg (by omega)],k5⟩
    · obtain ⟨k1,y,rfl,k2⟩:=hG t x hg
      exact ⟨_,by simp only [slot]; rw [if_neg (by omega)],k2⟩
theorem anl {g0:Sg} {m:Nat} {w0:World} {tm:Tr AVal} {σ:XSt} {a:Act} {w:World} {live:List Nat} {K:XC→Option α} (hx:XIs gl g0 m w0 n tm σ a w) (h:canon m live tm σ K=some r) :
    ∃ c,XIs gl g0 m w0 n (tmOf gl live c.vals) c.st a w∧K c=some r:=by
  obtain ⟨⟨g,S,tmE,dfs,h1,h2,h4,h5,h6,h7,hd,hh⟩,hz⟩:=hx
  exact canon_gen h1 h2.get h4 h5 h6 h7 hz (hb:=fun _=>False) hh (fun _ h=>h.elim) (fun g' s' hp hm=>RepD.hid (fun b hb=>hp b (.inl hb)) hm hh hd) h
def aaM (sk:Nat→Nat) (n:Nat):Code→Prop
  | .seq a b=>aaM sk n a∧aaM sk n b
  | .cond _ a b=>aaM sk n a∧aaM sk n b
  | .block _ (.loop _)=>True
  | .block _ c=>aaM sk n c
  | .scope c=>aaM sk n c
  | .rangeFunc (.tmp t) ps assign body=>Sites.site (sk t) = ⟨(Sites.site (sk t)).live,n,ps.toList,assign,body⟩
  | _=>True
theorem fnOfX_eq {v:AVal} {f:Nat} {cap:List AVal} (h:fnOfX v=some (f,cap)):fnOf v=some (.func f,cap):=by
  unfold fnOfX at h
  split at h <;> simp at h
  · obtain ⟨rfl,rfl⟩:=h; rfl
  · obtain ⟨rfl,rfl⟩:=h; rfl
theorem leftK_some {tm:Tr AVal} {σ2:XSt} {t:Nat} {K:XE→Tr AVal→XSt→Option α} {k id:Nat} {vals:List AVal} {st:LoopState} {pend:Option Code}
    (h:(match st,pend with
      | .busy,_=>none
      | _,none=>leftK cf tm (σ2.set id (.lp k vals .exhausted pend)) t K .normal
      | _,some .ret=>leftK cf tm (σ2.set id (.lp k vals .exhausted pend)) t K .ret
      | _,some (.exit i)=>leftK cf tm (σ2.set id (.lp k vals .exhausted pend)) t K (.exit i)
      | _,_=>none)=some r) :
    st ≠ .busy ∧ ∃ x,(match x with | .normal=>pendX pend=some .normal | .ret=>pendX pend=some .ret | .exit i=>pendX pend=some (.exit i))∧leftK cf tm (σ2.set id (.lp k vals .exhausted pend)) t K x=some r:=by
  split at h <;> try (simp at h; done)
  · rename_i hno
    exact ⟨fun e=>hno e, .normal,rfl,h⟩
  · rename_i hno
    exact ⟨fun e=>hno e, .ret,rfl,h⟩
  · rename_i i hno
    exact ⟨fun e=>hno e, .exit i,rfl,h⟩
theorem rangeK_wp (hT:ToldOk P gl td) (hP:Fine P) (hgl:cf.gl=gl) (hnb:n≤glBase) {N:Nat} {Q:Exit→Act→World→Prop} {t:Nat} {ps:Array Tmp} {assign body:Code} (hok:codeOk assign=true∧codeOk body=true)
    (hsite:Sites.site (cf.sk t) = ⟨(Sites.site (cf.sk t)).live,n,ps.toList,assign,body⟩)
    {g0:Sg} {w0:World} {tm:Tr AVal} {σ:XSt} {a:Act} {w:World} {K:XE→Tr AVal→XSt→Option α} (hx:XIs gl g0 cf.m w0 n tm σ a w) (h:rangeK cf td tm σ t K=some r)
    (hQ:∀ x tm' σ' a' w',XIs gl g0 cf.m w0 n tm' σ' a' w' → K x tm' σ' = some r→Q x.to a' w'):(Code.rangeFunc (.tmp t) ps assign body).wpIn (Fw none) N P Q a w:=by
  obtain ⟨⟨g,S,tmE,dfs,h1,h2,hi,hf,hG,ha,hd,hh⟩,hz⟩:=hx
  unfold rangeK at h
  split at h <;> try (simp at h; done)
  rename_i fv hfv
  split at h <;> try (simp at h; done)
  rename_i f cap vals hfn hvals
  have hsz0:w0.heap.size≤w.heap.size:=ha.below.size
  have hopd:operand tmE (.tmp t)=some fv:=by rw [h1.operand]; exact hfv
  obtain ⟨vs,v1,v2⟩:=anh (aac hf hopd) (fnOfX_eq hfn)
  have hfr1:S.get σ.next=none:=h2.at
  have hfr2:S.get (σ.next + 1)=none:=h2.free _ (by omega)
  let S0:St:=S.count σ.next
  let s1:St:=({ S0 with next:=S0.next + 16 }:St).did [S0.next,S0.next + 1] [(S0.next, .ho (.dl true)),(S0.next + 1, .ho (.lp (tmOf .lf (Sites.site (cf.sk t)).live vals) n ps.toList assign body .ready none))]
  have hst:acp n ps.toList assign body (tmOf .lf (Sites.site (cf.sk t)).live vals) S0=some s1:=by
    unfold acp
    have e1:S0.get S0.next=none:=hfr1
    have e2:S0.get (S0.next + 1)=none:=hfr2
    simp only [e1,e2]
    rfl
  have hf0:Frm g S0.get w (tmOf .lf (Sites.site (cf.sk t)).live vals) a.tmps:=by
    intro t' x ht'
    rcases tmOf_get ht' with ⟨k,q1,q2⟩ | q
    · obtain ⟨v',q3,q4⟩:=(alH hvals).2 k t' q1
      rw [q2] at q3
      simp at q3
      subst q3
      exact hf t' x (by rw [h1 t']; exact q4)
    · rw [Tr.get_lf] at q; simp at q
  refine wpIn_rangeFunc fun fn _=>?_
  obtain ⟨g1,w1,r1,e1,i1,b1,b2⟩:=start_run (P:=P) (S:=S0) hi hnb hf0 hz hok hst fn
  have hs1get:∀ id,s1.get id=if id = σ.next + 1 then some (.ho (.lp (tmOf .lf (Sites.site (cf.sk t)).live vals) n ps.toList assign body .ready none)) else if id = σ.next then some (.ho (.dl true)) else S.get id:=by
    intro id
    show (St.did _ _ _).get id=_
    rw [aaB]
    show upds S.get [(σ.next, .ho (.dl true)),(σ.next + 1,_)] id=_
    simp only [upds,List.foldl_cons,List.foldl_nil,upd]
  have hse:SE s1 ({ σ.set (σ.next + 1) (.lp (cf.sk t) vals .ready none) with next:=σ.next + 32 }:XSt) (σ.next + 2):=by
    refine ⟨fun id o ho=>?_,fun id hid=>?_⟩
    · have ho:(σ.set (σ.next + 1) (.lp (cf.sk t) vals .ready none)).get id=some o:=ho
      rw [XSt.aa0] at ho
      rw [hs1get]
      split at ho
      · rename_i e
        simp at ho
        subst ho
        rw [if_pos e.symm]
        simp only [XObj.to]
        rw [hsite]
      · rename_i e
        have hlt:=h2.lt ho
        rw [if_neg (by omega),if_neg (by omega)]
        exact h2.get _ _ ho
    · rw [hs1get,if_neg (by omega),if_neg (by omega)]
      exact h2.free _ (by omega)
  have hargs:RepAs g1 s1.get w1 (.rf .yld (σ.next + 1) :: cap) (.func (.yield (w.heap.size + 1)) #[] #[] :: vs):=⟨_,_,rfl,⟨_,b2,rfl⟩,RepAs.ext e1 _ _ v2⟩
  obtain ⟨i, σ2,k1,k2,k3,k4,k5,k6⟩:=aid hT hse (tt:=(.fn f, .rf .yld (σ.next + 1) :: cap)) rfl (fun id hid=>by simp at hid) h
  split at k5 <;> try (simp at k5; done)
  rename_i k vals' st pend hlp
  obtain ⟨hst1,x,hpx,k5⟩:=leftK_some k5
  obtain ⟨hb,hcl⟩:=k1.fn f k2.1.symm s1 g1 w1 _ k2.2.2.2 i1 (hG.ext e1) (by rw [← k2.2.1]; exact hargs)
  refine ⟨w.heap.size + 1,[{ target:=.collected w.heap.size,args:=#[] }],w1, { target:=.fn (.func f) vs.toArray,args:=#[.func (.yield (w.heap.size + 1)) #[] #[]] },w1,f,
    (.func (.yield (w.heap.size + 1)) #[] #[] :: vs).toArray,w1,r1, ?_,fun _ _=>trivial, ?_,by simp [Fw,Fence.wide], ?_⟩
  · have e:resolve a.eval (rangeCall (.tmp t) (w.heap.size + 1)) 0=Deferred.ofValue (a.eval (.tmp t)) #[.func (.yield (w.heap.size + 1)) #[] #[]]:=by
      simp only [resolve,List.map_toArray,List.map_cons,List.map_nil]; rfl
    rw [e,v1]
    simp [Deferred.ofValue]
  · simp [invoke,abK hP.own hb]
  · refine CallsIn.mono (show CallsIn (Fw none) (N - 1) P f _ w1 _ from hcl.more (Nat.zero_le _)) fun e w3 hc=>?_
    cases e with
    | panicked chain=>exact hc.elim
    | outgrown=>exact hc.elim
    | returned u =>
      obtain ⟨g2,f1,f2,f3⟩:=hc
      have bl:=f1.bx _ _ b2
      have hget:(i.st s1).get (σ.next + 1)=some (XObj.lp k vals' st pend).to:=k4.get _ _ hlp
      obtain ⟨o,q1,rc,rfl,q2,q3,q4,q5,q6,q7,q8⟩:=f2.at_ho hget bl
      obtain ⟨z1,z2⟩:=set_ho f2 hget bl (h:=.lp (tmOf .lf (Sites.site k).live vals') (Sites.site k).n (Sites.site k).ps (Sites.site k).assign (Sites.site k).body .exhausted pend) (o:=.loop { rc with state:=.exhausted }) ⟨_,rfl,rfl,q3,q4,q5,q6,q7,q8⟩
      let S3:St:=(i.st s1).did [] [(σ.next + 1,(XObj.lp k vals' .exhausted pend).to)]
      have hs3:upd (i.st s1).get (σ.next + 1) (XObj.lp k vals' .exhausted pend).to=S3.get:=(aaB (i.st s1) [] [(σ.next + 1,(XObj.lp k vals' .exhausted pend).to)]).symm
      have z1:Ext g2 (i.st s1).get w3 g2 S3.get (w3.putObj (w.heap.size + 1) (.loop { rc with state:=.exhausted })):=by rw [← hs3]; exact z1
      have z2:Inv g2 S3.get (w3.putObj (w.heap.size + 1) (.loop { rc with state:=.exhausted })):=by rw [← hs3]; exact z2
      refine ⟨pend,_,by rw [← q3]; exact run_endLoop q1 (by rw [q2]; exact hst1), ?_⟩
      have hext:=(e1.trans f1).trans z1
      have bd:=(f1.trans z1).bx _ _ b1
      have hdl:S3.get σ.next=some (.ho (.dl true)):=by
        rw [← hs3,aak _ _ (by omega),i.st_get,acK (fun hm=>?_)]
        · rw [hs1get,if_neg (by omega),if_pos rfl]
        · rw [k3] at hm
          rcases k6 _ hm with hn | hn
          · refine hn ?_
            show (σ.set (σ.next + 1) _).get σ.next=none
            rw [XSt.aa0,if_neg (by omega)]
            cases hσ:σ.get σ.next with
            | none=>rfl
            | some o=>have:=h2.lt hσ; omega
          · omega
      obtain ⟨od,d1,d2⟩:=z2.at_ho hdl bd
      have d2:od = .deferred (some []):=d2
      subst d2
      have hSσ:∀ id o,(σ2.set (σ.next + 1) (.lp k vals' .exhausted pend)).get id=some o→S3.get id=some o.to:=fun id o ho=>by
        rw [XSt.aa0] at ho
        rw [← hs3]
        split at ho
        · rename_i e
          simp at ho
          subst ho
          rw [← e]; simp
        · rename_i e
          rw [aak _ _ (fun e'=>e e'.symm)]
          exact k4.get _ _ ho
      have hbxS:=z2.bxS _ _ bd
      unfold leftK at k5
      rw [hgl] at k5
      have hfE:Frm g2 S3.get (w3.putObj (w.heap.size + 1) (.loop { rc with state:=.exhausted })) tmE a.tmps:=hf.ext hext
      obtain ⟨c,c1,c2⟩:=canon_gen (n:=n) (a:={ a with defers:=[{ target:=.collected w.heap.size,args:=#[] }] ++ a.defers }) (dfs':=.hid w.heap.size :: dfs) h1 hSσ z2 hfE (hG.ext hext) (ha.ext hext) hz
        (hb:=fun b=>b=w.heap.size) (by
          refine ⟨hsz0,fun d hd' e=>?_,hh⟩
          subst e
          have:=(hi.prS _ (RepD.pr hh hd _ hd')).1
          omega) (fun b hb=>by
          subst hb
          refine ⟨hbxS.2.1,hbxS.2.2.1,fun id o ho hbx=>?_⟩
          have:=z2.inj _ _ _ hbx bd
          subst this
          have:=hSσ _ _ ho
          rw [show S3.get S0.next=some (.ho (.dl true)) from hdl] at this
          cases o <;> simp [XObj.to] at this) (fun g' s' hp hm=>⟨a.defers,rfl,hp _ (.inr rfl),d1,fun o ho=>hbxS.2.2.2.1 o (hm _ o ho),RepD.hid (fun b hb=>hp b (.inl hb)) hm hh (RepD.ext hext hd)⟩) k5
      have:=pendX_wp (F:=Fw none) (N:=N) (P:=P) (pend:=pend) (x:=match x with | .normal=>.normal | .ret=>.ret | .exit i=>.exit i) (by cases x <;> exact hpx) (Q:=Q) (a:={ a with defers:=[{ target:=.collected w.heap.size,args:=#[] }] ++ a.defers })
        (w:=w3.putObj (w.heap.size + 1) (.loop { rc with state:=.exhausted })) (by
          cases x with
          | normal=>exact hQ .normal _ _ _ _ c1 c2
          | ret=>exact hQ .ret _ _ _ _ c1 c2
          | exit i=>exact hQ (.exit i) _ _ _ _ c1 c2)
      cases pend with
      | none=>exact this
      | some c=>exact this
def aat (P:Program) (gl:Tr AVal) (m n:Nat) (ro:Option Nat) (lo:Loops α) (loops:Nat→Option Code):Prop :=
  ∀ {id:Nat} {c:Code} {g0:Sg} {w0:World} {tm:Tr AVal} {σ:XSt} {a:Act} {w:World} {K:XE→Tr AVal→XSt→Option α} {r:α} {N:Nat} {Q:Exit→Act→World→Prop},loops id=some c →
    XIs gl g0 m w0 n tm σ a w→lo id tm σ K=some r→(∀ x tm' σ' a' w',XIs gl g0 m w0 n tm' σ' a' w' → K x tm' σ' = some r→Q x.to a' w')→(Code.block id (.loop c)).wpIn (Fw ro) N P Q a w
def aa8 (loops:Nat→Option Code):Code→Prop
  | .seq a b=>aa8 loops a∧aa8 loops b
  | .cond _ a b=>aa8 loops a∧aa8 loops b
  | .block id (.loop c)=>loops id=some c
  | .block _ c=>aa8 loops c
  | .scope c=>aa8 loops c
  | _=>True
theorem akc (hC:aa6 P gl C) (hR:RecOk C rec) (hT:ToldOk P gl td) (hP:Fine P) (hgl:cf.gl=gl) (hnb:n≤glBase) {ro:Option Nat} (hro:cf.rd=false→ro=none) {lo:Loops α} {loops:Nat→Option Code} (hL:aat P gl cf.m n ro lo loops) {N:Nat} {g0:Sg} {w0:World} :
    ∀ (c:Code) {Q:Exit→Act→World→Prop} {tm:Tr AVal} {σ:XSt} {a:Act} {w:World} {K:XE→Tr AVal→XSt→Option α},codeOk c=true→aa8 loops c→aaM cf.sk n c→XIs gl g0 cf.m w0 n tm σ a w →
    codeK P cf td rec n lo c tm σ K=some r→(∀ x tm' σ' a' w',XIs gl g0 cf.m w0 n tm' σ' a' w' → K x tm' σ' = some r→Q x.to a' w')→c.wpIn (Fw ro) N P Q a w:=by
  intro c
  induction c with
  | skip=>intro Q tm σ a w K _ _ _ hx h hQ; exact wpIn_skip (hQ .normal _ _ _ _ hx h)
  | label l=>intro Q tm σ a w K _ _ _ hx h hQ; exact wpIn_label (hQ .normal _ _ _ _ hx h)
  | region id ops draw =>
    intro Q tm σ a w K hok _ _ hx h hQ
    exact regionK_wp hC hR hT hP hnb hro (fun hd=>by subst hd; exact hok) hx h fun tm' σ' a' w' k1 k2=>hQ .normal _ _ _ _ k1 k2
  | seq c1 c2 ih1 ih2 =>
    intro Q tm σ a w K hok hl hs hx h hQ
    simp only [codeOk,Bool.and_eq_true] at hok
    refine wpIn_seq (ih1 hok.1 hl.1 hs.1 hx h fun x tm' σ' a' w' k1 k2=>?_)
    cases x with
    | normal=>exact ih2 hok.2 hl.2 hs.2 k1 k2 hQ
    | exit i=>exact hQ (.exit i) _ _ _ _ k1 k2
    | ret=>exact hQ .ret _ _ _ _ k1 k2
  | cond o c1 c2 ih1 ih2 =>
    intro Q tm σ a w K hok hl hs hx h hQ
    simp only [codeOk,Bool.and_eq_true] at hok
    simp only [codeK] at h
    split at h <;> try (simp at h; done)
    rename_i x hv
    obtain ⟨v,rfl,h⟩:=boolK_some h
    obtain ⟨g,S,tmE,dfs,h1,h2,h4,h5,h6⟩:=hx.ex
    rw [← h1.operand] at hv
    have hev:=aac h5 hv
    rcases ace h with ⟨rfl,h⟩ | ⟨rfl,h⟩
    · exact wpIn_cond_true hev (ih1 hok.1 hl.1 hs.1 hx h hQ)
    · exact wpIn_cond_false hev (ih2 hok.2 hl.2 hs.2 hx h hQ)
  | block id c ih =>
    intro Q tm σ a w K hok hl hs hx h hQ
    simp only [codeOk] at hok
    by_cases hloop:∃ c',c = .loop c'
    · obtain ⟨c',rfl⟩:=hloop
      exact hL (show loops id=some c' from hl) hx h hQ
    · have hl' : aa8 loops c:=by
        cases c <;> first | exact hl | exact absurd ⟨_,rfl⟩ hloop
      have hs' : aaM cf.sk n c:=by
        cases c <;> first | exact hs | exact absurd ⟨_,rfl⟩ hloop
      have h' : codeK P cf td rec n lo c tm σ (fun x tm' σ'=>match x with
          | .exit i=>match Nat.beq i id with
            | true=>K .normal tm' σ'
            | false=>K (.exit i) tm' σ'
          | x=>K x tm' σ')=some r:=by
        cases c <;> first | exact h | exact absurd ⟨_,rfl⟩ hloop
      refine wpIn_block (ih hok hl' hs' hx h' fun x tm' σ' a' w' k1 k2=>?_)
      cases x with
      | normal=>exact hQ .normal _ _ _ _ k1 k2
      | ret=>exact hQ .ret _ _ _ _ k1 k2
      | exit i =>
        simp only at k2
        simp only [XE.to,Exit.inBlock]
        split at k2
        · rename_i hb
          rw [if_pos (Nat.eq_of_beq_eq_true hb)]
          exact hQ .normal _ _ _ _ k1 k2
        · rename_i hb
          rw [if_neg (fun e=>by subst e; rw [Nat.beq_refl] at hb; simp at hb)]
          exact hQ (.exit i) _ _ _ _ k1 k2
  | exit id=>intro Q tm σ a w K _ _ _ hx h hQ; exact wpIn_exit (hQ (.exit id) _ _ _ _ hx h)
  | scope c ih =>
    intro Q tm σ a w K hok hl hs hx h hQ
    simp only [codeOk] at hok
    simp only [codeK] at h
    split at h <;> try (simp at h; done)
    rename_i hrd
    obtain rfl:=hro hrd
    refine wpIn_scope (ih hok hl hs hx h fun x tm' σ' a' w' k1 k2=>?_)
    cases x <;> exact hQ _ _ _ _ _ k1 k2
  | ret=>intro Q tm σ a w K _ _ _ hx h hQ; exact wpIn_ret (hQ .ret _ _ _ _ hx h)
  | rangeFunc go ps assign body ih1 ih2 =>
    intro Q tm σ a w K hok hl hs hx h hQ
    cases go with
    | tmp t =>
      simp only [codeK] at h
      split at h <;> try (simp at h; done)
      rename_i hrd
      obtain rfl:=hro hrd
      exact rangeK_wp hT hP hgl hnb (by simpa [codeOk] using hok) hs hx h hQ
    | _=>simp [codeK] at h
  | _=>intro Q tm σ a w K _ _ _ _ h; simp [codeK] at h
end
end Go.Proofs.YtdnbnpknpejpdaaGreatDoor.Sw
namespace Go.Proofs.YtdnbnpknpejpdaaGreatDoor.Sw
open Go.RowKit
section
variable [Sites] {α:Type}
def XE.behind (id:Nat):XE→XE
  | .exit i=>match Nat.beq i id with
    | true=>.normal
    | false=>.exit i
  | x=>x
def outsOf (ex:List (Nat × List Nat)) (ret:List Nat):XE→List Nat
  | .exit i=>match ex.lookup i with
    | some l=>l
    | none=>[]
  | .ret=>ret
  | .normal=>[]
def roundK (gl:Tr AVal) (m:Nat) (id:Nat) (live:List Nat) (outs:XE→List Nat) (Kn:XC→Option α) (K:XE→Tr AVal→XSt→Option α) (x:XE) (tm:Tr AVal) (σ:XSt):Option α:=match x with
  | .normal=>canon m live tm σ Kn
  | x=>canon m (outs x) tm σ fun c'=>K (x.behind id) (tmOf gl (outs x) c'.vals) c'.st
def loopX (P:Program) (cf:Cfg) (td:Told) (rec:Rec1) (n:Nat) (gl:Tr AVal) (lo:Loops α) (id:Nat) (live:List Nat) (outs:XE→List Nat) (body:Code):Nat→XC→(XE→Tr AVal→XSt→Option α)→Option α
  | 0,_,_=>none
  | f + 1,c,K=>codeK P cf td rec n lo body (tmOf gl live c.vals) c.st (roundK gl cf.m id live outs (fun c'=>loopX P cf td rec n gl lo id live outs body f c' K) K)
end
section
variable [Sites] {α:Type} {r:α} {P:Program} {C:CallFn} {cf:Cfg} {rec:Rec1} {n:Nat} {gl:Tr AVal} {td:Told} {ro:Option Nat}
theorem loopX_wp (hC:aa6 P gl C) (hR:RecOk C rec) (hT:ToldOk P gl td) (hP:Fine P) (hgl:cf.gl=gl) (hnb:n≤glBase) (hro:cf.rd=false→ro=none) {lo:Loops α} {loops:Nat→Option Code} (hL:aat P gl cf.m n ro lo loops) {id:Nat} {live:List Nat} {outs:XE→List Nat} {body:Code}
    (hok:codeOk body=true) (hin:aa8 loops body) (hsi:aaM cf.sk n body) {g0:Sg} {w0:World} {N:Nat} {Q:Exit→Act→World→Prop} {K:XE→Tr AVal→XSt→Option α}
    (hQ:∀ x tm' σ' a' w',XIs gl g0 cf.m w0 n tm' σ' a' w' → K x tm' σ' = some r→Q x.to a' w') {f:Nat} {c:XC} {a:Act} {w:World} (hx:XIs gl g0 cf.m w0 n (tmOf gl live c.vals) c.st a w)
    (h:loopX P cf td rec n gl lo id live outs body f c K=some r):(Code.block id (.loop body)).wpIn (Fw ro) N P Q a w:=by
  refine wpIn_block (ah3 (fun j a w=>∃ c,XIs gl g0 cf.m w0 n (tmOf gl live c.vals) c.st a w∧loopX P cf td rec n gl lo id live outs body j c K=some r) (fun j a w hj=>?_) ⟨c,hx,h⟩)
  obtain ⟨c,hx,h⟩:=hj
  cases j with
  | zero=>simp [loopX] at h
  | succ j =>
    refine akc hC hR hT hP hgl hnb hro hL body hok hin hsi hx h fun x tm σ a' w' k1 k2=>?_
    cases x with
    | normal =>
      obtain ⟨c',k3,k4⟩:=anl k1 k2
      exact ⟨j,Nat.lt_succ_self j,c',k3,k4⟩
    | ret =>
      obtain ⟨c',k3,k4⟩:=anl k1 k2
      exact hQ .ret _ _ _ _ k3 k4
    | exit i =>
      obtain ⟨c',k3,k4⟩:=anl k1 k2
      show Exit.inBlock id Q (.exit i) a' w'
      simp only [XE.behind] at k4
      simp only [Exit.inBlock]
      split at k4
      · rename_i hb
        rw [if_pos (Nat.eq_of_beq_eq_true hb)]
        exact hQ .normal _ _ _ _ k3 k4
      · rename_i hb
        rw [if_neg (fun e=>by subst e; rw [Nat.beq_refl] at hb; simp at hb)]
        exact hQ (.exit i) _ _ _ _ k3 k4
theorem aat.add (hC:aa6 P gl C) (hR:RecOk C rec) (hT:ToldOk P gl td) (hP:Fine P) (hgl:cf.gl=gl) (hnb:n≤glBase) (hro:cf.rd=false→ro=none) {lo:Loops α} {loops:Nat→Option Code} (hL:aat P gl cf.m n ro lo loops) (id:Nat) (live:List Nat) (outs:XE→List Nat) (body:Code)
    (hok:codeOk body=true) (hin:aa8 loops body) (hsi:aaM cf.sk n body)
    (hlo:∀ (tm:Tr AVal) (σ:XSt) (K:XE→Tr AVal→XSt→Option α) (r:α),lo id tm σ K=some r → ∃ f,canon cf.m live tm σ (fun c=>loopX P cf td rec n gl lo id live outs body f c K)=some r) :
    aat P gl cf.m n ro lo fun i=>if i=id then some body else loops i:=by
  intro i c g0 w0 tm σ a w K r N Q hi hx h hQ
  by_cases e:i=id
  · subst e
    simp at hi
    subst hi
    obtain ⟨f,hf⟩:=hlo tm σ K r h
    obtain ⟨c',k1,k2⟩:=anl hx hf
    exact loopX_wp hC hR hT hP hgl hnb hro hL hok hin hsi hQ k1 k2
  · simp [e] at hi
    exact hL hi hx h hQ
theorem aat.none {m:Nat} {lo:Loops α}:aat P gl m n ro lo fun _=>none:=by
  intro i c g0 w0 tm σ a w K r N Q hi
  simp at hi
theorem canon_mono {m:Nat} {live:List Nat} {tm:Tr AVal} {σ:XSt} {K1 K2:XC→Option α} (hK:∀ c,K1 c=some r→K2 c=some r) (h:canon m live tm σ K1=some r):canon m live tm σ K2=some r:=by
  unfold canon at h ⊢
  split at h <;> try (simp at h; done)
  unfold aiV at h ⊢
  split at h <;> try (simp at h; done)
  split at h <;> try (simp at h; done)
  exact hK _ h
end
end Go.Proofs.YtdnbnpknpejpdaaGreatDoor.Sw
namespace Go.Proofs.YtdnbnpknpejpdaaGreatDoor.Sw
open Go.RowKit
section
variable [Sites] {α:Type} {r:α} {P:Program} {C:CallFn} {cf:Cfg} {rec:Rec1} {n:Nat} {gl:Tr AVal} {td:Told}
def aej (P:Program) (shs:Nat→Sh) (tm:Tr AVal) (σ:XSt):List ResultVar→(List AVal→Option α)→Option α
  | [],K=>K []
  | .tmp t :: r,K=>opdK tm (.tmp t) fun v=>aej P shs tm σ r fun vs=>K (v :: vs)
  | .cell a t :: r,K=>opdK tm (.tmp a) fun p=>loadK P shs σ t p fun v _ _ _=>aej P shs tm σ r fun vs=>K (v :: vs)
def resultP (l:List PVal):PVal:=match l with
  | [x]=>x
  | l=>.tup l
inductive Fo where
  | pure
  | own
  | clip
def ownR (σ:XSt) (v:AVal):Option AVal:=match v with
  | .p .nils=>some (.p .nils)
  | .arr id ep 0 len false=>match σ.get id with
    | some (.arr sz xs cur lost 0)=>chk (Nat.beq ep cur) (chk (Nat.ble lost ep) (chk (Nat.beq len xs.length) (some (.own sz xs))))
    | _=>none
  | _=>none
def clipR (v:AVal):Option AVal:=match v with
  | .p .nils=>some (.p .nils)
  | .cl xs=>some (.cl xs)
  | _=>none
def outK (o:Fo) (σ:XSt) (vs:List AVal):Option AVal:=match o,vs with
  | .pure,vs=>handsK true σ vs fun ps _=>some (.p (resultP ps))
  | .own,[v]=>ownR σ v
  | .clip,[v]=>clipR v
  | _,_=>none
def am4 (shs:Nat→Sh):List Nat→List PVal→(List PVal→Option α)→Option α
  | t :: ts,x :: xs,K=>(shs t).view x fun x'=>am4 shs ts xs fun xs'=>K (x' :: xs')
  | _,xs,K=>K xs
def fnX (P:Program) (cf:Cfg) (td:Told) (out:Fo) (rec:Rec1) (gl:Tr AVal) (lo:Nat→Loops AVal) (f:Nat) (args:List PVal):Option AVal:=match P.funcs[f]? with
  | some fn=>match fn.body with
    | some c=>chk (Nat.ble args.length glBase) (chk (Nat.ble fn.ntmps glBase) (am4 cf.shs fn.params.toList args fun args =>
      (codeK P cf td rec (max args.length fn.ntmps) (lo f) c (argsTm gl 0 (args.map .p)) ⟨0, .lf⟩ fun x tm σ=>match x with
        | .exit _=>none
        | _=>aej P cf.shs tm σ fn.results.toList fun vs=>outK out σ vs)))
    | none=>none
  | none=>none
def outS (m:Nat) (σ:XSt) (v:AVal):Option XRes:=aiV m σ [v] (reach σ 64 (upTo m 0 ++ idsA v) []) fun c=>match c.vals with
  | [v']=>some ⟨v',c.objs⟩
  | _=>none
def fnS (P:Program) (cf:Cfg) (td:Told) (rec:Rec1) (gl:Tr AVal) (lo:Loops XRes) (f:Nat) (c:XC):Option XRes:=match P.funcs[f]? with
  | some fn=>match fn.body with
    | some code=>chk (Nat.ble c.vals.length glBase) (chk (Nat.ble fn.ntmps glBase)
      (codeK P cf td rec (max c.vals.length fn.ntmps) lo code (argsTm gl 0 c.vals) c.st fun x tm σ=>match x with
        | .exit _=>none
        | _=>aej P cf.shs tm σ fn.results.toList fun vs=>outS cf.m σ (akx vs)))
    | none=>none
  | none=>none
def roundEnd (m:Nat) (x:XE) (σ:XSt):Option XRes:=match σ.get 0 with
  | some (.lp k vals .busy none)=>match x with
    | .normal=>outS m (σ.set 0 (.lp k vals .ready none)) (.p (.bool true))
    | .ret=>outS m (σ.set 0 (.lp k vals .done (some .ret))) (.p (.bool false))
    | .exit i=>outS m (σ.set 0 (.lp k vals .done (some (.exit i)))) (.p (.bool false))
  | _=>none
def roundS (P:Program) (cf:Cfg) (td:Told) (rec:Rec1) (gl:Tr AVal) (lo:Loops XRes) (k:Nat) (c:XC):Option XRes:=match c.vals,c.objs with
  | .rf .yld 0 :: args, .lp k' vals .ready none :: _=>chk (Nat.beq k' k) (match agw (Sites.site k).n (Sites.site k).ps args (tmOf gl (Sites.site k).live vals) with
    | some tm=>codeK P cf td rec (Sites.site k).n lo (Sites.site k).assign tm c.st fun x tm1 σ1=>match x with
      | .normal=>match σ1.get 0 with
        | some (.lp k1 vals1 .ready none)=>codeK P cf td rec (Sites.site k).n lo (Sites.site k).body tm1 (σ1.set 0 (.lp k1 vals1 .busy none)) fun x _ σ2=>roundEnd cf.m x σ2
        | _=>none
      | _=>none
    | none=>none)
  | _,_=>none
theorem afh {s:St} {σ:XSt} {b:Nat} {tm tmE:Tr AVal} (he:TmEq tm tmE) (hs:SE s σ b):∀ {l:List ResultVar} {K:List AVal→Option α},aej P cf.shs tm σ l K=some r →
    ∃ vs rd,aaN P tmE s l=some (vs,rd)∧K vs=some r
  | [],K,h=>⟨[],[],rfl,h⟩
  | .tmp t :: l,K,h=>by
    obtain ⟨v,h1,h⟩:=aaA (show opdK tm (.tmp t) _=some r from h)
    obtain ⟨vs,rd,h2,h⟩:=afh he hs h
    rw [← he.operand] at h1
    exact ⟨v :: vs,rd,by simp only [aaN,h1,h2],h⟩
  | .cell a t :: l,K,h=>by
    obtain ⟨v,h1,h⟩:=aaA (show opdK tm (.tmp a) _=some r from h)
    obtain ⟨z,rd1,h3,h⟩:=loadK_ok hs h
    obtain ⟨vs,rd,h2,h⟩:=afh he hs h
    rw [← he.operand] at h1
    exact ⟨z :: vs,rd1 ++ rd,by simp only [aaN,h1,h2,h3],h⟩
theorem one_rep {I:Nat→Nat→Prop} {w:World} {ps:List PVal} {us:List Value} (h:RepPs I w ps us):RepP I w (resultP ps) (if h:us.toArray.size=1 then us.toArray[0] else .tuple us.toArray):=by
  have hl:=RepPs.length h
  unfold resultP
  split
  · obtain ⟨u,us',rfl,h3,h4⟩:=h
    have h4:us' = []:=h4
    subst h4
    simpa using h3
  · rename_i hno
    have:us.length ≠ 1:=by
      rw [hl]
      intro hl
      obtain ⟨v,rfl⟩:=List.length_eq_one_iff.1 hl
      exact hno v rfl
    rw [dif_neg (by simpa using this)]
    exact ⟨us,rfl,h⟩
theorem ajg {shs:Nat→Sh}:∀ {ts:List Nat} {xs:List PVal} {K:List PVal→Option α},am4 shs ts xs K=some r→K xs=some r
  | [],_,_,h=>h
  | _ :: _,[],_,h=>h
  | t :: ts,x :: xs,K,h=>by
    have h1:=Sh.aaK (s:=shs t) (x:=x) (K:=fun x'=>am4 shs ts xs fun xs'=>K (x' :: xs')) h
    exact ajg (K:=fun xs'=>K (x :: xs')) h1
theorem immOf_nil {g:Sg} {s:Sto} {b o:Nat} (h:immOf g s [] b o):g.imm b o:=by
  rcases h with h | ⟨id,st,m,_,_,_,_,_,_,h1,_⟩ | ⟨id,cs,h1,_⟩
  · exact h
  · simp at h1
  · simp at h1
theorem akh {g g' : Sg} {S' : St} {w w' : World} (hi:Inv g St.empty.get w) (hk:Back g St.empty.get w [] g' S'.get w') (hkeep:Keeps g.imm g'.imm w w') (ids:List Nat) :
    Ext g St.empty.get w ⟨immOf g' S'.get ids,g.bx,g.rg,g.cb,g.base,g.pr⟩ (St.empty.did [] []).get w' ∧ Inv ⟨immOf g' S'.get ids,g.bx,g.rg,g.cb,g.base,g.pr⟩ (St.empty.did [] []).get w':=by
  have hnone:∀ id,St.empty.get id=none:=fun id=>Tr.get_lf id
  have hempty:(St.empty.did [] []).get=St.empty.get:=aaB _ _ _
  rw [hempty]
  have hbase:=hi.baseS
  have hb2:=hk.base
  refine ⟨⟨hkeep.trans (.mono fun _ _ h=>.inl h),fun _ _ h=>h, ?_, ?_,rfl,hk.below.mono hi.baseS, ?_,rfl,fun b hpb=>⟨hk.below.block b (hi.prS b hpb).1,fun o hi''=>?_⟩⟩,⟨fun id cs z=>?_,fun id sz n xs cur lost fz z=>?_,fun b id st m z=>?_,fun id b z=>?_,fun id id' b z=>?_,fun b o z=>?_, ?_,fun id o z=>?_,hi.prS.step hk.below.size rfl (fun _ _=>.inr rfl) (fun _ _ _ h=>⟨_,h⟩)⟩⟩
  · rintro id ep off len capd b o cap ⟨sz,n,xs,cur,lost,fz,z1,_⟩
    rw [hnone] at z1; simp at z1
  · rintro id ep i off b o ⟨sz,n,xs,cur,lost,fz,z1,_⟩
    rw [hnone] at z1; simp at z1
  · intro b o hb hi''
    rcases hi'' with hi'' | ⟨id,st,m,_,_,_,_,_,_,_,z1,_⟩ | ⟨id,cs,_,z1,_⟩
    · exact immOf_nil (hk.old b o (Nat.lt_of_lt_of_le hb hbase) hi'')
    · have:=(hk.inv.rgS _ _ _ _ z1).2.1
      omega
    · have:=(hk.inv.bxS _ _ z1).1
      omega
  · have hlt:=(hi.prS b hpb).1
    rcases hi'' with hi'' | ⟨id,st,m,_,_,_,_,_,_,_,z1,_⟩ | ⟨id,cs,_,z1,_⟩
    · exact immOf_nil (hk.old b o hlt hi'')
    · have:=(hk.inv.rgS _ _ _ _ z1).2.1
      omega
    · have:=(hk.inv.bxS _ _ z1).1
      omega
  · rw [hnone] at z; simp at z
  · rw [hnone] at z; simp at z
  · obtain ⟨⟨_,_,_,_,_,_,z1⟩,_⟩:=hi.rgS b id st m z
    rw [hnone] at z1; simp at z1
  · obtain ⟨_,_,_,_,z1⟩:=hi.bxS id b z
    rcases z1 with ⟨_,z1⟩ | ⟨_,z1⟩ <;> (rw [hnone] at z1; simp at z1)
  · obtain ⟨_,_,_,_,z1⟩:=hi.bxS id b z
    rcases z1 with ⟨_,z1⟩ | ⟨_,z1⟩ <;> (rw [hnone] at z1; simp at z1)
  · rcases z with z | ⟨id,st,m,_,_,_,_,_,_,_,z1,_⟩ | ⟨id,cs,_,z1,_⟩
    · exact hk.inv.immS b o z
    · exact (hk.inv.rgS _ _ _ _ z1).2.2
    · exact (hk.inv.bxS _ _ z1).2.1
  · have:=hk.below.size
    show g.base≤w'.heap.size
    omega
  · rw [hnone] at z; simp at z
mutual
theorem RepA.pr {g:Sg} {s:Sto} {w:World} {q:Nat→Prop}:∀ (v:AVal) (x:Value),RepA g s w v x→RepA { g with pr:=q } s w v x
  | .p _,_,h=>h
  | .agg cs,_,⟨vs,e,h1,h2⟩=>⟨vs,e,RepAs.pr cs vs h1,h2⟩
  | .tup cs,_,⟨vs,e,h1⟩=>⟨vs,e,RepAs.pr cs vs h1⟩
  | .iface _ x,_,⟨y,e,h1⟩=>⟨y,e,RepA.pr x y h1⟩
  | .cl _,_,h=>h
  | .own _ _,_,h=>h
  | .ownm _,_,h=>h
  | .box _ _,_,h=>h
  | .arr _ _ _ _ _,_,h=>h
  | .el _ _ _ _,_,h=>h
  | .fn _ cap,_,⟨vs,e,h1⟩=>⟨vs,e,RepAs.pr cap vs h1⟩
  | .fnb _ cap,_,⟨vs,e,h1⟩=>⟨vs,e,RepAs.pr cap vs h1⟩
  | .rf _ _,_,h=>h
  | .junk,_,h=>h
theorem RepAs.pr {g:Sg} {s:Sto} {w:World} {q:Nat→Prop}:∀ (vs:List AVal) (xs:List Value),RepAs g s w vs xs→RepAs { g with pr:=q } s w vs xs
  | [],_,h=>h
  | v :: vs,_,⟨y,ys,e,h1,h2⟩=>⟨y,ys,e,RepA.pr v y h1,RepAs.pr vs ys h2⟩
end
theorem Frm.pr {g:Sg} {s:Sto} {w:World} {q:Nat→Prop} {tm:Tr AVal} {tmps:Array Value} (h:Frm g s w tm tmps):Frm { g with pr:=q } s w tm tmps:=fun t x ht =>
  let ⟨v,h1,h2⟩:=h t x ht
  ⟨v,h1,RepA.pr _ _ h2⟩
theorem RepEs.pr {g:Sg} {s:Sto} {w:World} {q:Nat→Prop}:∀ {es:List (PVal × AVal)} {l:List MapEntry},RepEs g s w es l→RepEs { g with pr:=q } s w es l
  | [],_,h=>h
  | (_,_) :: _,_,⟨e,r,h0,h1,h2,h3⟩=>⟨e,r,h0,h1,RepA.pr _ _ h2,RepEs.pr h3⟩
theorem RepH.pr {g:Sg} {s:Sto} {w:World} {q:Nat→Prop}:∀ {h:HObj} {o:Go.Obj},RepH g s w h o→RepH { g with pr:=q } s w h o
  | .mp _,_,⟨ents,clock,e,h1⟩=>⟨ents,clock,e,h1.pr⟩
  | .it _ _,_,h=>h
  | .lp ..,_,⟨r,e,h1,h2,h3,h4,h5,h6,h7⟩=>⟨r,e,h1,h2,h3,h4,h5,h6,h7.pr⟩
  | .dl _,_,h=>h
theorem Inv.pr {g:Sg} {s:Sto} {w:World} {q:Nat→Prop} (hi:Inv g s w) (hq:PrOk { g with pr:=q } w.heap.size):Inv { g with pr:=q } s w:=by
  refine ⟨fun id cs h=>?_,fun id sz n xs cur lost fz h=>?_,hi.rgS,hi.bxS,hi.inj,hi.immS,hi.baseS,fun id h hh=>?_,hq⟩
  · obtain ⟨b,c,t,h1,h2,h3,h4⟩:=hi.box id cs h
    exact ⟨b,c,t,h1,h2,RepAs.pr _ _ h3,h4⟩
  · obtain ⟨h1,h2,h3,h4⟩:=hi.arr id sz n xs cur lost fz h
    refine ⟨h1,h2,h3,fun b st m hb=>?_⟩
    obtain ⟨h5,c,t,vs,h6,h7,h8⟩:=h4 b st m hb
    exact ⟨h5,c,t,vs,h6,RepAs.pr _ _ h7,h8⟩
  · obtain ⟨b,o,h1,h2,h3⟩:=hi.ho id h hh
    exact ⟨b,o,h1,h2,h3.pr⟩
theorem RepD.hid2 {w0:World} {g g' : Sg} {s s' : Sto} {w w' : World}:∀ {l:List Dfr} {ds:List Deferred},(∀ b, .hid b ∈ l→g.pr b→g'.pr b∧w'.heap[b]? = w.heap[b]? ∧ ∀ o,g'.imm b o→g.imm b o)→Hid w0 l→RepD g s w l ds→RepD g' s' w' l ds
  | [],_,_,_,h=>h
  | .hid b :: l,_,hp,hh,h=>by
    obtain ⟨t,rfl,h1,h2,h6,h3⟩:=h
    obtain ⟨h4,h5,h7⟩:=hp b (by simp) h1
    exact ⟨t,rfl,h4,by rw [h5]; exact h2,fun o ho=>h6 o (h7 o ho),RepD.hid2 (fun b' hb'=>hp b' (by simp [hb'])) hh.2.2 h3⟩
  | .mark _ :: _,_,_,hh,_=>hh.elim
  | .call _ _ :: _,_,_,hh,_=>hh.elim
theorem ama {N:Nat} {fn:Func} {tm:Tr AVal} {tmps:Array Value} {R:Ending→World→Prop} {g0:Sg} {m:Nat} {w0:World} (hp0:∀ b,g0.pr b→b < w0.heap.size) (hb0:g0.base≤w0.heap.size) :
    ∀ {dfs:List Dfr} {ds:List Deferred} {S:St} {g:Sg} {w:World} {k:Nat},Hid w0 dfs→RepD g S.get w dfs ds→Inv g S.get w→Frm g S.get w tm tmps→After g0 m w0 g w→(∀ id,k≤id→S.get id=none) →
    (∀ (g' : Sg) (S' : St) (w' : World) (k' : Nat),Inv g' S'.get w' → Frm g' S'.get w' tm tmps→After g0 m w0 g' w' → (∀ id,k' ≤ id→S'.get id=none)→(∀ id o,S.get id=some o→S'.get id=some o)→LeavesInM Fence.wide N P fn tmps R [] .returning w') →
    LeavesInM Fence.wide N P fn tmps R ds .returning w
  | [],ds,S,g,w,k,_,hD,hi,hf,ha,hk,hQ=>by
    have hD:ds = []:=hD
    subst hD
    exact hQ g S w k hi hf ha hk (fun _ _ h=>h)
  | .hid b :: l,ds,S,g,w,k,hh,hD,hi,hf,ha,hk,hQ=>by
    obtain ⟨t,rfl,h1,h2,h7,h3⟩:=hD
    obtain ⟨h4,h5,h6⟩:=hh
    let g1:Sg:={ g with pr:=fun x=>g.pr x∧x ≠ b }
    have hi1:Inv g1 S.get w:=hi.pr fun x hx=>hi.prS x hx.1
    have hf1:Frm g1 S.get w tm tmps:=hf.pr
    have ha1:After g0 m w0 g1 w:=⟨ha.base,ha.below,ha.keeps,ha.immB,fun x hx=>by
      obtain ⟨q1,q2⟩:=ha.still x hx
      exact ⟨⟨q1,fun e=>by have:=hp0 x hx; omega⟩,q2⟩,ha.bx⟩
    obtain ⟨q1,q2,q3⟩:=hi.prS b h1
    have hbase:g1.base≤b:=by
      have:=ha.base
      show g.base≤b
      omega
    obtain ⟨g2,e1,i1,b1,_⟩:=take_ho hi1 (id:=k) (hk k (Nat.le_refl _)) (h:=.dl true) (o:=.deferred (some [])) h2 hbase (fun h=>h.2 rfl) q2 q3 (fun o ho=>h7 o ho) rfl
    have hid:upd S.get k (.ho (.dl true)) k=some (.ho (.dl true)):=by simp
    obtain ⟨e2,i2⟩:=set_ho i1 hid b1 (h:=.dl false) (o:=.deferred none) rfl
    have hg:upd (upd S.get k (.ho (.dl true))) k (.ho (.dl false))=(S.did [] [(k, .ho (.dl true)),(k, .ho (.dl false))]).get:=by rw [aaB]; rfl
    have e:=e1.trans e2
    rw [hg] at e i2
    refine ⟨by simp, .inl ⟨b,_,rfl,run_takeDeferred h2, ?_⟩⟩
    refine ama hp0 hb0 (k:=k + 1) h6 (RepD.hid2 (fun b' hb' hp=>?_) h6 h3) i2 (hf1.ext e) (ha1.ext e) (fun id hid=>?_) fun g' S' w' k' f1 f2 f3 f4 f5=>hQ g' S' w' k' f1 f2 f3 f4 fun id o ho=>f5 id o ?_
    · have hne:b' ≠ b:=fun e=>by subst e; exact h5 _ hb' rfl
      obtain ⟨r1,r2⟩:=e.still
      exact ⟨by rw [r1]; exact ⟨hp,hne⟩,(r2 b' ⟨hp,hne⟩).1,(r2 b' ⟨hp,hne⟩).2⟩
    · rw [← hg,aak _ _ (by omega),aak _ _ (by omega)]
      exact hk id (by omega)
    · have hne:id ≠ k:=fun e=>by subst e; rw [hk _ (Nat.le_refl _)] at ho; simp at ho
      rw [← hg,aak _ _ hne,aak _ _ hne]
      exact ho
  | .mark _ :: _,ds,S,g,w,k,hh,_,_,_,_,_,_=>hh.elim
  | .call _ _ :: _,ds,S,g,w,k,hh,_,_,_,_,_,_=>hh.elim
theorem leaveK_wp {g0:Sg} {m:Nat} {w0:World} (hp0:∀ b,g0.pr b→b < w0.heap.size) (hb0:g0.base≤w0.heap.size) {N:Nat} {fn:Func} {tm:Tr AVal} {σ:XSt} {a:Act} {w:World} {K:List AVal→Option α} {R:Ending→World→Prop}
    (hx:XIs gl g0 m w0 n tm σ a w) (h:aej P cf.shs tm σ fn.results.toList K=some r)
    (hQ:∀ g S w' b vs rd u tmE,SE S σ b→Inv g S.get w' → After g0 m w0 g w' → Frm g S.get w' tmE a.tmps→aaN P tmE S fn.results.toList=some (vs,rd)→(results fn a.tmps).run P w' = .ok u w' → RepA g S.get w' (akx vs) u→K vs=some r→R (.returned u) w') :
    LeavesInM Fence.wide N P fn a.tmps R a.defers .returning w:=by
  obtain ⟨⟨g,S,tmE,dfs,h1,h2,h4,h5,h6,h7,hd,hh⟩,hz⟩:=hx
  refine ama hp0 hb0 (k:=σ.next) hh hd h4 h5 h7 h2.free fun g' S' w' k' f1 f2 f3 f4 f5=>?_
  have hs:SE S' σ k':=⟨fun id o ho=>f5 _ _ (h2.get id o ho),f4⟩
  obtain ⟨vs,rd,k1,hk⟩:=afh h1 hs h
  obtain ⟨u,q1,q2⟩:=akw f1 f2 k1
  exact ⟨u,q1,hQ g' S' w' k' vs rd u tmE hs f1 f3 f2 k1 q1 q2 hk⟩
theorem fnX_known (hC:aa6 P gl C) (hR:RecOk C rec) (hT:ToldOk P gl td) (hP:Fine P) (hgl:cf.gl=gl) (hm:cf.m=0) (hrd:cf.rd=false) {out:Fo} {lo:Nat→Loops AVal} {f:Nat} {args:List PVal} {v:AVal}
    (hL:∀ fn c,P.funcs[f]? = some fn→fn.body=some c→aaM cf.sk (max args.length fn.ntmps) c ∧ ∃ loops,aa8 loops c∧aat P gl cf.m (max args.length fn.ntmps) none (lo f) loops)
    (h:fnX P cf td out rec gl lo f args=some v):Known P gl f (args.map .p) (adopt 0 v).1 (adopt 0 v).2:=by
  intro g w us hi hG hr
  have hnone:∀ id,St.empty.get id=none:=fun id=>Tr.get_lf id
  unfold fnX at h
  split at h <;> try (simp at h; done)
  rename_i fn hf
  split at h <;> try (simp at h; done)
  rename_i c hb
  obtain ⟨hl1,h⟩:=aaf h
  obtain ⟨hl2,h⟩:=aaf h
  have hl1:=Nat.le_of_ble_eq_true hl1
  have hl2:=Nat.le_of_ble_eq_true hl2
  have h:=ajg h
  obtain ⟨hsi,loops,hl3,hl4⟩:=hL fn c hf hb
  refine ⟨⟨fn,c,hf,hb⟩,callsIn_of_wp_marks hf hb trivial ?_⟩
  have hlen:us.length=args.length:=by rw [RepAs.length hr]; simp
  have hn:max args.length fn.ntmps≤(us.toArray ++ Array.replicate (fn.ntmps - us.toArray.size) undef).size:=by simp; omega
  let g0:Sg:=⟨g.imm,fun _=>none,fun _=>none,fun _=>0,w.heap.size,fun _=>False⟩
  have hi0:Inv g0 St.empty.get w:=agL hi.immS
  have hr0:RepAs g0 St.empty.get w (args.map .p) us:=aaU (g:=g0) (aeG (g:=g) (agh args) hr)
  refine akc (g0:=g0) (w0:=w) hC hR hT hP hgl (by omega) (ro:=none) (fun _=>rfl) hl4 c (hP.code f fn c hf hb) hl3 hsi ⟨⟨g0,St.empty,_,[],fun _=>rfl,⟨fun id o ho=>?_,fun id _=>Tr.get_lf id⟩,hi0,ahE (g:=g0) hG hr0 (by simpa using hl1) _,hG, .refl _ _ _,rfl,trivial⟩,hn⟩ h ?_
  · have:(Tr.lf:Tr XObj).get id=some o:=ho
    rw [Tr.get_lf] at this
    simp at this
  · intro x' tm' σ' a' w' hx hk
    have fin:∀ {N:Nat},(aej P cf.shs tm' σ' fn.results.toList fun vs=>outK out σ' vs)=some v →
        LeavesInM Fence.wide N P fn a'.tmps (fun e w'=>Came g St.empty.get w (.ret (adopt 0 v).1 (St.empty.did [] (adopt 0 v).2)) e w') a'.defers .returning w':=by
      intro N hk
      refine leaveK_wp (g0:=g0) (fun _ h=>h.elim) (Nat.le_refl _) hx hk fun g' S w'' b vs rd u tmE h2 e2 ha e3 k1 e6 q3r hk=>?_
      have hk1:Back g St.empty.get w [] g' S.get w'':=⟨e2,ha.below,ha.base,fun b o hb hi=>.inl (ha.immB b o hb hi)⟩
      have hkeep:Keeps g.imm g'.imm w w'':=ha.keeps
      obtain ⟨us1,q1,q2⟩:=afg e2 e3 k1
      have e5:results fn a'.tmps=(do let vs ← fn.results.mapM (resVar a'.tmps); pure (if h:vs.size=1 then vs[0] else .tuple vs)):=rfl
      have e6' : (results fn a'.tmps).run P w'' = .ok (if h:us1.toArray.size=1 then us1.toArray[0] else .tuple us1.toArray) w'':=by
        rw [e5,Array.mapM_eq_mapM_toList]
        simp only [Sem.run_bind,Sem.run_map,q1,Result.andThen_ok,Sem.run_pure]
      rw [e6] at e6'
      simp at e6'
      subst e6'
      unfold outK at hk
      split at hk
      · obtain ⟨ps,ids,k2,k3,k4⟩:=apx h2 hk
        simp at k4
        subst k4
        have q3:=adO (fun v x ids u=>aiv (fun _=>rfl) e2 depth v x ids u) k2 q2
        obtain ⟨z1,z2⟩:=akh hi hk1 hkeep ids
        exact ⟨_,z1,z2,one_rep q3⟩
      · rename_i vE
        obtain ⟨u,us',rfl,q3,q4⟩:=q2
        have q4:us' = []:=q4
        subst q4
        unfold ownR at hk
        split at hk <;> try (simp at hk; done)
        · simp at hk
          subst hk
          obtain ⟨z1,z2⟩:=akh hi hk1 hkeep []
          exact ⟨_,z1,z2,q3⟩
        · rename_i id ep len
          split at hk <;> try (simp at hk; done)
          rename_i sz xs cur lost ho
          obtain ⟨k2,hk⟩:=aaf hk
          obtain ⟨k3,hk⟩:=aaf hk
          obtain ⟨k4,hk⟩:=aaf hk
          simp at hk
          subst hk
          have hS:S.get id=some (.arr sz xs.length (xs.map .p) cur lost 0):=h2.get _ _ ho
          have hout:outR S (.arr id ep 0 len false)=some (.own sz xs):=by
            simp only [outR,outL,outvs,outv,hS,k2,k3,k4,Nat.beq_refl]
            rw [show purs (pur S depth) (xs.map .p)=some (xs,[]) from purs_p S 11 xs]
            simp [hasDup,meets]
          obtain ⟨g3,f1,f2,f3⟩:=call_back (S:=St.empty) (b:=0) (fun _=>rfl) hi (fun _=>rfl) hk1 q3 hout rfl rfl (.inr (by simp))
          have hget:(St.empty.did [] (adopt 0 (.own sz xs)).2).get=upds St.empty.get ((match flatA (adopt 0 (.own sz xs)).1 with | true=>[] | false=>freeze St.empty []) ++ (adopt 0 (.own sz xs)).2):=by
            rw [aaB]; rfl
          exact ⟨g3,by rw [hget]; exact f1,by rw [hget]; exact f2,by rw [hget]; exact f3⟩
      · rename_i vE
        obtain ⟨u,us',rfl,q3,q4⟩:=q2
        have q4:us' = []:=q4
        subst q4
        unfold clipR at hk
        split at hk <;> simp at hk
        · subst hk
          obtain ⟨z1,z2⟩:=akh hi hk1 hkeep []
          exact ⟨_,z1,z2,q3⟩
        · rename_i xs
          subst hk
          obtain ⟨z1,z2⟩:=akh hi hk1 hkeep []
          rcases q3 with ⟨b,o,sz,vs,e7,e8,e9,e10⟩ | q
          · exact ⟨_,z1,z2, .inl ⟨b,o,sz,vs,e7,RepPs.keeps (.mono fun _ _ h=>.inl h) _ _ e8,e9,e10.mono fun _ _ h=>.inl h⟩⟩
          · exact ⟨_,z1,z2, .inr q⟩
      · simp at hk
    cases x' with
    | normal=>exact fin hk
    | ret=>exact fin hk
    | exit i=>simp at hk
theorem outS_some {g0:Sg} {m:Nat} {w0:World} {σ:XSt} {v:AVal} {res:XRes} (h:outS m σ v=some res) {g:Sg} {S:St} {w:World} {b:Nat} {u:Value} (hs:SE S σ b) (hi:Inv g S.get w) (ha:After g0 m w0 g w) (hr:RepA g S.get w v u) :
    CameS g0 m w0 res.objs res.v (.returned u) w:=by
  unfold outS at h
  obtain ⟨vs',os,hdis,hfirst,hr1,hos,h⟩:=amC h
  simp only at h
  split at h <;> simp at h
  rename_i v'
  subst h
  obtain ⟨hi',hm⟩:=canonAt_ok [] hi hs.get hdis hos (hb:=fun _=>False) (fun _ h=>h.elim)
  have h1:=acQ hm _ _ _ hr1 (⟨u,[],rfl,hr,rfl⟩:RepAs g S.get w [v] [u])
  obtain ⟨y,ys,e1,h2,h3⟩:=h1
  simp at e1
  obtain ⟨rfl,_⟩:=e1
  exact ⟨_,ha.ren hfirst (fun b hb=>.inl hb),hi',h2⟩
theorem fnS_known (hC:aa6 P gl C) (hR:RecOk C rec) (hT:ToldOk P gl td) (hP:Fine P) (hgl:cf.gl=gl) (hrd:cf.rd=false) {lo:Loops XRes} {f:Nat} {c:XC} {res:XRes} (hm:cf.m=c.objs.length)
    (hL:∀ fn code,P.funcs[f]? = some fn→fn.body=some code→aaM cf.sk (max c.vals.length fn.ntmps) code ∧ ∃ loops,aa8 loops code∧aat P gl cf.m (max c.vals.length fn.ntmps) none lo loops)
    (h:fnS P cf td rec gl lo f c=some res):KnownT P gl (.fn f) c res:=by
  intro g w us hi hG hr
  unfold fnS at h
  split at h <;> try (simp at h; done)
  rename_i fn hf
  split at h <;> try (simp at h; done)
  rename_i code hb
  obtain ⟨hl1,h⟩:=aaf h
  obtain ⟨hl2,h⟩:=aaf h
  have hl1:=Nat.le_of_ble_eq_true hl1
  have hl2:=Nat.le_of_ble_eq_true hl2
  obtain ⟨hsi,loops,hl3,hl4⟩:=hL fn code hf hb
  refine ⟨⟨fn,code,hf,hb⟩,callsIn_of_wp_marks hf hb trivial ?_⟩
  have hlen:us.length=c.vals.length:=RepAs.length hr
  have hn:max c.vals.length fn.ntmps≤(us.toArray ++ Array.replicate (fn.ntmps - us.toArray.size) undef).size:=by simp; omega
  refine akc (g0:=g) (w0:=w) hC hR hT hP hgl (by omega) (ro:=none) (fun _=>rfl) hl4 code (hP.code f fn code hf hb) hl3 hsi ⟨⟨g,c.st.to,_,[],fun _=>rfl,⟨fun id o ho=>?_,fun id hid=>?_⟩,hi,ahE hG hr hl1 _,hG, .refl _ _ _,rfl,trivial⟩,hn⟩ h ?_
  · rw [XSt.to_get,ho]; rfl
  · rw [XSt.to_get,XC.st_get]
    have:c.objs[id]? = none:=by
      rw [List.getElem?_eq_none_iff]
      exact hid
    rw [this]; rfl
  · intro x' tm' σ' a' w' hx hk
    have fin:∀ {N:Nat},(aej P cf.shs tm' σ' fn.results.toList fun vs=>outS cf.m σ' (akx vs))=some res →
        LeavesInM Fence.wide N P fn a'.tmps (CameS g c.objs.length w res.objs res.v) a'.defers .returning w':=by
      intro N hk
      refine leaveK_wp (g0:=g) (fun b hb=>(hi.prS b hb).1) hi.baseS hx hk fun g' S w'' b vs rd u tmE h2 e2 ha e3 k1 e6 q3 hk=>?_
      rw [← hm]
      exact outS_some hk h2 e2 ha q3
    cases x' with
    | normal=>exact fin hk
    | ret=>exact fin hk
    | exit i=>simp at hk
theorem XIs.setLp {g0:Sg} {m:Nat} {w0:World} {tm:Tr AVal} {σ:XSt} {a:Act} {w:World} (hx:XIs gl g0 m w0 n tm σ a w) {l:Nat} (hm:0 < m) (hl:g0.bx 0=some l) {k:Nat} {vals:List AVal} {st st' : LoopState} {pend pend' : Option Code}
    (hσ:σ.get 0=some (.lp k vals st pend)):∃ rc:Loop,w.heap[l]? = some (.loop rc)∧rc.state=st∧rc.pending=pend∧XIs gl g0 m w0 n tm (σ.set 0 (.lp k vals st' pend')) a (w.putObj l (.loop { rc with state:=st',pending:=pend' })):=by
  obtain ⟨⟨g,S,tmE,dfs,h1,h2,hi,hf,hG,ha,hd,hh⟩,hz⟩:=hx
  have hb:=ha.bx 0 hm l hl
  have hget:S.get 0=some (XObj.lp k vals st pend).to:=h2.get _ _ hσ
  obtain ⟨o,q1,rc,rfl,q2,q3,q4,q5,q6,q7,q8⟩:=hi.at_ho hget hb
  obtain ⟨z1,z2⟩:=set_ho hi hget hb (h:=.lp (tmOf .lf (Sites.site k).live vals) (Sites.site k).n (Sites.site k).ps (Sites.site k).assign (Sites.site k).body st' pend') (o:=.loop { rc with state:=st',pending:=pend' }) ⟨_,rfl,rfl,rfl,q4,q5,q6,q7,q8⟩
  have hg:upd S.get 0 (.ho (.lp (tmOf .lf (Sites.site k).live vals) (Sites.site k).n (Sites.site k).ps (Sites.site k).assign (Sites.site k).body st' pend'))=(S.did [] [(0,(XObj.lp k vals st' pend').to)]).get:=(aaB S [] [(0,(XObj.lp k vals st' pend').to)]).symm
  rw [hg] at z1 z2
  refine ⟨rc,q1,q2,q3,⟨⟨g,_,tmE,dfs,h1,h2.set (aaB _ _ _) (Nat.le_refl _) (h2.lt hσ),z2,hf.ext z1,hG.ext z1,ha.ext z1,hd.ext z1,hh⟩,hz⟩⟩
theorem roundS_known (hC:aa6 P gl C) (hR:RecOk C rec) (hT:ToldOk P gl td) (hP:Fine P) (hgl:cf.gl=gl) (hrd:cf.rd=true) {lo:Loops XRes} {k:Nat} {c:XC} {res:XRes} (hm:cf.m=c.objs.length)
    (hL:∀ l,aaM cf.sk (Sites.site k).n (Sites.site k).assign∧aaM cf.sk (Sites.site k).n (Sites.site k).body ∧ ∃ loops,aa8 loops (Sites.site k).assign∧aa8 loops (Sites.site k).body∧aat P gl cf.m (Sites.site k).n (some l) lo loops)
    (h:roundS P cf td rec gl lo k c=some res):KnownT P gl .yld c res:=by
  intro g w us hi hG hr id args0 hc
  unfold roundS at h
  split at h <;> try (simp at h; done)
  rename_i args k' vals rest hv ho
  obtain ⟨hkk,h⟩:=aaf h
  have hkk:=Nat.eq_of_beq_eq_true hkk
  subst hkk
  rw [hv] at hc hr
  simp at hc
  obtain ⟨rfl,rfl⟩:=hc
  obtain ⟨u0,us',rfl,⟨l0,hl0,rfl⟩,hr⟩:=hr
  split at h <;> try (simp at h; done)
  rename_i tm0 hput
  have hget:c.st.to.get 0=some (XObj.lp k' vals .ready none).to:=by rw [XSt.to_get,XC.st_get,ho]; rfl
  obtain ⟨o,q1,rc,rfl,q2,q3,q4,q5,q6,⟨q7,q8,q9,q10⟩,q11⟩:=hi.at_ho hget hl0
  have hfr:Frm g c.st.to.get w (tmOf gl (Sites.site k').live vals) rc.tmps:=by
    intro t x ht
    have key:(tmOf .lf (Sites.site k').live vals).get t=some x ∨ gl.get t=some x:=by
      have:∀ (ts:List Nat) (vs:List AVal),(tmOf gl ts vs).get t=some x→(tmOf .lf ts vs).get t=some x ∨ gl.get t=some x:=by
        intro ts
        induction ts with
        | nil=>intro vs h; cases vs <;> exact .inr h
        | cons t' ts ih =>
          intro vs h
          cases vs with
          | nil=>exact .inr h
          | cons v vs =>
            simp only [tmOf,Tr.aa0] at h ⊢
            split at h
            · rename_i e; rw [if_pos e]; exact .inl h
            · rename_i e; rw [if_neg e]; exact ih vs h
      exact this _ _ ht
    rcases key with h1 | h1
    · exact q11 t x h1
    · obtain ⟨k1,y,rfl,k2⟩:=hG t x h1
      exact ⟨_,by simp only [slot]; rw [if_neg (by omega)],k2⟩
  obtain ⟨p1,p2,p3⟩:=aiu q8 hput hfr hr q7
  have hz:(rc.params.zip us'.toArray).foldl (fun tmps (t,a)=>tmps.setIfInBounds t a) rc.tmps=((Sites.site k').ps.zip us').foldl (fun tmps (t,a)=>tmps.setIfInBounds t a) rc.tmps:=by
    rw [← Array.foldl_toList,Array.toList_zip,q4]
  refine ⟨l0,rc,hl0,q1,by rw [List.tail_cons,p1, ← q4]; simp, ?_⟩
  rw [List.tail_cons,hz,q5,q6]
  obtain ⟨hs1,hs2,loops,hl1,hl2,hl3⟩:=hL l0
  have hmpos:0 < cf.m:=by rw [hm,ho]; simp
  refine roundIn_of_wpIn (F:=Fence.wide) trivial ?_
  refine akc (g0:=g) (w0:=w) hC hR hT hP hgl q8 (ro:=some l0) (fun e=>by rw [hrd] at e; cases e) hl3 _ q9 hl1 hs1 ⟨⟨g,c.st.to,tm0,[],fun _=>rfl,⟨fun id o ho=>?_,fun id hid=>?_⟩,hi,p2,hG, .refl _ _ _,rfl,trivial⟩,by rw [p3]; exact q7⟩ h ?_
  · rw [XSt.to_get,ho]; rfl
  · rw [XSt.to_get,XC.st_get]
    have:c.objs[id]? = none:=by
      rw [List.getElem?_eq_none_iff]
      exact hid
    rw [this]; rfl
  · intro x1 tm1 σ1 a1 w1 hx1 hk
    cases x1 <;> try (simp at hk; done)
    simp only at hk
    split at hk <;> try (simp at hk; done)
    rename_i k1 vals1 hσ1
    obtain ⟨rc1,r1,r2,r3,hx2⟩:=hx1.setLp (st':=.busy) (pend':=none) hmpos hl0 hσ1
    have e1:({ rc1 with state:=.busy,pending:=none }:Loop) = { rc1 with state:=.busy }:=by rw [← r3]
    rw [e1] at hx2
    refine ⟨_,run_beginRound r1 r2, ?_⟩
    refine akc (g0:=g) (w0:=w) hC hR hT hP hgl q8 (ro:=some l0) (fun e=>by rw [hrd] at e; cases e) hl3 _ q10 hl2 hs2 hx2 hk ?_
    intro x2 tm2 σ2 a2 w2 hx3 hk2
    unfold roundEnd at hk2
    split at hk2 <;> try (simp at hk2; done)
    rename_i k2 vals2 hσ2
    have fin:∀ {st' : LoopState} {pend' : Option Code} {b:Bool},outS cf.m (σ2.set 0 (.lp k2 vals2 st' pend')) (.p (.bool b))=some res →
        ∃ rc2:Loop,w2.heap[l0]? = some (.loop rc2)∧rc2.state = .busy∧rc2.pending=none∧CameS g c.objs.length w res.objs res.v (.returned (.bool b)) (w2.putObj l0 (.loop { rc2 with state:=st',pending:=pend' })):=by
      intro st' pend' b hout
      obtain ⟨rc2,s1,s2,s3,hx4⟩:=hx3.setLp (st':=st') (pend':=pend') hmpos hl0 hσ2
      obtain ⟨⟨g4,S4,tmE4,dfs4,h1,h2,h4,h5,h6,h7,_,_⟩,_⟩:=hx4
      refine ⟨rc2,s1,s2,s3, ?_⟩
      rw [← hm]
      exact outS_some hout h2 h4 h7 (show RepA g4 S4.get _ (.p (.bool b)) (.bool b) from rfl)
    cases x2 with
    | normal =>
      obtain ⟨rc2,s1,s2,s3,s4⟩:=fin hk2
      exact ⟨_,_,run_endRound none s1,s4⟩
    | ret =>
      obtain ⟨rc2,s1,s2,s3,s4⟩:=fin hk2
      exact ⟨_,_,run_endRound (some .ret) s1,s4⟩
    | exit i =>
      obtain ⟨rc2,s1,s2,s3,s4⟩:=fin hk2
      exact ⟨_,_,run_endRound (some (.exit i)) s1,s4⟩
end
end Go.Proofs.YtdnbnpknpejpdaaGreatDoor.Sw
