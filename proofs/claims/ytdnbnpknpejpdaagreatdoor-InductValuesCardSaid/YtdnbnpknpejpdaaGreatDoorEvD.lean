/- A verified evaluator over the code that the model runs, and a machine over it for runs with unknown values: their words, their operations, and what they stand for. -/
import Derived.Test.YtdnbnpknpejpdaaGreatDoorEvC
import Derived.WideShapes
import Derived.ChangeSlices
import Derived.Deep.Slices
import Derived.Deep.Strs
import Derived.OpenShut
set_option linter.unusedVariables false
set_option linter.unusedSimpArgs false
set_option linter.unusedSectionVars false
namespace Go.Proofs.YtdnbnpknpejpdaaGreatDoor.Sw
open Go.RowKit
section
variable [Sites] {P:Program} {gl:Tr AVal} {cf:Cfg}
def goodV (v:AVal):Bool:=match v with
  | .p _=>true
  | .own _ _=>true
  | .cl _=>true
  | _=>false
def memoX (rec:Rec1):Memo:=fun f args=>match unP args with
  | some ps=>match rec f ps with
    | some v=>some (.ret (adopt 0 v).1 (St.empty.did [] (adopt 0 v).2))
    | none=>none
  | none=>none
def aaz (P:Program) (gl:Tr AVal) (rec:Rec1):Prop:=∀ f ps v,rec f ps=some v→goodV v=true∧Known P gl f (ps.map .p) (adopt 0 v).1 (adopt 0 v).2
theorem unP_some:∀ {l:List AVal} {ps:List PVal},unP l=some ps→l=ps.map .p
  | [],ps,h=>by simp [unP] at h; subst h; rfl
  | .p x :: l,ps,h=>by
    simp only [unP] at h
    split at h <;> simp at h
    rename_i xs hx
    subst h
    rw [unP_some hx]; rfl
  | .agg _ :: _,_,h | .tup _ :: _,_,h | .iface _ _ :: _,_,h | .cl _ :: _,_,h | .own _ _ :: _,_,h | .ownm _ :: _,_,h | .box _ _ :: _,_,h | .arr _ _ _ _ _ :: _,_,h
  | .el _ _ _ _ :: _,_,h | .fn _ _ :: _,_,h | .fnb _ _ :: _,_,h | .rf _ _ :: _,_,h | .junk :: _,_,h=>by simp [unP] at h
theorem ble_self (n:Nat):Nat.ble n n=true:=Nat.ble_eq_true_of_le (Nat.le_refl n)
theorem ajZ {rec:Rec1} (h:aaz P gl rec):MemoOk P gl (memoX rec):=fun f args r hm=>by
  unfold memoX at hm
  split at hm <;> try (simp at hm; done)
  rename_i ps hp
  split at hm <;> simp at hm
  rename_i v hv
  rw [unP_some hp]
  exact ⟨_,_,hm.symm,(h f ps v hv).2⟩
theorem outR_own (sz:Nat) (xs:List PVal):outR (St.empty.did [] (adopt 0 (.own sz xs)).2) (adopt 0 (.own sz xs)).1=some (.own sz xs):=by
  have hg:(St.empty.did [] [(0,Obj.arr sz xs.length (xs.map .p) 0 0 0)]).get 0=some (.arr sz xs.length (xs.map .p) 0 0 0):=by
    rw [aaB]; rfl
  simp only [adopt,adopt1]
  simp only [outR,outL,outvs,outv,hg,Nat.beq_refl,ble_self]
  rw [show purs (pur (St.empty.did [] [(0,Obj.arr sz xs.length (xs.map .p) 0 0 0)]) depth) (xs.map .p)=some (xs,[]) from purs_p _ 11 xs]
  simp [hasDup,meets]
theorem recOk {rec:Rec1} (h:aaz P gl rec) (imp:Nat→Bool) (k n:Nat):RecOk (evCall (memoX rec) gl imp P k (n + 1)) rec:=fun f ps v hv=>by
  refine ⟨(adopt 0 v).1,St.empty.did [] (adopt 0 v).2,by simp [evCall,memoX,agh,hv], ?_⟩
  have hg:=(h f ps v hv).1
  cases v <;> simp [goodV] at hg
  · exact .inl ⟨rfl,rfl⟩
  · exact .inr ⟨_,rfl,rfl⟩
  · exact .inl ⟨outR_own _ _,rfl⟩
def noTold:Told:=fun _ _ _ _=>none
theorem noTold_ok:ToldOk P gl noTold:=fun _ _ _ _ _ h=>by simp [noTold] at h
theorem fnX_step (hP:Fine P) {rec:Rec1} (h:aaz P gl rec) {td:Told} (hT:ToldOk P gl td) (hgl:cf.gl=gl) (hm:cf.m=0) (hrd:cf.rd=false) {out:Fo} {lo:Nat→Loops AVal} {f:Nat} {args:List PVal} {v:AVal} (hg:goodV v=true)
    (hL:∀ fn c,P.funcs[f]? = some fn→fn.body=some c→aaM cf.sk (max args.length fn.ntmps) c ∧ ∃ loops,aa8 loops c∧aat P gl cf.m (max args.length fn.ntmps) none (lo f) loops)
    (hx:fnX P cf td out rec gl lo f args=some v):goodV v=true∧Known P gl f (args.map .p) (adopt 0 v).1 (adopt 0 v).2 :=
  ⟨hg,fnX_known (C:=evCall (memoX rec) gl cf.imp P 0 1) (ab7 (ajZ h) hP 1) (recOk h cf.imp 0 0) hT hP hgl hm hrd hL hx⟩
end
end Go.Proofs.YtdnbnpknpejpdaaGreatDoor.Sw
namespace Go.Proofs.YtdnbnpknpejpdaaGreatDoor.Sw
open Go.RowKit
def cOf (P:Program) (t:Nat):Cs:=match P.underlying t with
  | some (.int k)=>.int k
  | some .bool=>.bool
  | some .string=>.str
  | _=>.opq
def cellsOf (P:Program):Nat→Nat→Option (List Cs)
  | 0,_=>none
  | d + 1,t=>match P.underlying t with
    | some (.struct fs)=>fs.toList.foldl (fun acc f=>match acc,cellsOf P d f.type with
      | some l,some r=>some (l ++ r)
      | _,_=>none) (some [])
    | some (.array n e)=>match Nat.ble n 4,cellsOf P d e with
      | true,some r=>some (List.replicate n r).flatten
      | _,_=>none
    | some _=>some [cOf P t]
    | none=>none
def shOf (P:Program) (t:Nat):Sh:=match P.underlying t with
  | some (.struct _)=>match cellsOf P 6 t with
    | some l=>.agg l
    | none=>.one .opq
  | some (.array _ _)=>match cellsOf P 6 t with
    | some l=>.agg l
    | none=>.one .opq
  | _=>.one (cOf P t)
def rsOf (P:Program) (t:Nat):Rs:=match P.underlying t with
  | some (.tuple ts)=>.many (ts.toList.map (shOf P))
  | _=>.one (shOf P t)
def sitesOf (P:Program) (ty:List (Nat × Nat)) (own clip:List Nat) (site:Nat):Rs:=match own.elem site,clip.elem site with
  | true,_=>.own
  | false,true=>.clip
  | false,false=>match ty.lookup site with
    | some t=>rsOf P t
    | none=>.many []
def ana:Code→Option Code
  | .loop c=>some c
  | _=>none
def aes (id:Nat):Code→Option Code
  | .seq a b=>match aes id a with
    | some c=>some c
    | none=>aes id b
  | .cond _ a b=>match aes id a with
    | some c=>some c
    | none=>aes id b
  | .block i x=>match ana x,Nat.beq i id with
    | some c,true=>some c
    | _,_=>aes id x
  | .loop c=>aes id c
  | .scope c=>aes id c
  | _=>none
def aas:Code→List (Nat × Code)
  | .seq a b=>aas a ++ aas b
  | .cond _ a b=>aas a ++ aas b
  | .block i x=>match ana x with
    | some c=>[(i,c)]
    | none=>aas x
  | .scope c=>aas c
  | _=>[]
def ximpL (l:List Nat) (f:Nat):Bool:=match Nat.ble 1000000 f with
  | true=>true
  | false=>l.elem f
def tmpOf:Operand→Option Nat
  | .tmp t=>some t
  | _=>none
def adB (t:Nat):Code→Option (List Nat × Code × Code)
  | .seq a b=>match adB t a with
    | some c=>some c
    | none=>adB t b
  | .cond _ a b=>match adB t a with
    | some c=>some c
    | none=>adB t b
  | .block _ x=>adB t x
  | .loop c=>adB t c
  | .scope c=>adB t c
  | .rangeFunc g ps as bd=>match tmpOf g with
    | some u=>match Nat.beq u t with
      | true=>some (ps.toList,as,bd)
      | false=>none
    | none=>none
  | _=>none
def siteAt (live:List Nat) (n t:Nat) (c:Code):Site:=match adB t c with
  | some (ps,as,bd)=>⟨live,n,ps,as,bd⟩
  | none=>⟨live,n,[], .skip, .skip⟩
def siteOf:List (Nat × Site)→Nat→Site
  | [],_=>⟨[],0,[], .skip, .skip⟩
  | (k,s) :: r,i=>match Nat.beq k i with
    | true=>s
    | false=>siteOf r i
def keyOf (l:List (Nat × Nat)) (t:Nat):Nat:=match l.lookup t with
  | some k=>k
  | none=>1000000
def ajQ (l:List (Nat × XE × List Nat)) (t:Nat) (x:XE):List Nat:=match l with
  | []=>[]
  | (u,y,m) :: r=>match Nat.beq u t,(match x,y with
      | .normal, .normal=>true
      | .ret, .ret=>true
      | .exit i, .exit j=>Nat.beq i j
      | _,_=>false) with
    | true,true=>m
    | _,_=>ajQ r t x
def abj:Code→List (Nat × List Nat × Code × Code)
  | .seq a b=>abj a ++ abj b
  | .cond _ a b=>abj a ++ abj b
  | .block _ x=>match ana x with
    | some _=>[]
    | none=>abj x
  | .scope c=>abj c
  | .rangeFunc g ps as bd=>match tmpOf g with
    | some t=>[(t,ps.toList,as,bd)]
    | none=>[]
  | _=>[]
theorem akv [Sites] {sk:Nat→Nat} {n:Nat}:∀ (c:Code),(∀ p ∈ abj c,Sites.site (sk p.1) = ⟨(Sites.site (sk p.1)).live,n,p.2.1,p.2.2.1,p.2.2.2⟩)→aaM sk n c:=by
  intro c
  induction c with
  | seq a b ih1 ih2 =>
    intro h
    exact ⟨ih1 fun p hp=>h p (List.mem_append_left _ hp),ih2 fun p hp=>h p (List.mem_append_right _ hp)⟩
  | cond o a b ih1 ih2 =>
    intro h
    exact ⟨ih1 fun p hp=>h p (List.mem_append_left _ hp),ih2 fun p hp=>h p (List.mem_append_right _ hp)⟩
  | block i x ih =>
    intro h
    cases x with
    | loop c=>trivial
    | _=>exact ih h
  | scope c ih=>exact ih
  | rangeFunc g ps as bd =>
    intro h
    cases g with
    | tmp t=>exact h (t,ps.toList,as,bd) (by simp [abj,tmpOf])
    | _=>trivial
  | _=>intro _; trivial
theorem aar {loops:Nat→Option Code}:∀ (c:Code),(∀ p ∈ aas c,loops p.1=some p.2)→aa8 loops c:=by
  intro c
  induction c with
  | seq a b ih1 ih2 =>
    intro h
    exact ⟨ih1 fun p hp=>h p (List.mem_append_left _ hp),ih2 fun p hp=>h p (List.mem_append_right _ hp)⟩
  | cond o a b ih1 ih2 =>
    intro h
    exact ⟨ih1 fun p hp=>h p (List.mem_append_left _ hp),ih2 fun p hp=>h p (List.mem_append_right _ hp)⟩
  | block i x ih =>
    intro h
    cases x with
    | loop c=>exact h (i,c) (by simp [aas,ana])
    | _=>exact ih h
  | scope c ih=>exact ih
  | _=>intro _; trivial
def XLoops [Sites] {α:Type} (P:Program) (gl:Tr AVal) (m n:Nat) (ro:Option Nat) (lo:Loops α) (c:Code):Prop:=∃ loops,aa8 loops c∧aat P gl m n ro lo loops
theorem fnX_fact [Sites] {P:Program} {gl:Tr AVal} {cf:Cfg} (hP:Fine P) {rec:Rec1} (h:aaz P gl rec) {td:Told} (hT:ToldOk P gl td) (hgl:cf.gl=gl) (hm:cf.m=0) (hrd:cf.rd=false) {out:Fo} {lo:Loops AVal} {f:Nat} {args:List PVal} {v:AVal} {fn:Func} {c:Code} {n:Nat}
    (hf:P.funcs[f]? = some fn) (hb:fn.body=some c) (hn:max args.length fn.ntmps=n) (hS:aaM cf.sk n c) (hL:XLoops P gl 0 n none lo c)
    (hx:fnX P cf td out rec gl (fun _=>lo) f args=some v) (hg:goodV v=true):goodV v=true∧Known P gl f (args.map .p) (adopt 0 v).1 (adopt 0 v).2 :=
  fnX_step hP h hT hgl hm hrd hg (fun fn' c' hf' hb'=>by
    obtain rfl:fn' = fn:=Option.some.inj (hf'.symm.trans hf)
    obtain rfl:c' = c:=Option.some.inj (hb'.symm.trans hb)
    rw [hn,hm]
    exact ⟨hS,hL⟩) hx
theorem fnS_fact [Sites] {P:Program} {gl:Tr AVal} {cf:Cfg} (hP:Fine P) {rec:Rec1} (h:aaz P gl rec) {td:Told} (hT:ToldOk P gl td) (hgl:cf.gl=gl) (hrd:cf.rd=false) {lo:Loops XRes} {f:Nat} {c:XC} {res:XRes} {fn:Func} {code:Code} {n m:Nat}
    (hf:P.funcs[f]? = some fn) (hb:fn.body=some code) (hn:max c.vals.length fn.ntmps=n) (hm:cf.m=m) (hm' : c.objs.length=m) (hS:aaM cf.sk n code) (hL:XLoops P gl m n none lo code)
    (hx:fnS P cf td rec gl lo f c=some res):KnownT P gl (.fn f) c res :=
  fnS_known (C:=evCall (memoX rec) gl cf.imp P 0 1) (ab7 (ajZ h) hP 1) (recOk h cf.imp 0 0) hT hP hgl hrd (hm.trans hm'.symm) (fun fn' c' hf' hb'=>by
    obtain rfl:fn' = fn:=Option.some.inj (hf'.symm.trans hf)
    obtain rfl:c' = code:=Option.some.inj (hb'.symm.trans hb)
    rw [hn,hm]
    exact ⟨hS,hL⟩) hx
theorem roundS_fact [Sites] {P:Program} {gl:Tr AVal} {cf:Cfg} (hP:Fine P) {rec:Rec1} (h:aaz P gl rec) {td:Told} (hT:ToldOk P gl td) (hgl:cf.gl=gl) (hrd:cf.rd=true) {lo:Loops XRes} {k:Nat} {c:XC} {res:XRes} {as bd:Code} {n m:Nat}
    (ha:(Sites.site k).assign=as) (hb:(Sites.site k).body=bd) (hn:(Sites.site k).n=n) (hm:cf.m=m) (hm' : c.objs.length=m) (hS1:aaM cf.sk n as) (hS2:aaM cf.sk n bd)
    (hL:∀ l, ∃ loops,aa8 loops as∧aa8 loops bd∧aat P gl m n (some l) lo loops) (hx:roundS P cf td rec gl lo k c=some res):KnownT P gl .yld c res:=by
  subst ha hb hn
  refine roundS_known (C:=evCall (memoX rec) gl cf.imp P 0 1) (ab7 (ajZ h) hP 1) (recOk h cf.imp 0 0) hT hP hgl hrd (hm.trans hm'.symm) (fun l=>⟨hS1,hS2, ?_⟩) hx
  rw [hm]
  exact hL l
def tellFn {I O:Type} (f:Nat) (rd:∀ {α:Type},XC→(I→Option α)→Option α) (T:I→Option XRes) (rdo:∀ {α:Type},XRes→(O→Option α)→Option α) (ko:∀ {α:Type},(XRes→Option α)→O→Option α) (rest:Told):Told:=fun α t c K=>match t with
  | .fn g=>match Nat.beq g f with
    | true=>rd c fun s=>bindK (T s) fun res=>rdo res (ko K)
    | false=>rest α t c K
  | .yld=>rest α t c K
theorem aa9 [Sites] {P:Program} {gl:Tr AVal} {I O:Type} {f:Nat} {rd:∀ {α:Type},XC→(I→Option α)→Option α} {T:I→Option XRes} {rdo:∀ {α:Type},XRes→(O→Option α)→Option α} {ko:∀ {α:Type},(XRes→Option α)→O→Option α} {rest:Told}
    (mk:I→XC) (mko:O→XRes) (hrd:∀ {α:Type} {r:α} {c:XC} {K:I→Option α},rd c K=some r → ∃ s,c=mk s∧K s=some r) (hT:∀ s res,T s=some res→KnownT P gl (.fn f) (mk s) res)
    (hrdo:∀ {α:Type} {r:α} {x:XRes} {K:O→Option α},rdo x K=some r → ∃ o,x=mko o∧K o=some r) (hko:∀ {α:Type} (K:XRes→Option α) (o:O),ko K o=K (mko o)) (hrest:ToldOk P gl rest):ToldOk P gl (tellFn f rd T rdo ko rest):=by
  intro α t c K r h
  cases t with
  | yld=>exact hrest α .yld c K r h
  | fn g =>
    simp only [tellFn] at h
    split at h
    · rename_i hg
      have hg:=Nat.eq_of_beq_eq_true hg
      subst hg
      obtain ⟨s,e1,h1⟩:=hrd h
      obtain ⟨res,hres,h2⟩:=adV h1
      obtain ⟨o,e2,h3⟩:=hrdo h2
      rw [hko] at h3
      subst e1 e2
      exact ⟨_,hT s _ hres,h3⟩
    · exact hrest α (.fn g) c K r h
def isSite (k:Nat):List XObj→Bool
  | .lp k' _ _ _ :: _=>Nat.beq k' k
  | _=>false
def tellRd {I O:Type} (k:Nat) (rd:∀ {α:Type},XC→(I→Option α)→Option α) (T:I→Option XRes) (rdo:∀ {α:Type},XRes→(O→Option α)→Option α) (ko:∀ {α:Type},(XRes→Option α)→O→Option α) (rest:Told):Told:=fun α t c K=>match t with
  | .yld=>match isSite k c.objs with
    | true=>rd c fun s=>bindK (T s) fun res=>rdo res (ko K)
    | false=>rest α t c K
  | .fn _=>rest α t c K
theorem ajm [Sites] {P:Program} {gl:Tr AVal} {I O:Type} {k:Nat} {rd:∀ {α:Type},XC→(I→Option α)→Option α} {T:I→Option XRes} {rdo:∀ {α:Type},XRes→(O→Option α)→Option α} {ko:∀ {α:Type},(XRes→Option α)→O→Option α} {rest:Told}
    (mk:I→XC) (mko:O→XRes) (hrd:∀ {α:Type} {r:α} {c:XC} {K:I→Option α},rd c K=some r → ∃ s,c=mk s∧K s=some r) (hT:∀ s res,T s=some res→KnownT P gl .yld (mk s) res)
    (hrdo:∀ {α:Type} {r:α} {x:XRes} {K:O→Option α},rdo x K=some r → ∃ o,x=mko o∧K o=some r) (hko:∀ {α:Type} (K:XRes→Option α) (o:O),ko K o=K (mko o)) (hrest:ToldOk P gl rest):ToldOk P gl (tellRd k rd T rdo ko rest):=by
  intro α t c K r h
  cases t with
  | fn g=>exact hrest α (.fn g) c K r h
  | yld =>
    simp only [tellRd] at h
    split at h
    · obtain ⟨s,e1,h1⟩:=hrd h
      obtain ⟨res,hres,h2⟩:=adV h1
      obtain ⟨o,e2,h3⟩:=hrdo h2
      rw [hko] at h3
      subst e1 e2
      exact ⟨_,hT s _ hres,h3⟩
    · exact hrest α .yld c K r h
def good (x:Option AVal):Option AVal:=match x with
  | some v=>match goodV v with
    | true=>some v
    | false=>none
  | none=>none
theorem good_some {x:Option AVal} {v:AVal} (h:good x=some v):x=some v∧goodV v=true:=by
  unfold good at h
  split at h
  · split at h <;> simp at h
    rename_i hg
    subst h
    exact ⟨rfl,hg⟩
  · simp at h
end Go.Proofs.YtdnbnpknpejpdaaGreatDoor.Sw
namespace Go.Proofs.YtdnbnpknpejpdaaGreatDoor.Sw
open Go.RowKit
section
variable {P:Program} {gl:Tr AVal}
structure EntX (P:Program) (gl:Tr AVal) where
  f:Nat
  run:Rec1→List PVal→Option AVal
  ok:∀ {rec:Rec1},aaz P gl rec → ∀ (ps:List PVal) (v:AVal),run rec ps=some v→goodV v=true→goodV v=true∧Known P gl f (ps.map .p) (adopt 0 v).1 (adopt 0 v).2
def run0 (F:Rec1→Option AVal) (rec:Rec1):List PVal→Option AVal
  | []=>F rec
  | _=>none
def run1 (F:Rec1→PVal→Option AVal) (rec:Rec1):List PVal→Option AVal
  | [a]=>F rec a
  | _=>none
def run2 (F:Rec1→PVal→PVal→Option AVal) (rec:Rec1):List PVal→Option AVal
  | [a,b]=>F rec a b
  | _=>none
def run3 (F:Rec1→PVal→PVal→PVal→Option AVal) (rec:Rec1):List PVal→Option AVal
  | [a,b,c]=>F rec a b c
  | _=>none
def ent0 (f:Nat) (F:Rec1→Option AVal) (h:∀ {rec:Rec1},aaz P gl rec → ∀ {v:AVal},F rec=some v→goodV v=true→goodV v=true∧Known P gl f (([]:List PVal).map .p) (adopt 0 v).1 (adopt 0 v).2):EntX P gl :=
  ⟨f,run0 F,fun hr ps _ hv hg=>match ps,hv with
    | [],hv=>h hr hv hg⟩
def ent1 (f:Nat) (F:Rec1→PVal→Option AVal) (h:∀ {rec:Rec1},aaz P gl rec → ∀ {a:PVal} {v:AVal},F rec a=some v→goodV v=true→goodV v=true∧Known P gl f ([a].map .p) (adopt 0 v).1 (adopt 0 v).2):EntX P gl :=
  ⟨f,run1 F,fun hr ps _ hv hg=>match ps,hv with
    | [_],hv=>h hr hv hg⟩
def ent2 (f:Nat) (F:Rec1→PVal→PVal→Option AVal) (h:∀ {rec:Rec1},aaz P gl rec → ∀ {a b:PVal} {v:AVal},F rec a b=some v→goodV v=true→goodV v=true∧Known P gl f ([a,b].map .p) (adopt 0 v).1 (adopt 0 v).2):EntX P gl :=
  ⟨f,run2 F,fun hr ps _ hv hg=>match ps,hv with
    | [_,_],hv=>h hr hv hg⟩
def ent3 (f:Nat) (F:Rec1→PVal→PVal→PVal→Option AVal) (h:∀ {rec:Rec1},aaz P gl rec → ∀ {a b c:PVal} {v:AVal},F rec a b c=some v→goodV v=true→goodV v=true∧Known P gl f ([a,b,c].map .p) (adopt 0 v).1 (adopt 0 v).2):EntX P gl :=
  ⟨f,run3 F,fun hr ps _ hv hg=>match ps,hv with
    | [_,_,_],hv=>h hr hv hg⟩
def look (l:List (EntX P gl)) (rec:Rec1) (f:Nat) (ps:List PVal):Option AVal:=match l with
  | []=>none
  | e :: r=>match Nat.beq e.f f with
    | true=>e.run rec ps
    | false=>look r rec f ps
theorem look_known {rec:Rec1} (h:aaz P gl rec) {f:Nat} {ps:List PVal} {v:AVal} (hg:goodV v=true):∀ {l:List (EntX P gl)},look l rec f ps=some v→goodV v=true∧Known P gl f (ps.map .p) (adopt 0 v).1 (adopt 0 v).2
  | [],hv=>by simp [look] at hv
  | e :: r,hv=>by
    unfold look at hv
    split at hv
    · rename_i hb
      have:=Nat.eq_of_beq_eq_true hb
      subst this
      exact e.ok h ps v hv hg
    · exact look_known h hg hv
def level (l:List (EntX P gl)):Nat→Rec1
  | 0=>fun _ _=>none
  | n + 1=>fun f ps=>good (look l (level l n) f ps)
theorem aph (l:List (EntX P gl)):∀ n,aaz P gl (level l n)
  | 0=>fun f ps v hv=>by simp [level] at hv
  | n + 1=>fun f ps v hv=>by
    obtain ⟨h1,h2⟩:=good_some (show good (look l (level l n) f ps)=some v from hv)
    exact look_known (aph l n) h2 h1
end
end Go.Proofs.YtdnbnpknpejpdaaGreatDoor.Sw
namespace Go.Proofs.YtdnbnpknpejpdaaGreatDoor.Sw
open Go.RowKit Go.ChangeShapes Go.WideShapes
def old (w:World):Nat→Nat→Prop:=fun b _=>b < w.heap.size
theorem known_args {P:Program} {gl:Tr AVal} {f:Nat} {w:World} {ps:List PVal} {us:List Value} {r:Bool} (hk:Known P gl f (ps.map .p) (.p (.bool r)) []) (hG:Glob gl (old w) w) (hr:RepPs (old w) w ps us) :
    Calls P f us.toArray w (fun e w'=>e = .returned (.bool r)∧Below w.heap.size w w'):=by
  obtain ⟨_,hc⟩:=hk _ w us (agL (I:=old w) fun _ _ h=>h) hG (aaU hr)
  refine (callsIn_wide (n:=0)).1 (CallsIn.mono hc fun e w' hcm=>?_)
  cases e with
  | returned u =>
    obtain ⟨g',e1,e2,e3⟩:=hcm
    have e3:u = .bool r:=e3
    rw [e3]
    exact ⟨rfl,e1.below⟩
  | panicked _=>exact hcm.elim
  | outgrown=>exact hcm.elim
theorem cell_old {w:World} {b o:Nat} {v:Value} (h:w.cell? ⟨b,o,none⟩=some v):old w b o:=by
  simp only [World.cell?] at h
  show b < w.heap.size
  by_cases hs:b < w.heap.size
  · exact hs
  · simp [Array.getElem?_eq_none (by omega:w.heap.size≤b)] at h
theorem flat_cells {w:World} {b o n:Nat}:∀ {vs:List Value},(∀ x ∈ vs,x.cells.size=n)→(∀ (i:Nat) (x:Value),vs[i]? = some x → ∀ k c,x.cells.toList[k]? = some c→w.cell? ⟨b,o + i * n + k,none⟩=some c) →
    aaH (old w) w b o (vs.flatMap (·.cells.toList)):=by
  intro vs
  induction vs generalizing o with
  | nil=>intro _ _ i c hc; simp at hc
  | cons x r ih =>
    intro hs hc j c hj
    rw [List.flatMap_cons] at hj
    have hn:x.cells.toList.length=n:=by simpa using hs x (List.mem_cons_self ..)
    by_cases c1:j < n
    · rw [List.getElem?_append_left (by omega)] at hj
      have:=hc 0 x rfl j c hj
      rw [Nat.zero_mul,Nat.add_zero] at this
      exact ⟨this,cell_old this⟩
    · rw [List.getElem?_append_right (by omega),hn] at hj
      have:=ih (o:=o + n) (fun y hy=>hs y (List.mem_cons_of_mem _ hy)) (fun i' y hy k c' hk=>by
        have:=hc (i' + 1) y (by simpa using hy) k c' hk
        rw [← this]
        congr 2
        rw [Nat.succ_mul]; omega) (j - n) c hj
      have e:o + n + (j - n)=o + j:=by omega
      rw [e] at this
      exact this
section
variable {H:Type} {enc:TypeId × Value→H} {P:Program} {w:World} {spare:Nat→Bool} {held:Bool}
end
end Go.Proofs.YtdnbnpknpejpdaaGreatDoor.Sw
namespace Go.Proofs.YtdnbnpknpejpdaaGreatDoor.Sw
open Go.RowKit Go.ChangeShapes Go.WideShapes
def tiles (P:Program):List Field→Nat→Nat→Bool
  | [],o,m=>Nat.beq o m
  | f :: r,o,m=>match Nat.beq f.offset o with
    | true=>tiles P r (o + P.cellsOf f.type) m
    | false=>false
def elemP (agg:Bool) (qs:List PVal):PVal:=match agg with
  | true=>.agg qs
  | false=>qs.headD .nilp
def elemV (agg:Bool) (cs:List Value):Value:=match agg with
  | true=>.agg cs.toArray
  | false=>cs.headD (.pointer none)
structure Plain (P:Program) (T:Nat→Prop) (D:Nat→List PVal→Prop):Prop where
  kind:∀ t,T t→(P.underlying t=some .bool∧P.cellsOf t=1 ∧ ∀ b,D t [.bool b]) ∨ (∃ k,P.underlying t=some (.int k)∧P.cellsOf t=1 ∧ ∀ z,k.min≤z→z≤k.max→D t [.int k z]) ∨
    (P.underlying t=some .string∧P.cellsOf t=1 ∧ ∀ s:List UInt8,s.length≤maxLen→D t [.str (s.map UInt8.toNat)]) ∨
    (∃ e agg,P.underlying t=some (.slice e)∧T e∧P.cellsOf t=1∧0 < P.cellsOf e∧(agg=false→P.cellsOf e=1)∧D t [.nils] ∧ ∀ qs:List (List PVal),qs.length≤maxLen→(∀ q ∈ qs,D e q)→D t [.sl (qs.map (elemP agg))]) ∨
    (∃ fs,P.underlying t=some (.struct fs)∧tiles P fs.toList 0 (P.cellsOf t)=true∧(∀ f ∈ fs.toList,T f.type) ∧
      ∀ qs:List (List PVal),qs.length=fs.size→(∀ (i:Nat) (f:Field) (q:List PVal),fs[i]? = some f→qs[i]? = some q→D f.type q)→D t qs.flatten)
section
variable {H:Type} {enc:TypeId × Value→H} {P:Program} {w:World} {spare:Nat→Bool} {held:Bool} {base:Nat}
theorem anI {I:Nat→Nat→Prop} {w:World}:∀ {xs ys:List PVal} {us vs:List Value},RepPs I w xs us→RepPs I w ys vs→RepPs I w (xs ++ ys) (us ++ vs)
  | [],_,us,_,h,h'=>by
    have h:us = []:=h
    subst h
    exact h'
  | _ :: _,_,_,_,⟨y,us',e,h1,h2⟩,h'=>by
    subst e
    exact ⟨y,_,rfl,h1,anI h2 h'⟩
theorem anx {T:Nat→Prop} {D:Nat→List PVal→Prop} (K:Plain P T D):∀ (n t:Nat) (cs:List Value) (x:DataW H × List MemPlace),T t→DataW.trod enc P w base spare held n t cs=some x →
    ∃ ps,D t ps∧RepPs (old w) w ps cs∧(∀ c ∈ cs,isCell c=true)∧cs.length=P.cellsOf t
  | 0,t,cs,x,_,h=>by simp [DataW.trod] at h
  | n + 1,t,cs,x,hT,h=>by
    rcases K.kind t hT with ⟨hu,hc,hd⟩ | ⟨k,hu,hc,hd⟩ | ⟨hu,hc,hd⟩ | ⟨e,agg,hu,he,hc,hce,hag,hn,hd⟩ | ⟨fs,hu,ht,hf,hd⟩
    · obtain ⟨b,rfl,_⟩:=DataW.trod_bool hu h
      exact ⟨_,hd b,⟨_,_,rfl,rfl,rfl⟩,by simp [isCell],by simp [hc]⟩
    · obtain ⟨z,rfl,_,hw⟩:=DataW.trod_int hu h
      have hw:(decide (k.min≤z) && decide (z≤k.max))=true:=hw
      simp only [Bool.and_eq_true,decide_eq_true_eq] at hw
      exact ⟨_,hd z hw.1 hw.2,⟨_,_,rfl,rfl,rfl⟩,by simp [isCell],by simp [hc]⟩
    · obtain ⟨s,rfl,_,hl⟩:=DataW.trod_string hu h
      exact ⟨_,hd s.data.toList (by simpa using hl),⟨_,_,rfl,⟨s,rfl,rfl⟩,rfl⟩,by simp [isCell],by simp [hc]⟩
    · rcases DataW.trod_slice hu h with ⟨rfl,_⟩ | ⟨a,len,cap,elems,rest,m,hm,rfl,_,_,hl,hcap,hlen,hel,_,_⟩
      · exact ⟨_,hn,⟨_,_,rfl,rfl,rfl⟩,by simp [isCell],by simp [hc]⟩
      · have hm:n=m:=by omega
        subst hm
        have each:∀ i,i < len → ∃ X:List Value × List PVal,w.cells? base (a.add (i * P.cellsOf e)) (P.cellsOf e)=some X.1∧D e X.2∧RepPs (old w) w X.2 X.1∧(∀ c ∈ X.1,isCell c=true)∧X.1.length=P.cellsOf e:=fun i hi=>by
          have h1:=hel i hi
          rw [List.getElem?_eq_getElem (by omega)] at h1
          obtain ⟨cs',h2,h3⟩:=Option.bind_eq_some_iff.1 h1
          obtain ⟨ps,k1,k2,k3,k4⟩:=anx K n e cs' _ he h3
          exact ⟨(cs',ps),h2,k1,k2,k3,k4⟩
        obtain ⟨X,hX⟩:=Deep.choose_lt each
        by_cases h0:len=0
        · subst h0
          exact ⟨_,hd [] (Nat.zero_le _) (by simp),⟨_,_,rfl, .inr ⟨rfl,a,cap,rfl⟩,rfl⟩,by simp [isCell],by simp [hc]⟩
        · have hsp:a.spot=none:=by
            obtain ⟨q1,_,_,_,q5⟩:=hX 0 (by omega)
            obtain ⟨_,_,q⟩:=World.cells?_some q1
            have q:=q 0 hce
            rw [List.getElem?_eq_getElem (by omega),Nat.zero_mul] at q
            cases hs:a.spot with
            | none=>rfl
            | some s =>
              unfold World.cell? at q
              split at q
              · simp [Addr.add,hs] at q
              · simp at q
          obtain ⟨b,o,s⟩:=a
          have hsp:s=none:=hsp
          subst hsp
          let vs:List Value:=(List.range len).map fun i=>elemV agg (X i).1
          have hcells:∀ i,i < len→(elemV agg (X i).1).cells.toList=(X i).1:=fun i hi=>by
            obtain ⟨_,_,_,q4,q5⟩:=hX i hi
            cases agg with
            | true=>simp [elemV,Value.cells]
            | false =>
              have:=hag rfl
              match hx:(X i).1,q5.trans this with
              | [c],_ =>
                have hc1:isCell c=true:=q4 c (by rw [hx]; simp)
                simp only [elemV,List.headD_cons]
                cases c <;> first | rfl | simp [isCell] at hc1
          refine ⟨_,hd ((List.range len).map fun i=>(X i).2) (by simp; omega) (by simp only [List.mem_map,List.mem_range]; rintro q ⟨i,hi,rfl⟩; exact (hX i hi).2.1),⟨_,_,rfl, .inl ⟨b,o,cap,P.cellsOf e,vs,by simp,by simpa using hl, ?_, ?_, ?_⟩,rfl⟩,by simp [isCell],by simp [hc]⟩
          · rw [List.map_map]
            have key:∀ l:List Nat,(∀ i ∈ l,i < len)→RepPs (old w) w (l.map (elemP agg ∘ fun i=>(X i).2)) (l.map fun i=>elemV agg (X i).1):=by
              intro l
              induction l with
              | nil=>intro _; rfl
              | cons i l ih =>
                intro hl
                obtain ⟨_,_,q3,q4,q5⟩:=hX i (hl i (by simp))
                refine ⟨_,_,rfl, ?_,ih fun j hj=>hl j (by simp [hj])⟩
                cases agg with
                | true=>exact ⟨(X i).1,rfl,q3,q4⟩
                | false =>
                  have:=hag rfl
                  match hx:(X i).1,q5.trans this with
                  | [c],_ =>
                    rw [hx] at q3
                    have hlen2:=RepPs.length q3
                    match hp:(X i).2,hlen2 with
                    | [p],_ =>
                      rw [hp] at q3
                      obtain ⟨y,ys,e1,r1,_⟩:=q3
                      simp at e1
                      simp only [Function.comp,elemP,elemV,hx,hp,List.headD_cons]
                      rw [e1.1]
                      exact r1
            exact key _ fun i hi=>by simpa using hi
          · intro v hv
            obtain ⟨i,hi,rfl⟩:=List.mem_map.1 hv
            have hi:i < len:=by simpa using hi
            have:=hcells i hi
            rw [← Array.length_toList,this,(hX i hi).2.2.2.2]
          · refine flat_cells (n:=P.cellsOf e) ?_ ?_
            · intro v hv
              obtain ⟨i,hi,rfl⟩:=List.mem_map.1 hv
              have hi:i < len:=by simpa using hi
              rw [← Array.length_toList,hcells i hi,(hX i hi).2.2.2.2]
            · intro i v hv k c hk
              rw [List.getElem?_map] at hv
              cases hz:(List.range len)[i]? with
              | none=>rw [hz] at hv; simp at hv
              | some i' =>
                rw [hz] at hv
                simp only [Option.map_some,Option.some.injEq] at hv
                subst hv
                have hil:i < len:=by simpa using (List.getElem?_eq_some_iff.1 hz).1
                rw [List.getElem?_range hil] at hz
                simp only [Option.some.injEq] at hz
                subst hz
                rw [hcells i hil] at hk
                obtain ⟨q1,_,_,_,q5⟩:=hX i hil
                obtain ⟨_,_,q⟩:=World.cells?_some q1
                have hkl:=(List.getElem?_eq_some_iff.1 hk).1
                have q:=q k (by omega)
                rw [hk,Deep.add_add] at q
                rw [← q]
                congr 1
                unfold Addr.add
                by_cases hz:i * P.cellsOf e + k=0
                · rw [if_pos hz]; congr 1; omega
                · rw [if_neg hz]; congr 1; simp; omega
    · obtain ⟨xs,m,hm,_,hlen,hxs,hfx⟩:=DataW.trod_struct hu h
      have hm:n=m:=by omega
      subst hm
      have key:∀ (l:List Field) (o:Nat),tiles P l o cs.length=true→o≤cs.length→(∀ f ∈ l,T f.type ∧ ∃ y,DataW.trod enc P w base spare held n f.type ((cs.drop f.offset).take (P.cellsOf f.type))=some y) →
          ∃ qs:List (List PVal),qs.length=l.length∧(∀ (i:Nat) (f:Field) (q:List PVal),l[i]? = some f→qs[i]? = some q→D f.type q)∧RepPs (old w) w qs.flatten (cs.drop o) ∧ ∀ c ∈ cs.drop o,isCell c=true:=by
        intro l
        induction l with
        | nil =>
          intro o ht ho _
          have:o=cs.length:=Nat.eq_of_beq_eq_true ht
          subst this
          exact ⟨[],rfl,by simp,by simp only [List.drop_length,List.flatten_nil]; rfl,by simp⟩
        | cons f l ih =>
          intro o ht ho hf
          simp only [tiles] at ht
          split at ht <;> try (simp at ht; done)
          rename_i hfo
          have hfo:=Nat.eq_of_beq_eq_true hfo
          obtain ⟨hTf,y,hy⟩:=hf f (by simp)
          obtain ⟨ps,k1,k2,k3,k4⟩:=anx K n f.type _ _ hTf hy
          rw [hfo] at k2 k3 k4
          have hle:o + P.cellsOf f.type≤cs.length:=by
            by_cases hc0:P.cellsOf f.type=0
            · omega
            · have:((cs.drop o).take (P.cellsOf f.type)).length≤(cs.drop o).length:=by rw [List.length_take]; exact Nat.min_le_right _ _
              rw [k4] at this
              simp at this
              omega
          obtain ⟨qs,r1,r2,r3,r4⟩:=ih (o + P.cellsOf f.type) ht hle fun g hg=>hf g (by simp [hg])
          have hsplit:cs.drop o=(cs.drop o).take (P.cellsOf f.type) ++ cs.drop (o + P.cellsOf f.type):=by
            rw [← List.drop_drop,List.take_append_drop]
          refine ⟨ps :: qs,by simp [r1], ?_, ?_, ?_⟩
          · intro i g q hg hq
            cases i with
            | zero =>
              simp at hg hq
              rw [← hg, ← hq]; exact k1
            | succ i=>exact r2 i g q (by simpa using hg) (by simpa using hq)
          · rw [hsplit,List.flatten_cons]
            exact anI k2 r3
          · rw [hsplit]
            intro c hc
            rcases List.mem_append.1 hc with hc | hc
            · exact k3 c hc
            · exact r4 c hc
      rw [← hlen] at ht
      obtain ⟨qs,r1,r2,r3,r4⟩:=key fs.toList 0 ht (Nat.zero_le _) fun f hfm=>⟨hf f hfm,by
        obtain ⟨i,hi⟩:=List.mem_iff_getElem?.1 hfm
        have hi' : fs[i]? = some f:=by simpa using hi
        have hlt:i < fs.size:=by
          have:=(List.getElem?_eq_some_iff.1 hi).1
          simpa using this
        have:=hfx i f hi'
        rw [List.getElem?_eq_getElem (by omega)] at this
        exact ⟨_,this⟩⟩
      simp only [List.drop_zero] at r3 r4
      exact ⟨_,hd qs (by simpa using r1) (fun i f q hi hq=>r2 i f q (by simpa using hi) hq),r3,r4,hlen⟩
end
end Go.Proofs.YtdnbnpknpejpdaaGreatDoor.Sw
