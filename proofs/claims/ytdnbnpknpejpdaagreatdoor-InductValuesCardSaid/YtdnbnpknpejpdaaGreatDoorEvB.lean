/- A verified evaluator over the code that the model runs, and a machine over it for runs with unknown values: their words, their operations, and what they stand for. -/
import Derived.Test.YtdnbnpknpejpdaaGreatDoorEvA
import Derived.RangeFuncRecord
import Derived.Laws.BytesString
import Derived.OrdersIn
import Derived.Scope
set_option linter.unusedVariables false
set_option linter.unusedSimpArgs false
set_option linter.unusedSectionVars false
namespace Go.Proofs.YtdnbnpknpejpdaaGreatDoor.Sw
open Go.RowKit
section
variable {P:Program} {g:Sg} {s:Sto} {w:World}
theorem alV {w w2:World} {b:Nat} (h:w2.heap[b]? = w.heap[b]?):World.bsize w2 b=World.bsize w b:=by unfold World.bsize; rw [h]
theorem new_ho (hi:Inv g s w) {id:Nat} (hid:s id=none) {h:HObj} {o:Go.Obj} (hr:RepH g s w h o) :
    ∃ g',Ext g s w g' (upd s id (.ho h)) (w.alloc o)∧Inv g' (upd s id (.ho h)) (w.alloc o)∧g'.bx id=some w.heap.size:=by
  have hbn:g.bx id=none:=by
    cases hb:g.bx id with
    | none=>rfl
    | some b =>
      rcases (hi.bxS id b hb).2.2.2.2 with ⟨cs,h⟩ | ⟨es,h⟩ <;> rw [hid] at h <;> simp at h
  let g' : Sg:={ g with bx:=fun i=>if i=id then some w.heap.size else g.bx i }
  have hs:∀ i x,s i=some x→upd s id (.ho h) i=some x:=fun i x h=>by
    rw [aak _ _ (fun e=>by subst e; rw [hid] at h; simp at h)]; exact h
  have hbx:∀ i b,g.bx i=some b→g'.bx i=some b:=fun i b h=>by
    have:i ≠ id:=fun e=>by subst e; rw [hbn] at h; simp at h
    simp [g',this,h]
  have e:Ext g s w g' (upd s id (.ho h)) (w.alloc o):=Ext.alloc hi _ hs (fun _ _ h=>h) hbx (fun _ _ h=>h) (fun _ _ _=>rfl) rfl (fun _ _ _ h=>h) rfl (fun _ _ _ h=>h)
  refine ⟨g',e,⟨?_, ?_, ?_, ?_, ?_, ?_, ?_, ?_,hi.prS.step (by simp) rfl (fun _ _=>.inr rfl) (fun i b hpb hb=>by
      simp only [g'] at hb
      split at hb
      · simp at hb; have:=(hi.prS b hpb).1; omega
      · exact ⟨_,hb⟩)⟩,by simp [g']⟩
  · intro i cs' h1
    have hii:i ≠ id:=fun e=>by subst e; simp at h1
    rw [aak _ _ hii] at h1
    obtain ⟨b,c',t',h1,h2,h3,h4⟩:=hi.box i cs' h1
    exact ⟨b,c',t',hbx _ _ h1,by rw [aay _ _ (hi.bxS _ _ h1).2.1]; exact h2,RepAs.ext e _ _ h3,h4⟩
  · intro i sz n xs cur lost fz h1
    have hii:i ≠ id:=fun e=>by subst e; simp at h1
    rw [aak _ _ hii] at h1
    obtain ⟨h1,h2,h3,h4⟩:=hi.arr i sz n xs cur lost fz h1
    refine ⟨h1,h2,h3,fun b st m hb=>?_⟩
    obtain ⟨h5,c',t',vs,h6,h7,h8⟩:=h4 b st m hb
    exact ⟨h5,c',t',vs,by rw [aay _ _ (hi.rgS _ _ _ _ hb).2.2]; exact h6,RepAs.ext e _ _ h7,h8⟩
  · intro b i st m hb
    obtain ⟨⟨sz,n,xs,cur,lost,fz,h1⟩,h2,h3⟩:=hi.rgS b i st m hb
    exact ⟨⟨sz,n,xs,cur,lost,fz,hs _ _ h1⟩,h2,by simp; omega⟩
  · intro i b hb
    by_cases hii:i=id
    · subst hii
      simp [g'] at hb
      subst hb
      refine ⟨hi.baseS,by simp, ?_,fun o ho=>?_, .inr ⟨h,by simp⟩⟩
      · cases hr' : g.rg w.heap.size with
        | none=>rfl
        | some r=>obtain ⟨a,b,c⟩:=r; have:=(hi.rgS _ _ _ _ hr').2.2; omega
      · have:=hi.immS _ _ ho; omega
    · simp [g',hii] at hb
      obtain ⟨h1,h2,h3,h4,h5⟩:=hi.bxS i b hb
      refine ⟨h1,by simp; omega,h3,h4, ?_⟩
      rcases h5 with ⟨cs',h5⟩ | ⟨es,h5⟩
      · exact .inl ⟨cs',hs _ _ h5⟩
      · exact .inr ⟨es,hs _ _ h5⟩
  · intro i j b h1 h2
    by_cases hii:i=id
    · subst hii
      by_cases hjj:j=i
      · exact hjj.symm
      · simp [g',hjj] at h1 h2
        subst h1
        have:=(hi.bxS j _ h2).2.1; omega
    · by_cases hjj:j=id
      · subst hjj
        simp [g',hii] at h1 h2
        subst h2
        have:=(hi.bxS i _ h1).2.1; omega
      · simp [g',hii,hjj] at h1 h2
        exact hi.inj i j b h1 h2
  · intro b o h
    have:=hi.immS b o h
    simp; omega
  · simp; have:=hi.baseS; show g.base≤_; omega
  · intro i h' h1
    by_cases hii:i=id
    · subst hii
      simp at h1
      subst h1
      exact ⟨w.heap.size,o,by simp [g'],heap_alloc_new w _,hr.ext e⟩
    · rw [aak _ _ hii] at h1
      obtain ⟨b,o',h3,h4,h5⟩:=hi.ho i h' h1
      exact ⟨b,o',hbx _ _ h3,by rw [aay _ _ (hi.bxS _ _ h3).2.1]; exact h4,h5.ext e⟩
theorem set_ho (hi:Inv g s w) {id b:Nat} {h0:HObj} (hid:s id=some (.ho h0)) (hb:g.bx id=some b) {h:HObj} {o:Go.Obj} (hr:RepH g s w h o) :
    Ext g s w g (upd s id (.ho h)) (w.putObj b o)∧Inv g (upd s id (.ho h)) (w.putObj b o):=by
  obtain ⟨hbb,hbs,hrgn,himm,_⟩:=hi.bxS id b hb
  have hs:∀ i x,(∀ h,x ≠ .ho h)→(s i=some x ↔ upd s id (.ho h) i=some x):=by
    intro i x hx
    by_cases hii:i=id
    · subst hii
      rw [hid]
      simp only [aaJ,Option.some.injEq]
      exact ⟨fun e=>absurd e.symm (hx _),fun e=>absurd e.symm (hx _)⟩
    · rw [aak _ _ hii]
  have hoth:∀ b',b' ≠ b→(w.putObj b o).heap[b']? = w.heap[b']? := fun b' hne=>World.putObj_heap_other hne
  have hrgb:∀ b' r,g.rg b' = some r→b' ≠ b:=fun b' r hr e=>by subst e; rw [hrgn] at hr; simp at hr
  have e:Ext g s w g (upd s id (.ho h)) (w.putObj b o):=by
    refine ⟨?_,fun _ _ h=>h, ?_, ?_,rfl, ?_,fun _ _ _ h=>h,rfl,fun k hk=>⟨hoth k (fun e=>(hi.prS k hk).2.2 id (e ▸ hb)),fun _ h=>h⟩⟩
    · intro b' o' x h hx
      have hne:b' ≠ b:=fun e=>by subst e; exact himm _ h
      exact ⟨h,by rw [World.cell?_of_block (hoth b' hne)]; exact hx⟩
    · rintro i ep off' len capd b' o' cap ⟨sz,n,xs,cur,lost,fz,h1,h2⟩
      refine ⟨sz,n,xs,cur,lost,fz,(hs _ _ (by simp)).1 h1,fun hl=>?_⟩
      obtain ⟨h3,st,m,h4,h5,h6,h7,h8⟩:=h2 hl
      exact ⟨h3,st,m,h4,h5,h6,fun hcd=>by rw [alV (hoth _ (hrgb _ _ h4))]; exact h7 hcd,h8⟩
    · rintro i ep j off' b' o' ⟨sz,n,xs,cur,lost,fz,h1,h2⟩
      exact ⟨sz,n,xs,cur,lost,fz,(hs _ _ (by simp)).1 h1,h2⟩
    · exact ⟨rfl,rfl,rfl,by simp,fun k hk=>hoth k (by omega)⟩
  refine ⟨e, ?_, ?_, ?_, ?_,hi.inj,fun b' o' h=>by simpa using hi.immS b' o' h,by simpa using hi.baseS, ?_,by simpa using hi.prS⟩
  · intro i ds h1
    have h1':=(hs _ _ (by simp)).2 h1
    obtain ⟨b2,c2,t2,h3,h4,h5,h6⟩:=hi.box i ds h1'
    have hne:b2 ≠ b:=fun e=>by
      subst e
      have:=hi.inj _ _ _ h3 hb
      subst this
      rw [hid] at h1'; simp at h1'
    exact ⟨b2,c2,t2,h3,by rw [hoth _ hne]; exact h4,RepAs.ext e _ _ h5,h6⟩
  · intro i sz n xs cur lost fz h1
    obtain ⟨h1,h2,h3,h4⟩:=hi.arr i sz n xs cur lost fz ((hs _ _ (by simp)).2 h1)
    refine ⟨h1,h2,h3,fun b2 st m hb2=>?_⟩
    obtain ⟨h5,c2,t2,vs,h6,h7,h8⟩:=h4 b2 st m hb2
    exact ⟨h5,c2,t2,vs,by rw [hoth _ (hrgb _ _ hb2)]; exact h6,RepAs.ext e _ _ h7,h8⟩
  · intro b2 i st m h
    obtain ⟨⟨sz,n,xs,cur,lost,fz,h1⟩,h2,h3⟩:=hi.rgS b2 i st m h
    exact ⟨⟨sz,n,xs,cur,lost,fz,(hs _ _ (by simp)).1 h1⟩,h2,by simpa using h3⟩
  · intro i b2 h1
    obtain ⟨h1,h2,h3,h4,h5⟩:=hi.bxS i b2 h1
    refine ⟨h1,by simpa using h2,h3,h4, ?_⟩
    by_cases hii:i=id
    · subst hii; exact .inr ⟨h,by simp⟩
    · rw [aak _ _ hii]; exact h5
  · intro i h' h1
    by_cases hii:i=id
    · subst hii
      simp at h1
      subst h1
      exact ⟨b,o,hb,World.putObj_heap_same hbs,hr.ext e⟩
    · rw [aak _ _ hii] at h1
      obtain ⟨b2,o',h3,h4,h5⟩:=hi.ho i h' h1
      have hne:b2 ≠ b:=fun e=>by subst e; exact hii (hi.inj _ _ _ h3 hb)
      exact ⟨b2,o',h3,by rw [hoth _ hne]; exact h4,h5.ext e⟩
theorem Inv.at_ho (hi:Inv g s w) {id b:Nat} {h:HObj} (hid:s id=some (.ho h)) (hb:g.bx id=some b):∃ o,w.heap[b]? = some o∧RepH g s w h o:=by
  obtain ⟨b',o,h1,h2,h3⟩:=hi.ho id h hid
  rw [hb] at h1
  simp at h1
  subst h1
  exact ⟨o,h2,h3⟩
end
end Go.Proofs.YtdnbnpknpejpdaaGreatDoor.Sw
namespace Go.Proofs.YtdnbnpknpejpdaaGreatDoor.Sw
open Go.RowKit
section
variable {P:Program} {g:Sg} {s:Sto} {w:World}
theorem aci {r:Nat} {o:Go.Obj} (h:w.heap[r]? = some o) (hn:∀ c e f,o ≠ .cells c e f):(getObj r).run P w = .ok o w:=by
  unfold getObj
  cases o <;> first | exact absurd rfl (hn _ _ _) | simp [Sem.run,h]
theorem adZ {r:Nat} {o:Go.Obj} (o' : Go.Obj) (h:w.heap[r]? = some o) (hn:∀ c e f,o ≠ .cells c e f):(setObj r o').run P w = .ok () (w.putObj r o'):=by
  unfold setObj
  cases o <;> first | exact absurd rfl (hn _ _ _) | simp [Sem.run,h,World.putObj]
theorem ape {t k e:Nat} (h:mapT P t=some (k,e)):P.underlying t=some (.map k e):=by
  unfold mapT at h
  split at h <;> simp at h
  obtain ⟨rfl,rfl⟩:=h
  assumption
theorem str_eq_iff {t u:ByteArray} {a b:List Nat} (h1:t.data.toList.map UInt8.toNat=a) (h2:u.data.toList.map UInt8.toNat=b):(t == u)=(a == b):=by
  subst h1 h2
  have e:(t == u)=(t.data == u.data):=rfl
  rw [e,afL,Bool.eq_iff_iff]
  simp only [beq_iff_eq]
  exact ⟨fun h=>by rw [h],fun h=>Array.ext' h⟩
theorem RepEs.get:∀ {es:List (PVal × AVal)} {l:List MapEntry} {i:Nat} {q:PVal × AVal},RepEs g s w es l→es[i]? = some q → ∃ e,l[i]? = some e∧RepP g.imm w q.1 e.key∧RepA g s w q.2 e.val
  | [],_,_,_,_,h=>by simp at h
  | (k,x) :: es,_,i,q,hr,h=>by
    obtain ⟨e,r,rfl,h1,h2,h3⟩:=hr
    cases i with
    | zero=>simp at h; subst h; exact ⟨e,rfl,h1,h2⟩
    | succ i=>obtain ⟨e',h4,h5⟩:=RepEs.get (i:=i) h3 (by simpa using h); exact ⟨e',by simpa using h4,h5⟩
theorem RepEs.set {k:PVal} {x:AVal} {kv v:Value} (hk:RepP g.imm w k kv) (hx:RepA g s w x v):∀ {es:List (PVal × AVal)} {l:List MapEntry} {i:Nat},RepEs g s w es l→i < es.length →
    RepEs g s w (es.set i (k,x)) (l.modify i fun e=>{ e with key:=kv,val:=v })
  | [],_,_,_,h=>by simp at h
  | (k',x') :: es,_,i,hr,h=>by
    obtain ⟨e,r,rfl,h1,h2,h3⟩:=hr
    cases i with
    | zero=>exact ⟨_,_,rfl,hk,hx,h3⟩
    | succ i=>exact ⟨_,_,by simp,h1,h2,RepEs.set hk hx h3 (by simpa using h)⟩
theorem RepEs.push {k:PVal} {x:AVal} {kv v:Value} (hk:RepP g.imm w k kv) (hx:RepA g s w x v) {clock:Nat}:∀ {es:List (PVal × AVal)} {l:List MapEntry},RepEs g s w es l →
    RepEs g s w (es ++ [(k,x)]) (l ++ [{ key:=kv,val:=v,born:=clock }])
  | [],_,h=>by
    have h:_ = []:=h
    subst h
    exact ⟨_,_,rfl,hk,hx,rfl⟩
  | (k',x') :: es,_,hr=>by
    obtain ⟨e,r,rfl,h1,h2,h3⟩:=hr
    exact ⟨_,_,rfl,h1,h2,RepEs.push hk hx h3⟩
theorem RepEs.erase:∀ {es:List (PVal × AVal)} {l:List MapEntry} (i:Nat),RepEs g s w es l→RepEs g s w (es.eraseIdx i) (l.eraseIdx i)
  | [],_,_,h=>by
    have h:_ = []:=h
    subst h
    rfl
  | (k',x') :: es,_,i,hr=>by
    obtain ⟨e,r,rfl,h1,h2,h3⟩:=hr
    cases i with
    | zero=>exact h3
    | succ i=>exact ⟨_,_,rfl,h1,h2,RepEs.erase i h3⟩
theorem anC {kt:Nat} {d:TypeDesc} {k q:PVal} {kv qv:Value} {b:Bool} (hd:P.underlying kt=some d) (hk:RepP g.imm w k kv) (hq:RepP g.imm w q qv) (h:ab9 (some d) k q=some b) :
    Instr.sameNow d kv qv=some b:=by
  unfold ab9 at h
  split at h
  · rename_i hd'
    split at h <;> simp at h
    rename_i hkk
    simp at hd' hkk
    subst h; subst hd'; subst hkk
    have e1:kv = .int _ _:=hk
    have e2:qv = .int _ _:=hq
    subst e1 e2
    simp [Instr.sameNow]
  · rename_i hd'
    simp at hd' h
    subst h; subst hd'
    obtain ⟨t,rfl,h1⟩:=hk
    obtain ⟨u,rfl,h2⟩:=hq
    simp only [Instr.sameNow,Option.some.injEq]
    rw [adw,str_eq_iff h1 h2]
  · rename_i hd'
    simp at hd' h
    subst h; subst hd'
    have e1:kv = .bool _:=hk
    have e2:qv = .bool _:=hq
    subst e1 e2
    simp [Instr.sameNow]
  · simp at h
theorem apr {kt:Nat} {k q:PVal} {kv qv:Value} {b:Bool} (hk:RepP g.imm w k kv) (hq:RepP g.imm w q qv) (h:aps P kt k q=some b):(Op.equal kt kv qv).run P w = .ok b w:=by
  unfold aps at h
  split at h
  · exact agi hk hq h
  · exact acW hk hq h
theorem apZ {kt:Nat} {d:TypeDesc} {k:PVal} {kv:Value} (hd:P.underlying kt=some d) (hk:RepP g.imm w k kv) (hn:∀ a,k ≠ .agg a) :
    ∀ {es:List (PVal × AVal)} {l:List MapEntry} {r:Option Nat} (i:Nat),RepEs g s w es l→findI P kt k i es=some r →
      match r with | some j=>∃ e,i≤j∧l[j - i]? = some e∧Instr.findNow d kv l i=some (some (j,e.val)) | none=>Instr.findNow d kv l i=some none
  | [],l,r,i,hr,h=>by
    have hr:l = []:=hr
    subst hr
    simp [findI] at h
    subst h
    rfl
  | (q,u) :: es,l,r,i,hr,h=>by
    obtain ⟨e,t,rfl,h1,h2,h3⟩:=hr
    have hks:aps P kt k q=ab9 (some d) k q:=by
      unfold aps
      split
      · exact absurd rfl (hn _)
      · rw [hd]
    simp only [findI,hks] at h
    split at h
    · rename_i hs
      simp at h
      subst h
      exact ⟨e,Nat.le_refl _,by simp,by simp [Instr.findNow,anC hd hk h1 hs]⟩
    · rename_i hs
      have:=apZ hd hk hn (i + 1) h3 h
      simp only [Instr.findNow,anC hd hk h1 hs]
      cases r with
      | none=>exact this
      | some j =>
        obtain ⟨e',k1,k2,k3⟩:=this
        refine ⟨e',by omega, ?_,k3⟩
        rw [show j - i=(j - (i + 1)) + 1 by omega]
        simpa using k2
    · simp at h
theorem aia {kt:Nat} {k:PVal} {kv:Value} (hk:RepP g.imm w k kv) :
    ∀ {es:List (PVal × AVal)} {l:List MapEntry} {r:Option Nat} (i:Nat),RepEs g s w es l→findI P kt k i es=some r →
      match r with | some j=>∃ e,i≤j∧l[j - i]? = some e∧(Instr.findAsking kt kv l i).run P w = .ok (some (j,e.val)) w | none=>(Instr.findAsking kt kv l i).run P w = .ok none w
  | [],l,r,i,hr,h=>by
    have hr:l = []:=hr
    subst hr
    simp [findI] at h
    subst h
    rfl
  | (q,u) :: es,l,r,i,hr,h=>by
    obtain ⟨e,t,rfl,h1,h2,h3⟩:=hr
    simp only [findI] at h
    split at h
    · rename_i hs
      simp at h
      subst h
      exact ⟨e,Nat.le_refl _,by simp,by simp [Instr.findAsking,apr hk h1 hs]⟩
    · rename_i hs
      have:=aia hk (i + 1) h3 h
      simp only [Instr.findAsking,Sem.run_bind,apr hk h1 hs,Result.andThen_ok,Bool.false_eq_true,if_false]
      cases r with
      | none=>exact this
      | some j =>
        obtain ⟨e',k1,k2,k3⟩:=this
        refine ⟨e',by omega, ?_,k3⟩
        rw [show j - i=(j - (i + 1)) + 1 by omega]
        simpa using k2
    · simp at h
theorem ac5 {kt:Nat} {k:PVal} {kv:Value} (hkey:keyOk P kt k=true) (hk:RepP g.imm w k kv) {es:List (PVal × AVal)} {l:List MapEntry} {r:Option Nat} (hr:RepEs g s w es l)
    (h:findI P kt k 0 es=some r) :
    match r with | some j=>∃ e,l[j]? = some e∧(Instr.findKey kt kv l).run P w = .ok (some (j,e.val)) w | none=>(Instr.findKey kt kv l).run P w = .ok none w:=by
  obtain ⟨d,hd⟩:∃ d,P.underlying kt=some d:=by
    cases hu:P.underlying kt with
    | none=>simp [keyOk,hu] at hkey
    | some d=>exact ⟨d,rfl⟩
  by_cases hn:∀ a,k ≠ .agg a
  · have:=apZ hd hk hn 0 hr h
    cases r with
    | none=>simp only at this; simp [Instr.findKey,aaa hd,this]
    | some j =>
      obtain ⟨e,_,k2,k3⟩:=this
      exact ⟨e,by simpa using k2,by simp [Instr.findKey,aaa hd,k3]⟩
  · have hag:∃ a,k = .agg a:=by
      cases k <;> first | exact ⟨_,rfl⟩ | exact absurd (fun a=>by simp) hn
    obtain ⟨a,rfl⟩:=hag
    have hk0:=hk
    obtain ⟨vs,rfl,_⟩:=hk0
    have:=aia hk 0 hr h
    have hnow:∀ (l:List MapEntry) (i:Nat),l ≠ []→Instr.findNow d (.agg vs.toArray) l i=none:=by
      intro l i hl
      cases l with
      | nil=>exact absurd rfl hl
      | cons e l =>
        have:Instr.sameNow d (.agg vs.toArray) e.key=none:=by unfold Instr.sameNow; split <;> simp_all
        simp [Instr.findNow,this]
    by_cases hl:l = []
    · subst hl
      cases r with
      | none=>simp [Instr.findKey,aaa hd,Instr.findNow]
      | some j=>obtain ⟨e,_,k2,_⟩:=this; simp at k2
    · cases r with
      | none=>simp only at this; simp [Instr.findKey,aaa hd,hnow l 0 hl,this]
      | some j =>
        obtain ⟨e,_,k2,k3⟩:=this
        exact ⟨e,by simpa using k2,by simp [Instr.findKey,aaa hd,hnow l 0 hl,k3]⟩
theorem agU {b:Bool} {kt:Nat} {k:PVal} {v:Value} (hkey:keyOk P kt k=true) (hk:RepP g.imm w k v):(Instr.checkKey b 10000 kt v).run P w = .ok () w:=by
  unfold keyOk at hkey
  have basic:∀ {d:TypeDesc} {t n:Nat} {v:Value},P.underlying t=some d→((∃ q,d = .int q) ∨ d = .string ∨ d = .bool)→(Instr.checkKey b (n + 1) t v).run P w = .ok () w:=by
    intro d t n v hd h
    rcases h with ⟨q,rfl⟩ | rfl | rfl <;> simp [Instr.checkKey,aaa hd]
  split at hkey <;> try (simp at hkey; done)
  · rename_i hd; exact basic hd (.inl ⟨_,rfl⟩)
  · rename_i hd; exact basic hd (.inr (.inl rfl))
  · rename_i hd; exact basic hd (.inr (.inr rfl))
  · rename_i fs cs hd
    obtain ⟨vs,rfl,hr,_⟩:=hk
    show (Instr.checkKey b (9998 + 1 + 1) kt (.agg vs.toArray)).run P w = .ok () w
    generalize 9998=n
    rw [Instr.checkKey]
    simp only [Sem.run_bind,aaa hd,Result.andThen_ok]
    rw [← Array.forIn_toList]
    have go:∀ (l:List Field),(∀ f ∈ l,f ∈ fs.toList)→(forIn l PUnit.unit fun f _=>do
        if f.name ≠ "_" then Instr.checkKey b (n + 1) f.type (← Go.part f.type vs.toArray f.offset)
        pure (ForInStep.yield PUnit.unit):Sem PUnit).run P w = .ok PUnit.unit w:=by
      intro l
      induction l with
      | nil=>intro _; rfl
      | cons f l ih =>
        intro hl
        have hf:=List.all_eq_true.1 hkey f (hl f (by simp))
        have hbf:(f.name == "_")=false∧aggT P f.type=some false∧(∃ d,P.underlying f.type=some d∧((∃ q,d = .int q) ∨ d = .string ∨ d = .bool)) ∧ ∃ c,nth cs f.offset=some c:=by
          split at hf <;> simp at hf
          · rename_i h1 h2 h3 h4; exact ⟨h1,h2,⟨_,h3, .inl ⟨_,rfl⟩⟩,_,h4⟩
          · rename_i h1 h2 h3 h4; exact ⟨h1,h2,⟨_,h3, .inr (.inl rfl)⟩,_,h4⟩
          · rename_i h1 h2 h3 h4; exact ⟨h1,h2,⟨_,h3, .inr (.inr rfl)⟩,_,h4⟩
        obtain ⟨h1,h2,⟨d,h3,h4⟩,c,h5⟩:=hbf
        rw [nth_eq] at h5
        obtain ⟨u,h6,_⟩:=RepPs.get hr h5
        have hpart:(Go.part f.type vs.toArray f.offset).run P w = .ok u w:=by simp [Go.part,abY h2,h6]
        have hne:f.name ≠ "_" := by simpa using h1
        simp only [List.forIn_cons,Sem.run_bind,hne,ne_eq,not_false_eq_true,if_true,hpart,Result.andThen_ok,basic h3 h4,Sem.run_pure]
        exact ih (fun f hf=>hl f (by simp [hf]))
    have:=go fs.toList (fun _ h=>h)
    exact (congrArg (fun r=>Result.andThen r fun _ w'=>Sem.run P (pure ()) w') this).trans rfl
theorem entries_run {S:St} (hs:∀ id,s id=S.get id) (hi:Inv g s w) {x:AVal} {v:Value} {es:List (PVal × AVal)} {rd:List Nat} (hx:RepA g s w x v) (h:entriesOf S x=some (es,rd)) :
    (v = .map none∧es = []) ∨ ∃ b ents clock,v = .map (some b)∧w.heap[b]? = some (.map ents clock)∧RepEs g s w es ents.toList:=by
  unfold entriesOf at h
  split at h
  · simp at h
    obtain ⟨rfl,rfl⟩:=h
    exact .inl ⟨hx,rfl⟩
  · rename_i id
    split at h <;> simp at h
    rename_i es' hid
    obtain ⟨rfl,rfl⟩:=h
    obtain ⟨b,hb,rfl⟩:=hx
    obtain ⟨o,h1,ents,clock,rfl,h2⟩:=hi.at_ho ((hs id).trans hid) hb
    exact .inr ⟨b,ents,clock,rfl,h1,h2⟩
  · simp at h
def ac4 (kt et:Nat) (ents:Array MapEntry) (vk:Value) (ok:Bool):Sem Value:=do
  Instr.checkKey ents.isEmpty 10000 kt vk
  let (v,b) ← match ← Instr.findKey kt vk ents.toList with
    | some (_,v)=>pure (v,true)
    | none=>pure (← zeroValue et,false)
  pure (if ok then .tuple #[v, .bool b] else v)
theorem lookup_tail {t kt et:Nat} {vx vk:Value} {ok:Bool} {ents:Array MapEntry} (ht:P.underlying t=some (.map kt et))
    (h:(vx = .map none∧ents = #[]) ∨ ∃ b clock,vx = .map (some b)∧w.heap[b]? = some (.map ents clock)):(Instr.lookup t vx vk ok).run P w=(ac4 kt et ents vk ok).run P w:=by
  rcases h with ⟨rfl,rfl⟩ | ⟨b,clock,rfl,h1⟩
  · simp only [Instr.lookup,ac4,Sem.run_bind,aaa ht,Result.andThen_ok,Sem.run_pure]
    congr 1
  · simp only [Instr.lookup,ac4,Sem.run_bind,aaa ht,Result.andThen_ok,aci h1 (by simp),Sem.run_pure]
    congr 1
theorem lookup_run {S:St} (hs:∀ id,s id=S.get id) (hi:Inv g s w) {t:Nat} {x k:AVal} {vx vk:Value} {ok:Bool} {e:Eff} (hx:RepA g s w x vx) (hk:RepA g s w k vk) (h:ahu P S t x k ok=some e) :
    e.wr = [] ∧ ∃ u,(Instr.lookup t vx vk ok).run P w = .ok u w∧RepA g s w e.v u:=by
  unfold ahu at h
  split at h <;> try (simp at h; done)
  rename_i kt et kp ht
  have ht:=ape ht
  split at h <;> try (simp at h; done)
  rename_i es rd hkey hent
  have hk:RepP g.imm w kp vk:=hk
  have hes:∃ ents:Array MapEntry,RepEs g s w es ents.toList∧((vx = .map none∧ents = #[]) ∨ ∃ b clock,vx = .map (some b)∧w.heap[b]? = some (.map ents clock)):=by
    rcases entries_run hs hi hx hent with ⟨h1,rfl⟩ | ⟨b,ents,clock,h1,h2,h3⟩
    · exact ⟨#[],rfl, .inl ⟨h1,rfl⟩⟩
    · exact ⟨ents,h3, .inr ⟨b,clock,h1,h2⟩⟩
  obtain ⟨ents,he1,he2⟩:=hes
  rw [lookup_tail ht he2]
  have hck:=fun {b}=>agU (b:=b) hkey hk
  split at h <;> try (simp at h; done)
  · rename_i v hf
    unfold findE at hf
    split at hf <;> try (simp at hf; done)
    rename_i j hfi
    split at hf <;> simp at hf
    rename_i q v' hn
    subst hf
    rw [nth_eq] at hn
    obtain ⟨e0,q1,q2⟩:=ac5 hkey hk he1 hfi
    obtain ⟨e1,k1,_,k3⟩:=RepEs.get he1 hn
    rw [k1] at q1
    simp at q1
    subst q1
    split at h <;> simp at h <;> subst h
    · refine ⟨rfl, .tuple #[e1.val, .bool true], ?_,ajX ⟨_,_,rfl,k3,_,_,rfl,rfl,rfl⟩⟩
      simp only [ac4,Sem.run_bind,Result.andThen_ok,hck,q2,Sem.run_pure,if_true]
    · refine ⟨rfl,e1.val, ?_,k3⟩
      simp only [ac4,Sem.run_bind,Result.andThen_ok,hck,q2,Sem.run_pure,Bool.false_eq_true,if_false]
  · rename_i hf
    have hfi:findI P kt kp 0 es=some none:=by
      unfold findE at hf
      split at hf <;> try (simp at hf; done)
      · split at hf <;> simp at hf
      · rename_i h1; exact h1
    have q1:=ac5 hkey hk he1 hfi
    simp only at q1
    split at h <;> try (simp at h; done)
    rename_i z hz
    obtain ⟨zv,z1,z2⟩:=abF (w:=w) hz
    have z3:RepP g.imm w z zv:=abv z2
    split at h <;> simp at h <;> subst h
    · refine ⟨rfl, .tuple #[zv, .bool false], ?_,[zv, .bool false],rfl,_,_,rfl,z3,_,_,rfl,rfl,rfl⟩
      simp only [ac4,Sem.run_bind,Result.andThen_ok,hck,q1,Sem.run_pure,z1,if_true]
    · refine ⟨rfl,zv, ?_,z3⟩
      simp only [ac4,Sem.run_bind,Result.andThen_ok,hck,q1,Sem.run_pure,z1,Bool.false_eq_true,if_false]
theorem makeMap_run {S:St} (hs:∀ id,s id=S.get id) (hi:Inv g s w) {t b:Nat} {e:Eff} (h:aeZ b S=some e):Yields g s w e ((Instr.makeMap t none).run P w):=by
  unfold aeZ at h
  split at h <;> simp at h
  rename_i hb
  subst h
  obtain ⟨g',e1,e2,e3⟩:=new_ho hi ((hs b).trans hb) (h:=.mp []) (o:=.map #[] 0) ⟨#[],0,rfl,rfl⟩
  exact ⟨.map (some w.heap.size),g',_,by simp [Instr.makeMap],e1,e2,w.heap.size,e3,rfl⟩
theorem aqj:∀ {a b:List PVal} {va vb:List Value} {n:Nat},ac8 a b=true→RepPs g.imm w a va→RepPs g.imm w b vb→va.length=vb.length∧((va.zip vb).all fun (x,y)=>Instr.sameBits n x y)=true:=by
  have one:∀ {x y:PVal} {vx vy:Value} {n:Nat},ac8 [x] [y]=true→RepP g.imm w x vx→RepP g.imm w y vy→Instr.sameBits n vx vy=true:=by
    intro x y vx vy n h hx hy
    unfold ac8 at h
    split at h <;> simp at h
    · rename_i e _; simp at e
    · rename_i h1 h2
      simp at h1 h2
      obtain ⟨rfl,_⟩:=h1
      obtain ⟨rfl,_⟩:=h2
      obtain ⟨rfl,rfl⟩:=h.1
      have e1:vx = .int _ _:=hx
      have e2:vy = .int _ _:=hy
      subst e1 e2
      cases n <;> simp [Instr.sameBits]
    · rename_i h1 h2
      simp at h1 h2
      obtain ⟨rfl,_⟩:=h1
      obtain ⟨rfl,_⟩:=h2
      obtain ⟨t,rfl,k1⟩:=hx
      obtain ⟨u,rfl,k2⟩:=hy
      have:(t == u)=true:=by rw [str_eq_iff k1 k2, ← adw]; exact h.1
      cases n <;> exact this
    · rename_i h1 h2
      simp at h1 h2
      obtain ⟨rfl,_⟩:=h1
      obtain ⟨rfl,_⟩:=h2
      have e1:vx = .bool _:=hx
      have e2:vy = .bool _:=hy
      subst e1 e2
      cases n <;> simp [Instr.sameBits,h]
  intro a
  induction a with
  | nil =>
    intro b va vb n h ha hb
    cases b <;> simp [ac8] at h
    have ha:va = []:=ha
    have hb:vb = []:=hb
    subst ha hb
    simp
  | cons x a ih =>
    intro b va vb n h ha hb
    cases b with
    | nil=>cases x <;> simp [ac8] at h
    | cons y b =>
      obtain ⟨vx,va,rfl,k1,k2⟩:=ha
      obtain ⟨vy,vb,rfl,k3,k4⟩:=hb
      have hsplit:ac8 [x] [y]=true∧ac8 a b=true:=by
        cases x <;> cases y <;> simp [ac8] at h ⊢ <;> first | exact ⟨h.1,h.2⟩ | exact h
      obtain ⟨h1,h2⟩:=hsplit
      obtain ⟨e1,e2⟩:=ih (n:=n) h2 k2 k4
      refine ⟨by simp [e1], ?_⟩
      simp only [List.zip_cons_cons,List.all_cons,one h1 k1 k3,Bool.true_and]
      exact e2
theorem stays_run {k q:PVal} {kv qv:Value} (hk:RepP g.imm w k kv) (hq:RepP g.imm w q qv) (h:staysOk k q=true):Instr.sameBits 10000 qv kv=true:=by
  unfold staysOk at h
  split at h
  · obtain ⟨vk,rfl,h1,_⟩:=hk
    obtain ⟨vq,rfl,h2,_⟩:=hq
    obtain ⟨e1,e2⟩:=aqj (n:=9999) h h2 h1
    simp only [Instr.sameBits,List.size_toArray,e1,beq_self_eq_true,Bool.true_and]
    exact e2
  · obtain ⟨e1,e2⟩:=aqj (n:=10000) h (⟨qv,[],rfl,hq,rfl⟩:RepPs g.imm w [q] [qv]) (⟨kv,[],rfl,hk,rfl⟩:RepPs g.imm w [k] [kv])
    simpa using e2
theorem aj0 {S:St} (hs:∀ id,s id=S.get id) (hi:Inv g s w) {t:Nat} {x k y:AVal} {vx vk vy:Value} {e:Eff} (hx:RepA g s w x vx) (hk:RepA g s w k vk) (hy:RepA g s w y vy)
    (h:acj P S t x k y=some e) :
    ∃ g' w',(Instr.mapUpdate t vx vk vy).run P w = .ok () w' ∧ Ext g s w g' (e.wr.foldl (fun s x=>upd s x.1 x.2) s) w' ∧ Inv g' (e.wr.foldl (fun s x=>upd s x.1 x.2) s) w' ∧ e.v = .p (.tup []):=by
  unfold acj at h
  split at h <;> try (simp at h; done)
  rename_i kt et kp id ht
  have ht:=ape ht
  split at h <;> try (simp at h; done)
  rename_i es hkey hid
  split at h <;> simp at h
  rename_i es' hset
  subst h
  have hk:RepP g.imm w kp vk:=hk
  have hck:=fun {b}=>agU (b:=b) hkey hk
  obtain ⟨b,hb,rfl⟩:=hx
  have hid':=(hs id).trans hid
  obtain ⟨o,h1,ents,clock,rfl,h2⟩:=hi.at_ho hid' hb
  simp only [List.foldl_cons,List.foldl_nil]
  unfold setE at hset
  split at hset
  · rename_i j hfi
    split at hset <;> try (simp at hset; done)
    rename_i q v' hn
    split at hset <;> simp at hset
    rename_i hst
    subst hset
    rw [nth_eq] at hn
    have hlt:=(List.getElem?_eq_some_iff.1 hn).1
    obtain ⟨e0,q1,q2⟩:=ac5 hkey hk h2 hfi
    obtain ⟨e1,k1,k2,k3⟩:=RepEs.get h2 hn
    rw [k1] at q1
    simp at q1
    subst q1
    obtain ⟨x1,x2⟩:=set_ho hi hid' hb (h:=.mp (es.set j (kp,y))) (o:=.map (ents.modify j fun e=>{ e with key:=vk,val:=vy }) clock) ⟨_,_,rfl,by simpa using RepEs.set hk hy h2 hlt⟩
    refine ⟨g,_, ?_,x1,x2,trivial⟩
    have hkk:((ents[j]?).map (·.key)).getD vk=e1.key:=by
      have:ents[j]? = some e1:=by simpa using k1
      rw [this]; rfl
    simp only [Instr.mapUpdate,refVal,Sem.run_bind,aaa ht,Result.andThen_ok,aci h1 (by simp),hck,q2,hkk,Instr.keyThatStays,stays_run hk k2 hst,if_true,Sem.run_pure,adZ _ h1 (by simp)]
  · rename_i hfi
    simp at hset
    subst hset
    have q1:=ac5 hkey hk h2 hfi
    simp only at q1
    obtain ⟨x1,x2⟩:=set_ho hi hid' hb (h:=.mp (es ++ [(kp,y)])) (o:=.map (ents.push { key:=vk,val:=vy,born:=clock }) (clock + 1)) ⟨_,_,rfl,by simpa using RepEs.push (clock:=clock) hk hy h2⟩
    refine ⟨g,_, ?_,x1,x2,trivial⟩
    simp only [Instr.mapUpdate,refVal,Sem.run_bind,aaa ht,Result.andThen_ok,aci h1 (by simp),hck,q1,adZ _ h1 (by simp)]
  · simp at hset
theorem delete_run {S:St} (hs:∀ id,s id=S.get id) (hi:Inv g s w) {t ty t2:Nat} {x k:AVal} {vx vk:Value} {e:Eff} (hx:RepA g s w x vx) (hk:RepA g s w k vk) (h:ahB P S t x k=some e) :
    Yields g s w e ((Builtin.delete_ #[t,t2] ty #[vx,vk]).run P w):=by
  unfold ahB at h
  split at h <;> try (simp at h; done)
  rename_i kt et kp id ht
  have ht:=ape ht
  split at h <;> try (simp at h; done)
  rename_i es hkey hid
  split at h <;> simp at h
  rename_i es' hdel
  subst h
  have hk:RepP g.imm w kp vk:=hk
  have hck:=fun {b}=>agU (b:=b) hkey hk
  obtain ⟨b,hb,rfl⟩:=hx
  have hid':=(hs id).trans hid
  obtain ⟨o,h1,ents,clock,rfl,h2⟩:=hi.at_ho hid' hb
  unfold delE at hdel
  split at hdel
  · rename_i j hfi
    simp at hdel
    subst hdel
    obtain ⟨e0,_,q2⟩:=ac5 hkey hk h2 hfi
    obtain ⟨e1,e2⟩:=set_ho hi hid' hb (h:=.mp (es.eraseIdx j)) (o:=.map (ents.eraseIdxIfInBounds j) clock) ⟨_,_,rfl,by
      have:(ents.eraseIdxIfInBounds j).toList=ents.toList.eraseIdx j:=by simp [Array.eraseIdxIfInBounds]; split <;> simp_all
      rw [this]; exact RepEs.erase j h2⟩
    refine ⟨.tuple #[],g,_, ?_,e1,e2,[],rfl,rfl⟩
    simp [Builtin.delete_,refVal,aaa ht,aci h1 (by simp),hck,q2,adZ _ h1 (by simp)]
  · rename_i hfi
    simp at hdel
    subst hdel
    have q1:=ac5 hkey hk h2 hfi
    simp only at q1
    obtain ⟨e1,e2⟩:=set_ho hi hid' hb (h:=.mp es) (o:=.map ents clock) ⟨_,_,rfl,h2⟩
    refine ⟨.tuple #[],g,_, ?_,e1,e2,[],rfl,rfl⟩
    simp [Builtin.delete_,refVal,aaa ht,aci h1 (by simp),hck,q1,adZ _ h1 (by simp)]
  · simp at hdel
theorem range_run {S:St} (hs:∀ id,s id=S.get id) (hi:Inv g s w) {t b:Nat} {x:AVal} {vx:Value} {e:Eff} (hx:RepA g s w x vx) (h:alh P b t x S=some e):Yields g s w e ((Instr.range t vx).run P w):=by
  unfold alh at h
  split at h <;> simp at h
  rename_i bs ht hb
  subst h
  obtain ⟨u,rfl,hu⟩:=hx
  obtain ⟨g',e1,e2,e3⟩:=new_ho hi ((hs b).trans hb) (h:=.it bs 0) (o:=.stringIter u 0) ⟨u,rfl,by simpa using hu⟩
  exact ⟨.pointer (some ⟨w.heap.size,0,none⟩),g',_,by simp [Instr.range,aaa ht],e1,e2,w.heap.size,e3,rfl⟩
theorem next_run {S:St} (hs:∀ id,s id=S.get id) (hi:Inv g s w) {ty:Nat} {x:AVal} {vx:Value} {is:Bool} {e:Eff} (hx:RepA g s w x vx) (h:nextOp S x is=some e):Yields g s w e ((Instr.next vx is ty).run P w):=by
  unfold nextOp at h
  split at h <;> try (simp at h; done)
  rename_i id
  split at h <;> try (simp at h; done)
  rename_i bs pos hid
  obtain ⟨b,hb,rfl⟩:=hx
  have hid':=(hs id).trans hid
  obtain ⟨o,h1,t,rfl,h2⟩:=hi.at_ho hid' hb
  have hsz:t.size=(t.data.toList.map UInt8.toNat).length:=by rw [List.length_map]; rfl
  split at h
  · simp at h
    subst h
    have:¬ pos < t.size:=by
      have:=congrArg List.length h2
      simp at this
      rw [hsz]; simp; omega
    refine ⟨.tuple #[.bool false],g,w, ?_, .refl _ _ _,hi,[.bool false],rfl,_,_,rfl,rfl,rfl⟩
    simp [Instr.next,refVal,aci h1 (by simp),this]
  · rename_i c r
    split at h <;> simp at h
    rename_i hc
    subst h
    have hc:Nat.ble (c + 1) 128=true:=hc
    have hc:=Nat.le_of_ble_eq_true hc
    have hlt:pos < t.size:=by
      have:=congrArg List.length h2
      simp at this
      rw [hsz]; simp; omega
    have hget:(t.data.toList.map UInt8.toNat)[pos]? = some c:=by
      have:((t.data.toList.map UInt8.toNat).drop pos)[0]? = some c:=by rw [h2]; rfl
      simpa using this
    have hget2:(t.get! pos).toNat=c:=by
      have:t.data.toList[pos]?.map UInt8.toNat=some c:=by simpa using hget
      have hlt' : pos < t.data.size:=hlt
      have e:t.get! pos=t.data[pos]! := rfl
      rw [e]
      simp only [Array.getElem?_toList,Array.getElem?_eq_getElem hlt',Option.map_some,Option.some.injEq] at this
      rw [getElem!_pos t.data pos hlt']
      exact this
    have hdec:Utf8.decode t pos=(c,1):=by
      unfold Utf8.decode
      simp only [Nat.add_zero,hget2]
      rw [if_pos (by omega)]
    obtain ⟨e1,e2⟩:=set_ho hi hid' hb (h:=.it r (pos + 1)) (o:=.stringIter t (pos + 1)) ⟨t,rfl,by
      have:((t.data.toList.map UInt8.toNat).drop pos).drop 1=r:=by rw [h2]; rfl
      rw [List.drop_drop] at this
      exact this⟩
    refine ⟨.tuple #[.bool true,goInt pos, .int .i32 c],g,_, ?_,e1,e2,[.bool true,goInt pos, .int .i32 c],rfl,_,_,rfl,rfl,_,_,rfl,rfl,_,_,rfl,rfl,rfl⟩
    simp [Instr.next,refVal,aci h1 (by simp),hlt,hdec,adZ _ h1 (by simp)]
theorem clear_run {t ty:Nat} {x z:AVal} {v:Value} (hx:RepA g s w x v) (h:clearOp P t x=some z):∃ u,(Builtin.clear_ #[t] ty #[v]).run P w = .ok u w∧RepA g s w z u:=by
  unfold clearOp at h
  split at h <;> try (simp at h; done)
  rename_i e ht
  have key:(v = .slice none 0 0 ∨ ∃ a c,v = .slice a 0 c)→(Builtin.clear_ #[t] ty #[v]).run P w = .ok (.tuple #[]) w:=by
    rintro (rfl | ⟨a,c,rfl⟩)
    · simp [Builtin.clear_,aaa ht]
    · cases a <;> simp [Builtin.clear_,aaa ht]
  split at h <;> simp at h <;> subst h
  · exact ⟨_,key (.inl hx),[],rfl,rfl⟩
  · rcases hx with ⟨b,o,cap,sz,vs,rfl,_⟩ | ⟨_,_,_,rfl⟩ <;> exact ⟨_,key (.inr ⟨_,_,rfl⟩),[],rfl,rfl⟩
  · rcases hx with ⟨b,o,sz,vs,rfl,_⟩ | ⟨_,_,rfl⟩ <;> exact ⟨_,key (.inr ⟨_,_,rfl⟩),[],rfl,rfl⟩
  · obtain ⟨b,o,cap,rfl,_⟩:=hx
    exact ⟨_,key (.inr ⟨_,_,rfl⟩),[],rfl,rfl⟩
theorem aeU (a:Addr):∀ (us vs:List Value) (i:Nat) {w w' : World},(storeCells a us i).run P w = .ok () w' → (storeCells a (us ++ vs) i).run P w=(storeCells a vs (i + us.length)).run P w'
  | [],vs,i,w,w',h=>by
    simp [storeCells] at h
    subst h
    rfl
  | u :: us,vs,i,w,w',h=>by
    simp only [storeCells,Sem.run_bind,List.cons_append] at h ⊢
    cases hu:(store (a.add i) u).run P w with
    | ok x w1 =>
      rw [hu] at h
      simp only [Result.andThen_ok] at h ⊢
      rw [aeU a us vs (i + 1) h]
      simp only [List.length_cons]
      congr 2
      omega
    | _=>rw [hu] at h; simp [Result.andThen] at h
theorem amB {id ep sz n b o:Nat} {new:List AVal} {us:List Value} {fz:Nat} {t:Unit} (_ht:t=()) (hc:∀ x ∈ us,isCell x=true) (hu:us.length=sz) :
    ∀ (k j off:Nat) {g:Sg} {s:Sto} {w:World} {xs xs' : List AVal} {lost:Nat},Inv g s w→s id=some (.arr sz n xs ep lost fz)→lost≤ep→(k=0→lost=ep)→fz≤off →
      RepAs g s w new us→(∀ i,i < k→ElOk g s id ep (off + i) 0 b (o + (j + i) * sz))→akd new k off xs=some xs' →
      ∃ g' w',(storeCells ⟨b,o,none⟩ (List.replicate k us).flatten (j * sz)).run P w = .ok () w' ∧ Ext g s w g' (upd s id (.arr sz n xs' ep ep fz)) w' ∧ Inv g' (upd s id (.arr sz n xs' ep ep fz)) w'
  | 0,j,off,g,s,w,xs,xs',lost,hi,hid,hl,h0,hfz,hr,hel,h=>by
    simp [akd] at h
    subst h
    obtain rfl:=h0 rfl
    have e:upd s id (.arr sz n xs lost lost fz)=s:=by
      funext i
      unfold upd
      split
      · rename_i e; rw [e,hid]
      · rfl
    rw [e]
    exact ⟨g,w,rfl, .refl _ _ _,hi⟩
  | k + 1,j,off,g,s,w,xs,xs',lost,hi,hid,hl,h0,hfz,hr,hel,h=>by
    simp only [akd,nth_eq] at h
    split at h <;> try (simp at h; done)
    rename_i el hne he
    split at h <;> try (simp at h; done)
    rename_i cs' hcs
    split at h <;> try (simp at h; done)
    rename_i xs1 hx1
    rw [ajp,if_pos (List.getElem?_eq_some_iff.1 he).1] at hx1
    simp at hx1
    have hel0:=hel 0 (by omega)
    simp only [Nat.add_zero] at hel0
    obtain ⟨c,ty,g1,h2,h3,h4,h5⟩:=store_el hi hid hel0 hr hc hfz he (fun e=>hne e) hcs hx1.symm
    have r1:=run_storeCells_at P b o ty us (j * sz) c w h2 h3 (fun x hx=>by rw [← apu]; exact hc x hx)
    have hel' : ∀ i,i < k→ElOk g1 (upd s id (.arr sz n xs1 ep ep fz)) id ep (off + 1 + i) 0 b (o + (j + 1 + i) * sz):=fun i hk=>by
      have:=h4.el _ _ _ _ _ _ (hel (i + 1) (by omega))
      rw [show off + 1 + i=off + (i + 1) by omega,show j + 1 + i=j + (i + 1) by omega]
      exact this
    obtain ⟨g2,w2,r2,e2,i2⟩:=amB _ht hc hu k (j + 1) (off + 1) h5 (aaJ _ _ _) (Nat.le_refl _) (fun _=>rfl) (by omega) (RepAs.ext h4 _ _ hr) hel' h
    have e:upd (upd s id (.arr sz n xs1 ep ep fz)) id (.arr sz n xs' ep ep fz)=upd s id (.arr sz n xs' ep ep fz):=by
      funext i
      unfold upd
      split <;> rfl
    rw [e] at e2 i2
    refine ⟨g2,w2, ?_,h4.trans e2,i2⟩
    rw [List.replicate_succ,List.flatten_cons,aeU _ us _ _ r1,hu]
    rw [Nat.add_mul,Nat.one_mul] at r2
    rw [← hu] at r2 ⊢
    exact r2
theorem clearArr_run {S:St} (hs:∀ id,s id=S.get id) (hi:Inv g s w) {t ty:Nat} {x:AVal} {v:Value} {e:Eff} (hx:RepA g s w x v) (h:ahC P S t x=some e) :
    Yields g s w e ((Builtin.clear_ #[t] ty #[v]).run P w):=by
  unfold ahC at h
  split at h <;> try (simp at h; done)
  rename_i el ht
  split at h <;> try (simp at h; done)
  rename_i sz gg z id ep off len cd hsz hg hz
  split at h <;> try (simp at h; done)
  rename_i new sz' n xs cur lost fz hnew hid
  split at h <;> try (simp at h; done)
  rename_i hb1 hb2 hb3 hb4
  obtain rfl:=Nat.eq_of_beq_eq_true hb1
  obtain rfl:=Nat.eq_of_beq_eq_true hb3
  have hb2:=Nat.le_of_ble_eq_true hb2
  have hb4:=Nat.le_of_ble_eq_true hb4
  split at h <;> try (simp at h; done)
  rename_i len
  split at h <;> try (simp at h; done)
  rename_i xs' hxs
  simp at h
  subst h
  obtain ⟨zv,hz1,hz2⟩:=abF (P:=P) (w:=w) hz
  obtain ⟨k1,k2,k3,_,_⟩:=abO (g:=g) (s:=s) (w:=w) (x:=.p z) (v:=zv) (abv hz2) hnew
  obtain ⟨b,o,cap,rfl,hle,_,sz2,n2,xs2,cur2,lost2,fz2,hv1,hv2⟩:=hx
  have hid':=(hs id).trans hid
  rw [hid'] at hv1
  simp at hv1
  obtain ⟨rfl,rfl,rfl,rfl,rfl,rfl⟩:=hv1
  obtain ⟨_,hlc,_,_⟩:=hi.arr id _ _ _ _ _ _ hid'
  obtain ⟨_,st,m,hrg,ho,hom,_,hcb⟩:=hv2 hlc
  obtain ⟨g',w',r,e1,i1⟩:=amB (P:=P) (t:=()) rfl k3 (by simpa using k2) _ 0 off hi hid' hlc (fun h=>by simp at h) hb2 k1 (b:=b) (o:=o)
    (fun i hk=>⟨_,_,_,_,_,_,hid',fun _=>⟨Nat.le_refl _,st,m,hrg,Nat.lt_of_lt_of_le (Nat.add_lt_add_left hk off) hom,by rw [ho,Nat.add_mul,Nat.add_mul]; omega,fun _=>hcb rfl⟩⟩) hxs
  refine ⟨.tuple #[],g',w', ?_,e1,i1,[],rfl,rfl⟩
  simp only [Nat.zero_mul] at r
  simp only [Builtin.clear_,Sem.run_bind,aaa ht,Result.andThen_ok,hz1,ah2,r,List.getElem?_toArray,List.getElem?_cons_zero,Sem.run_pure]
theorem bytes_rep:∀ {xs:List AVal} {vs:List Value} {l:List Nat},RepAs g s w xs vs→bytesOf xs=some l → ∃ ns:List Int,vs=ns.map (Value.int .u8)∧l=ns.map fun n=>n.toNat % 256
  | [],vs,l,hr,h=>by
    have hr:vs = []:=hr
    simp [bytesOf] at h
    subst hr h
    exact ⟨[],rfl,rfl⟩
  | x :: xs,vs,l,hr,h=>by
    obtain ⟨v,vs,rfl,h1,h2⟩:=hr
    unfold bytesOf at h
    split at h
    · rename_i e; simp at e
    · rename_i n r e
      simp at e
      obtain ⟨rfl,rfl⟩:=e
      split at h <;> simp at h
      rename_i l' hl
      subst h
      obtain ⟨ns,rfl,rfl⟩:=bytes_rep h2 hl
      have h1:v = .int .u8 n:=h1
      subst h1
      exact ⟨n :: ns,rfl,rfl⟩
    · simp at h
theorem push_bytes:∀ (ns:List Int) (r:ByteArray),(ns.foldl (fun r n=>r.push (UInt8.ofNat n.toNat)) r).data.toList.map UInt8.toNat=r.data.toList.map UInt8.toNat ++ ns.map fun n=>n.toNat % 256
  | [],r=>by simp
  | n :: ns,r=>by
    simp only [List.foldl_cons]
    rw [push_bytes ns]
    have:(r.push (UInt8.ofNat n.toNat)).data=r.data.push (UInt8.ofNat n.toNat):=rfl
    rw [this]
    simp
theorem convBytes_run {S:St} (hs:∀ id,s id=S.get id) (hi:Inv g s w) {src dst:Nat} {x:AVal} {v:Value} {e:Eff} (hx:RepA g s w x v) (h:ae5 P S src dst x=some e) :
    e.wr = [] ∧ ∃ u,(convert src dst v).run P w = .ok u w∧RepA g s w e.v u:=by
  unfold ae5 at h
  split at h <;> try (simp at h; done)
  rename_i el hsrc hdst
  have key0:∀ {a:Addr} {cap:Nat} {l:List Nat},P.underlying el=some (.int .u8)→v = .slice (some a) 0 cap→bytesOf (([]:List PVal).map .p)=some l → ∃ u,(convert src dst v).run P w = .ok u w∧RepA g s w (.p (.str l)) u:=by
    intro a cap l hel hv hb
    subst hv
    simp [bytesOf] at hb
    subst hb
    refine ⟨.string .empty, ?_, .empty,rfl,rfl⟩
    simp only [convert,Sem.run_bind,aaa hsrc,aaa hdst,Result.andThen_ok,aaa hel]
    exact run_bytesToString w a 0 cap [] (by simp [loadCells,loadCellsFrom])
  have key:∀ {b o len cap:Nat} {ys:List AVal} {vs:List Value} {l:List Nat},P.underlying el=some (.int .u8)→v = .slice (some ⟨b,o,none⟩) len cap→RepAs g s w ys vs→vs.length=len →
      aeT w b o (vs.flatMap (·.cells.toList))→bytesOf ys=some l → ∃ u,(convert src dst v).run P w = .ok u w∧RepA g s w (.p (.str l)) u:=by
    intro b o len cap ys vs l hel hv hr hl hc hb
    subst hv hl
    obtain ⟨ns,rfl,rfl⟩:=bytes_rep hr hb
    have hflat:∀ ns:List Int,(ns.map (Value.int .u8)).flatMap (·.cells.toList)=ns.map (Value.int .u8):=fun ns=>by
      induction ns with
      | nil=>rfl
      | cons n ns ih=>simp only [List.map_cons,List.flatMap_cons,ih]; rfl
    rw [hflat] at hc
    have hld:=afN (P:=P) hc
    refine ⟨.string (ns.foldl (fun r n=>r.push (UInt8.ofNat n.toNat)) ByteArray.empty), ?_,_,rfl, ?_⟩
    · simp only [convert,Sem.run_bind,aaa hsrc,aaa hdst,Result.andThen_ok,aaa hel]
      exact run_bytesToString w _ _ cap ns hld
    · rw [push_bytes]; simp
  split at h <;> try (simp at h; done)
  · rename_i ys hel
    split at h <;> simp at h
    rename_i l hl
    subst h
    rcases hx with ⟨b,o,cap,sz,vs,rfl,_,h1,_,h3⟩ | ⟨rfl,a,cap,rfl⟩
    · exact ⟨rfl,key hel rfl (aaU h1) (RepPs.length h1) h3.in hl⟩
    · exact ⟨rfl,key0 hel rfl hl⟩
  · rename_i ys hel
    split at h <;> simp at h
    rename_i l hl
    subst h
    rcases hx with ⟨b,o,sz,vs,rfl,h1,_,h3⟩ | ⟨rfl,a,rfl⟩
    · exact ⟨rfl,key hel rfl (aaU h1) (RepPs.length h1) h3.in hl⟩
    · exact ⟨rfl,key0 hel rfl hl⟩
  · rename_i hel
    simp at h
    subst h
    have hx:v = .slice none 0 0:=hx
    subst hx
    refine ⟨rfl, .string .empty, ?_, .empty,rfl,rfl⟩
    simp [convert,aaa hsrc,aaa hdst,aaa hel,Conv.bytesToString]
  · rename_i id ep off len c hel
    split at h <;> try (simp at h; done)
    rename_i ys hv
    split at h <;> simp at h
    rename_i l hl
    subst h
    obtain ⟨b,o,cap,rfl,_,_,h3⟩:=hx
    obtain ⟨vs,k1,k2,k3,_⟩:=ahl hs hi h3 hv
    exact ⟨rfl,key hel rfl k1 k2 k3 hl⟩
end
end Go.Proofs.YtdnbnpknpejpdaaGreatDoor.Sw
namespace Go.Proofs.YtdnbnpknpejpdaaGreatDoor.Sw
open Go.RowKit
section
variable {P:Program} {g:Sg} {s:Sto} {w:World}
theorem Does.abM {e:Eff} {r:Result Value} {r' : Result Next} (h:Yields g s w e r) (hr:∀ u w',r = .ok u w' → r' = .ok (.value u) w'):Does g s w e r':=by
  obtain ⟨u,g',w',h1,h2⟩:=h
  exact ⟨u,g',w', .inl (hr u w' h1),h2⟩
theorem Does.aa5 (hi:Inv g s w) {x:AVal} {v:Value} (hx:RepA g s w x v) {rd:List Nat} {r:Result Next} (hr:r = .ok (.value v) w):Does g s w ⟨x,rd,[]⟩ r :=
  ⟨v,g,w, .inl hr, .refl _ _ _,hi,hx⟩
theorem Does.of_eff (hi:Inv g s w) {e:Eff} {v:Value} (hw:e.wr = []) (hx:RepA g s w e.v v) {r:Result Next} (hr:r = .ok (.value v) w):Does g s w e r:=by
  obtain ⟨x,rd,wr⟩:=e
  simp at hw; subst hw
  exact .aa5 hi hx hr
theorem abi {x:Option AVal} {e:Eff} (h:someP x=some e):∃ z,x=some z∧e = .pure z:=by
  unfold someP at h
  split at h <;> simp at h
  exact ⟨_,rfl,h.symm⟩
theorem adG {tm:Tr AVal} {a:Act} (hf:Frm g s w tm a.tmps):∀ {l:List (Nat × Operand)} {xs:List (Nat × AVal)},aaL tm l=some xs →
    afY g s w xs (l.map fun (i,o)=>(i,a.eval o))
  | [],xs,h=>by simp [aaL] at h; subst h; rfl
  | (i,o) :: l,xs,h=>by
    simp only [aaL] at h
    split at h <;> simp at h
    rename_i v vs h1 h2
    subst h
    exact ⟨_,_,rfl,aac hf h1,adG hf h2⟩
theorem operand?_rep {tm:Tr AVal} {a:Act} (hf:Frm g s w tm a.tmps) {o:Option Operand} {x:Option AVal} (h:operand? tm o=some x):RepO g s w x (o.map a.eval):=by
  cases o with
  | none=>simp [operand?] at h; subst h; trivial
  | some o =>
    simp only [operand?] at h
    split at h <;> simp at h
    subst h
    rename_i v hv
    exact aac hf hv
theorem sliceAt_slice {t:Nat} {v:Value} {lo hi mx:Option Value} {u:Value} (h:(Instr.slice t v lo hi mx).run P w = .ok u w) (hn:∀ n e,P.underlying t ≠ some (.array n e)) :
    (Instr.sliceAt t v lo hi mx).run P w = .ok u w:=by
  unfold Instr.sliceAt
  cases hu:P.underlying t with
  | none =>
    exfalso
    unfold Instr.slice at h
    simp [Go.underlying,hu] at h
  | some d =>
    simp only [Sem.run_bind,aaa hu,Result.andThen_ok]
    cases d <;> first | exact h | exact absurd hu (hn _ _)
theorem ajS {S:St} (hs:∀ id,s id=S.get id) (hi:Inv g s w) {tm:Tr AVal} {a:Act} (hf:Frm g s w tm a.tmps) {b:Nat} {o:Oper} {e:Eff} (h:aau P tm S b o.op=some e) :
    Does g s w e ((execOp a.eval o).run P w):=by
  unfold aau at h
  split at h
  ·
    rename_i x ho
    obtain ⟨z,h1,rfl⟩:=abi h
    exact .aa5 hi (aac hf h1) (by simp [execOp,ho])
  · rename_i x ho
    obtain ⟨z,h1,rfl⟩:=abi h
    exact .aa5 hi (aac hf h1) (by simp [execOp,ho])
  ·
    rename_i c x y ho
    split at h <;> try (simp at h; done)
    · rename_i hc
      have:=aac hf hc
      have e1:a.eval c = .bool true:=this
      obtain ⟨z,h1,rfl⟩:=abi h
      exact .aa5 hi (aac hf h1) (by simp [execOp,ho,e1,asBool])
    · rename_i hc
      have:=aac hf hc
      have e1:a.eval c = .bool false:=this
      obtain ⟨z,h1,rfl⟩:=abi h
      exact .aa5 hi (aac hf h1) (by simp [execOp,ho,e1,asBool])
  ·
    rename_i t ho
    exact .abM (alloc_run hs hi h) (fun u w' hr=>by simp [execOp,ho,hr])
  ·
    rename_i t x ho
    split at h <;> try (simp at h; done)
    rename_i v hv
    exact .abM (box_run hs hi (aac hf hv) h) (fun u w' hr=>by simp [execOp,ho,hr])
  ·
    rename_i t parts ho
    split at h <;> try (simp at h; done)
    rename_i ps hps
    obtain ⟨z,h1,rfl⟩:=abi h
    obtain ⟨u,h2,h3⟩:=build_run (adG hf hps) h1
    exact .aa5 hi h3 (by
      have:(parts.map fun (i,x)=>(i,a.eval x))=(parts.toList.map fun (i,o)=>(i,a.eval o)).toArray:=by apply Array.ext'; rw [Array.toList_map]
      simp only [execOp,ho,this,Sem.run_bind,h2,Result.andThen_ok,Sem.run_pure])
  ·
    rename_i t len parts ho
    split at h <;> try (simp at h; done)
    rename_i ps hps
    exact .abM (buildSlice_run hs hi (adG hf hps) h) (fun u w' hr=>by
      have:(parts.map fun (i,x)=>(i,a.eval x))=(parts.toList.map fun (i,o)=>(i,a.eval o)).toArray:=by apply Array.ext'; rw [Array.toList_map]
      simp only [execOp,ho,this,Sem.run_bind,hr,Result.andThen_ok,Sem.run_pure])
  ·
    rename_i t x ho
    split at h <;> try (simp at h; done)
    rename_i v hv
    obtain ⟨h1,u,h2,h3⟩:=load_run hs hi (aac hf hv) h
    exact .of_eff hi h1 h3 (by simp [execOp,ho,h2])
  ·
    rename_i t x y ho
    split at h <;> try (simp at h; done)
    rename_i v u hv hu
    obtain ⟨g',w',h1,h2,h3,h4⟩:=store_run hs hi (aac hf hv) (aac hf hu) h
    exact ⟨undef,g',w', .inr ⟨by simp [execOp,ho,h1],rfl⟩,h2,h3,by rw [h4]; exact ⟨[],rfl,rfl⟩⟩
  ·
    rename_i x ho
    split at h <;> try (simp at h; done)
    rename_i v hv
    split at h <;> simp at h
    rename_i hn
    subst h
    have hr:=aac hf hv
    have:∃ ad,a.eval x = .pointer (some ad):=by
      cases v with
      | p q=>cases q <;> simp [nilPt] at hn; obtain ⟨_,_,_,e1,_⟩:=hr; exact ⟨_,e1⟩
      | box id off=>obtain ⟨_,_,e1⟩:=hr; exact ⟨_,e1⟩
      | el id ep i off=>obtain ⟨_,_,e1,_⟩:=hr; exact ⟨_,e1⟩
      | _=>simp [nilPt] at hn
    obtain ⟨ad,e1⟩:=this
    exact .aa5 hi hr (by simp [execOp,ho,e1])
  ·
    rename_i op t x y ty ho
    split at h <;> try (simp at h; done)
    rename_i v u hv hu
    obtain ⟨z,h1,rfl⟩:=abi h
    obtain ⟨r,h2,h3⟩:=binary_run ho (aac hf hv) (aac hf hu) h1
    exact .aa5 hi h3 h2
  ·
    rename_i op t x ho
    split at h <;> try (simp at h; done)
    rename_i v hv
    obtain ⟨z,h1,rfl⟩:=abi h
    obtain ⟨u,h2,h3⟩:=unary_run (P:=P) (aac hf hv) h1
    exact .aa5 hi h3 (by simp [execOp,ho,h2])
  ·
    rename_i src dst x ho
    split at h <;> try (simp at h; done)
    rename_i v hv
    split at h
    · rename_i z h1
      simp at h
      subst h
      obtain ⟨u,h2,h3⟩:=conv_run (aac hf hv) h1
      exact .aa5 hi h3 (by simp [execOp,ho,h2])
    · obtain ⟨h1,u,h2,h3⟩:=convBytes_run hs hi (aac hf hv) h
      exact .of_eff hi h1 h3 (by simp [execOp,ho,h2])
  ·
    rename_i t ho
    exact .abM (makeMap_run (P:=P) (t:=t) hs hi h) (fun u w' hr=>by simp [execOp,ho,hr])
  ·
    rename_i t x k ok ho
    split at h <;> try (simp at h; done)
    rename_i v u hv hu
    obtain ⟨h1,r,h2,h3⟩:=lookup_run hs hi (aac hf hv) (aac hf hu) h
    exact .of_eff hi h1 h3 (by simp [execOp,ho,h2])
  ·
    rename_i t m k x ho
    split at h <;> try (simp at h; done)
    rename_i v u y hv hu hy
    obtain ⟨g',w',h1,h2,h3,h4⟩:=aj0 hs hi (aac hf hv) (aac hf hu) (aac hf hy) h
    exact ⟨undef,g',w', .inr ⟨by simp [execOp,ho,h1],rfl⟩,h2,h3,by rw [h4]; exact ⟨[],rfl,rfl⟩⟩
  ·
    rename_i t m k x ho
    split at h <;> try (simp at h; done)
    rename_i v u y hv hu hy
    obtain ⟨g',w',h1,h2,h3,h4⟩:=aj0 hs hi (aac hf hv) (aac hf hu) (aac hf hy) h
    exact ⟨undef,g',w', .inr ⟨by simp [execOp,ho,h1],rfl⟩,h2,h3,by rw [h4]; exact ⟨[],rfl,rfl⟩⟩
  ·
    rename_i t x ho
    split at h <;> try (simp at h; done)
    rename_i v hv
    exact .abM (range_run (P:=P) hs hi (aac hf hv) h) (fun u w' hr=>by simp [execOp,ho,hr])
  ·
    rename_i x is ho
    split at h <;> try (simp at h; done)
    rename_i v hv
    exact .abM (next_run (P:=P) (ty:=o.type) hs hi (aac hf hv) h) (fun u w' hr=>by simp [execOp,ho,hr])
  ·
    rename_i t x ho
    split at h <;> simp at h
    rename_i v hv hif hd
    subst h
    obtain ⟨h2,h3⟩:=alw (aac hf hv) hif hd
    exact .aa5 hi h3 (by simp [execOp,ho,h2])
  ·
    rename_i f first cap ho
    split at h <;> try (simp at h; done)
    · rename_i vs hfst hvs
      simp at h
      subst h
      have e1:first = #[]:=by simpa using hfst
      subst e1
      refine .aa5 hi (mkFn_rep (abb hf hvs)) ?_
      have:cap.map a.eval=(cap.toList.map a.eval).toArray:=by apply Array.ext'; rw [Array.toList_map]
      simp [execOp,ho,Instr.makeFunc,this]
    · rename_i x r hfst hcap
      split at h <;> simp at h
      rename_i vs hvs
      subst h
      have e1:cap = #[]:=by
        cases hc:cap.toList with
        | nil=>simpa using hc
        | cons y l =>
          rw [hc] at hcap
          simp only [operands] at hcap
          split at hcap <;> simp at hcap
      subst e1
      rw [← hfst] at hvs
      refine .aa5 hi (x:=.fnb (.func f) vs) (v:=.func (.func f) (first.toList.map a.eval).toArray #[]) ⟨_,rfl,abb hf hvs⟩ ?_
      have:first.map a.eval=(first.toList.map a.eval).toArray:=by apply Array.ext'; rw [Array.toList_map]
      simp [execOp,ho,Instr.makeFunc,this]
  ·
    rename_i t l c ho
    split at h <;> try (simp at h; done)
    rename_i v u hv hu
    exact .abM (makeSlice_run hs hi (aac hf hv) (aac hf hu) h) (fun u w' hr=>by simp [execOp,ho,hr])
  ·
    rename_i t x lo hi' mx ho
    split at h <;> try (simp at h; done)
    rename_i v l1 l2 l3 hv h1 h2 h3
    obtain ⟨h4,u,h5,h6⟩:=sliceOp_run hs (aac hf hv) (operand?_rep hf h1) (operand?_rep hf h2) (operand?_rep hf h3) h
    refine .of_eff hi h4 h6 ?_
    have:(Instr.sliceAt t (a.eval x) (lo.map a.eval) (hi'.map a.eval) (mx.map a.eval)).run P w = .ok u w:=by
      refine sliceAt_slice h5 (fun n e hu=>?_)
      simp [afd,hu] at h
    simp [execOp,ho,this]
  ·
    rename_i t x f ho
    split at h <;> try (simp at h; done)
    rename_i v hv
    obtain ⟨z,h1,rfl⟩:=abi h
    obtain ⟨u,h2,h3⟩:=fieldAddr_run (P:=P) (aac hf hv) h1
    exact .aa5 hi h3 (by simp [execOp,ho,h2])
  ·
    rename_i t x f ho
    split at h <;> try (simp at h; done)
    rename_i v hv
    obtain ⟨z,h1,rfl⟩:=abi h
    obtain ⟨u,h2,h3⟩:=field_run (P:=P) (aac hf hv) h1
    exact .aa5 hi h3 (by simp [execOp,ho,h2])
  ·
    rename_i t x i ho
    split at h <;> try (simp at h; done)
    rename_i v u hv hu
    obtain ⟨h1,r,h2,h3⟩:=indexAddr_run (P:=P) hs (aac hf hv) (aac hf hu) h
    exact .of_eff hi h1 h3 (by simp [execOp,ho,h2])
  ·
    rename_i t x i ho
    split at h <;> try (simp at h; done)
    rename_i v u hv hu
    obtain ⟨z,h1,rfl⟩:=abi h
    obtain ⟨r,h2,h3⟩:=index_run (P:=P) (aac hf hv) (aac hf hu) h1
    exact .aa5 hi h3 (by simp [execOp,ho,h2])
  ·
    rename_i x xt as ok ho
    split at h <;> try (simp at h; done)
    rename_i v hv
    obtain ⟨z,h1,rfl⟩:=abi h
    obtain ⟨r,h2,h3⟩:=assert_run (P:=P) (xt:=xt) (aac hf hv) h1
    exact .aa5 hi h3 (by simp [execOp,ho,h2])
  ·
    rename_i x i ho
    split at h <;> try (simp at h; done)
    rename_i v hv
    obtain ⟨z,h1,rfl⟩:=abi h
    obtain ⟨r,h2,h3⟩:=extract_run (P:=P) (aac hf hv) h1
    exact .aa5 hi h3 (by simp [execOp,ho,h2])
  ·
    rename_i args ats ho
    split at h <;> try (simp at h; done)
    rename_i x t hx ht
    split at h <;> try (simp at h; done)
    rename_i v hv
    obtain ⟨z,h1,rfl⟩:=abi h
    have e1:args = #[x]:=by rw [← Array.toArray_toList (xs:=args),hx]
    have e2:ats = #[t]:=by rw [← Array.toArray_toList (xs:=ats),ht]
    subst e1; subst e2
    obtain ⟨r,h2,h3⟩:=len_run (P:=P) (ty:=o.type) (aac hf hv) h1
    exact .aa5 hi h3 (by simp [execOp,ho,resolve,invoke,builtin,h2])
  ·
    rename_i args ats ho
    split at h <;> try (simp at h; done)
    rename_i x t hx ht
    split at h <;> try (simp at h; done)
    rename_i v hv
    obtain ⟨z,h1,rfl⟩:=abi h
    have e1:args = #[x]:=by rw [← Array.toArray_toList (xs:=args),hx]
    have e2:ats = #[t]:=by rw [← Array.toArray_toList (xs:=ats),ht]
    subst e1; subst e2
    obtain ⟨r,h2,h3⟩:=cap_run (P:=P) (ty:=o.type) (aac hf hv) h1
    exact .aa5 hi h3 (by simp [execOp,ho,resolve,invoke,builtin,h2])
  ·
    rename_i args ats ho
    split at h <;> try (simp at h; done)
    rename_i x y t t2 hx ht
    split at h <;> try (simp at h; done)
    · rename_i v u hv hu hni
      have e1:args = #[x,y]:=by rw [← Array.toArray_toList (xs:=args),hx]
      have e2:ats = #[t,t2]:=by rw [← Array.toArray_toList (xs:=ats),ht]
      subst e1; subst e2
      exact .abM (appendOp_run (ty:=o.type) hs hi (aac hf hv) (aac hf hu) hni h) (fun u w' hr=>by simp [execOp,ho,resolve,invoke,builtin,hr])
    · rename_i v u hv hu _
      split at h <;> try (simp at h; done)
      rename_i k2 hk2
      have e1:args = #[x,y]:=by rw [← Array.toArray_toList (xs:=args),hx]
      have e2:ats = #[t,t2]:=by rw [← Array.toArray_toList (xs:=ats),ht]
      subst e1; subst e2
      exact .abM (growOp_run (ty:=o.type) hs hi (aac hf hv) (aac hf hu) hk2 h) (fun u w' hr=>by simp [execOp,ho,resolve,invoke,builtin,hr])
  ·
    rename_i args ats ho
    split at h <;> try (simp at h; done)
    rename_i x y t t2 hx ht
    split at h <;> try (simp at h; done)
    rename_i v u hv hu
    have e1:args = #[x,y]:=by rw [← Array.toArray_toList (xs:=args),hx]
    have e2:ats = #[t,t2]:=by rw [← Array.toArray_toList (xs:=ats),ht]
    subst e1; subst e2
    exact .abM (delete_run (ty:=o.type) (t2:=t2) hs hi (aac hf hv) (aac hf hu) h) (fun u w' hr=>by simp [execOp,ho,resolve,invoke,builtin,hr])
  ·
    rename_i args ats ho
    split at h <;> try (simp at h; done)
    rename_i x t hx ht
    split at h <;> try (simp at h; done)
    rename_i v hv
    have e1:args = #[x]:=by rw [← Array.toArray_toList (xs:=args),hx]
    have e2:ats = #[t]:=by rw [← Array.toArray_toList (xs:=ats),ht]
    subst e1; subst e2
    split at h
    · rename_i z h1
      simp at h
      subst h
      obtain ⟨r,h2,h3⟩:=clear_run (P:=P) (ty:=o.type) (aac hf hv) h1
      exact .aa5 hi h3 (by simp [execOp,ho,resolve,invoke,builtin,h2])
    · exact .abM (clearArr_run (ty:=o.type) hs hi (aac hf hv) h) (fun u w' hr=>by simp [execOp,ho,resolve,invoke,builtin,hr])
  ·
    rename_i args ats ho
    split at h <;> try (simp at h; done)
    rename_i vs hvs
    obtain ⟨z,h1,rfl⟩:=abi h
    obtain ⟨r,h2,h3⟩:=min_run (P:=P) (ts:=ats) (t:=o.type) (abb hf hvs) h1
    refine .aa5 hi h3 ?_
    have:args.map a.eval=(args.toList.map a.eval).toArray:=by apply Array.ext'; rw [Array.toList_map]
    simp [execOp,ho,resolve,invoke,builtin,this,h2]
  ·
    rename_i args ats ho
    split at h <;> try (simp at h; done)
    rename_i vs hvs
    obtain ⟨z,h1,rfl⟩:=abi h
    obtain ⟨r,h2,h3⟩:=max_run (P:=P) (ts:=ats) (t:=o.type) (abb hf hvs) h1
    refine .aa5 hi h3 ?_
    have:args.map a.eval=(args.toList.map a.eval).toArray:=by apply Array.ext'; rw [Array.toList_map]
    simp [execOp,ho,resolve,invoke,builtin,this,h2]
  · simp at h
end
end Go.Proofs.YtdnbnpknpejpdaaGreatDoor.Sw
namespace Go.Proofs.YtdnbnpknpejpdaaGreatDoor.Sw
open Go.RowKit
def immOf (g:Sg) (s:Sto) (ids:List Nat) (b o:Nat):Prop :=
  g.imm b o ∨ (∃ id st m sz n xs cur lost fz,id ∈ ids∧g.rg b=some (id,st,m)∧s id=some (.arr sz n xs cur lost fz)∧o < st + m * sz) ∨
    ∃ id cs,id ∈ ids∧g.bx id=some b∧s id=some (.box cs)
theorem immOf.mono {g:Sg} {s:Sto} {ids ids' : List Nat} (h:∀ i ∈ ids,i ∈ ids') {b o:Nat} (hi:immOf g s ids b o):immOf g s ids' b o:=by
  rcases hi with hi | ⟨id,st,m,sz,n,xs,cur,lost,fz,h1,h2⟩ | ⟨id,cs,h1,h2⟩
  · exact .inl hi
  · exact .inr (.inl ⟨id,st,m,sz,n,xs,cur,lost,fz,h id h1,h2⟩)
  · exact .inr (.inr ⟨id,cs,h id h1,h2⟩)
theorem Keeps.mono {I I' : Nat→Nat→Prop} {w:World} (h:∀ b o,I b o→I' b o):Keeps I I' w w:=fun b o _ hi hc=>⟨h b o hi,hc⟩
theorem aaH.mono {I I' : Nat→Nat→Prop} {w:World} {b o:Nat} {cs:List Value} (h:∀ b o,I b o→I' b o) (hc:aaH I w b o cs):aaH I' w b o cs :=
  hc.keeps (.mono h)
section
variable {P:Program} {g:Sg} {s:Sto} {w:World}
theorem adO {f:AVal→Option (PVal × List Nat)} (hf:∀ v x ids u,f v=some (x,ids)→RepA g s w v u→RepP (immOf g s ids) w x u) :
    ∀ {vs:List AVal} {xs:List PVal} {ids:List Nat} {us:List Value},purs f vs=some (xs,ids)→RepAs g s w vs us→RepPs (immOf g s ids) w xs us
  | [],_,_,_,h,hr=>by
    simp [purs] at h
    obtain ⟨rfl,rfl⟩:=h
    exact hr
  | v :: vs,_,_,_,h,hr=>by
    obtain ⟨u,us,rfl,h1,h2⟩:=hr
    simp only [purs] at h
    split at h <;> simp at h
    rename_i x a xs b hx hxs
    obtain ⟨rfl,rfl⟩:=h
    exact ⟨u,us,rfl,RepP.keeps (.mono fun b o=>immOf.mono (by simp; exact fun i hi=>.inl hi)) _ _ (hf _ _ _ _ hx h1),
      RepPs.keeps (.mono fun b o=>immOf.mono (by simp; exact fun i hi=>.inr hi)) _ _ (adO hf hxs h2)⟩
theorem view_cells {S:St} (hs:∀ id,s id=S.get id) (hi:Inv g s w) {id ep off len b o cap:Nat} {capd:Bool} {xs:List AVal} (hv:ViewOk g s w id ep off len capd b o cap)
    (h:viewed S id ep off len=some xs) :
    ∃ sz vs,RepAs g s w xs vs∧vs.length=len∧(∀ v ∈ vs,v.cells.size=sz)∧aaH (immOf g s [id]) w b o (vs.flatMap (·.cells.toList)):=by
  obtain ⟨vs,h1,h2,h3,h4⟩:=ahl hs hi hv h
  obtain ⟨sz,n,ys,cur,lost,fz,k1,k2⟩:=hv
  have k1':=k1
  rw [hs id] at k1
  have hle:lost≤ep:=by
    unfold viewed at h
    rw [k1] at h
    simp only at h
    split at h <;> simp at h
    rename_i e _
    exact Nat.le_of_ble_eq_true e
  obtain ⟨_,st,m,k3,k4,k5,_⟩:=k2 hle
  have hsz:=fun v hv=>(h4 _ _ _ _ _ _ k1 v hv).1
  refine ⟨sz,vs,h1,h2,hsz,fun i c hc=>⟨h3 i c hc, .inr (.inl ⟨id,st,m,sz,n,ys,cur,lost,fz,by simp,k3,k1', ?_⟩)⟩⟩
  have hlt:=(List.getElem?_eq_some_iff.1 hc).1
  rw [aaD hsz,h2] at hlt
  have e2:(off + len) * sz≤m * sz:=Nat.mul_le_mul_right _ k5
  rw [Nat.add_mul] at e2
  omega
theorem aiv {S:St} (hs:∀ id,s id=S.get id) (hi:Inv g s w):∀ (d:Nat) (v:AVal) (x:PVal) (ids:List Nat) (u:Value),pur S d v=some (x,ids)→RepA g s w v u →
    RepP (immOf g s ids) w x u:=by
  intro d
  induction d with
  | zero=>intro v x ids u h; simp [pur] at h
  | succ d ih =>
    intro v x ids u h hr
    simp only [pur] at h
    split at h
    · simp at h
      obtain ⟨rfl,rfl⟩:=h
      exact RepP.keeps (.mono fun _ _ h=>.inl h) _ _ hr
    · simp at h
      obtain ⟨rfl,rfl⟩:=h
      rcases hr with ⟨b,o,sz,vs,rfl,h1,h2,h3⟩ | ⟨rfl,a,rfl⟩
      · exact .inl ⟨b,o,_,sz,vs,rfl,Nat.le_refl _,RepPs.keeps (.mono fun _ _ h=>.inl h) _ _ h1,h2,h3.mono fun _ _ h=>.inl h⟩
      · exact .inr ⟨rfl,a,0,rfl⟩
    · simp only [Option.map_eq_some_iff] at h
      obtain ⟨⟨xs,a⟩,h1,h2⟩:=h
      simp at h2
      obtain ⟨rfl,rfl⟩:=h2
      obtain ⟨vs,rfl,h3,h4⟩:=hr
      exact ⟨vs,rfl,adO ih h1 h3,h4⟩
    · simp only [Option.map_eq_some_iff] at h
      obtain ⟨⟨xs,a⟩,h1,h2⟩:=h
      simp at h2
      obtain ⟨rfl,rfl⟩:=h2
      obtain ⟨vs,rfl,h3⟩:=hr
      exact ⟨vs,rfl,adO ih h1 h3⟩
    · simp only [Option.map_eq_some_iff] at h
      obtain ⟨⟨y,a⟩,h1,h2⟩:=h
      simp at h2
      obtain ⟨rfl,rfl⟩:=h2
      obtain ⟨z,rfl,h3⟩:=hr
      exact ⟨z,rfl,ih _ _ _ _ h1 h3⟩
    · simp only [Option.map_eq_some_iff] at h
      obtain ⟨⟨xs,a⟩,h1,h2⟩:=h
      simp at h2
      obtain ⟨rfl,rfl⟩:=h2
      obtain ⟨vs,rfl,h3⟩:=hr
      exact ⟨vs,rfl,adO ih h1 h3⟩
    · rename_i id ep off len capd
      split at h
      · rename_i ys hv
        simp only [Option.map_eq_some_iff] at h
        obtain ⟨⟨xs,a⟩,h1,h2⟩:=h
        simp at h2
        obtain ⟨rfl,rfl⟩:=h2
        obtain ⟨b,o,cap,rfl,h3,h4,h5⟩:=hr
        obtain ⟨sz,vs,k1,k2,k3,k4⟩:=view_cells hs hi h5 hv
        have h6:=adO ih h1 k1
        have hl:=RepPs.length h6
        refine .inl ⟨b,o,cap,sz,vs,by rw [← hl,k2],by omega,RepPs.keeps (.mono fun b o=>immOf.mono (by simp; exact fun i hi=>.inr hi)) _ _ h6,k3,
          k4.mono fun b o=>immOf.mono (by simp)⟩
      · simp at h
    · rename_i id
      split at h
      · rename_i cs hcs
        simp only [Option.map_eq_some_iff] at h
        obtain ⟨⟨xs,a⟩,h1,h2⟩:=h
        simp at h2
        obtain ⟨rfl,rfl⟩:=h2
        obtain ⟨b,k1,rfl⟩:=hr
        have hcs' : s id=some (.box cs):=(hs id).trans hcs
        obtain ⟨b',c,t,k2,k3,k4,k5⟩:=hi.box id cs hcs'
        rw [k1] at k2
        simp at k2
        subst k2
        have h6:RepPs (immOf g s (id :: a)) w xs c.toList:=RepPs.keeps (.mono fun b o=>immOf.mono (by simp; exact fun i hi=>.inr hi)) _ _ (adO ih h1 k4)
        have hcell:aaH (immOf g s (id :: a)) w b 0 c.toList:=fun i x hx=>by
          refine ⟨?_, .inr (.inr ⟨id,cs,by simp,k1,hcs'⟩)⟩
          rw [Nat.zero_add]
          rw [aa4 k3]; simpa using hx
        unfold ipOf
        split
        · obtain ⟨y,ys,e1,e2,e3⟩:=h6
          have e3:ys = []:=e3
          subst e3
          refine ⟨b,0,y,rfl,e2, ?_⟩
          rw [e1] at hcell
          have hc:=k5 y (by rw [e1]; simp)
          have hcv:y.cells = #[y]:=by cases y <;> first | rfl | (simp [isCell] at hc)
          rw [hcv]
          exact hcell
        · exact ⟨b,0, .agg c,rfl,⟨c.toList,by simp,h6,k5⟩,hcell⟩
      · simp at h
    · simp at h
end
end Go.Proofs.YtdnbnpknpejpdaaGreatDoor.Sw
namespace Go.Proofs.YtdnbnpknpejpdaaGreatDoor.Sw
open Go.RowKit
section
variable {P:Program} {g g' : Sg} {s s' : Sto} {w w' : World}
theorem take_over (hi:Inv g s w) {id blk st sz:Nat} (hid:s id=none) {xs:List AVal} {vs:List Value} {c:Array Value} {t:TypeId} (hblk:w.heap[blk]? = some (.cells c t (0,0)))
    (hb:g.base≤blk) (hnp:¬ g.pr blk) (hrgn:g.rg blk=none) (hbx:∀ i,g.bx i ≠ some blk) (himm:∀ o,g.imm blk o→o < st) (hr:RepAs g s w xs vs)
    (hv:∀ v ∈ vs,v.cells.size=sz ∧ ∀ x ∈ v.cells.toList,isCell x=true) (hcells:∀ (i:Nat) (x:Value),(vs.flatMap (·.cells.toList))[i]? = some x→c[st + i]? = some x)
    {cap:Nat} (hcap:xs.length≤cap) (hroom:st + cap * sz≤c.size) :
    ∃ g',Ext g s w g' (upd s id (.arr sz xs.length xs 0 0 0)) w∧Inv g' (upd s id (.arr sz xs.length xs 0 0 0)) w ∧
      RepA g' (upd s id (.arr sz xs.length xs 0 0 0)) w (.arr id 0 0 xs.length false) (.slice (some ⟨blk,st,none⟩) xs.length cap) ∧
      g'.imm=g.imm∧g'.bx=g.bx∧g'.base=g.base∧(∀ b,b ≠ blk→g'.rg b=g.rg b)∧g'.pr=g.pr:=by
  have hlt:blk < w.heap.size:=(Array.getElem?_eq_some_iff.1 hblk).1
  let g' : Sg:={ g with rg:=fun b=>if b=blk then some (id,st,xs.length) else g.rg b,cb:=fun i=>if i=id then blk else g.cb i }
  have hs:∀ i x,s i=some x→upd s id (.arr sz xs.length xs 0 0 0) i=some x:=fun i x h=>by
    rw [aak _ _ (fun e=>by subst e; rw [hid] at h; simp at h)]; exact h
  have hrg:∀ b r,g.rg b=some r→g'.rg b=some r:=fun b r h=>by
    have:b ≠ blk:=fun e=>by subst e; rw [hrgn] at h; simp at h
    simp [g',this,h]
  have hcb:∀ i x,s i=some x→g'.cb i=g.cb i:=fun i x h=>by
    have:i ≠ id:=fun e=>by subst e; rw [hid] at h; simp at h
    simp [g',this]
  have hle:xs.length * sz≤cap * sz:=Nat.mul_le_mul_right _ hcap
  have e:Ext g s w g' (upd s id (.arr sz xs.length xs 0 0 0)) w:=by
    refine ⟨fun _ _ _ h hc=>⟨h,hc⟩,fun _ _ h=>h, ?_, ?_,rfl, .refl _ _,fun _ _ _ h=>h,rfl,fun _ _=>⟨rfl,fun _ h=>h⟩⟩
    · rintro i ep off len capd b o' cap ⟨sz,n,xs,cur,lost,fz,h1,h2⟩
      refine ⟨sz,n,xs,cur,lost,fz,hs _ _ h1,fun hl=>?_⟩
      obtain ⟨h3,st,m,h4,h5,h6,h7,h8⟩:=h2 hl
      exact ⟨h3,st,m,hrg _ _ h4,h5,h6,h7,fun hc=>by rw [hcb _ _ h1]; exact h8 hc⟩
    · rintro i ep j off b o' ⟨sz,n,xs,cur,lost,fz,h1,h2⟩
      refine ⟨sz,n,xs,cur,lost,fz,hs _ _ h1,fun hl=>?_⟩
      obtain ⟨h3,st,m,h4,h5,h6,h7⟩:=h2 hl
      exact ⟨h3,st,m,hrg _ _ h4,h5,h6,fun hc=>by rw [hcb _ _ h1]; exact h7 hc⟩
  refine ⟨g',e, ?_, ?_,rfl,rfl,rfl,fun b hb=>by simp [g',hb],rfl⟩
  · refine ⟨?_, ?_, ?_, ?_,hi.inj,hi.immS,hi.baseS,ad2 hi.ho e (fun i h hh=>upd_ho hh (by simp)) (fun _ _ _ _=>rfl),
      hi.prS.step (Nat.le_refl _) rfl (fun b hpb=>.inr (if_neg (fun (e:b=blk)=>hnp (e ▸ hpb)))) (fun _ _ _ h=>⟨_,h⟩)⟩
    · intro i cs' h
      have hii:i ≠ id:=fun e=>by subst e; simp at h
      rw [aak _ _ hii] at h
      obtain ⟨b,c',t',h1,h2,h3,h4⟩:=hi.box i cs' h
      exact ⟨b,c',t',h1,h2,RepAs.ext e _ _ h3,h4⟩
    · intro i sz' n xs' cur lost fz h
      by_cases hii:i=id
      · subst hii
        simp at h
        obtain ⟨rfl,rfl,rfl,rfl,rfl,rfl⟩:=h
        refine ⟨rfl,Nat.le_refl _,by omega,fun b st' m hb=>?_⟩
        by_cases hbb:b=blk
        · subst hbb
          simp [g'] at hb
          obtain ⟨rfl,rfl⟩:=hb
          refine ⟨Nat.le_refl _,c,t,vs,hblk, ?_,hv,hcells,fun o ho=>by have:=himm o ho; omega,by omega⟩
          rw [List.take_length]; exact RepAs.ext e _ _ hr
        · simp [g',hbb] at hb
          obtain ⟨⟨_,_,_,_,_,_,h⟩,_,_⟩:=hi.rgS _ _ _ _ hb
          rw [hid] at h; simp at h
      · rw [aak _ _ hii] at h
        obtain ⟨h1,h2,h3,h4⟩:=hi.arr i sz' n xs' cur lost fz h
        refine ⟨h1,h2,h3,fun b st m hb=>?_⟩
        have hbb:b ≠ blk:=fun e=>by subst e; simp [g'] at hb; exact hii hb.1.symm
        simp [g',hbb] at hb
        obtain ⟨h5,c',t',vs',h6,h7,h8⟩:=h4 b st m hb
        exact ⟨h5,c',t',vs',h6,RepAs.ext e _ _ h7,h8⟩
    · intro b i st' m hb'
      by_cases hbb:b=blk
      · subst hbb
        simp [g'] at hb'
        obtain ⟨rfl,rfl,rfl⟩:=hb'
        exact ⟨⟨_,_,_,_,_,_,aaJ _ _ _⟩,hb,hlt⟩
      · simp [g',hbb] at hb'
        obtain ⟨⟨sz',n,xs',cur,lost,fz,h1⟩,h2,h3⟩:=hi.rgS b i st' m hb'
        exact ⟨⟨sz',n,xs',cur,lost,fz,hs _ _ h1⟩,h2,h3⟩
    · intro i b hb'
      obtain ⟨h1,h2,h3,h4,h5⟩:=hi.bxS i b hb'
      refine ⟨h1,h2, ?_,h4, ?_⟩
      · have:b ≠ blk:=fun e=>by subst e; exact hbx _ hb'
        simp [g',this,h3]
      · rcases h5 with ⟨cs',h5⟩ | ⟨es,h5⟩
        · exact .inl ⟨cs',hs _ _ h5⟩
        · exact .inr ⟨es,hs _ _ h5⟩
  · refine ⟨blk,st,cap,rfl,hcap,by simp,sz,xs.length,xs,0,0,0,aaJ _ _ _,fun _=>⟨Nat.le_refl _,st,xs.length,by simp [g'],by simp,by simp,fun hcd=>?_,fun _=>by simp [g']⟩⟩
    unfold World.bsize
    rw [hblk]
    exact hroom
theorem take_ho (hi:Inv g s w) {id blk:Nat} (hid:s id=none) {h:HObj} {o:Go.Obj} (hblk:w.heap[blk]? = some o) (hb:g.base≤blk) (hnp:¬ g.pr blk) (hrgn:g.rg blk=none) (hbx:∀ i,g.bx i ≠ some blk)
    (himm:∀ o, ¬ g.imm blk o) (hr:RepH g s w h o) :
    ∃ g',Ext g s w g' (upd s id (.ho h)) w∧Inv g' (upd s id (.ho h)) w∧g'.bx id=some blk∧g'.imm=g.imm∧g'.rg=g.rg∧g'.base=g.base∧(∀ i,i ≠ id→g'.bx i=g.bx i)∧g'.pr=g.pr:=by
  have hlt:blk < w.heap.size:=(Array.getElem?_eq_some_iff.1 hblk).1
  have hbn:g.bx id=none:=by
    cases hb:g.bx id with
    | none=>rfl
    | some b =>
      rcases (hi.bxS id b hb).2.2.2.2 with ⟨cs,h⟩ | ⟨es,h⟩ <;> rw [hid] at h <;> simp at h
  let g' : Sg:={ g with bx:=fun i=>if i=id then some blk else g.bx i }
  have hs:∀ i x,s i=some x→upd s id (.ho h) i=some x:=fun i x h=>by
    rw [aak _ _ (fun e=>by subst e; rw [hid] at h; simp at h)]; exact h
  have hbx' : ∀ i b,g.bx i=some b→g'.bx i=some b:=fun i b h=>by
    have:i ≠ id:=fun e=>by subst e; rw [hbn] at h; simp at h
    simp [g',this,h]
  have e:Ext g s w g' (upd s id (.ho h)) w:=by
    refine ⟨fun _ _ _ h hc=>⟨h,hc⟩,hbx', ?_, ?_,rfl, .refl _ _,fun _ _ _ h=>h,rfl,fun _ _=>⟨rfl,fun _ h=>h⟩⟩
    · rintro i ep off len capd b o' cap ⟨sz,n,xs,cur,lost,fz,h1,h2⟩
      exact ⟨sz,n,xs,cur,lost,fz,hs _ _ h1,h2⟩
    · rintro i ep j off b o' ⟨sz,n,xs,cur,lost,fz,h1,h2⟩
      exact ⟨sz,n,xs,cur,lost,fz,hs _ _ h1,h2⟩
  refine ⟨g',e,⟨?_, ?_, ?_, ?_, ?_,hi.immS,hi.baseS, ?_,hi.prS.step (Nat.le_refl _) rfl (fun _ _=>.inr rfl) (fun i b hpb hb=>by
      simp only [g'] at hb
      split at hb
      · simp at hb; subst hb; exact absurd hpb hnp
      · exact ⟨_,hb⟩)⟩,by simp [g'],rfl,rfl,rfl,fun i hii=>by simp [g',hii],rfl⟩
  · intro i cs' h1
    have hii:i ≠ id:=fun e=>by subst e; simp at h1
    rw [aak _ _ hii] at h1
    obtain ⟨b,c',t',h1,h2,h3,h4⟩:=hi.box i cs' h1
    exact ⟨b,c',t',hbx' _ _ h1,h2,RepAs.ext e _ _ h3,h4⟩
  · intro i sz n xs cur lost fz h1
    have hii:i ≠ id:=fun e=>by subst e; simp at h1
    rw [aak _ _ hii] at h1
    obtain ⟨h1,h2,h3,h4⟩:=hi.arr i sz n xs cur lost fz h1
    refine ⟨h1,h2,h3,fun b st m hb=>?_⟩
    obtain ⟨h5,c',t',vs,h6,h7,h8⟩:=h4 b st m hb
    exact ⟨h5,c',t',vs,h6,RepAs.ext e _ _ h7,h8⟩
  · intro b i st m hb
    obtain ⟨⟨sz,n,xs,cur,lost,fz,h1⟩,h2,h3⟩:=hi.rgS b i st m hb
    exact ⟨⟨sz,n,xs,cur,lost,fz,hs _ _ h1⟩,h2,h3⟩
  · intro i b hb'
    by_cases hii:i=id
    · subst hii
      simp [g'] at hb'
      subst hb'
      exact ⟨hb,hlt,hrgn,himm, .inr ⟨h,by simp⟩⟩
    · simp [g',hii] at hb'
      obtain ⟨h1,h2,h3,h4,h5⟩:=hi.bxS i b hb'
      refine ⟨h1,h2,h3,h4, ?_⟩
      rcases h5 with ⟨cs',h5⟩ | ⟨es,h5⟩
      · exact .inl ⟨cs',hs _ _ h5⟩
      · exact .inr ⟨es,hs _ _ h5⟩
  · intro i j b h1 h2
    by_cases hii:i=id
    · subst hii
      by_cases hjj:j=i
      · exact hjj.symm
      · simp [g',hjj] at h1 h2
        subst h1
        exact absurd h2 (hbx _)
    · by_cases hjj:j=id
      · subst hjj
        simp [g',hii] at h1 h2
        subst h2
        exact absurd h1 (hbx _)
      · simp [g',hii,hjj] at h1 h2
        exact hi.inj i j b h1 h2
  · intro i h' h1
    by_cases hii:i=id
    · subst hii
      simp at h1
      subst h1
      exact ⟨blk,o,by simp [g'],hblk,hr.ext e⟩
    · rw [aak _ _ hii] at h1
      obtain ⟨b,o',h3,h4,h5⟩:=hi.ho i h' h1
      exact ⟨b,o',hbx' _ _ h3,h4,h5.ext e⟩
theorem freeze_one (hi:Inv g s w) {id sz n:Nat} {xs:List AVal} {cur lost fz:Nat} (hid:s id=some (.arr sz n xs cur lost fz)) :
    Ext g s w g (upd s id (.arr sz n xs cur lost n)) w∧Inv g (upd s id (.arr sz n xs cur lost n)) w:=by
  have e:Ext g s w g (upd s id (.arr sz n xs cur lost n)) w:=by
    refine ⟨fun _ _ _ h hc=>⟨h,hc⟩,fun _ _ h=>h, ?_, ?_,rfl, .refl _ _,fun _ _ _ h=>h,rfl,fun _ _=>⟨rfl,fun _ h=>h⟩⟩
    · rintro i ep off len capd b o' cap ⟨sz',n',xs',cur',lost',fz',h1,h2⟩
      by_cases hii:i=id
      · subst hii
        rw [hid] at h1
        simp at h1
        obtain ⟨rfl,rfl,rfl,rfl,rfl,rfl⟩:=h1
        exact ⟨_,_,_,_,_,_,aaJ _ _ _,h2⟩
      · exact ⟨_,_,_,_,_,_,by rw [aak _ _ hii]; exact h1,h2⟩
    · rintro i ep j off b o' ⟨sz',n',xs',cur',lost',fz',h1,h2⟩
      by_cases hii:i=id
      · subst hii
        rw [hid] at h1
        simp at h1
        obtain ⟨rfl,rfl,rfl,rfl,rfl,rfl⟩:=h1
        exact ⟨_,_,_,_,_,_,aaJ _ _ _,h2⟩
      · exact ⟨_,_,_,_,_,_,by rw [aak _ _ hii]; exact h1,h2⟩
  refine ⟨e, ?_, ?_, ?_, ?_,hi.inj,hi.immS,hi.baseS,ad2 hi.ho e (fun i h hh=>upd_ho hh (by simp)) (fun _ _ _ _=>rfl),hi.prS⟩
  · intro i cs' h
    have hii:i ≠ id:=fun e=>by subst e; simp at h
    rw [aak _ _ hii] at h
    obtain ⟨b,c',t',h1,h2,h3,h4⟩:=hi.box i cs' h
    exact ⟨b,c',t',h1,h2,RepAs.ext e _ _ h3,h4⟩
  · intro i sz' n' xs' cur' lost' fz' h
    by_cases hii:i=id
    · subst hii
      simp at h
      obtain ⟨rfl,rfl,rfl,rfl,rfl,rfl⟩:=h
      obtain ⟨h1,h2,h3,h4⟩:=hi.arr i _ _ _ _ _ _ hid
      refine ⟨h1,h2,Nat.le_refl _,fun b st m hb=>?_⟩
      obtain ⟨h5,c',t',vs',h6,h7,h8,h9,h10,h11⟩:=h4 b st m hb
      refine ⟨h5,c',t',vs',h6,RepAs.ext e _ _ h7,h8,h9,fun o ho=>?_,h11⟩
      have:=h10 o ho
      have:=Nat.mul_le_mul_right sz h3
      omega
    · rw [aak _ _ hii] at h
      obtain ⟨h1,h2,h3,h4⟩:=hi.arr i sz' n' xs' cur' lost' fz' h
      refine ⟨h1,h2,h3,fun b st m hb=>?_⟩
      obtain ⟨h5,c',t',vs',h6,h7,h8⟩:=h4 b st m hb
      exact ⟨h5,c',t',vs',h6,RepAs.ext e _ _ h7,h8⟩
  · intro b i st' m hb'
    obtain ⟨⟨sz',n',xs',cur',lost',fz',h1⟩,h2,h3⟩:=hi.rgS b i st' m hb'
    refine ⟨?_,h2,h3⟩
    by_cases hii:i=id
    · subst hii; exact ⟨_,_,_,_,_,_,aaJ _ _ _⟩
    · exact ⟨_,_,_,_,_,_,by rw [aak _ _ hii]; exact h1⟩
  · intro i b hb'
    obtain ⟨h1,h2,h3,h4,h5⟩:=hi.bxS i b hb'
    refine ⟨h1,h2,h3,h4, ?_⟩
    have hii:i ≠ id:=fun e=>by
      subst e
      rcases h5 with ⟨cs',h5⟩ | ⟨es,h5⟩ <;> rw [hid] at h5 <;> simp at h5
    rw [aak _ _ hii]
    exact h5
abbrev upds (s:Sto) (l:List (Nat × Obj)):Sto:=l.foldl (fun s x=>upd s x.1 x.2) s
def Frozen (s s' : Sto) (ids:List Nat):Prop :=
  (∀ id,s' id=s id ∨ ∃ sz n xs cur lost fz,s id=some (.arr sz n xs cur lost fz)∧s' id=some (.arr sz n xs cur lost n)) ∧
  ∀ id ∈ ids, ∀ sz n xs cur lost fz,s id=some (.arr sz n xs cur lost fz)→s' id=some (.arr sz n xs cur lost n)
theorem alK {S:St} {s₀:Sto} (hs:∀ id,s₀ id=S.get id):∀ (ids:List Nat) {s:Sto} {l:List Nat},Inv g s w→Frozen s₀ s l →
    Ext g s w g (upds s (freeze S ids)) w∧Inv g (upds s (freeze S ids)) w∧Frozen s₀ (upds s (freeze S ids)) (l ++ ids)
  | [],s,l,hi,hf=>by simpa [freeze,upds] using ⟨Ext.refl g s w,hi,hf⟩
  | id :: ids,s,l,hi,hf=>by
    simp only [freeze]
    split
    · rename_i sz n xs ep lost fz hid
      have hid' : s₀ id=some (.arr sz n xs ep lost fz):=(hs id).trans hid
      have:∃ fz',s id=some (.arr sz n xs ep lost fz'):=by
        rcases hf.1 id with h | ⟨sz',n',xs',cur',lost',fz',h1,h2⟩
        · exact ⟨fz,h.trans hid'⟩
        · rw [hid'] at h1
          simp at h1
          obtain ⟨rfl,rfl,rfl,rfl,rfl,rfl⟩:=h1
          exact ⟨_,h2⟩
      obtain ⟨fz',h1⟩:=this
      obtain ⟨e1,e2⟩:=freeze_one hi h1
      have hf' : Frozen s₀ (upd s id (.arr sz n xs ep lost n)) (l ++ [id]):=by
        refine ⟨fun i=>?_,fun i hi' sz' n' xs' cur' lost' fz' h=>?_⟩
        · by_cases hii:i=id
          · subst hii; exact .inr ⟨_,_,_,_,_,_,hid',aaJ _ _ _⟩
          · rw [aak _ _ hii]; exact hf.1 i
        · by_cases hii:i=id
          · subst hii
            rw [hid'] at h
            simp at h
            obtain ⟨rfl,rfl,rfl,rfl,rfl,rfl⟩:=h
            exact aaJ _ _ _
          · rw [aak _ _ hii]
            exact hf.2 i (by simp at hi'; exact hi'.resolve_right hii) _ _ _ _ _ _ h
      obtain ⟨e3,e4,e5⟩:=alK hs ids e2 hf'
      exact ⟨e1.trans e3,e4,by simpa using e5⟩
    · rename_i hno
      have hf' : Frozen s₀ s (l ++ [id]):=by
        refine ⟨hf.1,fun i hi' sz' n' xs' cur' lost' fz' h=>?_⟩
        by_cases hii:i=id
        · subst hii
          exact absurd ((hs i).symm.trans h) (hno _ _ _ _ _ _)
        · exact hf.2 i (by simp at hi'; exact hi'.resolve_right hii) _ _ _ _ _ _ h
      obtain ⟨e3,e4,e5⟩:=alK hs ids hi hf'
      exact ⟨e3,e4,by simpa using e5⟩
theorem Inv.past (hi:Inv g s w) (hb:Below w.heap.size w w') {I:Nat→Nat→Prop} (h1:∀ b o,I b o→b < w'.heap.size)
    (h2:∀ b o,I b o→b < w.heap.size→g.imm b o ∨ ∃ id st m sz n xs cur lost,g.rg b=some (id,st,m)∧s id=some (.arr sz n xs cur lost n)∧o < st + m * sz) :
    Ext g s w { g with imm:=fun b o=>g.imm b o ∨ I b o } s w' ∧ Inv { g with imm:=fun b o=>g.imm b o ∨ I b o } s w':=by
  have e:Ext g s w { g with imm:=fun b o=>g.imm b o ∨ I b o } s w':=by
    refine ⟨fun b o c h hc=>⟨.inl h,by rw [hb.cell (p:=⟨b,o,none⟩) (hi.immS b o h)]; exact hc⟩,fun _ _ h=>h, ?_,fun _ _ _ _ _ _ h=>h,rfl,hb.mono hi.baseS, ?_,rfl,fun b hpb=>⟨hb.block b (hi.prS b hpb).1,fun o h=>?_⟩⟩
    · rintro i ep off len capd b o' cap ⟨sz',n',xs',cur',lost',fz',k1,k2⟩
      refine ⟨sz',n',xs',cur',lost',fz',k1,fun hl=>?_⟩
      obtain ⟨h3,st,m,h4,h5,h6,h7,h8⟩:=k2 hl
      exact ⟨h3,st,m,h4,h5,h6,fun hc=>by rw [alV (hb.block b (hi.rgS _ _ _ _ h4).2.2)]; exact h7 hc,h8⟩
    · intro b o hlt h
      rcases h with h | h
      · exact h
      · rcases h2 b o h (Nat.lt_of_lt_of_le hlt hi.baseS) with h | ⟨id,st,m,_,_,_,_,_,h3,_⟩
        · exact h
        · have:=(hi.rgS _ _ _ _ h3).2.1; omega
    · rcases h with h | h
      · exact h
      · rcases h2 b o h (hi.prS b hpb).1 with h | ⟨id,st,m,_,_,_,_,_,h3,_⟩
        · exact h
        · rw [(hi.prS b hpb).2.1] at h3; simp at h3
  refine ⟨e, ?_, ?_, ?_, ?_,hi.inj, ?_,Nat.le_trans hi.baseS hb.size,ad2 hi.ho e (fun _ _ h=>h) (fun i b' hb' _=>hb.block b' (hi.bxS _ _ hb').2.1),hi.prS.step hb.size rfl (fun _ _=>.inr rfl) (fun _ _ _ h=>⟨_,h⟩)⟩
  · intro i cs' h
    obtain ⟨b,c',t',k1,k2,k3,k4⟩:=hi.box i cs' h
    exact ⟨b,c',t',k1,by rw [hb.block b (hi.bxS _ _ k1).2.1]; exact k2,RepAs.ext e _ _ k3,k4⟩
  · intro i sz n xs cur lost fz h
    obtain ⟨k1,k2,k3,k4⟩:=hi.arr i sz n xs cur lost fz h
    refine ⟨k1,k2,k3,fun b st m hr=>?_⟩
    obtain ⟨k5,c',t',vs',k6,k7,k8,k9,k10,k11⟩:=k4 b st m hr
    have hlt:=(hi.rgS _ _ _ _ hr).2.2
    refine ⟨k5,c',t',vs',by rw [hb.block b hlt]; exact k6,RepAs.ext e _ _ k7,k8,k9,fun o ho=>?_,k11⟩
    rcases ho with ho | ho
    · exact k10 o ho
    · rcases h2 b o ho hlt with ho | ⟨id,st',m',sz',n',xs',cur',lost',q1,q2,q3⟩
      · exact k10 o ho
      · rw [hr] at q1
        simp at q1
        obtain ⟨rfl,rfl,rfl⟩:=q1
        rw [h] at q2
        simp at q2
        obtain ⟨rfl,rfl,rfl,rfl,rfl,rfl⟩:=q2
        have:=Nat.mul_le_mul_right sz k5
        omega
  · intro b i st m hr
    obtain ⟨q1,q2,q3⟩:=hi.rgS b i st m hr
    exact ⟨q1,q2,Nat.lt_of_lt_of_le q3 hb.size⟩
  · intro i b hx
    obtain ⟨q1,q2,q3,q4,q5⟩:=hi.bxS i b hx
    refine ⟨q1,Nat.lt_of_lt_of_le q2 hb.size,q3,fun o ho=>?_,q5⟩
    rcases ho with ho | ho
    · exact q4 o ho
    · rcases h2 b o ho q2 with ho | ⟨id,st',m',sz',n',xs',cur',lost',q6,_⟩
      · exact q4 o ho
      · rw [q3] at q6; simp at q6
  · intro b o h
    rcases h with h | h
    · exact Nat.lt_of_lt_of_le (hi.immS b o h) hb.size
    · exact h1 b o h
end
end Go.Proofs.YtdnbnpknpejpdaaGreatDoor.Sw
namespace Go.Proofs.YtdnbnpknpejpdaaGreatDoor.Sw
open Go.RowKit
def RepEP (I:Nat→Nat→Prop) (w:World):List (PVal × PVal)→List MapEntry→Prop
  | [],l=>l = []
  | (k,x) :: es,l=>∃ e r,l=e :: r∧RepP I w k e.key∧RepP I w x e.val∧RepEP I w es r
theorem RepEP.mono {I I' : Nat→Nat→Prop} {w:World} (hI:∀ b o,I b o→I' b o):∀ {es:List (PVal × PVal)} {l:List MapEntry},RepEP I w es l→RepEP I' w es l
  | [],_,h=>h
  | (k,x) :: es,_,h=>by
    obtain ⟨e,r,rfl,h1,h2,h3⟩:=h
    exact ⟨e,r,rfl,RepP.keeps (.mono hI) _ _ h1,RepP.keeps (.mono hI) _ _ h2,RepEP.mono hI h3⟩
theorem RepEP.es {g:Sg} {s:Sto} {w:World}:∀ {es:List (PVal × PVal)} {l:List MapEntry},RepEP g.imm w es l→RepEs g s w (es.map fun q=>(q.1, .p q.2)) l
  | [],_,h=>h
  | (k,x) :: es,_,h=>by
    obtain ⟨e,r,rfl,h1,h2,h3⟩:=h
    exact ⟨e,r,rfl,h1,h2,RepEP.es h3⟩
def PartOk (I:Nat→Nat→Prop) (g:Sg) (w:World):AVal→List Nat→Value→Prop
  | .p p,ow,u=>ow = []∧RepP I w p u
  | .own sz ys,ow,u=>∃ id st cap c t vs,ow = [id]∧u = .slice (some ⟨g.cb id,st,none⟩) ys.length cap∧ys.length≤cap∧g.rg (g.cb id)=some (id,st,ys.length) ∧
      w.heap[g.cb id]? = some (.cells c t (0,0))∧RepPs I w ys vs∧(∀ v ∈ vs,v.cells.size=sz ∧ ∀ x ∈ v.cells.toList,isCell x=true) ∧
      (∀ (i:Nat) (x:Value),(vs.flatMap (·.cells.toList))[i]? = some x→c[st + i]? = some x)∧st + cap * sz≤c.size∧(∀ o,g.imm (g.cb id) o→o < st)
  | .ownm es,ow,u=>∃ id b ents clock,ow = [id]∧u = .map (some b)∧g.bx id=some b∧w.heap[b]? = some (.map ents clock)∧RepEP I w es ents.toList
  | _,_,_=>False
def adL (I:Nat→Nat→Prop) (g:Sg) (w:World):List AVal→List Nat→List Value→Prop
  | [],ow,us=>ow = []∧us = []
  | x :: xs,ow,us=>∃ ow1 ow2 u us',ow=ow1 ++ ow2∧us=u :: us' ∧ PartOk I g w x ow1 u∧adL I g w xs ow2 us'
section
variable {P:Program} {g g' : Sg} {s s' : Sto} {w w' : World}
theorem PartOk.mono {I I' : Nat→Nat→Prop} (hI:∀ b o,I b o→I' b o) {x:AVal} {ow:List Nat} {u:Value} (h:PartOk I g w x ow u):PartOk I' g w x ow u:=by
  cases x with
  | p x=>exact ⟨h.1,RepP.keeps (.mono hI) _ _ h.2⟩
  | own sz ys =>
    obtain ⟨id,st,cap,c,t,vs,h1,h2,h3,h4,h5,h6,h7⟩:=h
    exact ⟨id,st,cap,c,t,vs,h1,h2,h3,h4,h5,RepPs.keeps (.mono hI) _ _ h6,h7⟩
  | ownm es =>
    obtain ⟨id,b,ents,clock,h1,h2,h3,h4,h5⟩:=h
    exact ⟨id,b,ents,clock,h1,h2,h3,h4,h5.mono hI⟩
  | _=>exact h.elim
theorem purEs_rep {f:AVal→Option (PVal × List Nat)} (hf:∀ v x ids u,f v=some (x,ids)→RepA g s w v u→RepP (immOf g s ids) w x u) :
    ∀ {es:List (PVal × AVal)} {xs:List (PVal × PVal)} {ids:List Nat} {l:List MapEntry},purEs f es=some (xs,ids)→RepEs g s w es l→RepEP (immOf g s ids) w xs l
  | [],_,_,_,h,hr=>by
    simp [purEs] at h
    obtain ⟨rfl,rfl⟩:=h
    exact hr
  | (k,v) :: es,_,_,_,h,hr=>by
    obtain ⟨e,r,rfl,h1,h2,h3⟩:=hr
    simp only [purEs] at h
    split at h <;> simp at h
    rename_i x a xs b hx hxs
    obtain ⟨rfl,rfl⟩:=h
    exact ⟨e,r,rfl,RepP.keeps (.mono fun b o h=>.inl h) _ _ h1,RepP.keeps (.mono fun b o=>immOf.mono (by simp; exact fun i hi=>.inl hi)) _ _ (hf _ _ _ _ hx h2),
      (purEs_rep hf hxs h3).mono fun b o=>immOf.mono (by simp; exact fun i hi=>.inr hi)⟩
theorem outv_rep {S:St} (hs:∀ id,s id=S.get id) (hi:Inv g s w) {v x:AVal} {rd ow:List Nat} {u:Value} (h:outv S v=some (x,rd,ow)) (hr:RepA g s w v u) :
    PartOk (immOf g s rd) g w x ow u:=by
  have gen:∀ {v x:AVal} {rd ow:List Nat},((pur S depth v).map fun x=>(AVal.p x.1,x.2,([]:List Nat)))=some (x,rd,ow)→RepA g s w v u→PartOk (immOf g s rd) g w x ow u:=by
    intro v x rd ow h hr
    simp only [Option.map_eq_some_iff] at h
    obtain ⟨⟨y,a⟩,h1,h2⟩:=h
    simp at h2
    obtain ⟨rfl,rfl,rfl⟩:=h2
    exact ⟨rfl,aiv hs hi _ _ _ _ _ h1 hr⟩
  unfold outv at h
  split at h
  · rename_i id ep off len c
    split at h
    · rename_i sz n xs cur lost fz hid
      split at h
      · rename_i t1 t2 t3 t4 t6
        have t1:=Nat.eq_of_beq_eq_true t1
        have t2:=Nat.eq_of_beq_eq_true t2
        have t3:=Nat.eq_of_beq_eq_true t3
        have t4:=Nat.eq_of_beq_eq_true t4
        have t6:=Nat.le_of_ble_eq_true t6
        subst t1 t2 t3 t4
        split at h <;> simp at h
        rename_i ys rd' hys
        obtain ⟨rfl,rfl,rfl⟩:=h
        obtain ⟨b,o,cap,rfl,h3,h4,sz2,n2,xs2,cur2,lost2,fz2,k1,k2⟩:=hr
        have k1':=k1
        rw [hs id,hid] at k1
        simp at k1
        obtain ⟨rfl,rfl,rfl,rfl,rfl,rfl⟩:=k1
        obtain ⟨_,st,m,k3,k4,k5,k6,k7⟩:=k2 t6
        obtain ⟨q1,q2,q3,q4⟩:=hi.arr id _ _ _ _ _ _ k1'
        obtain ⟨q5,c',t',vs,q6,q7,q8,q9,q10,q11⟩:=q4 b st m k3
        have hm:m=xs.length:=by omega
        subst hm
        have hcb:=k7 rfl
        rw [List.take_length] at q7
        have hp:=adO (aiv hs hi depth) hys q7
        have hl:=RepPs.length hp
        have hl2:=RepAs.length q7
        have hlen:ys.length=xs.length:=by omega
        refine ⟨id,st,cap,c',t',vs,rfl,by rw [hcb,hlen,k4,q1]; simp,by omega,by rw [hcb,hlen]; exact k3,by rw [hcb]; exact q6,hp,q8,q9, ?_,fun o ho=>?_⟩
        · have:=k6 rfl
          unfold World.bsize at this
          rw [q6] at this
          rw [k4] at this
          simpa using this
        · have:=q10 o (by rw [← hcb]; exact ho); omega
      · exact gen h hr
    · simp at h
  · rename_i id
    split at h <;> try (simp at h; done)
    rename_i es hid
    split at h <;> simp at h
    rename_i ys rd' hys
    obtain ⟨rfl,rfl,rfl⟩:=h
    obtain ⟨b,hb,rfl⟩:=hr
    obtain ⟨b',o,h1,h2,ents,clock,rfl,h3⟩:=hi.ho id _ ((hs id).trans hid)
    rw [hb] at h1
    simp at h1
    subst h1
    exact ⟨id,b,ents,clock,rfl,rfl,hb,h2,purEs_rep (aiv hs hi depth) hys h3⟩
  · exact gen h hr
theorem outvs_rep {S:St} (hs:∀ id,s id=S.get id) (hi:Inv g s w) {I:Nat→Nat→Prop}:∀ {vs xs:List AVal} {rd ow:List Nat} {us:List Value},outvs S vs=some (xs,rd,ow) →
    (∀ b o,immOf g s rd b o→I b o)→RepAs g s w vs us→adL I g w xs ow us
  | [],xs,rd,ow,us,h,_,hr=>by
    simp [outvs] at h
    obtain ⟨rfl,rfl,rfl⟩:=h
    exact ⟨rfl,hr⟩
  | v :: vs,xs,rd,ow,us,h,hI,hr=>by
    obtain ⟨u,us,rfl,h1,h2⟩:=hr
    simp only [outvs] at h
    split at h <;> simp at h
    rename_i x a b xs' c d e1 e2
    obtain ⟨rfl,rfl,rfl⟩:=h
    exact ⟨b,d,u,us,rfl,rfl,(outv_rep hs hi e1 h1).mono fun b o h=>hI b o (h.mono (by simp; exact fun i hi=>.inl hi)),
      outvs_rep hs hi e2 (fun b o h=>hI b o (h.mono (by simp; exact fun i hi=>.inr hi))) h2⟩
theorem adL.unP {I:Nat→Nat→Prop}:∀ {xs:List AVal} {ow:List Nat} {us:List Value} {ps:List PVal},adL I g w xs ow us→Sw.unP xs=some ps→RepPs I w ps us
  | [],_,_,_,h,hu=>by
    simp [Sw.unP] at hu; subst hu; exact h.2
  | x :: xs,_,_,_,h,hu=>by
    obtain ⟨ow1,ow2,u,us,rfl,rfl,h1,h2⟩:=h
    cases x <;> simp only [Sw.unP] at hu <;> try (simp at hu; done)
    split at hu <;> simp at hu
    rename_i ps hps
    subst hu
    exact ⟨u,us,rfl,h1.2,adL.unP h2 hps⟩
theorem apw {x:Nat} {l:List Nat} (h:hasDup (x :: l)=false):x ∉ l∧hasDup l=false:=by
  simp only [hasDup] at h
  split at h
  · simp at h
  · rename_i hc; exact ⟨by simpa using hc,h⟩
theorem meets_not {l m:List Nat} (h:meets l m=false):∀ x ∈ l,x ∉ m:=by
  induction l with
  | nil=>simp
  | cons y l ih =>
    simp only [meets] at h
    split at h
    · simp at h
    · rename_i hc
      intro x hx
      cases hx with
      | head=>simpa using hc
      | tail _ hx=>exact ih h x hx
theorem agY:∀ (b:Nat) (xs:List AVal), ∀ q ∈ (adopts b xs).2,b≤q.1
  | b,[]=>by simp [adopts]
  | b,x :: xs=>by
    intro q hq
    simp only [adopts,List.mem_append] at hq
    rcases hq with hq | hq
    · cases x <;> simp [adopt1] at hq <;> subst hq <;> exact Nat.le_refl _
    · have:=agY (b + 1) xs q hq; omega
theorem ahF {I:Nat→Nat→Prop} {g2:Sg}:∀ {xs:List AVal} {ow:List Nat} {us:List Value} {g:Sg} {s:Sto} (b:Nat),adL I g2 w xs ow us→Inv g s w →
    (∀ b o,I b o→g.imm b o) →
    (∀ id ∈ ow, ∀ blk st m,g2.rg blk=some (id,st,m)→g.base≤blk ∧ ¬ g.pr blk∧g.rg blk=none∧(∀ i,g.bx i ≠ some blk)) →
    (∀ id ∈ ow, ∀ blk,g2.bx id=some blk→g.base≤blk ∧ ¬ g.pr blk∧g.rg blk=none∧(∀ i,g.bx i ≠ some blk)∧(∀ o, ¬ g.imm blk o)) →
    (∀ id id' b,g2.bx id=some b→g2.bx id' = some b→id=id')→(∀ id b,g2.bx id=some b→g2.rg b=none) →
    (∀ id ∈ ow,(∃ st m,g2.rg (g2.cb id)=some (id,st,m)) → ∀ o st,(∀ o,g2.imm (g2.cb id) o→o < st)→g.imm (g2.cb id) o→o < st)→hasDup ow=false →
    (∀ q ∈ (adopts b xs).2,s q.1=none) →
    ∃ g',Ext g s w g' (upds s (adopts b xs).2) w∧Inv g' (upds s (adopts b xs).2) w∧RepAs g' (upds s (adopts b xs).2) w (adopts b xs).1 us
  | [],ow,us,g,s,b,hp,hi,_,_,_,_,_,_,_,_=>⟨g, .refl _ _ _,hi,hp.2⟩
  | x :: xs,ow,us,g,s,b,hp,hi,hI,hrg,hmp,hinj,hbr,himm,hd,hn=>by
    obtain ⟨ow1,ow2,u,us,rfl,rfl,h1,h2⟩:=hp
    simp only [adopts] at hn ⊢
    cases x with
    | p x =>
      obtain ⟨rfl,h1⟩:=h1
      simp only [adopt1,List.nil_append] at hn ⊢
      obtain ⟨g',e1,e2,e3⟩:=ahF (b + 1) h2 hi hI (fun id h=>hrg id h) (fun id h=>hmp id h) hinj hbr (fun id h=>himm id h) hd hn
      refine ⟨g',e1,e2,u,us,rfl, ?_,e3⟩
      exact RepA.ext e1 (.p x) u (RepP.keeps (.mono hI) _ _ h1)
    | own sz ys =>
      obtain ⟨id,st,cap,c,t,vs,rfl,rfl,k3,k4,k5,k6,k7,k8,k9,k10⟩:=h1
      obtain ⟨d1,d2⟩:=apw (by simpa using hd)
      obtain ⟨r1,rp,r2,r3⟩:=hrg id (by simp) _ _ _ k4
      simp only [adopt1,List.cons_append,List.nil_append] at hn ⊢
      have hb:=hn (b, .arr sz ys.length (ys.map .p) 0 0 0) (by simp)
      have hlen:(ys.map AVal.p).length=ys.length:=by simp
      obtain ⟨g1,e1,e2,e3,e4,e5,e6,e7,e8⟩:=take_over hi (id:=b) hb (xs:=ys.map .p) k5 r1 rp r2 r3 (fun o ho=>himm id (by simp) ⟨_,_,k4⟩ o st k10 ho)
        (aaU (RepPs.keeps (.mono hI) _ _ k6)) k7 k8 (by simpa using k3) k9
      rw [hlen] at e1 e2 e3
      have hn' : ∀ q ∈ (adopts (b + 1) xs).2,upd s b (.arr sz ys.length (ys.map .p) 0 0 0) q.1=none:=fun q hq=>by
        have:=agY _ _ q hq
        rw [aak _ _ (by omega)]
        exact hn q (by simp [hq])
      obtain ⟨g',f1,f2,f3⟩:=ahF (b + 1) h2 e2 (fun b o h=>by rw [e4]; exact hI b o h) (fun id' h blk' st' m' hr=>by
          have hne:blk' ≠ g2.cb id:=fun e=>by
            subst e
            rw [k4] at hr
            simp at hr
            exact d1 (hr.1 ▸ h)
          obtain ⟨q1,qp,q2,q3⟩:=hrg id' (by simp [h]) _ _ _ hr
          exact ⟨by rw [e6]; exact q1,by rw [e8]; exact qp,by rw [e7 _ hne]; exact q2,by rw [e5]; exact q3⟩)
        (fun id' h blk' hb'=>by
          obtain ⟨q1,qp,q2,q3,q4⟩:=hmp id' (by simp [h]) _ hb'
          have hne:blk' ≠ g2.cb id:=fun e=>by
            subst e
            rw [hbr _ _ hb'] at k4
            simp at k4
          exact ⟨by rw [e6]; exact q1,by rw [e8]; exact qp,by rw [e7 _ hne]; exact q2,by rw [e5]; exact q3,by rw [e4]; exact q4⟩) hinj hbr
        (fun id' h=>by rw [e4]; exact himm id' (by simp [h])) d2 hn'
      exact ⟨g',e1.trans f1,f2,_,us,rfl,RepA.ext f1 _ _ e3,f3⟩
    | ownm es =>
      obtain ⟨id,bl,ents,clock,rfl,rfl,k3,k4,k5⟩:=h1
      obtain ⟨d1,d2⟩:=apw (by simpa using hd)
      obtain ⟨r1,rp,r2,r3,r4⟩:=hmp id (by simp) _ k3
      simp only [adopt1,List.cons_append,List.nil_append] at hn ⊢
      have hb:=hn (b, .ho (.mp (es.map fun q=>(q.1, .p q.2)))) (by simp)
      obtain ⟨g1,e1,e2,e3,e4,e5,e6,e7,e8⟩:=take_ho hi (id:=b) hb (h:=.mp (es.map fun q=>(q.1, .p q.2))) k4 r1 rp r2 r3 r4 ⟨ents,clock,rfl,(k5.mono hI).es⟩
      have hn' : ∀ q ∈ (adopts (b + 1) xs).2,upd s b (.ho (.mp (es.map fun q=>(q.1, .p q.2)))) q.1=none:=fun q hq=>by
        have:=agY _ _ q hq
        rw [aak _ _ (by omega)]
        exact hn q (by simp [hq])
      have hbx:∀ blk',blk' ≠ bl→(∀ i,g.bx i ≠ some blk') → ∀ i,g1.bx i ≠ some blk':=fun blk' hne q3 i=>by
        by_cases hib:i=b
        · subst hib; rw [e3]; simp; exact fun e=>hne e.symm
        · rw [e7 _ hib]; exact q3 i
      obtain ⟨g',f1,f2,f3⟩:=ahF (b + 1) h2 e2 (fun b o h=>by rw [e4]; exact hI b o h) (fun id' h blk' st' m' hr=>by
          obtain ⟨q1,qp,q2,q3⟩:=hrg id' (by simp [h]) _ _ _ hr
          have hne:blk' ≠ bl:=fun e=>by
            subst e
            rw [hbr _ _ k3] at hr
            simp at hr
          exact ⟨by rw [e6]; exact q1,by rw [e8]; exact qp,by rw [e5]; exact q2,hbx _ hne q3⟩)
        (fun id' h blk' hb'=>by
          obtain ⟨q1,qp,q2,q3,q4⟩:=hmp id' (by simp [h]) _ hb'
          have hne:blk' ≠ bl:=fun e=>by
            subst e
            exact d1 (hinj _ _ _ k3 hb' ▸ h)
          exact ⟨by rw [e6]; exact q1,by rw [e8]; exact qp,by rw [e5]; exact q2,hbx _ hne q3,by rw [e4]; exact q4⟩) hinj hbr
        (fun id' h=>by rw [e4]; exact himm id' (by simp [h])) d2 hn'
      exact ⟨g',e1.trans f1,f2,_,us,rfl,RepA.ext f1 _ _ ⟨bl,e3,rfl⟩,f3⟩
    | _=>exact h1.elim
mutual
theorem flat_rep {I I' : Nat→Nat→Prop} {w w' : World}:∀ (x:PVal) (v:Value),flatP x=true→RepP I w x v→RepP I' w' x v
  | .bool _,_,_,h=>h
  | .int _ _,_,_,h=>h
  | .str _,_,_,h=>h
  | .nilp,_,_,h=>h
  | .nils,_,_,h=>h
  | .nilm,_,_,h=>h
  | .nilf,_,_,h=>h
  | .nili,_,_,h=>h
  | .agg cs,_,hf,h=>by
    obtain ⟨vs,e,h1,h2⟩:=h
    exact ⟨vs,e,apW cs vs (by simpa [flatP] using hf) h1,h2⟩
  | .tup cs,_,hf,h=>by
    obtain ⟨vs,e,h1⟩:=h
    exact ⟨vs,e,apW cs vs (by simpa [flatP] using hf) h1⟩
  | .iface _ _,_,hf,_=>by simp [flatP] at hf
  | .sl _,_,hf,_=>by simp [flatP] at hf
  | .ip _,_,hf,_=>by simp [flatP] at hf
  | .fn _ _,_,hf,_=>by simp [flatP] at hf
theorem apW {I I' : Nat→Nat→Prop} {w w' : World}:∀ (xs:List PVal) (vs:List Value),flatP.flats xs=true→RepPs I w xs vs→RepPs I' w' xs vs
  | [],_,_,h=>h
  | x :: xs,_,hf,h=>by
    obtain ⟨y,ys,e,h1,h2⟩:=h
    simp only [flatP.flats] at hf
    split at hf
    · rename_i hx
      exact ⟨y,ys,e,flat_rep x y hx h1,apW xs ys hf h2⟩
    · simp at hf
end
theorem amE {S:St}:∀ {l:List (Nat × Obj)},ad6 S l=true → ∀ q ∈ l,S.get q.1=none
  | [],_=>by simp
  | (i,o) :: l,h=>by
    simp only [ad6] at h
    split at h
    · rename_i hn
      intro q hq
      cases hq with
      | head=>exact hn
      | tail _ hq=>exact amE h q hq
    · simp at h
theorem outR_cases {S:St} (hs:∀ id,s id=S.get id) (hi:Inv g s w) {v v1:AVal} {u:Value} (h:outR S v=some v1) (hr:RepA g s w v u) :
    (∃ x rd,v1 = .p x∧RepP (immOf g s rd) w x u) ∨
    (∃ xs rd ow us,adL (immOf g s rd) g w xs ow us∧hasDup ow=false∧meets ow rd=false ∧
      ((v1 = .tup xs∧u = .tuple us.toArray) ∨ (v1 = .agg xs∧u = .agg us.toArray ∧ ∀ x ∈ us,isCell x=true) ∨ (((∃ sz ys,v1 = .own sz ys) ∨ ∃ es,v1 = .ownm es)∧xs = [v1]∧us = [u]))):=by
  have outL_spec:∀ {vs xs:List AVal} {us:List Value},outL S vs=some xs→RepAs g s w vs us → ∃ rd ow,adL (immOf g s rd) g w xs ow us∧hasDup ow=false∧meets ow rd=false:=by
    intro vs xs us h hr
    unfold outL at h
    split at h
    · rename_i xs' rd ow ho
      split at h <;> simp at h
      rename_i hb
      subst h
      simp at hb
      exact ⟨rd,ow,outvs_rep hs hi ho (fun _ _ h=>h) hr,hb.1,hb.2⟩
    · simp at h
  unfold outR at h
  split at h
  · rename_i y hy
    simp at h
    subst h
    split at hy
    · rename_i vs
      simp only [Option.map_eq_some_iff] at hy
      obtain ⟨xs,h1,rfl⟩:=hy
      obtain ⟨us,rfl,hr⟩:=hr
      obtain ⟨rd,ow,h2,h3,h4⟩:=outL_spec h1 hr
      unfold mkTup
      split
      · rename_i ps hps
        exact .inl ⟨_,rd,rfl,us,rfl,h2.unP hps⟩
      · exact .inr ⟨xs,rd,ow,us,h2,h3,h4, .inl ⟨rfl,rfl⟩⟩
    · rename_i vs
      simp only [Option.map_eq_some_iff] at hy
      obtain ⟨xs,h1,rfl⟩:=hy
      obtain ⟨us,rfl,hr,hc⟩:=hr
      obtain ⟨rd,ow,h2,h3,h4⟩:=outL_spec h1 hr
      unfold mkAgg
      split
      · rename_i ps hps
        exact .inl ⟨_,rd,rfl,us,rfl,h2.unP hps,hc⟩
      · exact .inr ⟨xs,rd,ow,us,h2,h3,h4, .inr (.inl ⟨rfl,rfl,hc⟩)⟩
    · split at hy <;> simp at hy
      rename_i z hz
      subst hy
      obtain ⟨rd,ow,h2,h3,h4⟩:=outL_spec hz (⟨u,[],rfl,hr,rfl⟩:RepAs g s w [v] [u])
      obtain ⟨ow1,ow2,u',us',e1,e2,h5,h6⟩:=id h2
      simp at e2
      obtain ⟨rfl,rfl⟩:=e2
      cases z with
      | p x=>exact .inl ⟨x,rd,rfl,h5.2⟩
      | own sz ys=>exact .inr ⟨_,rd,ow,_,h2,h3,h4, .inr (.inr ⟨.inl ⟨sz,ys,rfl⟩,rfl,rfl⟩)⟩
      | ownm es=>exact .inr ⟨_,rd,ow,_,h2,h3,h4, .inr (.inr ⟨.inr ⟨es,rfl⟩,rfl,rfl⟩)⟩
      | _=>exact h5.elim
  · simp only [Option.map_eq_some_iff] at h
    obtain ⟨⟨x,a⟩,h1,rfl⟩:=h
    exact .inl ⟨x,a,rfl,aiv hs hi _ _ _ _ _ h1 hr⟩
end
end Go.Proofs.YtdnbnpknpejpdaaGreatDoor.Sw
namespace Go.Proofs.YtdnbnpknpejpdaaGreatDoor.Sw
open Go.RowKit
section
variable {P:Program} {g g' : Sg} {s s' : Sto} {w w' : World}
theorem adL.block {I:Nat→Nat→Prop}:∀ {xs:List AVal} {ow:List Nat} {us:List Value},adL I g w xs ow us → ∀ id ∈ ow,(∃ st m,g.rg (g.cb id)=some (id,st,m)) ∨ ∃ b,g.bx id=some b
  | [],ow,us,h=>by rw [h.1]; simp
  | x :: xs,ow,us,h=>by
    obtain ⟨ow1,ow2,u,us',rfl,rfl,h1,h2⟩:=h
    intro id hid
    simp only [List.mem_append] at hid
    rcases hid with hid | hid
    · cases x with
      | p x=>rw [h1.1] at hid; simp at hid
      | own sz ys =>
        obtain ⟨id',st,cap,c,t,vs,rfl,_,_,k4,_⟩:=h1
        simp at hid
        subst hid
        exact .inl ⟨_,_,k4⟩
      | ownm es =>
        obtain ⟨id',b,ents,clock,rfl,_,k3,_⟩:=h1
        simp at hid
        subst hid
        exact .inr ⟨_,k3⟩
      | _=>exact h1.elim
    · exact adL.block h2 id hid
theorem anv (s:Sto) (l m:List (Nat × Obj)):upds s (l ++ m)=upds (upds s l) m:=by simp [upds]
theorem Frozen.none {s s' : Sto} {ids:List Nat} (h:Frozen s s' ids) {id:Nat} (hn:s id=none):s' id=none:=by
  rcases h.1 id with h | ⟨_,_,_,_,_,_,h1,_⟩
  · rw [h,hn]
  · rw [hn] at h1; simp at h1
structure Back (g:Sg) (s:Sto) (w:World) (ids:List Nat) (g2:Sg) (s2:Sto) (w2:World):Prop where
  inv:Inv g2 s2 w2
  below:Below w.heap.size w w2
  base:g2.base=w.heap.size
  old:∀ b o,b < w.heap.size→g2.imm b o→immOf g s ids b o
theorem Back.imm_old {ids rd:List Nat} {g2:Sg} {s2:Sto} {w2:World} (h:Back g s w ids g2 s2 w2) {b o:Nat} (hb:b < w.heap.size) (hi:immOf g2 s2 rd b o):immOf g s ids b o:=by
  rcases hi with hi | ⟨id,st,m,sz,n,xs,cur,lost,fz,h1,h2,_⟩ | ⟨id,cs,h1,h2,_⟩
  · exact h.old b o hb hi
  · have:=(h.inv.rgS _ _ _ _ h2).2.1
    rw [h.base] at this
    omega
  · have:=(h.inv.bxS _ _ h2).1
    rw [h.base] at this
    omega
theorem Back.imm_lt {ids rd:List Nat} {g2:Sg} {s2:Sto} {w2:World} (h:Back g s w ids g2 s2 w2) {b o:Nat} (hi:immOf g2 s2 rd b o):b < w2.heap.size:=by
  rcases hi with hi | ⟨id,st,m,sz,n,xs,cur,lost,fz,h1,h2,_⟩ | ⟨id,cs,h1,h2,_⟩
  · exact h.inv.immS b o hi
  · exact (h.inv.rgS _ _ _ _ h2).2.2
  · exact (h.inv.bxS _ _ h2).2.1
theorem Back.frozen {S:St} (hs:∀ id,s id=S.get id) (hi:Inv g s w) {ids:List Nat} (rd:List Nat) {g2:Sg} {s2:Sto} {w2:World} (h:Back g s w ids g2 s2 w2)
    (hnb:∀ id ∈ ids, ∀ cs,s id ≠ some (.box cs)) :
    Ext g s w { g with imm:=fun b o=>g.imm b o ∨ immOf g2 s2 rd b o } (upds s (freeze S ids)) w2 ∧
    Inv { g with imm:=fun b o=>g.imm b o ∨ immOf g2 s2 rd b o } (upds s (freeze S ids)) w2∧Frozen s (upds s (freeze S ids)) ids:=by
  obtain ⟨e1,e2,e3⟩:=alK (s₀:=s) hs ids (l:=[]) hi ⟨fun _=>.inl rfl,by simp⟩
  simp only [List.nil_append] at e3
  obtain ⟨f1,f2⟩:=e2.past h.below (I:=immOf g2 s2 rd) (fun b o=>h.imm_lt) (fun b o hb hlt=>by
    rcases h.imm_old hlt hb with hb | ⟨id,st,m,sz,n,xs,cur,lost,fz,h1,h2,h3,h4⟩ | ⟨id,cs,h1,_,h3⟩
    · exact .inl hb
    · exact .inr ⟨id,st,m,sz,n,xs,cur,lost,h2,e3.2 id h1 _ _ _ _ _ _ h3,h4⟩
    · exact absurd h3 (hnb id h1 cs))
  exact ⟨e1.trans f1,f2,e3⟩
theorem call_back {S S2:St} (hs:∀ id,s id=S.get id) (hi:Inv g s w) {ids:List Nat} {g2:Sg} {s2:Sto} {w2:World} (hs2:∀ id,s2 id=S2.get id) (hk:Back g s w ids g2 s2 w2)
    {v v1 v' : AVal} {u:Value} (hr:RepA g2 s2 w2 v u) (ho:outR S2 v=some v1) {b:Nat} {wr:List (Nat × Obj)} (ha:adopt b v1=(v',wr)) (hfree:ad6 S wr=true)
    (hnb:flatA v' = true ∨ ∀ id ∈ ids, ∀ cs,s id ≠ some (.box cs)) :
    ∃ g',Ext g s w g' (upds s ((match flatA v' with | true=>[] | false=>freeze S ids) ++ wr)) w2 ∧
      Inv g' (upds s ((match flatA v' with | true=>[] | false=>freeze S ids) ++ wr)) w2 ∧
      RepA g' (upds s ((match flatA v' with | true=>[] | false=>freeze S ids) ++ wr)) w2 v' u:=by
  have parts:(∀ id ∈ ids, ∀ cs,s id ≠ some (.box cs)) → ∀ {xs:List AVal} {rd ow:List Nat} {us:List Value} (b:Nat),adL (immOf g2 s2 rd) g2 w2 xs ow us→hasDup ow=false→meets ow rd=false →
      (∀ q ∈ (adopts b xs).2,s q.1=none) →
      ∃ g',Ext g s w g' (upds s (freeze S ids ++ (adopts b xs).2)) w2∧Inv g' (upds s (freeze S ids ++ (adopts b xs).2)) w2 ∧
        RepAs g' (upds s (freeze S ids ++ (adopts b xs).2)) w2 (adopts b xs).1 us:=by
    intro hnb xs rd ow us b hp hd hm hn
    obtain ⟨e1,e2,e3⟩:=hk.frozen hs hi rd hnb
    have hrd:=meets_not hm
    obtain ⟨g',f1,f2,f3⟩:=ahF (g2:=g2) b hp e2 (fun b o h=>.inr h) (fun id hid blk st m hrg=>by
        obtain ⟨_,q1,q2⟩:=hk.inv.rgS _ _ _ _ hrg
        rw [hk.base] at q1
        refine ⟨Nat.le_trans hi.baseS q1,fun hp=>by have:=(hi.prS _ hp).1; omega, ?_,fun i hb=>?_⟩
        · show g.rg blk=none
          cases hq:g.rg blk with
          | none=>rfl
          | some r=>obtain ⟨a,b,c⟩:=r; have:=(hi.rgS _ _ _ _ hq).2.2; omega
        · have:=(hi.bxS i blk hb).2.1; omega)
      (fun id hid blk hbx=>by
        obtain ⟨q1,q2,q3,q4,_⟩:=hk.inv.bxS _ _ hbx
        rw [hk.base] at q1
        refine ⟨Nat.le_trans hi.baseS q1,fun hp=>by have:=(hi.prS _ hp).1; omega, ?_,fun i hb=>?_,fun o ho=>?_⟩
        · show g.rg blk=none
          cases hq:g.rg blk with
          | none=>rfl
          | some r=>obtain ⟨a,b,c⟩:=r; have:=(hi.rgS _ _ _ _ hq).2.2; omega
        · have:=(hi.bxS i blk hb).2.1; omega
        · rcases ho with ho | ho
          · have:=hi.immS _ _ ho; omega
          · rcases ho with ho | ⟨id',st',m',sz',n',xs',cur',lost',fz',h1,h2,_⟩ | ⟨id',cs',h1,h2,_⟩
            · exact q4 o ho
            · rw [q3] at h2; simp at h2
            · have:=hk.inv.inj _ _ _ h2 hbx
              subst this
              exact absurd h1 (hrd _ hid))
      (fun id id' b h1 h2=>hk.inv.inj id id' b h1 h2) (fun id b h=>(hk.inv.bxS id b h).2.2.1)
      (fun id hid hrg o st hst ho=>by
        obtain ⟨st',m',hq⟩:=hrg
        have hcb:=(hk.inv.rgS _ _ _ _ hq).2.1
        rw [hk.base] at hcb
        rcases ho with ho | ho
        · have:=hi.immS _ _ ho; omega
        · rcases ho with ho | ⟨id',st',m',sz',n',xs',cur',lost',fz',h1,h2,_⟩ | ⟨id',cs',h1,h2,_⟩
          · exact hst o ho
          · rw [hq] at h2
            simp at h2
            exact absurd (h2.1 ▸ h1) (hrd id hid)
          · rw [(hk.inv.bxS _ _ h2).2.2.1] at hq
            simp at hq) hd (fun q hq=>e3.none (hn q hq))
    rw [← anv] at f1 f2 f3
    exact ⟨g',e1.trans f1,f2,f3⟩
  have hfr:=amE hfree
  rcases outR_cases hs2 hk.inv ho hr with ⟨x,rd,rfl,hx⟩ | ⟨xs,rd,ow,us,hp,hd,hm,hv⟩
  · simp only [adopt,adopt1,Prod.mk.injEq] at ha
    obtain ⟨rfl,rfl⟩:=ha
    simp only [flatA]
    cases hf:flatP x with
    | true =>
      obtain ⟨f1,f2⟩:=hi.past hk.below (I:=fun _ _=>False) (fun _ _ h=>h.elim) (fun _ _ h=>h.elim)
      exact ⟨_,f1,f2,flat_rep x u hf hx⟩
    | false =>
      have hnb:=hnb.resolve_left (by simp [flatA,hf])
      obtain ⟨e1,e2,e3⟩:=hk.frozen hs hi rd hnb
      simp only [List.append_nil]
      exact ⟨_,e1,e2,RepP.keeps (.mono fun _ _ h=>.inr h) _ _ hx⟩
  · rcases hv with ⟨rfl,rfl⟩ | ⟨rfl,rfl,hc⟩ | ⟨hown,rfl,rfl⟩
    · simp only [adopt,Prod.mk.injEq] at ha
      obtain ⟨rfl,rfl⟩:=ha
      simp only [flatA]
      obtain ⟨g',e1,e2,e3⟩:=parts (hnb.resolve_left (by simp [flatA])) b hp hd hm (fun q hq=>(hs q.1).trans (hfr q hq))
      exact ⟨g',e1,e2,us,rfl,e3⟩
    · simp only [adopt,Prod.mk.injEq] at ha
      obtain ⟨rfl,rfl⟩:=ha
      simp only [flatA]
      obtain ⟨g',e1,e2,e3⟩:=parts (hnb.resolve_left (by simp [flatA])) b hp hd hm (fun q hq=>(hs q.1).trans (hfr q hq))
      exact ⟨g',e1,e2,us,rfl,e3,hc⟩
    · rcases hown with ⟨sz,ys,rfl⟩ | ⟨es,rfl⟩
      · simp only [adopt,adopt1,Prod.mk.injEq] at ha
        obtain ⟨rfl,rfl⟩:=ha
        simp only [flatA]
        obtain ⟨g',e1,e2,e3⟩:=parts (hnb.resolve_left (by simp [flatA])) b hp hd hm (fun q hq=>(hs q.1).trans (hfr q (by simpa [adopts,adopt1] using hq)))
        simp only [adopts,adopt1,List.append_nil] at e1 e2 e3
        obtain ⟨y,ys',e4,e5,_⟩:=e3
        simp at e4
        obtain ⟨rfl,_⟩:=e4
        exact ⟨g',e1,e2,e5⟩
      · simp only [adopt,adopt1,Prod.mk.injEq] at ha
        obtain ⟨rfl,rfl⟩:=ha
        simp only [flatA]
        obtain ⟨g',e1,e2,e3⟩:=parts (hnb.resolve_left (by simp [flatA])) b hp hd hm (fun q hq=>(hs q.1).trans (hfr q (by simpa [adopts,adopt1] using hq)))
        simp only [adopts,adopt1,List.append_nil] at e1 e2 e3
        obtain ⟨y,ys',e4,e5,_⟩:=e3
        simp at e4
        obtain ⟨rfl,_⟩:=e4
        exact ⟨g',e1,e2,e5⟩
end
end Go.Proofs.YtdnbnpknpejpdaaGreatDoor.Sw
namespace Go.Proofs.YtdnbnpknpejpdaaGreatDoor.Sw
open Go.RowKit
def afZ (P:Program) (f:Nat):Prop:=∃ fn c,P.funcs[f]? = some fn∧fn.body=some c
def NoOwn (P:Program):Prop:=∀ (f:Nat) (fn:Func),P.funcs[f]? = some fn→(fn.name == "runtime.NumGoroutine")=false
def Came (g:Sg) (s:Sto) (w:World) (r:CR) (e:Ending) (w' : World):Prop :=
  match r,e with
  | .ret v S', .returned u=>∃ g',Ext g s w g' S'.get w' ∧ Inv g' S'.get w' ∧ RepA g' S'.get w' v u
  | .pan v S', .panicked chain=>∃ g' u,chain = [{ v:=u,recovered:=false }]∧Ext g s w g' S'.get w' ∧ Inv g' S'.get w' ∧ RepA g' S'.get w' v u
  | _,_=>False
def Fw (ro:Option Nat):Fence:={ Fence.wide with round:=ro }
def Glob (gl:Tr AVal) (I:Nat→Nat→Prop) (w:World):Prop :=
  ∀ t x,gl.get t=some x→glBase≤t ∧ ∃ y,x = .p y∧RepP I w y (.pointer (some ⟨t - glBase,0,none⟩))
theorem Glob.keeps {gl:Tr AVal} {I I' : Nat→Nat→Prop} {w w' : World} (hk:Keeps I I' w w') (h:Glob gl I w):Glob gl I' w':=fun t x hx=>by
  obtain ⟨h1,y,rfl,h2⟩:=h t x hx
  exact ⟨h1,y,rfl,RepP.keeps hk _ _ h2⟩
theorem Glob.ext {gl:Tr AVal} {g g' : Sg} {s s' : Sto} {w w' : World} (he:Ext g s w g' s' w') (h:Glob gl g.imm w):Glob gl g'.imm w':=h.keeps he.keeps
structure CallOk (P:Program) (gl:Tr AVal) (C:CallFn):Prop where
  fn:∀ (f:Nat) (args:List AVal) (S:St) (r:CR) (g:Sg) (w:World) (us:List Value),C (.fn f) args S=some r→Inv g S.get w→Glob gl g.imm w→RepAs g S.get w args us →
    afZ P f∧CallsIn Fence.wide 0 P f us.toArray w (Came g S.get w r)
  iso:∀ (f:Nat) (args:List AVal) (r:CR) (g:Sg) (w:World) (us:List Value),C (.iso f) args St.empty=some r→Inv g St.empty.get w→Glob gl g.imm w→RepAs g St.empty.get w args us →
    afZ P f∧CallsIn Fence.wide 0 P f us.toArray w (Came g St.empty.get w r)
  yld:∀ (id:Nat) (args:List AVal) (S:St) (r:CR) (g:Sg) (w:World) (us:List Value),C (.yld id) args S=some r→Inv g S.get w→Glob gl g.imm w→RepAs g S.get w args us →
    ∃ (l:Nat) (rec:Loop),g.bx id=some l∧w.heap[l]? = some (.loop rec)∧us.length=rec.params.size ∧
      RoundIn Fence.wide 0 P l rec.fn ((rec.params.zip us.toArray).foldl (fun tmps (t,a)=>tmps.setIfInBounds t a) rec.tmps) rec.assign rec.body w (Came g S.get w r)
def CameR (g:Sg) (s:Sto) (w:World) (r:R) (e:Ending) (w' : World):Prop :=
  match r,e with
  | .eff x, .returned u=>∃ g',Ext g s w g' (upds s x.wr) w' ∧ Inv g' (upds s x.wr) w' ∧ RepA g' (upds s x.wr) w' x.v u
  | .all v S', .returned u=>∃ g',Ext g s w g' S'.get w' ∧ Inv g' S'.get w' ∧ RepA g' S'.get w' v u
  | .pan v S', .panicked chain=>∃ g' u,chain = [{ v:=u,recovered:=false }]∧Ext g s w g' S'.get w' ∧ Inv g' S'.get w' ∧ RepA g' S'.get w' v u
  | _,_=>False
section
variable {P:Program} {g:Sg} {S:St} {w:World}
theorem agL {I:Nat→Nat→Prop} {w:World} (h:∀ b o,I b o→b < w.heap.size):Inv ⟨I,fun _=>none,fun _=>none,fun _=>0,w.heap.size,fun _=>False⟩ St.empty.get w:=by
  have hn:∀ id,St.empty.get id=none:=fun id=>Tr.get_lf id
  refine ⟨fun id cs h=>?_,fun id sz n xs cur lost fz h=>?_,fun _ _ _ _ h=>by simp at h,fun _ _ h=>by simp at h,fun _ _ _ h=>by simp at h,h,Nat.le_refl _,fun id o h=>?_,fun b h=>h.elim⟩
  · rw [hn] at h; simp at h
  · rw [hn] at h; simp at h
  · rw [hn] at h; simp at h
theorem ali {S:St}:∀ {ids:List Nat},noBox S ids=true → ∀ id ∈ ids, ∀ cs,S.get id ≠ some (.box cs)
  | [],_,id,hid=>by cases hid
  | i :: ids,h,id,hid=>by
    simp only [noBox] at h
    split at h
    · simp at h
    · rename_i hno
      rcases List.mem_cons.1 hid with rfl | hid
      · exact hno
      · exact ali h id hid
theorem aev {C:CallFn} {gl:Tr AVal} (hC:CallOk P gl C) (hi:Inv g S.get w) (hG:Glob gl g.imm w) {imp:Nat→Bool} {b f:Nat} {args:List AVal} {us:List Value} {r:R} (hr:RepAs g S.get w args us)
    (h:callAt C imp S b f args=some r):afZ P f∧CallsIn Fence.wide 0 P f us.toArray w (CameR g S.get w r):=by
  have himm:∀ (ids:List Nat) (b o:Nat),immOf g S.get ids b o→b < w.heap.size:=fun ids b o h=>by
    rcases h with h | ⟨id,st,m,sz,n,xs,cur,lost,fz,h1,h2,_⟩ | ⟨id,cs,h1,h2,_⟩
    · exact hi.immS b o h
    · exact (hi.rgS _ _ _ _ h2).2.2
    · exact (hi.bxS _ _ h2).2.1
  unfold callAt at h
  split at h
  · split at h <;> try (simp at h; done)
    rename_i ps ids hp
    have h1:=adO (aiv (fun _=>rfl) hi depth) hp hr
    have hi1:=agL (himm ids)
    have hG1:Glob gl (immOf g S.get ids) w:=hG.keeps (.mono fun _ _ h=>.inl h)
    have hr1:RepAs ⟨immOf g S.get ids,fun _=>none,fun _=>none,fun _=>0,w.heap.size,fun _=>False⟩ St.empty.get w (ps.map .p) us:=aaU h1
    split at h
    · rename_i v S' hc
      obtain ⟨hb,hcall⟩:=hC.iso _ _ _ _ _ _ hc hi1 hG1 hr1
      refine ⟨hb,CallsIn.mono hcall fun e w' hcm=>?_⟩
      cases e with
      | returned u =>
        obtain ⟨g2,e1,e2,e3⟩:=hcm
        split at h
        · rename_i xs hcl
          split at h <;> simp at h
          rename_i hnb
          subst h
          have hv:v = .cl xs:=by
            unfold clipOf at hcl
            split at hcl <;> simp at hcl
            rw [hcl]
          subst hv
          obtain ⟨f1,f2,_⟩:=Back.frozen (fun _=>rfl) hi [] (⟨e2,e1.below,e1.base,fun b o hb h=>e1.immB b o hb h⟩:Back g S.get w ids g2 S'.get w') (ali hnb)
          rcases e3 with ⟨b,o,sz,vs,rfl,q1,q2,q3⟩ | q
          · exact ⟨_,f1,f2, .inl ⟨b,o,sz,vs,rfl,RepPs.keeps (.mono fun _ _ h=>.inr (.inl h)) _ _ q1,q2,q3.mono fun _ _ h=>.inr (.inl h)⟩⟩
          · exact ⟨_,f1,f2, .inr q⟩
        split at h <;> try (simp at h; done)
        rename_i v1 ho
        split at h
        · rename_i v' wr ha
          split at h <;> simp at h
          rename_i hfr hnb
          subst h
          refine call_back (fun _=>rfl) hi (fun _=>rfl) ⟨e2,e1.below,e1.base,fun b o hb h=>e1.immB b o hb h⟩ e3 ho ha hfr ?_
          cases hfl:flatA v' with
          | true=>exact .inl rfl
          | false=>exact .inr (ali (by simpa [hfl] using hnb))
      | panicked chain=>exact hcm.elim
      | outgrown=>exact hcm.elim
    · rename_i v S' hc
      obtain ⟨hb,hcall⟩:=hC.iso _ _ _ _ _ _ hc hi1 hG1 hr1
      refine ⟨hb,CallsIn.mono hcall fun e w' hcm=>?_⟩
      cases e with
      | returned u=>exact hcm.elim
      | outgrown=>exact hcm.elim
      | panicked chain =>
        obtain ⟨g2,u,rfl,e1,e2,e3⟩:=hcm
        split at h <;> try (simp at h; done)
        rename_i x a hx
        split at h <;> simp at h
        rename_i hf
        subst h
        obtain ⟨f1,f2⟩:=hi.past e1.below (I:=fun _ _=>False) (fun _ _ h=>h.elim) (fun _ _ h=>h.elim)
        exact ⟨_,u,rfl,f1,f2,flat_rep x u hf (aiv (fun _=>rfl) e2 _ _ _ _ _ hx e3)⟩
    · simp at h
  · split at h <;> simp at h <;> rename_i hc <;> subst h <;> obtain ⟨hb,hcall⟩:=hC.fn _ _ { S with log:=.e } _ _ _ _ hc hi hG hr <;> refine ⟨hb,CallsIn.mono hcall fun e w' hcm=>?_⟩ <;>
      cases e <;> exact hcm
def ThenR (g:Sg) (S:St) (w:World) (r:R) (K:Value→World→Prop) (Q:Value→World→Prop):Prop :=
  match r with
  | .eff x=>∀ u g' w',Ext g S.get w g' (upds S.get x.wr) w' → Inv g' (upds S.get x.wr) w' → RepA g' (upds S.get x.wr) w' x.v u→K u w'
  | .all v S'=>∀ u g' w',Ext g S.get w g' S'.get w' → Inv g' S'.get w' → RepA g' S'.get w' v u→K u w'
  | .pan v S'=>∀ u g' w',Ext g S.get w g' S'.get w' → Inv g' S'.get w' → RepA g' S'.get w' v u→Q u w'
  | .dfr _ _=>False
theorem came_then {r:R} {K Q:Value→World→Prop} (h:ThenR g S w r K Q) {e:Ending} {w' : World} (hc:CameR g S.get w r e w') :
    match e with | .returned u=>K u w' | .panicked chain=>∃ u,chain = [{ v:=u,recovered:=false }]∧Q u w' | .outgrown=>False:=by
  cases r <;> cases e <;> simp only [CameR] at hc <;> try exact hc.elim
  · obtain ⟨g',e1,e2,e3⟩:=hc; exact h _ _ _ e1 e2 e3
  · obtain ⟨g',e1,e2,e3⟩:=hc; exact h _ _ _ e1 e2 e3
  · obtain ⟨g',u,rfl,e1,e2,e3⟩:=hc; exact ⟨u,rfl,h _ _ _ e1 e2 e3⟩
theorem abK (hN:NoOwn P) {f:Nat} (hb:afZ P f) (args:Array Value):(Go.callFunc f args).run P w = .ok (.enter f args) w:=by
  obtain ⟨fn,c,h1,h2⟩:=hb
  have:=hN f fn h1
  simp at this
  simp [Go.callFunc,h1,h2,this]
theorem enter_wp {ro:Option Nat} {o:Oper} {a:Act} {n f:Nat} {args:Array Value} {K:Act→World→Prop} {Q:Exit→Act→World→Prop} {r:R}
    (hno:∀ c,o.op ≠ .defer c) (hrun:(execOp a.eval o).run P w = .ok (.enter f args) w) (hcall:CallsIn Fence.wide 0 P f args w (CameR g S.get w r))
    (hK:ThenR g S w r (fun u w'=>K (a.put o.dst u) w') (fun u w'=>Q (.panic [{ v:=u,recovered:=false }]) a w')):o.wpIn (Fw ro) n P a w K Q:=by
  refine ⟨fun _ _=>trivial, ?_⟩
  rw [Oper.semAt_eq _ _ _ hno,hrun,Oper.uponIn_enter]
  refine ⟨fun h=>by simp [Fw,Fence.wide] at h,CallsIn.mono (show CallsIn (Fw ro) (n - 1) P f args w (CameR g S.get w r) from hcall.more (Nat.zero_le _)) fun e w' hc=>?_⟩
  have:=came_then hK hc
  cases e with
  | returned u=>exact this
  | panicked chain=>obtain ⟨u,rfl,h⟩:=this; exact h
  | outgrown=>exact this.elim
theorem round_wp {ro:Option Nat} {o:Oper} {a:Act} {n l f:Nat} {tmps:Array Value} {assign body:Code} {K:Act→World→Prop} {Q:Exit→Act→World→Prop} {v:AVal} {S' : St}
    (hno:∀ c,o.op ≠ .defer c) (hrun:(execOp a.eval o).run P w = .ok (.round l f tmps assign body) w) (hcall:RoundIn Fence.wide 0 P l f tmps assign body w (Came g S.get w (.ret v S')))
    (hK:ThenR g S w (.all v S') (fun u w'=>K (a.put o.dst u) w') (fun u w'=>Q (.panic [{ v:=u,recovered:=false }]) a w')):o.wpIn (Fw ro) n P a w K Q:=by
  refine ⟨fun _ _=>trivial, ?_⟩
  rw [Oper.semAt_eq _ _ _ hno,hrun,Oper.uponIn_round]
  refine ⟨fun h=>by simp [Fw,Fence.wide] at h,trivial,fun c cs hr=>?_⟩
  obtain ⟨e,w',hc,hs⟩:=hcall.2 c cs (room_wide _)
  refine ⟨e,w', ?_,hs⟩
  cases e with
  | returned u =>
    obtain ⟨g',e1,e2,e3⟩:=hc
    exact hK u g' w' e1 e2 e3
  | panicked chain=>exact hc.elim
  | outgrown=>exact hc.elim
theorem anh {s:Sto} {x:AVal} {v:Value} {f:Fn} {cap:List AVal} (hx:RepA g s w x v) (h:fnOf x=some (f,cap)):∃ vs:List Value,v = .func f #[] vs.toArray∧RepAs g s w cap vs:=by
  unfold fnOf at h
  split at h <;> simp at h
  · obtain ⟨rfl,rfl⟩:=h
    obtain ⟨vs,rfl,h⟩:=hx
    exact ⟨vs,rfl,aaU h⟩
  · obtain ⟨rfl,rfl⟩:=h
    exact hx
theorem run_method {t:Nat} {v:Value} {name:String} {f k:Nat} (h:methodAt P t name=some f):(method (k + 1) t v name).run P w = .ok (f,v) w:=by
  unfold methodAt at h
  split at h <;> try (simp at h; done)
  rename_i i hti
  split at h <;> try (simp at h; done)
  rename_i m hm
  split at h <;> try (simp at h; done)
  rename_i f' ptr hpath hf
  have hp:m.path = #[]:=by simpa using hpath
  split at h <;> simp at h
  · rename_i e hu
    subst h
    simp [method,aaR hti,hm,hp,follow,hf,receiverAt,aaa hu,Place.get]
  · rename_i d hno hu
    subst h
    cases d <;> simp [method,aaR hti,hm,hp,follow,hf,receiverAt,aaa hu,Place.get]
    rename_i e
    exact (hno e rfl).elim
theorem callOp_wp {ro:Option Nat} {C:CallFn} {gl:Tr AVal} (hC:CallOk P gl C) (hN:NoOwn P) (hi:Inv g S.get w) (hG:Glob gl g.imm w) {tm:Tr AVal} {a:Act} (hf:Frm g S.get w tm a.tmps) {imp:Nat→Bool} {n b:Nat} {o:Oper} {c:Call} {r:R}
    (ho:o.op = .call c) (h:callOp C imp P tm S b c=some r) {K:Act→World→Prop} {Q:Exit→Act→World→Prop}
    (hK:ThenR g S w r (fun u w'=>K (a.put o.dst u) w') (fun u w'=>Q (.panic [{ v:=u,recovered:=false }]) a w')):o.wpIn (Fw ro) n P a w K Q:=by
  have hmap:c.args.map a.eval=(c.args.toList.map a.eval).toArray:=by apply Array.ext'; rw [Array.toList_map]
  unfold callOp at h
  split at h
  · rename_i x hcal
    split at h <;> try (simp at h; done)
    rename_i fv args hfv hargs
    split at h <;> try (simp at h; done)
    rotate_left
    ·
      rename_i hfn
      split at h <;> try (simp at h; done)
      rename_i id
      · split at h <;> simp at h
        rename_i v s' hc
        subst h
        obtain ⟨l,h1,h2⟩:=aac hf hfv
        obtain ⟨l',rec,h3,h4,h5,h6⟩:=hC.yld _ _ { S with log:=.e } _ _ _ _ hc hi hG (abb hf hargs)
        rw [h1] at h3
        simp at h3
        subst h3
        refine round_wp (by rw [ho]; simp) ?_ h6 hK
        have:(Instr.yield l (c.args.toList.map a.eval).toArray).run P w=_:=run_yield h4 (by simpa using h5)
        simp only [execOp,ho,resolve,hcal,h2,refVal,Deferred.ofValue,Sem.run_bind,Sem.run_pure,Result.andThen_ok,invoke,hmap]
        simpa using this
      · rename_i f first
        obtain ⟨vs,h1,h2⟩:=aac hf hfv
        obtain ⟨hb,hcall⟩:=aev hC hi hG (RepAs.append h2 (abb hf hargs)) h
        refine enter_wp (by rw [ho]; simp) ?_ hcall hK
        simp [execOp,ho,resolve,hcal,h1,Deferred.ofValue,invoke,abK hN hb,hmap]
    rename_i f cap hfn
    obtain ⟨vs,h1,h2⟩:=anh (aac hf hfv) hfn
    obtain ⟨hb,hcall⟩:=aev hC hi hG (RepAs.append (abb hf hargs) h2) h
    refine enter_wp (by rw [ho]; simp) ?_ hcall hK
    simp [execOp,ho,resolve,hcal,h1,Deferred.ofValue,invoke,abK hN hb,hmap]
  · rename_i x name hcal
    split at h <;> try (simp at h; done)
    rename_i y args hy hargs
    split at h <;> try (simp at h; done)
    rename_i t v hif
    split at h <;> try (simp at h; done)
    rename_i f hm
    obtain h1:=ifOf_rep (aac hf hy) hif
    obtain ⟨u,h1,h2⟩:∃ u,a.eval x = .iface t u∧RepA g S.get w v u:=by
      obtain ⟨t1,y,e1,u,e2,e3⟩:∃ t1 y,(t=t1∧v=y) ∧ ∃ u,a.eval x = .iface t1 u∧RepA g S.get w y u:=by simpa using h1
      obtain ⟨rfl,rfl⟩:=e1
      exact ⟨u,e2,e3⟩
    obtain ⟨hb,hcall⟩:=aev hC hi hG (show RepAs g S.get w (v :: args) (u :: c.args.toList.map a.eval) from ⟨u,_,rfl,h2,abb hf hargs⟩) h
    refine enter_wp (by rw [ho]; simp) ?_ hcall hK
    have e1:(#[u]:Array Value) ++ (c.args.toList.map a.eval).toArray=(u :: c.args.toList.map a.eval).toArray:=by simp
    simp [execOp,ho,resolve,hcal,h1,invoke,callMethod,run_method hm,abK hN hb,hmap,Made.depth]
    exact List.take_of_length_le (by simp)
  · simp at h
end
end Go.Proofs.YtdnbnpknpejpdaaGreatDoor.Sw
namespace Go.Proofs.YtdnbnpknpejpdaaGreatDoor.Sw
open Go.RowKit
section
variable {P:Program} {g:Sg} {S:St} {w:World}
theorem plain_wp {ro:Option Nat} (hi:Inv g S.get w) {tm:Tr AVal} {a:Act} (hf:Frm g S.get w tm a.tmps) {n b:Nat} {o:Oper} {r:R} (h:(aau P tm S b o.op).map .eff=some r)
    {K:Act→World→Prop} {Q:Exit→Act→World→Prop} {Q' : Value→World→Prop} (hK:ThenR g S w r (fun u w'=>K (a.put o.dst u) w') Q'):o.wpIn (Fw ro) n P a w K Q:=by
  simp only [Option.map_eq_some_iff] at h
  obtain ⟨e,h1,rfl⟩:=h
  obtain ⟨u,g',w',hr,h2,h3,h4⟩:=ajS (fun _=>rfl) hi hf h1
  refine ⟨fun _ _=>trivial, ?_⟩
  have hno:∀ c,o.op ≠ .defer c:=fun c hc=>by rw [hc] at h1; simp [aau] at h1
  rw [Oper.semAt_eq _ _ _ hno]
  have:=hK u g' w' h2 h3 h4
  rcases hr with hr | ⟨hr,rfl⟩
  · rw [hr]; exact this
  · rw [hr]; exact this
theorem alR {ro:Option Nat} {C:CallFn} {gl:Tr AVal} (hC:CallOk P gl C) (hN:NoOwn P) (hi:Inv g S.get w) (hG:Glob gl g.imm w) {tm:Tr AVal} {a:Act} (hf:Frm g S.get w tm a.tmps) {imp:Nat→Bool} {n b:Nat} {o:Oper} {r:R}
    (h:evOp C imp P tm S b o.op=some r) {K:Act→World→Prop} {Q:Exit→Act→World→Prop}
    (hK:ThenR g S w r (fun u w'=>K (a.put o.dst u) w') (fun u w'=>Q (.panic [{ v:=u,recovered:=false }]) a w')):o.wpIn (Fw ro) n P a w K Q:=by
  unfold evOp at h
  split at h
  · rename_i x ho
    split at h <;> try (simp at h; done)
    rename_i v hv
    split at h <;> simp at h
    rename_i d hd
    subst h
    have hx:=aac hf hv
    rcases ifOf_rep hx hd with ⟨h1,_⟩ | ⟨t,y,u,h1,h2,h3⟩
    · simp at h1
    · refine ⟨fun _ _=>trivial, ?_⟩
      rw [Oper.semAt_eq _ _ _ (fun c hc=>by rw [hc] at ho; simp at ho)]
      have e1:(execOp a.eval o).run P w = .halt (.panic (a.eval x)) w:=by
        simp [execOp,ho,h2,Instr.panic,goPanic]
      rw [e1,Oper.uponIn_panic]
      exact hK _ _ _ (.refl _ _ _) hi hx
  · rename_i c ho
    split at h
    · exact plain_wp hi hf h hK
    · exact callOp_wp hC hN hi hG hf ho h hK
  ·
    exfalso
    split at h <;> try (simp at h; done)
    split at h <;> try (simp at h; done)
    split at h <;> simp at h
    subst h
    exact hK.elim
  · exact plain_wp hi hf h hK
theorem defer_wp {C:CallFn} {tm:Tr AVal} {a:Act} (hf:Frm g S.get w tm a.tmps) {imp:Nat→Bool} {n b:Nat} {o:Oper} {f:Nat} {cap:List AVal}
    (h:evOp C imp P tm S b o.op=some (.dfr f cap)) {K:Act→World→Prop} {Q:Exit→Act→World→Prop}
    (hK:∀ vs:List Value,RepAs g S.get w cap vs→K ({ a with defers:={ target:=.fn (.func f) vs.toArray,args:=#[] } :: a.defers }.put o.dst undef) w):o.wpIn (Fw none) n P a w K Q:=by
  have hp:∀ {op},(aau P tm S b op).map R.eff=some (.dfr f cap)→False:=by
    intro op h
    simp at h
  unfold evOp at h
  split at h
  · split at h <;> try (simp at h; done)
    split at h <;> simp at h
  · split at h
    · exact (hp h).elim
    · exfalso
      unfold callOp callAt at h
      repeat' split at h
      all_goals simp at h
  · rename_i c ho
    split at h <;> try (simp at h; done)
    rename_i x hcal hargs
    split at h <;> try (simp at h; done)
    rename_i fv hfv
    split at h <;> simp at h
    rename_i f' cap' hfn
    obtain ⟨rfl,rfl⟩:=h
    obtain ⟨vs,h1,h2⟩:=anh (aac hf hfv) hfn
    have e1:c.args = #[]:=by simpa using hargs
    refine ⟨fun _ _=>trivial, ?_⟩
    rw [show (Fw none).round=none from rfl,Oper.semAt_none]
    have:(execOp a.eval o).run P w = .ok (.defer { target:=.fn (.func f') vs.toArray,args:=#[] }) w:=by
      simp [execOp,ho,resolve,hcal,h1,Deferred.ofValue,e1]
    rw [this,Oper.uponIn_defer]
    exact hK vs h2
  · exact (hp h).elim
end
end Go.Proofs.YtdnbnpknpejpdaaGreatDoor.Sw
namespace Go.Proofs.YtdnbnpknpejpdaaGreatDoor.Sw
section
variable {P:Program} {S S' : St} {tm tm' : Tr AVal}
def Same (S S' : St) (ids:List Nat):Prop:=∀ id ∈ ids,S'.get id=S.get id
theorem Same.mono {ids ids' : List Nat} (h:Same S S' ids') (hs:∀ i ∈ ids,i ∈ ids'):Same S S' ids:=fun i hi=>h i (hs i hi)
theorem at_same {x:AVal} {r:List AVal × Nat × List Nat} (h:at_ S x=some r) (hs:Same S S' r.2.2):at_ S' x=some r:=by
  unfold at_ at h ⊢
  repeat' split at h
  all_goals (try (simp at h; done))
  all_goals (
    simp only [Option.some.injEq] at h
    subst h
    simp only [Same,List.mem_cons,List.not_mem_nil,or_false,forall_eq] at hs
    simp only [*])
theorem apg {t:Nat} {x:AVal} {e:Eff} (h:loadOp P S t x=some e) (hs:Same S S' e.rd):loadOp P S' t x=some e:=by
  unfold loadOp at h ⊢
  split at h <;> try (simp at h; done)
  rename_i g n hg hn
  split at h
  · exact h
  · split at h <;> try (simp at h; done)
    rename_i cs off ids hat
    have h':=h
    simp only [Option.map_eq_some_iff] at h
    obtain ⟨v,h1,rfl⟩:=h
    rw [at_same hat hs]
    exact h'
theorem storeOp_same {t:Nat} {x v:AVal} {e:Eff} (h:ac0 P S t x v=some e) (hs:Same S S' e.rd):ac0 P S' t x v=some e:=by
  unfold ac0 at h ⊢
  split at h <;> try (simp at h; done)
  split at h <;> try (simp at h; done)
  split at h
  · rename_i id off
    split at h <;> try (simp at h; done)
    rename_i cs hid
    have h':=h
    simp only [Option.map_eq_some_iff] at h
    obtain ⟨_,_,rfl⟩:=h
    rw [hs id (by simp),hid]
    exact h'
  · rename_i id ep i off
    split at h <;> try (simp at h; done)
    rename_i hid
    have h':=h
    have:id ∈ e.rd:=by
      repeat' split at h
      all_goals (try (simp at h; done))
      simp at h
      subst h
      simp
    rw [hs id this,hid]
    exact h'
  · simp at h
theorem aic {id ep off len:Nat} {r:List AVal} (h:viewed S id ep off len=some r) (hs:S'.get id=S.get id):viewed S' id ep off len=some r:=by
  unfold viewed at h ⊢
  rw [hs]
  exact h
theorem source_same {x:AVal} {r:List AVal × List Nat} (h:source S x=some r) (hs:Same S S' r.2):source S' x=some r:=by
  unfold source at h ⊢
  split at h <;> try exact h
  rename_i id ep off len c
  split at h <;> simp at h
  rename_i xs hv
  subst h
  rw [aic hv (hs id (by simp))]
theorem indexAddr_same {t:Nat} {x i:AVal} {e:Eff} (h:abN P S t x i=some e) (hs:Same S S' e.rd):abN P S' t x i=some e:=by
  unfold abN at h ⊢
  repeat' split at h
  all_goals first
    | exact h
    | (simp at h; done)
    | skip
  all_goals (
    have h':=h
    simp only [Option.some.injEq] at h
    subst h
    simp only [Same,List.mem_cons,List.not_mem_nil,or_false,forall_eq] at hs
    simp only [*])
theorem slice_same {t:Nat} {x:AVal} {lo hi mx:Option AVal} {e:Eff} (h:afd P S t x lo hi mx=some e) (hs:Same S S' e.rd):afd P S' t x lo hi mx=some e:=by
  unfold afd at h ⊢
  repeat' split at h
  all_goals first
    | exact h
    | (simp at h; done)
    | skip
  all_goals (
    have h':=h
    simp only [Option.some.injEq] at h
    subst h
    simp only [Same,List.mem_cons,List.not_mem_nil,or_false,forall_eq] at hs
    simp only [*])
theorem alloc_same {b t:Nat} {e:Eff} (h:aiZ P b t S=some e) (hs:Same S S' e.rd):aiZ P b t S' = some e:=by
  unfold aiZ at h ⊢
  repeat' split at h
  all_goals (try (simp at h; done))
  simp only [Option.some.injEq] at h
  subst h
  simp only [Same,List.mem_cons,List.not_mem_nil,or_false,forall_eq] at hs
  simp only [*]
theorem box_same {b t:Nat} {x:AVal} {e:Eff} (h:boxOp P b t x S=some e) (hs:Same S S' e.rd):boxOp P b t x S' = some e:=by
  unfold boxOp at h ⊢
  repeat' split at h
  all_goals (try (simp at h; done))
  simp only [Option.some.injEq] at h
  subst h
  simp only [Same,List.mem_cons,List.not_mem_nil,or_false,forall_eq] at hs
  simp only [*]
theorem aqd {b t len:Nat} {ps:List (Nat × AVal)} {e:Eff} (h:abP P b t len ps S=some e) (hs:Same S S' e.rd):abP P b t len ps S' = some e:=by
  unfold abP at h ⊢
  repeat' split at h
  all_goals (try (simp at h; done))
  all_goals (
    simp only [Option.some.injEq] at h
    subst h
    try simp only [Same,List.mem_cons,List.not_mem_nil,or_false,forall_eq] at hs
    simp only [*])
theorem makeSlice_same {b t:Nat} {l c:AVal} {e:Eff} (h:ac3 P b t l c S=some e) (hs:Same S S' e.rd):ac3 P b t l c S' = some e:=by
  unfold ac3 at h ⊢
  repeat' split at h
  all_goals (try (simp at h; done))
  simp only [Option.some.injEq] at h
  subst h
  simp only [Same,List.mem_cons,List.not_mem_nil,or_false,forall_eq] at hs
  simp only [*]
theorem append_same {b t:Nat} {x y:AVal} {e:Eff} (h:abx P b t x y S=some e) (hs:Same S S' e.rd):abx P b t x y S' = some e:=by
  unfold abx at h ⊢
  split at h <;> try (simp at h; done)
  split at h <;> try (simp at h; done)
  rename_i e1 e2 e3 hsrc
  have key:∀ {rd:List Nat} {ys:List AVal},source S y=some (ys,rd)→(∀ i ∈ rd,i ∈ e.rd)→source S' y=some (ys,rd):=fun h hr=>source_same h (fun i hi=>hs i (hr i hi))
  repeat' split at h
  all_goals (try (simp at h; done))
  all_goals (
    have h':=h
    simp only [Option.some.injEq] at h
    subst h
    have k1:=key hsrc (fun i hi=>by simp [hi])
    simp only [Same,List.mem_cons,forall_eq_or_imp] at hs
    simp only [*])
theorem entries_same {x:AVal} {r:List (PVal × AVal) × List Nat} (h:entriesOf S x=some r) (hs:Same S S' r.2):entriesOf S' x=some r:=by
  unfold entriesOf at h ⊢
  split at h <;> try exact h
  split at h <;> simp at h
  rename_i es hid
  subst h
  rw [hs _ (by simp),hid]
theorem lookup_same {t:Nat} {x k:AVal} {ok:Bool} {e:Eff} (h:ahu P S t x k ok=some e) (hs:Same S S' e.rd):ahu P S' t x k ok=some e:=by
  unfold ahu at h ⊢
  split at h <;> try (simp at h; done)
  split at h <;> try (simp at h; done)
  rename_i es rd h1 h2
  have hrd:e.rd=rd:=by
    repeat' split at h
    all_goals (try (simp at h; done))
    all_goals (simp only [Option.some.injEq] at h; subst h; rfl)
  rw [h1,entries_same h2 (fun i hi=>hs i (by rw [hrd]; exact hi))]
  exact h
theorem makeMap_same {b:Nat} {e:Eff} (h:aeZ b S=some e) (hs:Same S S' e.rd):aeZ b S' = some e:=by
  unfold aeZ at h ⊢
  split at h <;> simp only [Option.some.injEq,reduceCtorEq] at h
  rename_i hb
  subst h
  rw [hs b (by simp),hb]
theorem ah8 {t:Nat} {x k y:AVal} {e:Eff} (h:acj P S t x k y=some e) (hs:Same S S' e.rd):acj P S' t x k y=some e:=by
  unfold acj at h ⊢
  repeat' split at h
  all_goals (try (simp at h; done))
  all_goals (
    simp only [Option.some.injEq] at h
    subst h
    simp only [Same,List.mem_cons,List.not_mem_nil,or_false,forall_eq] at hs
    simp only [*])
theorem delete_same {t:Nat} {x k:AVal} {e:Eff} (h:ahB P S t x k=some e) (hs:Same S S' e.rd):ahB P S' t x k=some e:=by
  unfold ahB at h ⊢
  repeat' split at h
  all_goals (try (simp at h; done))
  all_goals (
    simp only [Option.some.injEq] at h
    subst h
    simp only [Same,List.mem_cons,List.not_mem_nil,or_false,forall_eq] at hs
    simp only [*])
theorem range_same {b t:Nat} {x:AVal} {e:Eff} (h:alh P b t x S=some e) (hs:Same S S' e.rd):alh P b t x S' = some e:=by
  unfold alh at h ⊢
  repeat' split at h
  all_goals (try (simp at h; done))
  all_goals (
    simp only [Option.some.injEq] at h
    subst h
    simp only [Same,List.mem_cons,List.not_mem_nil,or_false,forall_eq] at hs
    simp only [*])
theorem next_same {x:AVal} {is:Bool} {e:Eff} (h:nextOp S x is=some e) (hs:Same S S' e.rd):nextOp S' x is=some e:=by
  unfold nextOp at h ⊢
  repeat' split at h
  all_goals (try (simp at h; done))
  all_goals (
    simp only [Option.some.injEq] at h
    subst h
    simp only [Same,List.mem_cons,List.not_mem_nil,or_false,forall_eq] at hs
    simp only [*])
theorem convBytes_same {src dst:Nat} {x:AVal} {e:Eff} (h:ae5 P S src dst x=some e) (hs:Same S S' e.rd):ae5 P S' src dst x=some e:=by
  unfold ae5 at h ⊢
  split at h <;> try (simp at h; done)
  split at h <;> try (simp at h; done)
  · exact h
  · exact h
  · exact h
  · rename_i id ep off len c hel
    split at h <;> try (simp at h; done)
    rename_i ys hv
    have hid:id ∈ e.rd:=by
      split at h <;> simp only [Option.some.injEq,reduceCtorEq] at h
      subst h
      simp
    rw [aic hv (hs _ hid)]
    exact h
theorem grow_same {b t:Nat} {x y:AVal} {e:Eff} (h:growOp P b t x y S=some e) (hs:Same S S' e.rd):growOp P b t x y S' = some e:=by
  unfold growOp at h ⊢
  repeat' split at h
  all_goals (try (simp at h; done))
  all_goals (
    simp only [Option.some.injEq] at h
    subst h
    simp only [Same,List.mem_cons,List.not_mem_nil,or_false,forall_eq] at hs
    simp only [*])
theorem clear_same {t:Nat} {x:AVal} {e:Eff} (h:ahC P S t x=some e) (hs:Same S S' e.rd):ahC P S' t x=some e:=by
  unfold ahC at h ⊢
  repeat' split at h
  all_goals (try (simp at h; done))
  all_goals (
    simp only [Option.some.injEq] at h
    subst h
    simp only [Same,List.mem_cons,List.not_mem_nil,or_false,forall_eq] at hs
    simp only [*])
theorem agx {b:Nat} {op:Op} {e:Eff} (h:aau P tm S b op=some e) (hs:Same S S' e.rd):aau P tm S' b op=some e:=by
  unfold aau at h ⊢
  split at h
  all_goals try exact h
  all_goals (try simp only at h ⊢)
  · exact alloc_same h hs
  · split at h <;> try (simp at h; done)
    exact box_same h hs
  · split at h <;> try (simp at h; done)
    exact aqd h hs
  · split at h <;> try (simp at h; done)
    exact apg h hs
  · split at h <;> try (simp at h; done)
    exact storeOp_same h hs
  · split at h <;> try (simp at h; done)
    split at h
    · exact h
    · exact convBytes_same h hs
  · exact makeMap_same h hs
  · split at h <;> try (simp at h; done)
    exact lookup_same h hs
  · split at h <;> try (simp at h; done)
    exact ah8 h hs
  · split at h <;> try (simp at h; done)
    exact ah8 h hs
  · split at h <;> try (simp at h; done)
    exact range_same h hs
  · split at h <;> try (simp at h; done)
    exact next_same h hs
  · split at h <;> try (simp at h; done)
    exact makeSlice_same h hs
  · split at h <;> try (simp at h; done)
    exact slice_same h hs
  · split at h <;> try (simp at h; done)
    exact indexAddr_same h hs
  · split at h <;> try (simp at h; done)
    split at h <;> try (simp at h; done)
    · exact append_same h hs
    · split at h <;> try (simp at h; done)
      exact grow_same h hs
  · split at h <;> try (simp at h; done)
    split at h <;> try (simp at h; done)
    exact delete_same h hs
  · split at h <;> try (simp at h; done)
    split at h <;> try (simp at h; done)
    split at h
    · exact h
    · exact clear_same h hs
end
end Go.Proofs.YtdnbnpknpejpdaaGreatDoor.Sw
namespace Go.Proofs.YtdnbnpknpejpdaaGreatDoor.Sw
section
variable {P:Program} {S S' : St} {tm tm' : Tr AVal}
def Agree (tm tm' : Tr AVal) (l:List Operand):Prop:=∀ x ∈ l,operand tm' x=operand tm x
theorem agree_of {l:List Operand} (h:∀ t,Operand.tmp t ∈ l→tm'.get t=tm.get t) (hg:∀ k,tm'.get (glBase + k)=tm.get (glBase + k)):Agree tm tm' l:=fun x hx=>by
  cases x with
  | tmp t=>simp only [operand]; rw [h t hx]
  | global k=>exact hg k
  | _=>rfl
theorem abG:∀ {l:List Operand},Agree tm tm' l→operands tm' l=operands tm l
  | [],_=>rfl
  | x :: l,h=>by
    simp only [operands]
    rw [h x (by simp),abG (l:=l) (fun y hy=>h y (by simp [hy]))]
theorem acO:∀ {l:List (Nat × Operand)},Agree tm tm' (l.map (·.2))→aaL tm' l=aaL tm l
  | [],_=>rfl
  | (i,x) :: l,h=>by
    simp only [aaL]
    rw [h x (by simp),acO (l:=l) (fun y hy=>h y (by simp only [List.map_cons,List.mem_cons]; exact .inr hy))]
theorem operand?_agree {o:Option Operand} (h:Agree tm tm' o.toList):operand? tm' o=operand? tm o:=by
  cases o with
  | none=>rfl
  | some x=>simp only [operand?]; rw [h x (by simp)]
theorem plainOp_tm {b:Nat} {op:Op} (h:Agree tm tm' op.operands.toList):aau P tm' S b op=aau P tm S b op:=by
  have h1:=h
  unfold Agree at h1
  unfold aau
  split
  all_goals try rfl
  all_goals simp only [Op.operands,Call.operands] at h1
  · rw [h1 _ (by simp)]
  · rw [h1 _ (by simp)]
  · rename_i c x y
    rw [h1 c (by simp),h1 x (by simp),h1 y (by simp)]
  · rw [h1 _ (by simp)]
  · rw [acO (fun x hx=>h1 x (by simpa using hx))]
  · rw [acO (fun x hx=>h1 x (by simpa using hx))]
  · rw [h1 _ (by simp)]
  · rename_i t x y
    rw [h1 x (by simp),h1 y (by simp)]
  · rw [h1 _ (by simp)]
  · rename_i op t x y ty
    rw [h1 x (by simp),h1 y (by simp)]
  · rw [h1 _ (by simp)]
  · rw [h1 _ (by simp)]
  · rename_i t x y ok
    rw [h1 x (by simp),h1 y (by simp)]
  · rename_i t x y z
    rw [h1 x (by simp),h1 y (by simp),h1 z (by simp)]
  · rename_i t x y z
    rw [h1 x (by simp),h1 y (by simp),h1 z (by simp)]
  · rw [h1 _ (by simp)]
  · rw [h1 _ (by simp)]
  · rw [h1 _ (by simp)]
  · rename_i f first cap
    rw [abG (l:=cap.toList) (fun x hx=>h1 x (by simp at hx ⊢; exact .inr hx))]
    split
    · rfl
    · rename_i hfst _
      rw [← hfst,abG (l:=first.toList) (fun x hx=>h1 x (by simp at hx ⊢; exact .inl hx))]
    · rfl
  · rename_i t x y
    rw [h1 x (by simp),h1 y (by simp)]
  · rename_i t x lo hi mx
    rw [h1 x (by simp),operand?_agree (o:=lo) (fun y hy=>h1 y (by simp at hy ⊢; simp [hy])),operand?_agree (o:=hi) (fun y hy=>h1 y (by simp at hy ⊢; simp [hy])),
      operand?_agree (o:=mx) (fun y hy=>h1 y (by simp at hy ⊢; simp [hy]))]
  · rw [h1 _ (by simp)]
  · rw [h1 _ (by simp)]
  · rename_i t x y
    rw [h1 x (by simp),h1 y (by simp)]
  · rename_i t x y
    rw [h1 x (by simp),h1 y (by simp)]
  · rw [h1 _ (by simp)]
  · rw [h1 _ (by simp)]
  · rename_i args ats
    split
    · rename_i x t hx ht
      have:x ∈ args.toList:=by rw [hx]; simp
      rw [h1 x (by simpa using this)]
    · rfl
  · rename_i args ats
    split
    · rename_i x t hx ht
      have:x ∈ args.toList:=by rw [hx]; simp
      rw [h1 x (by simpa using this)]
    · rfl
  · rename_i args ats
    split
    · rename_i x y t t2 hx ht
      have e1:x ∈ args.toList:=by rw [hx]; simp
      have e2:y ∈ args.toList:=by rw [hx]; simp
      rw [h1 x (by simpa using e1),h1 y (by simpa using e2)]
    · rfl
  · rename_i args ats
    split
    · rename_i x y t t2 hx ht
      have e1:x ∈ args.toList:=by rw [hx]; simp
      have e2:y ∈ args.toList:=by rw [hx]; simp
      rw [h1 x (by simpa using e1),h1 y (by simpa using e2)]
    · rfl
  · rename_i args ats
    split
    · rename_i x t hx ht
      have:x ∈ args.toList:=by rw [hx]; simp
      rw [h1 x (by simpa using this)]
    · rfl
  · rename_i args _
    rw [abG (l:=args.toList) (fun x hx=>h1 x (by simpa using hx))]
  · rename_i args _
    rw [abG (l:=args.toList) (fun x hx=>h1 x (by simpa using hx))]
theorem callOp_tm {C:CallFn} {imp:Nat→Bool} {b:Nat} {c:Call} (h:Agree tm tm' c.operands.toList):callOp C imp P tm' S b c=callOp C imp P tm S b c:=by
  have h1:=h
  unfold Agree at h1
  have h2:operands tm' c.args.toList=operands tm c.args.toList:=abG (fun x hx=>h1 x (by simp [Call.operands] at hx ⊢; exact .inr hx))
  unfold callOp
  rw [h2]
  split
  · rename_i o ho
    rw [h1 o (by simp [Call.operands,ho])]
  · rename_i o name ho
    rw [h1 o (by simp [Call.operands,ho])]
  · rfl
theorem evOp_tm {C:CallFn} {imp:Nat→Bool} {b:Nat} {op:Op} (h:Agree tm tm' op.operands.toList):evOp C imp P tm' S b op=evOp C imp P tm S b op:=by
  unfold evOp
  split
  · rw [h _ (by simp [Op.operands])]
  · rename_i c
    rw [plainOp_tm h,callOp_tm (c:=c) h]
  · rename_i c
    split
    · rename_i o hc ha
      rw [h o (by simp [Op.operands,Call.operands,hc])]
    · rfl
  · rw [plainOp_tm h]
theorem acN {f f' : AVal→Option (PVal × List Nat)} (hf:∀ v x ids,f v=some (x,ids)→Same S S' ids→f' v=some (x,ids)) :
    ∀ {vs:List AVal} {xs:List PVal} {ids:List Nat},purs f vs=some (xs,ids)→Same S S' ids→purs f' vs=some (xs,ids)
  | [],xs,ids,h,_=>by simpa [purs] using h
  | v :: vs,xs,ids,h,hs=>by
    simp only [purs] at h ⊢
    split at h <;> simp at h
    rename_i x a xs' b h1 h2
    obtain ⟨rfl,rfl⟩:=h
    rw [hf _ _ _ h1 (hs.mono fun i hi=>by simp [hi]),acN hf h2 (hs.mono fun i hi=>by simp [hi])]
theorem pur_same:∀ (d:Nat) (v:AVal) (x:PVal) (ids:List Nat),pur S d v=some (x,ids)→Same S S' ids→pur S' d v=some (x,ids):=by
  intro d
  induction d with
  | zero=>intro v x ids h; simp [pur] at h
  | succ d ih =>
    intro v x ids h hs
    simp only [pur] at h ⊢
    split at h
    · exact h
    · exact h
    · simp only [Option.map_eq_some_iff] at h ⊢
      obtain ⟨⟨xs,a⟩,h1,h2⟩:=h
      simp only [Prod.mk.injEq] at h2
      obtain ⟨rfl,rfl⟩:=h2
      exact ⟨_,acN ih h1 hs,rfl⟩
    · simp only [Option.map_eq_some_iff] at h ⊢
      obtain ⟨⟨xs,a⟩,h1,h2⟩:=h
      simp only [Prod.mk.injEq] at h2
      obtain ⟨rfl,rfl⟩:=h2
      exact ⟨_,acN ih h1 hs,rfl⟩
    · simp only [Option.map_eq_some_iff] at h ⊢
      obtain ⟨⟨y,a⟩,h1,h2⟩:=h
      simp only [Prod.mk.injEq] at h2
      obtain ⟨rfl,rfl⟩:=h2
      exact ⟨_,ih _ _ _ h1 hs,rfl⟩
    · simp only [Option.map_eq_some_iff] at h ⊢
      obtain ⟨⟨xs,a⟩,h1,h2⟩:=h
      simp only [Prod.mk.injEq] at h2
      obtain ⟨rfl,rfl⟩:=h2
      exact ⟨_,acN ih h1 hs,rfl⟩
    · rename_i id ep off len c
      split at h <;> try (simp at h; done)
      rename_i xs hv
      simp only [Option.map_eq_some_iff] at h
      obtain ⟨⟨ys,a⟩,h1,h2⟩:=h
      simp only [Prod.mk.injEq] at h2
      obtain ⟨rfl,rfl⟩:=h2
      rw [aic hv (hs id (by simp))]
      simp only [Option.map_eq_some_iff]
      exact ⟨_,acN ih h1 (hs.mono fun i hi=>by simp [hi]),rfl⟩
    · rename_i id
      split at h <;> try (simp at h; done)
      rename_i cs hv
      simp only [Option.map_eq_some_iff] at h
      obtain ⟨⟨ys,a⟩,h1,h2⟩:=h
      simp only [Prod.mk.injEq] at h2
      obtain ⟨rfl,rfl⟩:=h2
      have hv' : S'.get id=some (.box cs):=(hs id (by simp)).trans hv
      rw [hv']
      simp only [Option.map_eq_some_iff]
      exact ⟨_,acN ih h1 (hs.mono fun i hi=>by simp [hi]),rfl⟩
    · simp at h
theorem aiP:∀ {ids:List Nat},Same S S' ids→freeze S' ids=freeze S ids
  | [],_=>rfl
  | id :: ids,h=>by
    simp only [freeze]
    rw [h id (by simp),aiP (ids:=ids) (h.mono fun i hi=>by simp [hi])]
theorem amF:∀ {l:List (Nat × Obj)},Same S S' (l.map (·.1))→ad6 S' l=ad6 S l
  | [],_=>rfl
  | (i,o) :: l,h=>by
    simp only [ad6]
    rw [h i (by simp),amF (l:=l) (h.mono fun i hi=>by simp at hi ⊢; exact .inr hi)]
theorem alj:∀ {ids:List Nat},Same S S' ids→noBox S' ids=noBox S ids
  | [],_=>rfl
  | id :: ids,h=>by
    simp only [noBox]
    rw [h id (by simp),alj (ids:=ids) (h.mono fun i hi=>by simp [hi])]
theorem aiW {C:CallFn} {imp:Nat→Bool} {b f:Nat} {args:List AVal} {e:Eff} (h:callAt C imp S b f args=some (.eff e)) (hs:Same S S' e.rd):callAt C imp S' b f args=some (.eff e):=by
  unfold callAt at h ⊢
  split at h
  · split at h <;> try (simp at h; done)
    rename_i ps ids hp
    split at h
    · rename_i v s' hc
      split at h
      · rename_i xs hcl
        split at h <;> simp at h
        rename_i hnb
        subst h
        have hp':=acN (pur_same depth) hp hs
        rw [hp']
        simp only [hc,hcl]
        rw [alj hs,aiP hs,hnb]
      rename_i hcl
      split at h <;> try (simp at h; done)
      rename_i v1 ho
      obtain ⟨v',wr,ha⟩:∃ v' wr,adopt b v1=(v',wr):=⟨_,_,rfl⟩
      rw [ha] at h
      simp only at h
      have hrd:e.rd=ids ++ wr.map (·.1):=by
        split at h <;> simp at h
        subst h
        rfl
      have h1:Same S S' ids:=hs.mono fun i hi=>by rw [hrd]; simp [hi]
      have h2:Same S S' (wr.map (·.1)):=hs.mono fun i hi=>by rw [hrd]; exact List.mem_append_right _ hi
      have hp':=acN (pur_same depth) hp h1
      rw [hp']
      simp only [hc,hcl,ho,ha]
      rw [amF h2,aiP h1,alj h1]
      exact h
    · split at h <;> try (simp at h; done)
      split at h <;> simp at h
    · simp at h
  · split at h <;> simp at h
theorem callOp_same {C:CallFn} {imp:Nat→Bool} {b:Nat} {c:Call} {e:Eff} (h:callOp C imp P tm S b c=some (.eff e)) (hs:Same S S' e.rd):callOp C imp P tm S' b c=some (.eff e):=by
  unfold callOp at h ⊢
  split at h
  · split at h <;> try (simp at h; done)
    split at h <;> try (simp at h; done)
    · exact aiW h hs
    · split at h <;> try (simp at h; done)
      · exfalso
        split at h <;> simp at h
      · exact aiW h hs
  · split at h <;> try (simp at h; done)
    split at h <;> try (simp at h; done)
    split at h <;> try (simp at h; done)
    exact aiW h hs
  · simp at h
theorem ap5 {C:CallFn} {imp:Nat→Bool} {b:Nat} {op:Op} {e:Eff} (h:evOp C imp P tm S b op=some (.eff e)) (hs:Same S S' e.rd):evOp C imp P tm S' b op=some (.eff e):=by
  have pl:∀ {op},(aau P tm S b op).map R.eff=some (.eff e)→(aau P tm S' b op).map R.eff=some (.eff e):=by
    intro op h
    simp only [Option.map_eq_some_iff,R.eff.injEq] at h ⊢
    obtain ⟨x,h1,rfl⟩:=h
    exact ⟨x,agx h1 hs,rfl⟩
  unfold evOp at h ⊢
  split at h
  · split at h <;> try (simp at h; done)
    split at h <;> simp at h
  · split at h
    · exact pl h
    · exact callOp_same h hs
  · split at h <;> try (simp at h; done)
    split at h <;> try (simp at h; done)
    split at h <;> simp at h
  · exact pl h
end
end Go.Proofs.YtdnbnpknpejpdaaGreatDoor.Sw
namespace Go.Proofs.YtdnbnpknpejpdaaGreatDoor.Sw
theorem sets_get:∀ (l:List (Nat × Obj)) (s:St) (id:Nat),(s.sets l).get id=upds s.get l id
  | [],s,id=>rfl
  | (i,o) :: l,s,id=>by
    simp only [St.sets,upds,List.foldl_cons]
    rw [sets_get l (s.set i o) id]
    have:(s.set i o).get=upd s.get i o:=by
      funext k
      rw [St.aa0]
      unfold upd
      by_cases h:i=k
      · simp [h]
      · rw [if_neg h,if_neg (fun e=>h e.symm)]
    rw [this]
theorem aaB (s:St) (rd:List Nat) (wr:List (Nat × Obj)):(s.did rd wr).get=upds s.get wr:=funext fun id=>sets_get wr s id
theorem ank (s:St) (rd:List Nat):∀ (wr:List (Nat × Obj)),(s.did rd wr).next=s.next:=by
  intro wr
  have:∀ (wr:List (Nat × Obj)) (s:St),(s.sets wr).next=s.next:=by
    intro wr
    induction wr with
    | nil=>intro s; rfl
    | cons q wr ih=>intro s; obtain ⟨i,o⟩:=q; simp only [St.sets]; rw [ih]; rfl
  exact this wr s
theorem acK {l:List (Nat × Obj)}:∀ {s:Sto} {id:Nat},id ∉ l.map (·.1)→upds s l id=s id:=by
  induction l with
  | nil=>intro s id _; rfl
  | cons q l ih =>
    intro s id h
    simp only [List.map_cons,List.mem_cons,not_or] at h
    simp only [upds,List.foldl_cons]
    have:=ih (s:=upd s q.1 q.2) h.2
    rw [show List.foldl (fun s x=>upd s x.1 x.2) (upd s q.1 q.2) l=upds (upd s q.1 q.2) l from rfl,this,aak _ _ h.1]
theorem upds_in {l:List (Nat × Obj)}:∀ {s s' : Sto} {id:Nat},id ∈ l.map (·.1)→upds s l id=upds s' l id:=by
  induction l with
  | nil=>intro s s' id h; simp at h
  | cons q l ih =>
    intro s s' id h
    simp only [upds,List.foldl_cons]
    by_cases hl:id ∈ l.map (·.1)
    · exact ih hl
    · have e1:=acK (s:=upd s q.1 q.2) hl
      have e2:=acK (s:=upd s' q.1 q.2) hl
      simp only [List.map_cons,List.mem_cons] at h
      have hq:id=q.1:=h.resolve_right hl
      rw [show List.foldl (fun s x=>upd s x.1 x.2) (upd s q.1 q.2) l=upds (upd s q.1 q.2) l from rfl,e1,
        show List.foldl (fun s x=>upd s x.1 x.2) (upd s' q.1 q.2) l=upds (upd s' q.1 q.2) l from rfl,e2,hq]
      simp
def Log.app:Log→Sto→Sto
  | .e,s=>s
  | .op _ wr l,s=>upds (l.app s) wr
  | .call a l,s=>a.app (l.app s)
def Log.cat:Log→Log→Log
  | .e,m=>m
  | .op rd wr l,m=>.op rd wr (l.cat m)
  | .call a l,m=>.call a (l.cat m)
theorem Log.cat_e:∀ (l:Log),l.cat .e=l
  | .e=>rfl
  | .op rd wr l=>by simp only [Log.cat,Log.cat_e l]
  | .call a l=>by simp only [Log.cat,Log.cat_e l]
theorem Log.akg:∀ (a b c:Log),(a.cat b).cat c=a.cat (b.cat c)
  | .e,_,_=>rfl
  | .op rd wr l,b,c=>by simp only [Log.cat,Log.akg l]
  | .call a l,b,c=>by simp only [Log.cat,Log.akg l]
theorem Log.app_cat:∀ (a b:Log) (s:Sto),(a.cat b).app s=a.app (b.app s)
  | .e,_,_=>rfl
  | .op rd wr l,b,s=>by simp only [Log.cat,Log.app,Log.app_cat l]
  | .call a l,b,s=>by simp only [Log.cat,Log.app,Log.app_cat l]
theorem Log.am9:∀ (a b:Log),(a.cat b).rdOf=a.rdOf ++ b.rdOf
  | .e,_=>rfl
  | .op rd wr l,b=>by simp only [Log.cat,Log.rdOf,Log.am9 l,List.append_assoc]
  | .call a l,b=>by simp only [Log.cat,Log.rdOf,Log.am9 l,List.append_assoc]
theorem akk:∀ (l:Log) {s t:Sto} {id:Nat},t id=s id→l.app t id=l.app s id
  | .e,_,_,_,h=>h
  | .op rd wr l,s,t,id,h=>by
    simp only [Log.app]
    by_cases hw:id ∈ wr.map (·.1)
    · exact upds_in hw
    · rw [acK hw,acK hw]; exact akk l h
  | .call a l,s,t,id,h=>akk a (akk l h)
theorem afU:∀ (l:Log) (s:Sto),l.app s=upds s l.flat
  | .e,_=>rfl
  | .op rd wr l,s=>by simp only [Log.app,Log.flat,afU l,upds,List.foldl_append]
  | .call a l,s=>by
    simp only [Log.app,Log.flat]
    rw [afU a,afU l]
    simp only [upds,List.foldl_append]
structure Ran (S S' : St) (L:Log):Prop where
  log:S'.log=L.cat S.log
  get:S'.get=L.app S.get
def aan (S S' : St) (L:Log) (Q:St→St→Prop):Prop :=
  Ran S S' L ∧ ∀ T:St,T.next=S.next→(∀ id ∈ L.rdOf,T.get id=S.get id) → ∃ T',Q T T' ∧ Ran T T' L∧T'.next=S'.next
theorem aan.then {S S1 S' : St} {L1 L2:Log} {Q1 Q2 Q:St→St→Prop} (h1:aan S S1 L1 Q1) (h2:aan S1 S' L2 Q2) (h:∀ T T1 T',T.next=S.next→Q1 T T1→Q2 T1 T' → Q T T'):aan S S' (L2.cat L1) Q:=by
  obtain ⟨⟨a1,a2⟩,a3⟩:=h1
  obtain ⟨⟨b1,b2⟩,b3⟩:=h2
  refine ⟨⟨by rw [b1,a1,Log.akg],by rw [b2,a2,Log.app_cat]⟩,fun T hn hT=>?_⟩
  obtain ⟨T1,c1,⟨c2,c3⟩,c4⟩:=a3 T hn (fun id hid=>hT id (by rw [Log.am9]; simp [hid]))
  obtain ⟨T',d1,⟨d2,d3⟩,d4⟩:=b3 T1 c4 (fun id hid=>by rw [c3,a2]; exact akk L1 (hT id (by rw [Log.am9]; simp [hid])))
  exact ⟨T',h T T1 T' hn c1 d1,⟨by rw [d2,c2,Log.akg],by rw [d3,c3,Log.app_cat]⟩,d4⟩
theorem aan.refl {S:St} {Q:St→St→Prop} (h:∀ T,T.next=S.next→Q T T):aan S S .e Q:=⟨⟨rfl,rfl⟩,fun T hn _=>⟨T,h T hn,⟨rfl,rfl⟩,hn⟩⟩
theorem aan.did {S:St} {Q:St→St→Prop} (rd:List Nat) (wr:List (Nat × Obj)) (h:∀ T,T.next=S.next→(∀ id ∈ rd,T.get id=S.get id)→Q T (T.did rd wr)):aan S (S.did rd wr) (.op rd wr .e) Q :=
  ⟨⟨rfl,aaB S rd wr⟩,fun T hn hT=>⟨T.did rd wr,h T hn (fun id hid=>hT id (by simp [Log.rdOf,hid])),⟨rfl,aaB T rd wr⟩,by rw [ank,ank,hn]⟩⟩
theorem aan.mono {S S' : St} {L:Log} {Q Q' : St→St→Prop} (h:aan S S' L Q) (hq:∀ T T',T.next=S.next→Q T T' → Q' T T'):aan S S' L Q' :=
  ⟨h.1,fun T hn hT=>let ⟨T',a,b,c⟩:=h.2 T hn hT; ⟨T',hq T T' hn a,b,c⟩⟩
theorem aan.bump {S:St} {Q:St→St→Prop} (k:Nat) (h:∀ T,T.next=S.next→Q T { T with next:=T.next + k }):aan S { S with next:=S.next + k } .e Q :=
  ⟨⟨rfl,rfl⟩,fun T hn _=>⟨{ T with next:=T.next + k },h T hn,⟨rfl,rfl⟩,by simp [hn]⟩⟩
def mkCR:Bool × AVal→St→CR
  | (true,v),s=>.ret v s
  | (false,v),s=>.pan v s
def CLoc (C:CallFn):Prop :=
  ∀ (t:Tgt),(∀ f,t ≠ .iso f) → ∀ (args:List AVal) (S:St) (q:Bool × AVal) (S' : St),C t args S=some (mkCR q S') → ∃ L,aan S S' L fun T T'=>C t args T=some (mkCR q T')
section
variable {C:CallFn} {imp:Nat→Bool} {P:Program} {n:Nat} {tm:Tr AVal} {S S' : St} {b:Nat}
def Again (S S' : St) (Q:St→St→Prop):Prop :=
  S'.get=S'.log.app S.get ∧ ∀ T:St,T.next=S.next→(∀ id ∈ S'.log.rdOf,T.get id=S.get id) → ∃ T',Q T T' ∧ T'.log=S'.log∧T'.get=S'.log.app T.get∧T'.next=S'.next
theorem Again.of {Q:St→St→Prop} {L:Log} (h:aan { S with log:=.e } S' L fun T T'=>T.log = .e→Q T T') (hq:∀ T T',Q { T with log:=.e } T' → Q T T'):Again S S' Q:=by
  obtain ⟨⟨h1,h2⟩,h3⟩:=h
  have hl:S'.log=L:=by rw [h1,Log.cat_e]
  refine ⟨by rw [hl]; exact h2,fun T hn hT=>?_⟩
  obtain ⟨T',k1,⟨k2,k3⟩,k4⟩:=h3 { T with log:=.e } hn (by rw [hl] at hT; exact hT)
  exact ⟨T',hq T T' (k1 rfl),by rw [k2,hl,Log.cat_e],by rw [hl]; exact k3,k4⟩
theorem agV (hC:CLoc C) {f:Nat} {args:List AVal} {v:AVal} (h:callAt C imp S b f args=some (.all v S')):Again S S' fun T T'=>callAt C imp T b f args=some (.all v T'):=by
  unfold callAt at h
  split at h
  · exfalso
    repeat' split at h
    all_goals simp at h
  · rename_i hb
    split at h <;> simp at h
    rename_i v' s' hc
    obtain ⟨rfl,rfl⟩:=h
    obtain ⟨L,hF⟩:=hC (.fn f) (by simp) args _ (true,v') s' hc
    refine Again.of (hF.mono fun T T' _ hq he=>?_) fun T T' h=>?_
    · unfold callAt
      rw [hb]
      have:({ T with log:=.e }:St)=T:=by cases T; simp at he; subst he; rfl
      simp only [this]
      rw [show C (.fn f) args T=some (.ret v' T') from hq]
    · unfold callAt at h ⊢
      rw [hb] at h ⊢
      exact h
theorem adJ (hC:CLoc C) {f:Nat} {args:List AVal} {v:AVal} (h:callAt C imp S b f args=some (.pan v S')):Again S S' fun T T'=>callAt C imp T b f args=some (.pan v T'):=by
  unfold callAt at h
  split at h
  · rename_i hb
    split at h <;> try (simp at h; done)
    rename_i ps ids hp
    split at h
    · exfalso
      repeat' split at h
      all_goals simp at h
    · rename_i v' s' hc
      split at h <;> try (simp at h; done)
      rename_i x a hx
      split at h <;> simp at h
      rename_i hf
      obtain ⟨rfl,rfl⟩:=h
      refine ⟨rfl,fun T hn hT=>⟨{ T with log:=.op ids [] .e }, ?_,rfl,rfl,hn⟩⟩
      have hs:Same S T ids:=fun id hid=>hT id (by simp [Log.rdOf,hid])
      unfold callAt
      rw [hb]
      simp only [acN (pur_same depth) hp hs,hc,hx,hf]
    · simp at h
  · rename_i hb
    split at h <;> simp at h
    rename_i v' s' hc
    obtain ⟨rfl,rfl⟩:=h
    obtain ⟨L,hF⟩:=hC (.fn f) (by simp) args _ (false,v') s' hc
    refine Again.of (hF.mono fun T T' _ hq he=>?_) fun T T' h=>?_
    · unfold callAt
      rw [hb]
      have:({ T with log:=.e }:St)=T:=by cases T; simp at he; subst he; rfl
      simp only [this]
      rw [show C (.fn f) args T=some (.pan v' T') from hq]
    · unfold callAt at h ⊢
      rw [hb] at h ⊢
      exact h
theorem Again.mono {Q Q' : St→St→Prop} (h:Again S S' Q) (hq:∀ T T',Q T T' → Q' T T'):Again S S' Q' :=
  ⟨h.1,fun T hn hT=>let ⟨T',a,b⟩:=h.2 T hn hT; ⟨T',hq T T' a,b⟩⟩
theorem ahy (hC:CLoc C) {op:Op} {v:AVal} (h:evOp C imp P tm S b op=some (.all v S')):Again S S' fun T T'=>evOp C imp P tm T b op=some (.all v T'):=by
  have pl:∀ {op},(aau P tm S b op).map R.eff=some (.all v S')→False:=by intro op h; simp at h
  unfold evOp at h
  split at h
  · split at h <;> try (simp at h; done)
    split at h <;> simp at h
  · rename_i c
    split at h
    · exact (pl h).elim
    · rename_i hnb
      have hev:∀ T,evOp C imp P tm T b (.call c)=callOp C imp P tm T b c:=by
        intro T
        unfold evOp
        simp only
      simp only [hev]
      unfold callOp at h
      split at h
      · rename_i o ho
        split at h <;> try (simp at h; done)
        rename_i fv args hfv hargs
        split at h <;> try (simp at h; done)
        · rename_i f cap hfn
          exact (agV hC h).mono fun T T' hq=>by unfold callOp; rw [ho]; simp only [hfv,hargs,hfn]; exact hq
        · rename_i hfn
          split at h <;> try (simp at h; done)
          · rename_i id
            split at h <;> simp at h
            rename_i v' s' hc
            obtain ⟨rfl,rfl⟩:=h
            obtain ⟨L,hF⟩:=hC (.yld id) (by simp) args _ (true,v') s' hc
            refine Again.of (hF.mono fun T T' _ hq he=>?_) fun T T' h=>?_
            · unfold callOp
              rw [ho]
              have:({ T with log:=.e }:St)=T:=by cases T; simp at he; subst he; rfl
              simp only [hfv,hargs,hfn,this]
              rw [show C (.yld id) args T=some (.ret v' T') from hq]
            · unfold callOp at h ⊢
              rw [ho] at h ⊢
              simp only [hfv,hargs,hfn] at h ⊢
              exact h
          · exact (agV hC h).mono fun T T' hq=>by unfold callOp; rw [ho]; simp only [hfv,hargs,hfn]; exact hq
      · rename_i o name ho
        split at h <;> try (simp at h; done)
        rename_i x args hx hargs
        split at h <;> try (simp at h; done)
        rename_i t u hif
        split at h <;> try (simp at h; done)
        rename_i f hm
        exact (agV hC h).mono fun T T' hq=>by unfold callOp; rw [ho]; simp only [hx,hargs,hif,hm]; exact hq
      · simp at h
  · split at h <;> try (simp at h; done)
    split at h <;> try (simp at h; done)
    split at h <;> simp at h
  · exact (pl h).elim
theorem ads (hC:CLoc C) {op:Op} {v:AVal} (h:evOp C imp P tm S b op=some (.pan v S')):Again S S' fun T T'=>evOp C imp P tm T b op=some (.pan v T'):=by
  have pl:∀ {op},(aau P tm S b op).map R.eff=some (.pan v S')→False:=by intro op h; simp at h
  unfold evOp at h
  split at h
  · rename_i x
    split at h <;> try (simp at h; done)
    rename_i v' hv
    split at h <;> simp at h
    rename_i q hq
    obtain ⟨rfl,rfl⟩:=h
    refine ⟨rfl,fun T hn hT=>⟨{ T with log:=.e }, ?_,rfl,rfl,hn⟩⟩
    unfold evOp
    simp only [hv,hq]
  · rename_i c
    split at h
    · exact (pl h).elim
    · rename_i hnb
      have hev:∀ T,evOp C imp P tm T b (.call c)=callOp C imp P tm T b c:=by
        intro T
        unfold evOp
        simp only
      simp only [hev]
      unfold callOp at h
      split at h
      · rename_i o ho
        split at h <;> try (simp at h; done)
        rename_i fv args hfv hargs
        split at h <;> try (simp at h; done)
        · rename_i f cap hfn
          exact (adJ hC h).mono fun T T' hq=>by unfold callOp; rw [ho]; simp only [hfv,hargs,hfn]; exact hq
        · rename_i hfn
          split at h <;> try (simp at h; done)
          · split at h <;> simp at h
          · exact (adJ hC h).mono fun T T' hq=>by unfold callOp; rw [ho]; simp only [hfv,hargs,hfn]; exact hq
      · rename_i o name ho
        split at h <;> try (simp at h; done)
        rename_i x args hx hargs
        split at h <;> try (simp at h; done)
        rename_i t u hif
        split at h <;> try (simp at h; done)
        rename_i f hm
        exact (adJ hC h).mono fun T T' hq=>by unfold callOp; rw [ho]; simp only [hx,hargs,hif,hm]; exact hq
      · simp at h
  · split at h <;> try (simp at h; done)
    split at h <;> try (simp at h; done)
    split at h <;> simp at h
  · exact (pl h).elim
theorem evOp_dfr {op:Op} {f:Nat} {cap:List AVal} (h:evOp C imp P tm S b op=some (.dfr f cap)) (T:St):evOp C imp P tm T b op=some (.dfr f cap):=by
  have pl:∀ {op},(aau P tm S b op).map R.eff=some (.dfr f cap)→False:=by intro op h; simp at h
  unfold evOp at h ⊢
  split at h
  · split at h <;> try (simp at h; done)
    split at h <;> simp at h
  · split at h
    · exact (pl h).elim
    · exfalso
      unfold callOp callAt at h
      repeat' split at h
      all_goals simp at h
  · exact h
  · exact (pl h).elim
end
end Go.Proofs.YtdnbnpknpejpdaaGreatDoor.Sw
namespace Go.Proofs.YtdnbnpknpejpdaaGreatDoor.Sw
structure aa6 (P:Program) (gl:Tr AVal) (C:CallFn):Prop extends CallOk P gl C where
  loc:CLoc C
section
variable {C:CallFn} {imp:Nat→Bool} {P:Program} {n:Nat}
def mkRO:(Tr AVal × List (Nat × Rec) × List Dfr) ⊕ (AVal × Tr AVal × List Dfr)→St→RO
  | .inl (tm,recs,ds),s=>.done tm s recs ds
  | .inr (v,tm,ds),s=>.pan v tm s ds
theorem aan.again {S s' : St} {Q:St→St→Prop} (h:Again S s' Q) :
    aan S { s' with log:=.call s'.log S.log } (.call s'.log .e) fun T T1=>∃ t',Q T t' ∧ t'.log=s'.log∧T1 = { t' with log:=.call t'.log T.log }:=by
  obtain ⟨h1,h2⟩:=h
  refine ⟨⟨rfl,h1⟩,fun T hn hT=>?_⟩
  obtain ⟨t',k1,k2,k3,k4⟩:=h2 T hn (fun id hid=>hT id (by simp [Log.rdOf,hid]))
  exact ⟨{ t' with log:=.call t'.log T.log },⟨t',k1,k2,rfl⟩,⟨by rw [k2]; rfl,k3⟩,k4⟩
theorem ae2 (hC:CLoc C) {ops:Array Oper}:∀ {l:List Oper} {i b:Nat} {tm:Tr AVal} {S S' : St} {recs:List (Nat × Rec)} {ds:List Dfr} {q:(Tr AVal × List (Nat × Rec) × List Dfr) ⊕ (AVal × Tr AVal × List Dfr)},
    evOps C imp P n ops l i b tm S recs ds=some (mkRO q S') → ∃ L,aan S S' L fun T T'=>evOps C imp P n ops l i b tm T recs ds=some (mkRO q T')
  | [],i,b,tm,S,S',recs,ds,q,h=>by
    simp only [evOps,Option.some.injEq] at h
    refine ⟨.e, ?_⟩
    cases q with
    | inr q=>obtain ⟨v,tm',ds'⟩:=q; simp [mkRO] at h
    | inl q =>
      obtain ⟨tm',recs',ds'⟩:=q
      simp [mkRO] at h
      obtain ⟨rfl,rfl,rfl,rfl⟩:=h
      exact aan.refl fun T _=>by simp [evOps,mkRO]
  | o :: l,i,b,tm,S,S',recs,ds,q,h=>by
    simp only [evOps] at h ⊢
    split at h
    · rename_i hw
      try simp only [hw]
      split at h
      · rename_i e he
        split at h <;> try (simp at h; done)
        rename_i tm1 ht
        obtain ⟨L2,h2⟩:=ae2 hC h
        have h1:aan S (S.did e.rd e.wr) (.op e.rd e.wr .e) fun T T1=>evOp C imp P tm T b o.op=some (.eff e)∧T1=T.did e.rd e.wr :=
          aan.did _ _ fun T _ hT=>⟨ap5 he hT,rfl⟩
        refine ⟨_,h1.then h2 fun T T1 T' _ ⟨k1,k2⟩ hq=>?_⟩
        subst k2
        simp only [k1,ht]
        exact hq
      · rename_i v s' he
        split at h <;> try (simp at h; done)
        rename_i tm1 ht
        obtain ⟨L2,h2⟩:=ae2 hC h
        refine ⟨_,(aan.again (ahy hC he)).then h2 fun T T1 T' _ ⟨t',k1,k2,k3⟩ hq=>?_⟩
        subst k3
        simp only [k1,ht,k2]
        rw [k2] at hq
        exact hq
      · rename_i v s' he
        simp only [Option.some.injEq] at h
        cases q with
        | inl q=>obtain ⟨tm',recs',ds'⟩:=q; simp [mkRO] at h
        | inr q =>
          obtain ⟨v',tm',ds'⟩:=q
          simp [mkRO] at h
          obtain ⟨rfl,rfl,rfl,rfl⟩:=h
          refine ⟨_,(aan.again (ads hC he)).mono fun T T' _ ⟨t',k1,k2,k3⟩=>?_⟩
          subst k3
          simp only [k1,mkRO]
      · rename_i f cap he
        split at h <;> try (simp at h; done)
        rename_i tm1 ht
        obtain ⟨L2,h2⟩:=ae2 hC h
        refine ⟨L2,h2.mono fun T T' _ hq=>?_⟩
        simp only [evOp_dfr he T]
        exact hq
      · simp at h
    · rename_i hw
      try simp only [hw]
      split at h <;> try (simp at h; done)
      rename_i tm1 ht
      obtain ⟨L2,h2⟩:=ae2 hC h
      exact ⟨L2,h2.mono fun T T' _ hq=>by first | exact hq | (simp only [ht]; exact hq)⟩
    · simp at h
theorem ad4 (hC:CLoc C) {ops:Array Oper} {B:Array Nat}:∀ {l:List Oper} {i b:Nat} {tm tm' : Tr AVal} {S S' : St} {recs recs' : List (Nat × Rec)} {q q' : Option (Nat × AVal)},
    evAny C imp P n ops B l i b tm S recs q=some (tm',S',recs',q') → ∃ L,aan S S' L fun T T'=>evAny C imp P n ops B l i b tm T recs q=some (tm',T',recs',q')
  | [],i,b,tm,tm',S,S',recs,recs',q,q',h=>by
    simp only [evAny,Option.some.injEq,Prod.mk.injEq] at h
    obtain ⟨rfl,rfl,rfl,rfl⟩:=h
    exact ⟨.e,aan.refl fun T _=>by simp [evAny]⟩
  | o :: l,i,b,tm,tm',S,S',recs,recs',q,q',h=>by
    unfold evAny at h
    split at h
    · rename_i hs
      split at h <;> try (simp at h; done)
      rename_i tm1 ht
      obtain ⟨L2,h2⟩:=ad4 hC h
      refine ⟨L2,h2.mono fun T T' _ hq=>?_⟩
      unfold evAny
      rw [hs]
      simp only [ht]
      exact hq
    · rename_i hs
      split at h
      · rename_i hw
        split at h
        · rename_i e he
          split at h <;> try (simp at h; done)
          rename_i tm1 ht
          obtain ⟨L2,h2⟩:=ad4 hC h
          have h1:aan S (S.did e.rd e.wr) (.op e.rd e.wr .e) fun T T1=>evOp C imp P tm T b o.op=some (.eff e)∧T1=T.did e.rd e.wr :=
            aan.did _ _ fun T _ hT=>⟨ap5 he hT,rfl⟩
          refine ⟨_,h1.then h2 fun T T1 T' _ ⟨k1,k2⟩ hq=>?_⟩
          subst k2
          unfold evAny
          rw [hs]
          simp only [hw,k1,ht]
          exact hq
        · rename_i v s' he
          split at h <;> try (simp at h; done)
          rename_i tm1 ht
          obtain ⟨L2,h2⟩:=ad4 hC h
          refine ⟨_,(aan.again (ahy hC he)).then h2 fun T T1 T' _ ⟨t',k1,k2,k3⟩ hq=>?_⟩
          subst k3
          unfold evAny
          rw [hs]
          simp only [hw,k1,ht,k2]
          rw [k2] at hq
          exact hq
        · rename_i v s' he
          split at h <;> try (simp at h; done)
          rename_i tm1 ht
          obtain ⟨L2,h2⟩:=ad4 hC h
          refine ⟨_,(aan.again (ads hC he)).then h2 fun T T1 T' _ ⟨t',k1,k2,k3⟩ hq=>?_⟩
          subst k3
          unfold evAny
          simp only [hw,k1,ht,k2]
          rw [k2] at hq
          exact hq
        · simp at h
      · rename_i hw
        split at h <;> try (simp at h; done)
        rename_i tm1 ht
        obtain ⟨L2,h2⟩:=ad4 hC h
        refine ⟨L2,h2.mono fun T T' _ hq=>?_⟩
        unfold evAny
        rw [hs]
        simp only [hw,ht]
        exact hq
      · simp at h
theorem evRegion_loc (hC:CLoc C) {rd draw:Bool} {ops:Array Oper} {fr fr' : Fr} {S S' : St} {x:XExit} (h:acV C imp P n rd ops draw fr S=some (x,fr',S')) :
    ∃ L,aan S S' L fun T T'=>acV C imp P n rd ops draw fr T=some (x,fr',T'):=by
  have h1:=aan.bump (S:=S) (Q:=fun T T1=>T1 = { T with next:=T.next + 16 * ops.size }) (16 * ops.size) fun T _=>rfl
  cases draw with
  | false =>
    simp only [acV] at h ⊢
    split at h
    · rename_i tm s recs ds ho
      obtain ⟨L,h2⟩:=ae2 hC (q:=.inl (tm,recs,ds)) ho
      have hs:S' = s:=by
        repeat' split at h
        all_goals first
          | (simp at h; done)
          | (simp only [Option.some.injEq,Prod.mk.injEq] at h; exact h.2.2.symm)
      subst hs
      refine ⟨_,h1.then h2 fun T T1 T' hn k1 k2=>?_⟩
      subst k1
      rw [← hn] at k2
      simp only [k2,mkRO]
      repeat' split at h
      all_goals first
        | (simp at h; done)
        | (simp only [Option.some.injEq,Prod.mk.injEq,and_true] at h
           obtain ⟨rfl,rfl⟩:=h
           first
             | rfl
             | simp_all)
    · rename_i v tm s ds ho
      obtain ⟨L,h2⟩:=ae2 hC (q:=.inr (v,tm,ds)) ho
      have hs:S' = s:=by
        repeat' split at h
        all_goals first
          | (simp at h; done)
          | (simp only [Option.some.injEq,Prod.mk.injEq] at h; exact h.2.2.symm)
      subst hs
      refine ⟨_,h1.then h2 fun T T1 T' hn k1 k2=>?_⟩
      subst k1
      rw [← hn] at k2
      simp only [k2,mkRO]
      repeat' split at h
      all_goals first
        | (simp at h; done)
        | (simp only [Option.some.injEq,Prod.mk.injEq,and_true] at h
           obtain ⟨rfl,rfl⟩:=h
           first
             | rfl
             | simp_all)
    · simp at h
  | true =>
    simp only [acV] at h ⊢
    split at h
    · rename_i tm s recs ho
      obtain ⟨L,h2⟩:=ad4 hC ho
      split at h <;> simp at h
      rename_i hp
      obtain ⟨rfl,rfl,rfl⟩:=h
      refine ⟨_,h1.then h2 fun T T1 T' hn k1 k2=>?_⟩
      subst k1
      rw [← hn] at k2
      simp only [k2,hp]
    · rename_i tm s recs p u ho
      obtain ⟨L,h2⟩:=ad4 hC ho
      split at h <;> simp at h
      rename_i hp hq
      obtain ⟨rfl,rfl,rfl⟩:=h
      refine ⟨_,h1.then h2 fun T T1 T' hn k1 k2=>?_⟩
      subst k1
      rw [← hn] at k2
      simp only [k2,hp,hq]
    · simp at h
def LocX (F:Fr→St→Option (XExit × Fr × St)):Prop:=∀ (fr:Fr) (S:St) (x:XExit) (fr' : Fr) (S' : St),F fr S=some (x,fr',S') → ∃ L,aan S S' L fun T T'=>F fr T=some (x,fr',T')
theorem loopN_loc {f:Fr→St→Option (XExit × Fr × St)} (hf:LocX f):∀ k,LocX (loopN f k)
  | 0=>fun fr S x fr' S' h=>by simp [loopN] at h
  | k + 1=>fun fr S x fr' S' h=>by
    simp only [loopN] at h ⊢
    split at h
    · rename_i fr1 S1 h1
      obtain ⟨L1,a1⟩:=hf _ _ _ _ _ h1
      obtain ⟨L2,a2⟩:=loopN_loc hf k _ _ _ _ _ h
      exact ⟨_,a1.then a2 fun T T1 T' _ k1 k2=>by simp only [k1]; exact k2⟩
    · rename_i hno
      obtain ⟨L1,a1⟩:=hf _ _ _ _ _ h
      refine ⟨L1,a1.mono fun T T' _ k1=>?_⟩
      rw [k1]
      cases x with
      | normal=>exact absurd h (hno _ _)
      | _=>rfl
theorem startRange_loc {ps:List Nat} {assign body:Code} {tm:Tr AVal} {S S1:St} (h:acp n ps assign body tm S=some S1):∃ L,aan S S1 L fun T T1=>acp n ps assign body tm T=some T1:=by
  unfold acp at h ⊢
  split at h <;> simp at h
  rename_i h1 h2
  subst h
  refine ⟨.op [S.next,S.next + 1] [(S.next, .ho (.dl true)),(S.next + 1, .ho (.lp tm n ps assign body .ready none))] .e,⟨rfl,aaB _ _ _⟩,fun T hn hT=>?_⟩
  have e1:T.get S.next=none:=by rw [hT _ (by simp [Log.rdOf]),h1]
  have e2:T.get (S.next + 1)=none:=by rw [hT _ (by simp [Log.rdOf]),h2]
  refine ⟨({ T with next:=T.next + 16 }:St).did [T.next,T.next + 1] [(T.next, .ho (.dl true)),(T.next + 1, .ho (.lp tm n ps assign body .ready none))], ?_,⟨?_, ?_⟩, ?_⟩
  · have e1' : T.get T.next=none:=by rw [hn]; exact e1
    have e2' : T.get (T.next + 1)=none:=by rw [hn]; exact e2
    simp only [e1',e2']
  · rw [← hn]; rfl
  · rw [aaB,hn]; rfl
  · rw [ank,ank]; simp [hn]
theorem ahz (hC:CLoc C) {k:Nat} {rd:Bool}:∀ c:Code,LocX (evCode C imp P k n rd c):=by
  intro c
  induction c with
  | skip=>intro fr S x fr' S' h; simp [evCode] at h; obtain ⟨rfl,rfl,rfl⟩:=h; exact ⟨.e,aan.refl fun T _=>by simp [evCode]⟩
  | label l=>intro fr S x fr' S' h; simp [evCode] at h; obtain ⟨rfl,rfl,rfl⟩:=h; exact ⟨.e,aan.refl fun T _=>by simp [evCode]⟩
  | exit l=>intro fr S x fr' S' h; simp [evCode] at h; obtain ⟨rfl,rfl,rfl⟩:=h; exact ⟨.e,aan.refl fun T _=>by simp [evCode]⟩
  | ret=>intro fr S x fr' S' h; simp [evCode] at h; obtain ⟨rfl,rfl,rfl⟩:=h; exact ⟨.e,aan.refl fun T _=>by simp [evCode]⟩
  | region id ops draw=>intro fr S x fr' S' h; simp only [evCode] at h ⊢; exact evRegion_loc hC h
  | seq c1 c2 ih1 ih2 =>
    intro fr S x fr' S' h
    simp only [evCode] at h ⊢
    split at h
    · rename_i fr1 S1 h1
      obtain ⟨L1,a1⟩:=ih1 _ _ _ _ _ h1
      obtain ⟨L2,a2⟩:=ih2 _ _ _ _ _ h
      exact ⟨_,a1.then a2 fun T T1 T' _ k1 k2=>by simp only [k1]; exact k2⟩
    · rename_i hno
      obtain ⟨L1,a1⟩:=ih1 _ _ _ _ _ h
      refine ⟨L1,a1.mono fun T T' _ k1=>?_⟩
      rw [k1]
      cases x with
      | normal=>exact absurd h (hno _ _)
      | _=>rfl
  | cond o c1 c2 ih1 ih2 =>
    intro fr S x fr' S' h
    simp only [evCode] at h ⊢
    split at h
    · rename_i hc; try simp only [hc]
      exact ih1 _ _ _ _ _ h
    · rename_i hc; try simp only [hc]
      exact ih2 _ _ _ _ _ h
    · simp at h
  | block id c ih =>
    intro fr S x fr' S' h
    simp only [evCode] at h ⊢
    split at h
    · rename_i i fr1 S1 h1
      obtain ⟨L1,a1⟩:=ih _ _ _ _ _ h1
      split at h <;> simp at h <;> rename_i hb <;> obtain ⟨rfl,rfl,rfl⟩:=h <;> exact ⟨L1,a1.mono fun T T' _ k1=>by simp only [k1,hb]⟩
    · rename_i hno
      obtain ⟨L1,a1⟩:=ih _ _ _ _ _ h
      refine ⟨L1,a1.mono fun T T' _ k1=>?_⟩
      rw [k1]
      cases x with
      | exit j=>exact absurd h (hno _ _ _)
      | _=>rfl
  | loop c ih=>intro fr S x fr' S' h; simp only [evCode] at h ⊢; exact loopN_loc ih k _ _ _ _ _ h
  | scope c ih =>
    intro fr S x fr' S' h
    simp only [evCode] at h ⊢
    split at h <;> try (simp at h; done)
    exact ih _ _ _ _ _ h
  | rangeFunc go ps assign body _ _ =>
    intro fr S x fr' S' h
    simp only [evCode] at h ⊢
    split at h <;> try (simp at h; done)
    rename_i gv hgv
    try simp only [hgv]
    split at h <;> try (simp at h; done)
    rename_i f cap hfn
    try simp only [hfn]
    split at h <;> try (simp at h; done)
    rename_i s1 hst
    obtain ⟨L1,a1⟩:=startRange_loc hst
    unfold aka at h
    split at h
    · rename_i rv s2 hcall
      obtain ⟨L2,a2⟩:=hC (.fn f) (by simp) _ _ (true,rv) _ hcall
      split at h <;> try (simp at h; done)
      rename_i tm' n' ps' as' bd' st pend hget
      have key:st ≠ .busy∧pendX pend=some x∧fr' = { fr with dfs:=.mark S.next :: fr.dfs }∧S' = s2.did [S.next + 1] [(S.next + 1, .ho (.lp tm' n' ps' as' bd' .exhausted pend))]:=by
        split at h <;> simp at h
        rename_i hno hpx
        obtain ⟨rfl,rfl,rfl⟩:=h
        exact ⟨fun e=>hno e,hpx,rfl,rfl⟩
      obtain ⟨k1,k2,rfl,rfl⟩:=key
      have a3:aan s2 (s2.did [S.next + 1] [(S.next + 1, .ho (.lp tm' n' ps' as' bd' .exhausted pend))]) _ fun T T'=>T.get (S.next + 1)=some (.ho (.lp tm' n' ps' as' bd' st pend)) ∧
          T' = T.did [S.next + 1] [(S.next + 1, .ho (.lp tm' n' ps' as' bd' .exhausted pend))]:=aan.did _ _ fun T _ hT=>⟨by rw [hT _ (by simp),hget],rfl⟩
      have a23:=a2.then (Q:=fun T1 T'=>aka S.next fr (C (.fn f) (.rf .yld (S.next + 1) :: cap) T1)=some (x, { fr with dfs:=.mark S.next :: fr.dfs },T')) a3 fun T1 T2 T' _ e1 ⟨e2,e3⟩=>by
        subst e3
        unfold aka
        rw [show C (.fn f) (.rf .yld (S.next + 1) :: cap) T1=some (.ret rv T2) from e1]
        simp only [e2,k2]
      exact ⟨_,a1.then a23 fun T T1 T' hn e1 e2=>by simp only [e1]; rw [hn]; exact e2⟩
    · rename_i v s2 hcall
      obtain ⟨L2,a2⟩:=hC (.fn f) (by simp) _ _ (false,v) _ hcall
      simp at h
      obtain ⟨rfl,rfl,rfl⟩:=h
      refine ⟨_,a1.then a2 fun T T1 T' hn e1 e2=>?_⟩
      simp only [e1]
      rw [hn,show C (.fn f) (.rf .yld (S.next + 1) :: cap) T1=some (.pan v T') from e2]
      rfl
    · simp at h
  | _=>intro fr S x fr' S' h; simp [evCode] at h
theorem adN {tm:Tr AVal} {S T:St}:∀ {l:List ResultVar} {vs:List AVal} {rd:List Nat},aaN P tm S l=some (vs,rd)→(∀ id ∈ rd,T.get id=S.get id)→aaN P tm T l=some (vs,rd)
  | [],vs,rd,h,_=>by simpa [aaN] using h
  | .tmp t :: l,vs,rd,h,hT=>by
    simp only [aaN] at h ⊢
    split at h <;> simp at h
    rename_i v vs' rd' h1 h2
    obtain ⟨rfl,rfl⟩:=h
    rw [h1,adN h2 hT]
  | .cell a t :: l,vs,rd,h,hT=>by
    simp only [aaN] at h ⊢
    split at h <;> try (simp at h; done)
    rename_i x hx
    split at h <;> simp at h
    rename_i e vs' rd' h1 h2
    obtain ⟨rfl,rfl⟩:=h
    try simp only [hx]
    rw [apg h1 (fun id hid=>hT id (by simp [hid])),adN h2 (fun id hid=>hT id (by simp [hid]))]
theorem ahx {ops:Array Oper}:∀ {l:List Oper} {b:Nat} {tm tm' : Tr AVal} {S S' : St} {m m' : Option AVal},evOpsD P n ops l b tm S m=some (tm',S',m') → ∃ L,aan S S' L fun T T'=>evOpsD P n ops l b tm T m=some (tm',T',m')
  | [],b,tm,tm',S,S',m,m',h=>by
    simp only [evOpsD,Option.some.injEq,Prod.mk.injEq] at h
    obtain ⟨rfl,rfl,rfl⟩:=h
    exact ⟨.e,aan.refl fun T _=>by simp [evOpsD]⟩
  | o :: l,b,tm,tm',S,S',m,m',h=>by
    simp only [evOpsD] at h ⊢
    split at h
    · rename_i hw
      try simp only [hw]
      split at h
      · rename_i hr
        try simp only [hr]
        split at h <;> try (simp at h; done)
        rename_i tm1 ht
        obtain ⟨L,a⟩:=ahx h
        exact ⟨L,a.mono fun T T' _ hq=>by first | exact hq | (rw [ht]; exact hq)⟩
      · rename_i hr
        try simp only [hr]
        split at h <;> try (simp at h; done)
        rename_i e he
        split at h <;> try (simp at h; done)
        rename_i tm1 ht
        obtain ⟨L,a⟩:=ahx h
        have h1:aan S (S.did e.rd e.wr) (.op e.rd e.wr .e) fun T T1=>aau P tm T b o.op=some e∧T1=T.did e.rd e.wr:=aan.did _ _ fun T _ hT=>⟨agx he hT,rfl⟩
        refine ⟨_,h1.then a fun T T1 T' _ ⟨k1,k2⟩ hq=>?_⟩
        subst k2
        simp only [k1,ht]
        exact hq
    · rename_i hw
      try simp only [hw]
      split at h <;> try (simp at h; done)
      rename_i tm1 ht
      obtain ⟨L,a⟩:=ahx h
      exact ⟨L,a.mono fun T T' _ hq=>by first | exact hq | (simp only [ht]; exact hq)⟩
    · simp at h
theorem evD_loc (hC:CLoc C) {k:Nat}:∀ (c:Code) {fr fr' : Fr} {S S' : St} {x:XExit} {m m' : Option AVal},evD C imp P k n c fr S m=some (x,fr',S',m') → ∃ L,aan S S' L fun T T'=>evD C imp P k n c fr T m=some (x,fr',T',m'):=by
  have plain:∀ (c:Code) {fr fr' : Fr} {S S' : St} {x:XExit} {m m' : Option AVal},withM m (evCode C imp P k n false c fr S)=some (x,fr',S',m') →
      ∃ L,aan S S' L fun T T'=>withM m (evCode C imp P k n false c fr T)=some (x,fr',T',m'):=by
    intro c fr fr' S S' x m m' h
    unfold withM at h
    split at h <;> simp at h
    rename_i x1 fr1 s1 h1
    obtain ⟨rfl,rfl,rfl,rfl⟩:=h
    obtain ⟨L,a⟩:=ahz hC c _ _ _ _ _ h1
    exact ⟨L,a.mono fun T T' _ hq=>by rw [hq]; rfl⟩
  intro c
  induction c with
  | seq c1 c2 ih1 ih2 =>
    intro fr fr' S S' x m m' h
    simp only [evD] at h ⊢
    split at h
    · rename_i hr; try simp only [hr]
      exact plain _ h
    · rename_i hr
      try simp only [hr]
      split at h
      · rename_i fr1 S1 m1 h1
        obtain ⟨L1,a1⟩:=ih1 h1
        obtain ⟨L2,a2⟩:=ih2 h
        exact ⟨_,a1.then a2 fun T T1 T' _ k1 k2=>by simp only [k1]; exact k2⟩
      · rename_i hno
        obtain ⟨L1,a1⟩:=ih1 h
        refine ⟨L1,a1.mono fun T T' _ k1=>?_⟩
        rw [k1]
        cases x with
        | normal=>exact absurd h (hno _ _ _)
        | _=>rfl
  | region id ops draw =>
    intro fr fr' S S' x m m' h
    simp only [evD] at h ⊢
    split at h
    · rename_i hr
      try simp only [hr]
      split at h <;> simp at h
      rename_i tm s' m1 h1
      obtain ⟨rfl,rfl,rfl,rfl⟩:=h
      obtain ⟨L,a⟩:=ahx h1
      have h0:=aan.bump (S:=S) (Q:=fun T T1=>T1 = { T with next:=T.next + 16 * ops.size }) (16 * ops.size) fun T _=>rfl
      refine ⟨_,h0.then a fun T T1 T' hn k1 k2=>?_⟩
      subst k1
      rw [← hn] at k2
      simp only [k2]
    · simp at h
    · rename_i hr; try simp only [hr]
      exact plain _ h
  | _ =>
    intro fr fr' S S' x m m' h
    simp only [evD] at h ⊢
    split at h <;> first | exact plain _ h | (rename_i hr; simp only [hr]; exact plain _ h) | (simp at h; done)
theorem evDfr_loc (hC:CLoc C) {gl:Tr AVal} {k f:Nat} {args:List AVal} {S S' : St} {m m' : Option AVal} (h:evDfr C gl imp P k f args S m=some (S',m')):∃ L,aan S S' L fun T T'=>evDfr C gl imp P k f args T m=some (T',m'):=by
  unfold evDfr at h ⊢
  split at h <;> try (simp at h; done)
  rename_i fn hf
  split at h <;> try (simp at h; done)
  rename_i c hb
  split at h <;> try (simp at h; done)
  rename_i hl1 hl2
  try simp only [hf,hb,hl1,hl2]
  split at h <;> try (simp at h; done)
  rename_i x fr s' m1 hev
  obtain ⟨L,a⟩:=evD_loc hC c hev
  have key:∃ vs rd,fr.dfs = []∧aaN P fr.tm s' fn.results.toList=some (vs,rd)∧(x = .normal ∨ x = .ret)∧S' = s'.did rd []∧m' = m1:=by
    split at h <;> simp at h
    · rename_i h1 h2; exact ⟨_,_,h1,h2, .inl rfl,h.1.symm,h.2.symm⟩
    · rename_i h1 h2; exact ⟨_,_,h1,h2, .inr rfl,h.1.symm,h.2.symm⟩
  obtain ⟨vs,rd,k1,k2,k3,rfl,rfl⟩:=key
  have a2:aan s' (s'.did rd []) _ fun T T'=>aaN P fr.tm T fn.results.toList=some (vs,rd)∧T' = T.did rd []:=aan.did _ _ fun T _ hT=>⟨adN k2 hT,rfl⟩
  refine ⟨_,a.then a2 fun T T1 T' _ e1 ⟨e2,e3⟩=>?_⟩
  subst e3
  simp only [e1,k1,e2]
  rcases k3 with rfl | rfl <;> rfl
theorem aet (hC:CLoc C) {gl:Tr AVal} {k:Nat}:∀ {dfs:List Dfr} {S S' : St} {m m' : Option AVal},abw C gl imp P k dfs S m=some (S',m') → ∃ L,aan S S' L fun T T'=>abw C gl imp P k dfs T m=some (T',m')
  | [],S,S',m,m',h=>by
    simp [abw] at h
    obtain ⟨rfl,rfl⟩:=h
    exact ⟨.e,aan.refl fun T _=>by simp [abw]⟩
  | .mark id :: r,S,S',m,m',h=>by
    simp only [abw] at h ⊢
    split at h <;> try (simp at h; done)
    rename_i hid
    obtain ⟨L,a⟩:=aet hC h
    have h1:aan S (S.did [id] [(id, .ho (.dl false))]) _ fun T T1=>T.get id=some (.ho (.dl true))∧T1=T.did [id] [(id, .ho (.dl false))]:=aan.did _ _ fun T _ hT=>⟨by rw [hT _ (by simp),hid],rfl⟩
    refine ⟨_,h1.then a fun T T1 T' _ ⟨k1,k2⟩ hq=>?_⟩
    subst k2
    rw [k1]
    exact hq
  | .call f cap :: r,S,S',m,m',h=>by
    simp only [abw] at h ⊢
    split at h <;> try (simp at h; done)
    rename_i s1 m1 h1
    obtain ⟨L1,a1⟩:=evDfr_loc hC h1
    obtain ⟨L2,a2⟩:=aet hC h
    exact ⟨_,a1.then a2 fun T T1 T' _ k1 k2=>by rw [k1]; exact k2⟩
  | .hid _ :: r,S,S',m,m',h=>by simp [abw] at h
theorem evLeave_loc (hC:CLoc C) {gl:Tr AVal} {k:Nat} {fn:Func} {fr:Fr} {S S' : St} {m:Option AVal} {q:Bool × AVal} (h:agR C gl imp P k fn fr S m=some (mkCR q S')) :
    ∃ L,aan S S' L fun T T'=>agR C gl imp P k fn fr T m=some (mkCR q T'):=by
  obtain ⟨b,v⟩:=q
  unfold agR at h ⊢
  split at h
  · rename_i s' h1
    obtain ⟨L,a⟩:=aet hC h1
    split at h <;> simp at h
    rename_i vs rd h2
    cases b <;> simp [mkCR] at h
    obtain ⟨rfl,rfl⟩:=h
    have a2:aan s' (s'.did rd []) _ fun T T'=>aaN P fr.tm T fn.results.toList=some (vs,rd)∧T' = T.did rd []:=aan.did _ _ fun T _ hT=>⟨adN h2 hT,rfl⟩
    refine ⟨_,a.then a2 fun T T1 T' _ e1 ⟨e2,e3⟩=>?_⟩
    subst e3
    simp only [e1,e2,mkCR]
  · rename_i s' v' h1
    obtain ⟨L,a⟩:=aet hC h1
    cases b <;> simp [mkCR] at h
    obtain ⟨rfl,rfl⟩:=h
    exact ⟨L,a.mono fun T T' _ e1=>by simp only [e1,mkCR]⟩
  · simp at h
theorem evFunc_loc (hC:CLoc C) {gl:Tr AVal} {k f:Nat} {args:List AVal} {S S' : St} {q:Bool × AVal} (h:evFunc C gl imp P k f args S=some (mkCR q S')) :
    ∃ L,aan S S' L fun T T'=>evFunc C gl imp P k f args T=some (mkCR q T'):=by
  unfold evFunc at h ⊢
  split at h <;> try (simp at h; done)
  rename_i fn hf
  split at h <;> try (simp at h; done)
  rename_i c hb
  split at h <;> try (simp at h; done)
  rename_i hl1 hl2
  try simp only [hf,hb,hl1,hl2]
  split at h <;> try (simp at h; done)
  all_goals (
    rename_i hev
    obtain ⟨L1,a1⟩:=ahz hC c _ _ _ _ _ hev
    obtain ⟨L2,a2⟩:=evLeave_loc hC h
    exact ⟨_,a1.then a2 fun T T1 T' _ e1 e2=>by simp only [e1]; exact e2⟩)
theorem endRoundA_loc {id:Nat} {x:XExit} {S S' : St} {q:Bool × AVal} (h:ab8 id x S=some (mkCR q S')):∃ L,aan S S' L fun T T'=>ab8 id x T=some (mkCR q T'):=by
  obtain ⟨b,v⟩:=q
  unfold ab8 at h ⊢
  split at h <;> try (simp at h; done)
  rename_i tm n ps as bd hid
  split at h <;> simp at h <;> cases b <;> simp [mkCR] at h <;> obtain ⟨rfl,rfl⟩:=h <;>
    exact ⟨_,aan.did _ _ fun T _ hT=>by rw [hT _ (by simp),hid]; rfl⟩
theorem evRound_loc (hC:CLoc C) {k id:Nat} {args:List AVal} {S S' : St} {q:Bool × AVal} (h:alQ C imp P k id args S=some (mkCR q S')) :
    ∃ L,aan S S' L fun T T'=>alQ C imp P k id args T=some (mkCR q T'):=by
  unfold alQ at h ⊢
  split at h <;> try (simp at h; done)
  rename_i tm n ps assign body hid
  split at h <;> try (simp at h; done)
  rename_i tm1 hput
  split at h <;> try (simp at h; done)
  rename_i fr1 s1 h1
  split at h <;> try (simp at h; done)
  rename_i tm' n' ps' as' bd' hid1
  split at h <;> try (simp at h; done)
  rename_i x fr3 s3 h3
  have a0:aan S (S.did [id] []) _ fun T T1=>T.get id=some (.ho (.lp tm n ps assign body .ready none))∧T1=T.did [id] []:=aan.did _ _ fun T _ hT=>⟨by rw [hT _ (by simp),hid],rfl⟩
  obtain ⟨L1,a1⟩:=ahz hC assign _ _ _ _ _ h1
  have a2:aan s1 (s1.did [id] [(id, .ho (.lp tm' n' ps' as' bd' .busy none))]) _ fun T T1=>T.get id=some (.ho (.lp tm' n' ps' as' bd' .ready none))∧T1=T.did [id] [(id, .ho (.lp tm' n' ps' as' bd' .busy none))] :=
    aan.did _ _ fun T _ hT=>⟨by rw [hT _ (by simp),hid1],rfl⟩
  obtain ⟨L3,a3⟩:=ahz hC body _ _ _ _ _ h3
  obtain ⟨L4,a4⟩:=endRoundA_loc h
  have a34:=a3.then (Q:=fun T T'=>(match evCode C imp P k n true body fr1 T with | some (x,_,s3)=>ab8 id x s3 | none=>none)=some (mkCR q T')) a4 fun T T1 T' _ e1 e2=>by simp only [e1]; exact e2
  have a24:=a2.then (Q:=fun T T'=>(match T.get id with
      | some (.ho (.lp tm' n' ps' assign' body' .ready none)) =>
        match evCode C imp P k n true body fr1 (T.did [id] [(id, .ho (.lp tm' n' ps' assign' body' .busy none))]) with
        | some (x,_,s3)=>ab8 id x s3
        | none=>none
      | _=>none)=some (mkCR q T')) a34 fun T T1 T' _ ⟨e1,e2⟩ e3=>by subst e2; simp only [e1]; exact e3
  have a14:=a1.then (Q:=fun T T'=>(match evCode C imp P k n true assign { tm:=tm1,dfs:=[] } T with
      | some (.normal,fr1,s1)=>match s1.get id with
        | some (.ho (.lp tm' n' ps' assign' body' .ready none)) =>
          match evCode C imp P k n true body fr1 (s1.did [id] [(id, .ho (.lp tm' n' ps' assign' body' .busy none))]) with
          | some (x,_,s3)=>ab8 id x s3
          | none=>none
        | _=>none
      | _=>none)=some (mkCR q T')) a24 fun T T1 T' _ e1 e2=>by simp only [e1]; exact e2
  refine ⟨_,a0.then a14 fun T T1 T' _ ⟨e1,e2⟩ e3=>?_⟩
  subst e2
  simp only [e1,hput]
  exact e3
theorem ahA {M:Memo} {gl:Tr AVal} {k:Nat}:∀ n,CLoc (evCall M gl imp P k n)
  | 0=>fun t _ args S q S' h=>by simp [evCall] at h
  | n + 1=>fun t ht args S q S' h=>by
    cases t with
    | fn f=>exact evFunc_loc (ahA n) h
    | yld id=>exact evRound_loc (ahA n) h
    | iso f=>exact absurd rfl (ht f)
end
end Go.Proofs.YtdnbnpknpejpdaaGreatDoor.Sw
namespace Go.Proofs.YtdnbnpknpejpdaaGreatDoor.Sw
section
variable {ops:Array Oper}
theorem aeP (h:ae4 ops=true) {j:Nat} {o:Oper} (hj:ops[j]? = some o):∀ e ∈ o.after,Region.binds .any e=true→e.on < j:=by
  intro e he hb
  simp only [ae4,List.all_eq_true] at h
  have h1:=h (o,j) (by
    rw [List.mem_zipIdx_iff_getElem?]
    simpa using hj)
  have h2:=h1 e (by simpa using he)
  simp only [hb,Bool.not_true,Bool.false_or] at h2
  have h3:Nat.ble (e.on + 1) j=true:=h2
  exact Nat.le_of_ble_eq_true h3
def abI (acc:Array Nat) (o:Oper):Array Nat :=
  acc.push (o.after.foldl (fun s e=>if Region.binds .any e then s ||| 2 ^ e.on ||| acc.getD e.on 0 else s) 0)
theorem aqf (acc:Array Nat):∀ (l:List Edge) (s0 i:Nat),
    (l.foldl (fun s e=>if Region.binds .any e then s ||| 2 ^ e.on ||| acc.getD e.on 0 else s) s0).testBit i=true →
    s0.testBit i=true ∨ ∃ e ∈ l,Region.binds .any e=true∧(e.on=i ∨ (acc.getD e.on 0).testBit i=true)
  | [],s0,i,h=>.inl h
  | e :: l,s0,i,h=>by
    simp only [List.foldl_cons] at h
    rcases aqf acc l _ i h with h | ⟨e',h1,h2⟩
    · by_cases hb:Region.binds .any e=true
      · simp only [hb,if_true,Nat.testBit_or,Nat.testBit_two_pow,Bool.or_eq_true,decide_eq_true_eq] at h
        rcases h with (h | h) | h
        · exact .inl h
        · exact .inr ⟨e,by simp,hb, .inl h⟩
        · exact .inr ⟨e,by simp,hb, .inr h⟩
      · simp only [hb] at h
        exact .inl h
    · exact .inr ⟨e',by simp [h1],h2⟩
theorem before_go (he:ae4 ops=true):∀ (l pre:List Oper) (acc:Array Nat),pre ++ l=ops.toList→acc.size=pre.length →
    (∀ j o i,ops[j]? = some o→j < acc.size→(acc.getD j 0).testBit i=true → ∃ e ∈ o.after,Region.binds .any e=true∧(e.on=i ∨ (acc.getD e.on 0).testBit i=true)) →
    ∀ j o i,ops[j]? = some o→((l.foldl abI acc).getD j 0).testBit i=true →
      ∃ e ∈ o.after,Region.binds .any e=true∧(e.on=i ∨ ((l.foldl abI acc).getD e.on 0).testBit i=true)
  | [],pre,acc,hp,hs,hq=>by
    intro j o i ho hb
    have hj:j < acc.size:=by
      have:=(Array.getElem?_eq_some_iff.1 ho).1
      have e1:pre.length=ops.size:=by simp at hp; rw [hp]; simp
      omega
    exact hq j o i ho hj hb
  | x :: l,pre,acc,hp,hs,hq=>by
    simp only [List.foldl_cons]
    have hx:ops[acc.size]? = some x:=by
      have:ops.toList[acc.size]? = some x:=by rw [← hp,hs]; simp
      simpa using this
    have old:∀ k,k < acc.size→(abI acc x).getD k 0=acc.getD k 0:=by
      intro k hk
      unfold abI
      simp only [Array.getD_eq_getD_getElem?,Array.getElem?_push]
      rw [if_neg (by omega)]
    have new:(abI acc x).getD acc.size 0=x.after.foldl (fun s e=>if Region.binds .any e then s ||| 2 ^ e.on ||| acc.getD e.on 0 else s) 0:=by
      unfold abI
      simp [Array.getD_eq_getD_getElem?]
    refine before_go he l (pre ++ [x]) (abI acc x) (by simpa using hp) (by simp [abI,hs]) ?_
    intro j o i ho hj hb
    have hj' : j < acc.size + 1:=by simpa [abI] using hj
    have back:=aeP he ho
    by_cases hlt:j < acc.size
    · rw [old j hlt] at hb
      obtain ⟨e,h1,h2,h3⟩:=hq j o i ho hlt hb
      exact ⟨e,h1,h2,by rw [old _ (Nat.lt_trans (back e h1 h2) hlt)]; exact h3⟩
    · have hje:j=acc.size:=by omega
      subst hje
      rw [hx] at ho
      simp at ho
      subst ho
      rw [new, ← Array.foldl_toList] at hb
      rcases aqf acc _ 0 i hb with h | ⟨e,h1,h2,h3⟩
      · simp at h
      · have h1' : e ∈ x.after:=by simpa using h1
        exact ⟨e,h1',h2,by rw [old _ (back e h1' h2)]; exact h3⟩
theorem before_spec (he:ae4 ops=true) {j i:Nat} {o:Oper} (hj:ops[j]? = some o) (hb:((Region.before ops).getD j 0).testBit i=true) :
    ∃ e ∈ o.after,Region.binds .any e=true∧(e.on=i ∨ ((Region.before ops).getD e.on 0).testBit i=true):=by
  have e1:Region.before ops=ops.toList.foldl abI #[]:=by
    unfold Region.before
    rw [← Array.foldl_toList]
    rfl
  rw [e1] at hb ⊢
  exact before_go he ops.toList [] #[] (by simp) rfl (by simp) j o i hj hb
theorem agF {B:Array Nat} (h:ac2 ops B=true) {i j:Nat} {x y:Oper} (hx:ops[i]? = some x) (hy:ops[j]? = some y) (hlt:i < j) (hb:(B.getD j 0).testBit i=false):x.apart ops y=true:=by
  simp only [ac2,List.all_eq_true] at h
  have h1:=h (y,j) (by rw [List.mem_zipIdx_iff_getElem?]; simpa using hy)
  have h2:=h1 (x,i) (by
    have:(ops.toList.zipIdx.take j)[i]? = some (x,i):=by
      rw [List.getElem?_take,if_pos hlt]
      have hx' : ops.toList[i]? = some x:=by simpa using hx
      simp [List.getElem?_zipIdx,hx]
    exact List.mem_of_getElem? this)
  simpa only [hb,Bool.false_or] using h2
end
theorem aqe:∀ (d f m:Nat),2 ^ d≤m + 1→m≤f→d≤(bits f m).length
  | 0,_,_,_,_=>Nat.zero_le _
  | d + 1,0,m,h,hf=>by
    have:m=0:=by omega
    subst this
    have:=Nat.one_lt_two_pow (n:=d + 1) (by omega)
    omega
  | d + 1,f + 1,0,h,_=>by
    have:=Nat.one_lt_two_pow (n:=d + 1) (by omega)
    omega
  | d + 1,f + 1,m + 1,h,hf=>by
    simp only [bits,List.length_cons]
    have h2:2 ^ (d + 1)=2 * 2 ^ d:=by rw [Nat.pow_succ]; omega
    have:=aqe d f (Nat.div m 2) (by show 2 ^ d≤m / 2 + 1; omega) (by show m / 2≤f; omega)
    omega
theorem Tr.apY {α:Type}:∀ (t:Tr α), ∃ d, ∀ p:List Bool,d≤p.length→t.find p=none
  | .lf=>⟨0,fun p _=>by cases p <;> rfl⟩
  | .nd v l r=>by
    obtain ⟨d1,h1⟩:=Tr.apY l
    obtain ⟨d2,h2⟩:=Tr.apY r
    refine ⟨max d1 d2 + 1,fun p hp=>?_⟩
    cases p with
    | nil=>simp at hp
    | cons b p =>
      simp at hp
      cases b
      · exact h2 p (by omega)
      · exact h1 p (by omega)
theorem St.bounded (S:St):∃ N, ∀ id,N≤id→S.get id=none:=by
  obtain ⟨d,hd⟩:=S.objs.apY
  exact ⟨2 ^ d,fun id hid=>hd _ (aqe d id id (by omega) (Nat.le_refl _))⟩
theorem St.of_fun:∀ (N:Nat) (s:Sto),(∀ id,N≤id→s id=none) → ∃ S:St,S.get=s
  | 0,s,h=>⟨St.empty,funext fun id=>by rw [h id (Nat.zero_le _)]; exact Tr.get_lf id⟩
  | N + 1,s,h=>by
    obtain ⟨S,hS⟩:=St.of_fun N (fun id=>if id < N then s id else none) (fun id hid=>by rw [if_neg (by omega)])
    cases hN:s N with
    | none =>
      refine ⟨S, ?_⟩
      rw [hS]
      funext id
      by_cases h1:id < N
      · rw [if_pos h1]
      · rw [if_neg h1]
        by_cases h2:id=N
        · rw [h2,hN]
        · rw [h id (by omega)]
    | some o =>
      refine ⟨S.set N o, ?_⟩
      funext id
      rw [St.aa0,hS]
      by_cases h2:N=id
      · rw [if_pos h2, ← h2,hN]
      · rw [if_neg h2]
        show (if id < N then s id else none)=s id
        by_cases h1:id < N
        · rw [if_pos h1]
        · rw [if_neg h1,h id (by omega)]
inductive Out where
  | skip
  | eff (e:Eff)
def Out.val:Out→AVal
  | .skip=>.p (.tup [])
  | .eff e=>e.v
def Out.st (s:Sto):Out→Sto
  | .skip=>s
  | .eff e=>upds s e.wr
def Out.rec' : Out→Rec
  | .skip=>⟨[],[]⟩
  | .eff e=>recOf e
def putD (tm:Tr AVal) (d:Option Nat) (v:AVal):Tr AVal:=match d with
  | none=>tm
  | some d=>tm.set d v
abbrev Items:=List (Oper × Out)
def runTm (L:Nat→Bool):Nat→Items→Tr AVal→Tr AVal
  | _,[],tm=>tm
  | i,(o,x) :: r,tm=>runTm L (i + 1) r (match L i with | true=>putD tm o.dst x.val | false=>tm)
def runSt (L:Nat→Bool):Nat→Items→Sto→Sto
  | _,[],s=>s
  | i,(_,x) :: r,s=>runSt L (i + 1) r (match L i with | true=>x.st s | false=>s)
theorem ajR (tm:Tr AVal) (d:Option Nat) (v:AVal) (t:Nat):(putD tm d v).get t=if d=some t then some v else tm.get t:=by
  cases d with
  | none=>simp [putD]
  | some d=>simp only [putD,Tr.aa0,Option.some.injEq]
def Out.writes (x:Out) (id:Nat):Prop:=match x with
  | .skip=>False
  | .eff e=>id ∈ e.wr.map (·.1)
theorem Out.st_get {x:Out} {s:Sto} {id:Nat} (h:¬ x.writes id):x.st s id=s id:=by
  cases x with
  | skip=>rfl
  | eff e=>exact acK h
theorem Out.st_same {x:Out} {s s' : Sto} {id:Nat} (h:x.writes id):x.st s id=x.st s' id:=by
  cases x with
  | skip=>exact h.elim
  | eff e=>exact upds_in h
theorem Out.st_bounded {x:Out} {s:Sto} (h:∃ N, ∀ id,N≤id→s id=none):∃ N, ∀ id,N≤id→x.st s id=none:=by
  obtain ⟨N,hN⟩:=h
  cases x with
  | skip=>exact ⟨N,hN⟩
  | eff e =>
    obtain ⟨S,hS⟩:=St.of_fun N s hN
    obtain ⟨M,hM⟩:=(S.sets e.wr).bounded
    refine ⟨M,fun id hid=>?_⟩
    have:=hM id hid
    rw [sets_get,hS] at this
    exact this
theorem adR {L L' : Nat→Bool} {t:Nat}:∀ {items:Items} {i:Nat} {tm tm' : Tr AVal},tm.get t=tm'.get t →
    (∀ (k:Nat) (o:Oper) (x:Out),items[k]? = some (o,x)→o.dst=some t→L (i + k)=L' (i + k))→(runTm L i items tm).get t=(runTm L' i items tm').get t
  | [],_,_,_,h,_=>h
  | (o,x) :: r,i,tm,tm',h,hl=>by
    simp only [runTm]
    refine adR ?_ (fun k o' x' hk hd=>by have:=hl (k + 1) o' x' (by simpa using hk) hd; rw [show i + 1 + k=i + (k + 1) by omega]; exact this)
    by_cases hd:o.dst=some t
    · have:=hl 0 o x (by simp) hd
      simp only [Nat.add_zero] at this
      rw [this]
      cases L' i with
      | true=>simp only [ajR,hd,if_true]
      | false=>exact h
    · cases L i <;> cases L' i <;> simp only [ajR,hd,if_false] <;> exact h
theorem runTm_last {L:Nat→Bool} {t:Nat}:∀ {items:Items} {i:Nat} {tm:Tr AVal} {k:Nat} {o:Oper} {x:Out},items[k]? = some (o,x)→o.dst=some t→L (i + k)=true →
    (∀ (k' : Nat) (o' : Oper) (x' : Out),items[k']? = some (o',x')→k < k' → o'.dst=some t→L (i + k')=false)→(runTm L i items tm).get t=some x.val
  | [],_,_,_,_,_,h,_,_,_=>by simp at h
  | (o1,x1) :: r,i,tm,0,o,x,h,hd,hL,hno=>by
    simp at h
    obtain ⟨rfl,rfl⟩:=h
    simp only [runTm]
    simp only [Nat.add_zero] at hL
    rw [hL]
    have:(runTm L (i + 1) r (putD tm o1.dst x1.val)).get t=(runTm (fun _=>false) (i + 1) r (putD tm o1.dst x1.val)).get t :=
      adR rfl (fun k o' x' hk hd'=>by
        have:=hno (k + 1) o' x' (by simpa using hk) (by omega) hd'
        rw [show i + 1 + k=i + (k + 1) by omega]; exact this)
    rw [this]
    have none:∀ (items:Items) (i:Nat) (tm:Tr AVal),runTm (fun _=>false) i items tm=tm:=by
      intro items
      induction items with
      | nil=>intro i tm; rfl
      | cons q items ih=>intro i tm; obtain ⟨a,b⟩:=q; simp only [runTm]; exact ih _ _
    rw [none,ajR,if_pos hd]
  | (o1,x1) :: r,i,tm,k + 1,o,x,h,hd,hL,hno=>by
    simp only [runTm]
    exact runTm_last (k:=k) (by simpa using h) hd (by rw [show i + 1 + k=i + (k + 1) by omega]; exact hL)
      (fun k' o' x' hk hlt hd'=>by rw [show i + 1 + k' = i + (k' + 1) by omega]; exact hno (k' + 1) o' x' (by simpa using hk) (by omega) hd')
theorem adS {L L' : Nat→Bool} {id:Nat}:∀ {items:Items} {i:Nat} {s s' : Sto},s id=s' id →
    (∀ (k:Nat) (o:Oper) (x:Out),items[k]? = some (o,x)→x.writes id→L (i + k)=L' (i + k))→runSt L i items s id=runSt L' i items s' id
  | [],_,_,_,h,_=>h
  | (o,x) :: r,i,s,s',h,hl=>by
    simp only [runSt]
    refine adS ?_ (fun k o' x' hk hd=>by have:=hl (k + 1) o' x' (by simpa using hk) hd; rw [show i + 1 + k=i + (k + 1) by omega]; exact this)
    by_cases hd:x.writes id
    · have:=hl 0 o x (by simp) hd
      simp only [Nat.add_zero] at this
      rw [this]
      cases L' i with
      | true=>exact Out.st_same hd
      | false=>exact h
    · cases L i <;> cases L' i <;> simp only [Out.st_get hd] <;> exact h
theorem runSt_last {L:Nat→Bool} {id:Nat}:∀ {items:Items} {i:Nat} {s s1:Sto} {k:Nat} {o:Oper} {x:Out},items[k]? = some (o,x)→x.writes id→L (i + k)=true →
    (∀ (k' : Nat) (o' : Oper) (x' : Out),items[k']? = some (o',x')→k < k' → x'.writes id→L (i + k')=false)→runSt L i items s id=x.st s1 id
  | [],_,_,_,_,_,_,h,_,_,_=>by simp at h
  | (o1,x1) :: r,i,s,s1,0,o,x,h,hd,hL,hno=>by
    simp at h
    obtain ⟨rfl,rfl⟩:=h
    simp only [runSt]
    simp only [Nat.add_zero] at hL
    rw [hL]
    have:runSt L (i + 1) r (x1.st s) id=runSt (fun _=>false) (i + 1) r (x1.st s) id :=
      adS rfl (fun k o' x' hk hd'=>by
        have:=hno (k + 1) o' x' (by simpa using hk) (by omega) hd'
        rw [show i + 1 + k=i + (k + 1) by omega]; exact this)
    rw [this]
    have none:∀ (items:Items) (i:Nat) (s:Sto),runSt (fun _=>false) i items s=s:=by
      intro items
      induction items with
      | nil=>intro i s; rfl
      | cons q items ih=>intro i s; obtain ⟨a,b⟩:=q; simp only [runSt]; exact ih _ _
    rw [none]
    exact Out.st_same hd
  | (o1,x1) :: r,i,s,s1,k + 1,o,x,h,hd,hL,hno=>by
    simp only [runSt]
    exact runSt_last (k:=k) (by simpa using h) hd (by rw [show i + 1 + k=i + (k + 1) by omega]; exact hL)
      (fun k' o' x' hk hlt hd'=>by rw [show i + 1 + k' = i + (k' + 1) by omega]; exact hno (k' + 1) o' x' (by simpa using hk) (by omega) hd')
theorem aff {L:Nat→Bool}:∀ {items:Items} {i:Nat} {s:Sto},(∃ N, ∀ id,N≤id→s id=none) → ∃ N, ∀ id,N≤id→runSt L i items s id=none
  | [],_,_,h=>h
  | (o,x) :: r,i,s,h=>by
    simp only [runSt]
    refine aff ?_
    cases L i with
    | true=>exact Out.st_bounded h
    | false=>exact h
end Go.Proofs.YtdnbnpknpejpdaaGreatDoor.Sw
namespace Go.Proofs.YtdnbnpknpejpdaaGreatDoor.Sw
section
variable {C:CallFn} {imp:Nat→Bool} {P:Program} {n:Nat} {ops:Array Oper}
def OutOk (C:CallFn) (imp:Nat→Bool) (P:Program) (n:Nat) (ops:Array Oper) (tm:Tr AVal) (s:Sto) (o:Oper) (x:Out):Prop :=
  (∀ d,o.dst=some d→d < n) ∧
  match x with
  | .skip=>abt ops tm o=some false
  | .eff e=>abt ops tm o=some true ∧ ∃ (S:St) (b:Nat),S.get=s ∧
      (evOp C imp P tm S b o.op=some (.eff e) ∨ ∃ s',evOp C imp P tm S b o.op=some (.all e.v s')∧e = ⟨e.v,s'.log.rdOf,s'.log.flat⟩)
def recsOf:Nat→Items→List (Nat × Rec)→List (Nat × Rec)
  | _,[],recs=>recs
  | i,(_,x) :: r,recs=>recsOf (i + 1) r (addRec i x.rec' recs)
theorem aaP {tm tm' : Tr AVal} {d:Option Nat} {v:AVal} (h:setDst n tm d v=some tm'):tm' = putD tm d v ∧ ∀ k,d=some k→k < n:=by
  unfold setDst at h
  cases d with
  | none=>simp at h; subst h; exact ⟨rfl,by simp⟩
  | some d =>
    simp only at h
    split at h <;> simp at h
    rename_i hb
    subst h
    refine ⟨rfl,fun k hk=>?_⟩
    simp at hk
    subst hk
    have h3:Nat.ble (d + 1) n=true:=hb
    exact Nat.le_of_ble_eq_true h3
theorem evOps_ds:∀ {l:List Oper} {i b:Nat} {tm:Tr AVal} {S:St} {recs:List (Nat × Rec)} {tm' : Tr AVal} {S' : St} {recs' : List (Nat × Rec)} {ds:List Dfr},
    evOps C imp P n ops l i b tm S recs ds=some (.done tm' S' recs' [])→ds ≠ []→False
  | [],i,b,tm,S,recs,tm',S',recs',ds,h,hd=>by
    simp [evOps] at h
    exact hd h.2.2.2
  | o :: l,i,b,tm,S,recs,tm',S',recs',ds,h,hd=>by
    simp only [evOps] at h
    repeat' split at h
    all_goals first
      | (simp at h; done)
      | exact evOps_ds h hd
      | exact evOps_ds h (by simp)
theorem ap4:∀ {l:List Oper} {i b:Nat} {tm:Tr AVal} {S:St} {recs:List (Nat × Rec)} {v:AVal} {tm' : Tr AVal} {S' : St} {ds:List Dfr},
    evOps C imp P n ops l i b tm S recs ds=some (.pan v tm' S' [])→ds ≠ []→False
  | [],i,b,tm,S,recs,v,tm',S',ds,h,hd=>by simp [evOps] at h
  | o :: l,i,b,tm,S,recs,v,tm',S',ds,h,hd=>by
    simp only [evOps] at h
    repeat' split at h
    all_goals first
      | (simp at h; done)
      | (simp at h; exact hd h.2.2.2)
      | exact ap4 h hd
      | exact ap4 h (by simp)
def AnyOk (C:CallFn) (imp:Nat→Bool) (P:Program) (n:Nat) (ops:Array Oper) (B:Array Nat) (q:Option (Nat × AVal)) (i:Nat) (tm:Tr AVal) (s:Sto) (o:Oper) (x:Out):Prop :=
  (∀ d,o.dst=some d→d < n) ∧
  ((OutOk C imp P n ops tm s o x ∧ ∀ p v,q=some (p,v)→i ≠ p) ∨
   (∃ v s',q=some (i,v)∧abt ops tm o=some true∧x = .eff ⟨.junk,s'.log.rdOf,s'.log.flat⟩ ∧ ∃ (S:St) (b:Nat),S.get=s∧evOp C imp P tm S b o.op=some (.pan v s')) ∨
   (∃ p v,q=some (p,v)∧p < i∧(B.getD i 0).testBit p=true∧x = .skip))
theorem afP {B:Array Nat}:∀ {l:List Oper} {i b:Nat} {tm tm' : Tr AVal} {S S' : St} {recs recs' : List (Nat × Rec)} {q q' : Option (Nat × AVal)},
    evAny C imp P n ops B l i b tm S recs q=some (tm',S',recs',q')→(∀ z,q=some z→q' = some z)∧(∀ p v,q' = some (p,v)→q=none→i≤p)
  | [],i,b,tm,tm',S,S',recs,recs',q,q',h=>by
    simp only [evAny,Option.some.injEq,Prod.mk.injEq] at h
    obtain ⟨rfl,rfl,rfl,rfl⟩:=h
    exact ⟨fun _ h=>h,fun p v h1 h2=>by rw [h2] at h1; simp at h1⟩
  | o :: l,i,b,tm,tm',S,S',recs,recs',q,q',h=>by
    have step:∀ {tm1:Tr AVal} {S1:St} {recs1:List (Nat × Rec)},evAny C imp P n ops B l (i + 1) (b + 16) tm1 S1 recs1 q=some (tm',S',recs',q') →
        (∀ z,q=some z→q' = some z)∧(∀ p v,q' = some (p,v)→q=none→i≤p):=fun h =>
      let ⟨a,c⟩:=afP h
      ⟨a,fun p v h1 h2=>Nat.le_of_succ_le (c p v h1 h2)⟩
    unfold evAny at h
    split at h
    · split at h <;> try (simp at h; done)
      exact step h
    · split at h
      · split at h
        · split at h <;> try (simp at h; done)
          exact step h
        · split at h <;> try (simp at h; done)
          exact step h
        · split at h <;> try (simp at h; done)
          obtain ⟨a,_⟩:=afP h
          refine ⟨fun z hz=>by simp at hz,fun p v h1 _=>?_⟩
          rw [a _ rfl] at h1
          simp at h1
          exact Nat.le_of_eq h1.1
        · simp at h
      · split at h <;> try (simp at h; done)
        exact step h
      · simp at h
theorem evAny_in' {B:Array Nat}:∀ {l:List Oper} {i b:Nat} {tm tm' : Tr AVal} {S S' : St} {recs recs' : List (Nat × Rec)} {q:Option (Nat × AVal)} {p:Nat} {v:AVal},
    evAny C imp P n ops B l i b tm S recs q=some (tm',S',recs',some (p,v))→(∀ p v,q=some (p,v)→p < i)→p < i + l.length
  | [],i,b,tm,tm',S,S',recs,recs',q,p,v,h,hq=>by
    simp only [evAny,Option.some.injEq,Prod.mk.injEq] at h
    obtain ⟨rfl,rfl,rfl,rfl⟩:=h
    exact hq p v rfl
  | o :: l,i,b,tm,tm',S,S',recs,recs',q,p,v,h,hq=>by
    have step:∀ {tm1:Tr AVal} {S1:St} {recs1:List (Nat × Rec)} {q1:Option (Nat × AVal)},evAny C imp P n ops B l (i + 1) (b + 16) tm1 S1 recs1 q1=some (tm',S',recs',some (p,v)) →
        (∀ p v,q1=some (p,v)→p < i + 1)→p < i + (o :: l).length:=fun h hq=>by
      have:=evAny_in' h hq
      simp only [List.length_cons]
      omega
    have hq1:∀ p v,q=some (p,v)→p < i + 1:=fun p v e=>Nat.lt_succ_of_lt (hq p v e)
    unfold evAny at h
    split at h
    · split at h <;> try (simp at h; done)
      exact step h hq1
    · split at h
      · split at h
        · split at h <;> try (simp at h; done)
          exact step h hq1
        · split at h <;> try (simp at h; done)
          exact step h hq1
        · split at h <;> try (simp at h; done)
          exact step h (fun p v e=>by simp at e; omega)
        · simp at h
      · split at h <;> try (simp at h; done)
        exact step h hq1
      · simp at h
theorem evAny_in {B:Array Nat} {ops' : Array Oper} {b:Nat} {tm tm' : Tr AVal} {S S' : St} {recs recs' : List (Nat × Rec)} {q:Option (Nat × AVal)} {p:Nat} {v:AVal}
    (h:evAny C imp P n ops B ops'.toList 0 b tm S recs q=some (tm',S',recs',some (p,v))) (hq:∀ p v,q=some (p,v)→p < 0):p < ops'.size:=by
  have:=evAny_in' h hq
  simpa using this
theorem aiT (hC:CLoc C) {B:Array Nat}:∀ {l:List Oper} {i b:Nat} {tm:Tr AVal} {S:St} {recs:List (Nat × Rec)} {q:Option (Nat × AVal)} {tm' : Tr AVal} {S' : St} {recs' : List (Nat × Rec)} {q' : Option (Nat × AVal)},
    evAny C imp P n ops B l i b tm S recs q=some (tm',S',recs',q')→(∀ p v,q=some (p,v)→p < i) →
    ∃ items:Items,items.map (·.1)=l∧tm' = runTm (fun _=>true) i items tm∧S'.get=runSt (fun _=>true) i items S.get∧recs' = recsOf i items recs ∧
      ∀ (k:Nat) (o:Oper) (x:Out),items[k]? = some (o,x)→AnyOk C imp P n ops B q' (i + k) (runTm (fun m=>decide (m < i + k)) i items tm) (runSt (fun m=>decide (m < i + k)) i items S.get) o x
  | [],i,b,tm,S,recs,q,tm',S',recs',q',h,_=>by
    simp only [evAny,Option.some.injEq,Prod.mk.injEq] at h
    obtain ⟨rfl,rfl,rfl,rfl⟩:=h
    exact ⟨[],rfl,rfl,rfl,rfl,by simp⟩
  | o :: l,i,b,tm,S,recs,q,tm',S',recs',q',h,hq=>by
    have step:∀ {x:Out} {S1:St} {tm1:Tr AVal} {recs1:List (Nat × Rec)} {q1:Option (Nat × AVal)},S1.get=x.st S.get→tm1=putD tm o.dst x.val→recs1=addRec i x.rec' recs →
        ((∀ z,q1=some z→q' = some z)→(∀ p v,q' = some (p,v)→q1=none→i + 1≤p)→AnyOk C imp P n ops B q' i tm S.get o x)→(∀ p v,q1=some (p,v)→p < i + 1) →
        evAny C imp P n ops B l (i + 1) (b + 16) tm1 S1 recs1 q1=some (tm',S',recs',q') →
        ∃ items:Items,items.map (·.1)=o :: l∧tm' = runTm (fun _=>true) i items tm∧S'.get=runSt (fun _=>true) i items S.get∧recs' = recsOf i items recs ∧
          ∀ (k:Nat) (o:Oper) (x:Out),items[k]? = some (o,x)→AnyOk C imp P n ops B q' (i + k) (runTm (fun m=>decide (m < i + k)) i items tm) (runSt (fun m=>decide (m < i + k)) i items S.get) o x:=by
      intro x S1 tm1 recs1 q1 hS htm hrecs hok hq1 h
      subst htm hrecs
      have hok:=hok (afP h).1 (afP h).2
      obtain ⟨items,h1,h2,h3,h4,h5⟩:=aiT hC h hq1
      rw [hS] at h3 h5
      refine ⟨(o,x) :: items,by simp [h1],by simpa [runTm] using h2,by simpa [runSt] using h3,by simpa [recsOf] using h4, ?_⟩
      intro k o' x' hk
      cases k with
      | zero =>
        simp at hk
        obtain ⟨rfl,rfl⟩:=hk
        have e1:∀ (items:Items) (j:Nat) (tm:Tr AVal),i≤j→runTm (fun m=>decide (m < i + 0)) j items tm=tm:=by
          intro items
          induction items with
          | nil=>intro j tm _; rfl
          | cons q items ih =>
            intro j tm hj
            obtain ⟨a,b⟩:=q
            simp only [runTm]
            rw [show decide (j < i + 0)=false by simp; omega]
            exact ih _ _ (by omega)
        have e2:∀ (items:Items) (j:Nat) (s:Sto),i≤j→runSt (fun m=>decide (m < i + 0)) j items s=s:=by
          intro items
          induction items with
          | nil=>intro j tm _; rfl
          | cons q items ih =>
            intro j tm hj
            obtain ⟨a,b⟩:=q
            simp only [runSt]
            rw [show decide (j < i + 0)=false by simp; omega]
            exact ih _ _ (by omega)
        rw [e1 _ _ _ (Nat.le_refl _),e2 _ _ _ (Nat.le_refl _)]
        exact hok
      | succ k =>
        have:=h5 k o' x' (by simpa using hk)
        simp only [runTm,runSt]
        rw [show decide (i < i + (k + 1))=true by simp]
        rw [show i + (k + 1)=i + 1 + k by omega]
        exact this
    have hq1:∀ p v,q=some (p,v)→p < i + 1:=fun p v e=>Nat.lt_succ_of_lt (hq p v e)
    have other:(∀ z,q=some z→q' = some z)→(∀ p v,q' = some (p,v)→q=none→i + 1≤p) → ∀ p v,q' = some (p,v)→i ≠ p:=by
      intro a c p v e
      cases q with
      | none=>have:=c p v e rfl; omega
      | some z =>
        obtain ⟨p',v'⟩:=z
        have e':=a _ rfl
        rw [e] at e'
        simp at e'
        have:=hq p' v' rfl
        omega
    unfold evAny at h
    split at h
    · rename_i hs
      split at h <;> try (simp at h; done)
      rename_i tm1 ht
      obtain ⟨h1,h2⟩:=aaP ht
      refine step (x:=.skip) rfl h1 rfl (fun a _=>⟨h2, .inr (.inr ?_)⟩) hq1 h
      cases q with
      | none=>simp at hs
      | some z =>
        obtain ⟨p',v'⟩:=z
        exact ⟨p',v',a _ rfl,hq p' v' rfl,hs,rfl⟩
    · split at h
      · rename_i hw
        split at h
        · rename_i e he
          split at h <;> try (simp at h; done)
          rename_i tm1 ht
          obtain ⟨h1,h2⟩:=aaP ht
          exact step (x:=.eff e) (aaB _ _ _) h1 rfl (fun a c=>⟨h2, .inl ⟨⟨h2,hw,S,b,rfl, .inl he⟩,other a c⟩⟩) hq1 h
        · rename_i v s' he
          split at h <;> try (simp at h; done)
          rename_i tm1 ht
          obtain ⟨h1,h2⟩:=aaP ht
          exact step (x:=.eff ⟨v,s'.log.rdOf,s'.log.flat⟩) (by rw [show ({ s' with log:=.call s'.log S.log }:St).get=s'.get from rfl,(ahy hC he).1,afU]; rfl) h1 rfl
            (fun a c=>⟨h2, .inl ⟨⟨h2,hw,S,b,rfl, .inr ⟨s',he,rfl⟩⟩,other a c⟩⟩) hq1 h
        · rename_i v s' he
          split at h <;> try (simp at h; done)
          rename_i tm1 ht _
          obtain ⟨h1,h2⟩:=aaP ht
          exact step (x:=.eff ⟨.junk,s'.log.rdOf,s'.log.flat⟩) (by rw [show ({ s' with log:=.call s'.log S.log }:St).get=s'.get from rfl,(ads hC he).1,afU]; rfl) h1 rfl
            (fun a _=>⟨h2, .inr (.inl ⟨v,s',a _ rfl,hw,rfl,S,b,rfl,he⟩)⟩) (fun p v e=>by simp at e; omega) h
        · simp at h
      · rename_i hw
        split at h <;> try (simp at h; done)
        rename_i tm1 ht
        obtain ⟨h1,h2⟩:=aaP ht
        exact step (x:=.skip) rfl h1 rfl (fun a c=>⟨h2, .inl ⟨⟨h2,hw⟩,other a c⟩⟩) hq1 h
      · simp at h
theorem recsOf_mem:∀ {items:Items} {i:Nat} {recs:List (Nat × Rec)} {q:Nat × Rec},q ∈ recs→q ∈ recsOf i items recs
  | [],_,_,_,h=>h
  | (_,x) :: r,i,recs,q,h=>by
    simp only [recsOf]
    refine recsOf_mem ?_
    unfold addRec
    split
    · exact h
    · exact List.mem_cons_of_mem _ h
def Rec.touch (x:Rec):Prop:=x.rd ≠ [] ∨ x.wr ≠ []
theorem ajt:∀ {items:Items} {i k:Nat} {recs:List (Nat × Rec)} {o:Oper} {x:Out},items[k]? = some (o,x)→x.rec'.touch→(i + k,x.rec') ∈ recsOf i items recs
  | [],_,_,_,_,_,h,_=>by simp at h
  | (o1,x1) :: r,i,0,recs,o,x,h,ht=>by
    simp at h
    obtain ⟨rfl,rfl⟩:=h
    simp only [recsOf]
    refine recsOf_mem ?_
    unfold addRec
    split
    · rename_i h1 h2
      rcases ht with h | h
      · exact absurd h1 h
      · exact absurd h2 h
    · simp
  | (o1,x1) :: r,i,k + 1,recs,o,x,h,ht=>by
    simp only [recsOf]
    rw [show i + (k + 1)=i + 1 + k by omega]
    exact ajt (k:=k) (by simpa using h) ht
theorem ajs:∀ {items:Items} {i:Nat} {recs:List (Nat × Rec)},recs.Pairwise (fun a b=>b.1 < a.1)→(∀ q ∈ recs,q.1 < i)→(recsOf i items recs).Pairwise (fun a b=>b.1 < a.1)
  | [],_,_,h,_=>h
  | (_,x) :: r,i,recs,h,hlt=>by
    simp only [recsOf]
    have h1:(addRec i x.rec' recs).Pairwise (fun a b=>b.1 < a.1) ∧ ∀ q ∈ addRec i x.rec' recs,q.1 < i + 1:=by
      unfold addRec
      split
      · exact ⟨h,fun q hq=>Nat.lt_succ_of_lt (hlt q hq)⟩
      · refine ⟨List.pairwise_cons.2 ⟨fun q hq=>hlt q hq,h⟩,fun q hq=>?_⟩
        cases hq with
        | head=>exact Nat.lt_succ_self _
        | tail _ hq=>exact Nat.lt_succ_of_lt (hlt q hq)
    exact ajs h1.1 h1.2
theorem quiet_spec {B:Array Nat} {p:Nat}:∀ {l:List (Nat × Rec)},quiet B p l=true → ∀ z ∈ l,z.1=p ∨ (B.getD p 0).testBit z.1=true ∨ z.2.wr = []
  | [],_,z,hz=>by cases hz
  | (j,x) :: r,h,z,hz=>by
    simp only [quiet] at h
    split at h <;> try (simp at h; done)
    rename_i hb
    cases hz with
    | head =>
      simp only [Bool.or_eq_true] at hb
      rcases hb with (hb | hb) | hb
      · exact .inl (Nat.eq_of_beq_eq_true hb)
      · exact .inr (.inl hb)
      · exact .inr (.inr (by simpa using hb))
    | tail _ hz=>exact quiet_spec h z hz
theorem aiQ {m:Nat} {x:Rec}:∀ {l:List (Nat × Rec)},freeOf m x l=true → ∀ q ∈ l,clash x q.2=true→m.testBit q.1=true
  | [],_=>by simp
  | (j,y) :: l,h=>by
    simp only [freeOf] at h
    intro q hq hc
    split at h
    · rename_i hn
      cases hq with
      | head=>rw [hn] at hc; simp at hc
      | tail _ hq=>exact aiQ h q hq hc
    · split at h
      · rename_i hb
        cases hq with
        | head=>exact hb
        | tail _ hq=>exact aiQ h q hq hc
      · simp at h
theorem ah7 {B:Array Nat}:∀ {l:List (Nat × Rec)},abL B l=true→l.Pairwise (fun a b=>clash a.2 b.2=true→(B.getD a.1 0).testBit b.1=true)
  | [],_=>.nil
  | (i,x) :: l,h=>by
    simp only [abL] at h
    split at h
    · rename_i hf
      exact List.pairwise_cons.2 ⟨fun q hq hc=>aiQ hf q hq hc,ah7 h⟩
    · simp at h
theorem aoY {α:Type} {R Q:α → α→Prop}:∀ {l:List α},l.Pairwise R→l.Pairwise Q → ∀ a ∈ l, ∀ b ∈ l,a ≠ b→(R a b∧Q a b) ∨ (R b a∧Q b a)
  | [],_,_=>by simp
  | x :: l,hr,hq=>by
    obtain ⟨r1,r2⟩:=List.pairwise_cons.1 hr
    obtain ⟨q1,q2⟩:=List.pairwise_cons.1 hq
    intro a ha b hb hne
    cases ha with
    | head =>
      cases hb with
      | head=>exact absurd rfl hne
      | tail _ hb=>exact .inl ⟨r1 b hb,q1 b hb⟩
    | tail _ ha =>
      cases hb with
      | head=>exact .inr ⟨r1 a ha,q1 a ha⟩
      | tail _ hb=>exact aoY r2 q2 a ha b hb hne
theorem ake {B:Array Nat} {items:Items} (hp:abL B (recsOf 0 items [])=true) {i j:Nat} (hlt:i < j) {oi oj:Oper} {xi xj:Out} (hi:items[i]? = some (oi,xi))
    (hj:items[j]? = some (oj,xj)) (ti:xi.rec'.touch) (tj:xj.rec'.touch) (hc:clash xj.rec' xi.rec' = true):(B.getD j 0).testBit i=true:=by
  have m1:=ajt (i:=0) (recs:=[]) hi ti
  have m2:=ajt (i:=0) (recs:=[]) hj tj
  simp only [Nat.zero_add] at m1 m2
  rcases aoY (ajs (items:=items) (i:=0) .nil (by simp)) (ah7 hp) _ m2 _ m1 (by simp; omega) with ⟨_,h⟩ | ⟨h,_⟩
  · exact h hc
  · simp at h; omega
end
end Go.Proofs.YtdnbnpknpejpdaaGreatDoor.Sw
namespace Go.Proofs.YtdnbnpknpejpdaaGreatDoor.Sw
open Go.RowKit
section
variable {C:CallFn} {imp:Nat→Bool} {P:Program} {n:Nat} {ops:Array Oper} {g:Sg} {s:Sto} {w:World} {tm:Tr AVal}
theorem Frm.congr {tm' : Tr AVal} {tmps:Array Value} (h:Frm g s w tm tmps) (he:∀ t,tm'.get t=tm.get t):Frm g s w tm' tmps:=fun t x ht=>h t x (by rw [← he]; exact ht)
theorem Frm.put {a:Act} (h:Frm g s w tm a.tmps) {x:AVal} {u:Value} (hx:RepA g s w x u) {dst:Option Tmp} (hd:∀ d,dst=some d→d < a.tmps.size∧d < glBase) :
    Frm g s w (putD tm dst x) (a.put dst u).tmps:=by
  intro t y ht
  rw [ajR] at ht
  cases dst with
  | none=>simp at ht; exact h t y ht
  | some d =>
    obtain ⟨hlt,hlb⟩:=hd d rfl
    simp only [Act.put]
    by_cases hdt:d=t
    · subst hdt
      simp at ht
      subst ht
      exact ⟨u,by simp [slot,hlt,hlb],hx⟩
    · simp [hdt] at ht
      obtain ⟨v,h1,h2⟩:=h t y ht
      refine ⟨v, ?_,h2⟩
      unfold slot at h1 ⊢
      split
      · rename_i hb
        rw [if_pos hb] at h1
        rw [Array.getElem?_setIfInBounds_ne hdt]; exact h1
      · rename_i hb
        rw [if_neg hb] at h1
        exact h1
@[simp] theorem put_defers (a:Act) (dst:Option Tmp) (u:Value):(a.put dst u).defers=a.defers:=by cases dst <;> rfl
@[simp] theorem put_size (a:Act) (dst:Option Tmp) (u:Value):(a.put dst u).tmps.size=a.tmps.size:=by cases dst <;> simp [Act.put]
theorem ajr:RepA g s w (.p (.tup [])) undef:=⟨[],rfl,rfl⟩
theorem ao7 {d:Tmp} {x:AVal} (h:operand tm (.tmp d)=some x):tm.get d=some x∧d < glBase:=by
  simp only [operand] at h
  split at h <;> try (simp at h; done)
  rename_i hb
  have hb:Nat.ble (d + 1) glBase=true:=hb
  exact ⟨h,Nat.le_of_ble_eq_true hb⟩
theorem acg {a:Act} (hf:Frm g s w tm a.tmps) {o:Oper} {b:Bool} (h:abt ops tm o=some b):Region.wanted o (yielded ops a.tmps)=b:=by
  unfold abt at h
  unfold Region.wanted
  split at h
  · rename_i hg
    simp at h
    subst h
    simp [hg]
  · rename_i j want hg
    simp only [hg]
    split at h <;> try (simp at h; done)
    rename_i oj hoj
    split at h <;> try (simp at h; done)
    rename_i d hd
    split at h <;> simp at h
    · rename_i c hc
      obtain ⟨hc,hlt⟩:=ao7 hc
      obtain ⟨v,h1,h2⟩:=hf d _ hc
      simp only [slot,hlt,if_true] at h1
      have e1:v = .bool c:=h2
      subst e1
      have:yielded ops a.tmps j=some c:=by simp [yielded,hoj,hd,h1]
      rw [this, ← h]
      rfl
    · rename_i hc
      obtain ⟨hc,hlt⟩:=ao7 hc
      obtain ⟨v,h1,vs,e1,e2⟩:=hf d _ hc
      simp only [slot,hlt,if_true] at h1
      have e2:vs = []:=e2
      subst e2
      subst e1
      have:yielded ops a.tmps j=none:=by simp [yielded,hoj,hd,h1]
      rw [this,h]
      rfl
def RepD (g:Sg) (s:Sto) (w:World):List Dfr→List Deferred→Prop
  | [],l=>l = []
  | .mark id :: r,l=>∃ b t,l = { target:=.collected b,args:=#[] } :: t∧g.bx id=some b∧RepD g s w r t
  | .call f cap :: r,l=>∃ (vs:List Value) (t:List Deferred),l = { target:=.fn (.func f) vs.toArray,args:=#[] } :: t∧RepAs g s w cap vs∧RepD g s w r t
  | .hid b :: r,l=>∃ t,l = { target:=.collected b,args:=#[] } :: t∧g.pr b∧w.heap[b]? = some (.deferred (some []))∧(∀ o, ¬ g.imm b o)∧RepD g s w r t
theorem RepD.ext {g' : Sg} {s' : Sto} {w' : World} (he:Ext g s w g' s' w'):∀ {l:List Dfr} {ds:List Deferred},RepD g s w l ds→RepD g' s' w' l ds
  | [],_,h=>h
  | .mark id :: r,_,h=>by
    obtain ⟨b,t,rfl,h1,h2⟩:=h
    exact ⟨b,t,rfl,he.bx _ _ h1,RepD.ext he h2⟩
  | .call f cap :: r,_,h=>by
    obtain ⟨vs,t,rfl,h1,h2⟩:=h
    exact ⟨vs,t,rfl,RepAs.ext he _ _ h1,RepD.ext he h2⟩
  | .hid b :: r,_,h=>by
    obtain ⟨t,rfl,h1,h2,h4,h3⟩:=h
    exact ⟨t,rfl,by rw [he.still.1]; exact h1,by rw [(he.still.2 b h1).1]; exact h2,fun o ho=>h4 o ((he.still.2 b h1).2 o ho),RepD.ext he h3⟩
structure Here (g:Sg) (s:Sto) (w:World) (a:Act) (tm' : Tr AVal) (dfs' : List Dfr) (s' : Sto) (a' : Act) (w' : World):Prop where
  ex:∃ g',Ext g s w g' s' w' ∧ Inv g' s' w' ∧ Frm g' s' w' tm' a'.tmps∧RepD g' s' w' dfs' a'.defers
  size:a'.tmps.size=a.tmps.size
structure ag1 (g:Sg) (s:Sto) (w:World) (a:Act) (v:AVal) (tm' : Tr AVal) (dfs' : List Dfr) (s' : Sto) (chain:List PanicEntry) (a' : Act) (w' : World):Prop where
  ex:∃ g' u,chain = [{ v:=u,recovered:=false }]∧Ext g s w g' s' w' ∧ Inv g' s' w' ∧ RepA g' s' w' v u∧Frm g' s' w' tm' a'.tmps∧RepD g' s' w' dfs' a'.defers
  size:a'.tmps.size=a.tmps.size
theorem Here.refl {g:Sg} {s:Sto} {w:World} {a:Act} {tm:Tr AVal} {dfs:List Dfr} (hi:Inv g s w) (hf:Frm g s w tm a.tmps) (hd:RepD g s w dfs a.defers):Here g s w a tm dfs s a w :=
  ⟨⟨g, .refl _ _ _,hi,hf,hd⟩,rfl⟩
theorem Here.then {g g1:Sg} {s s1 s2:Sto} {w w1 w2:World} {a a1 a2:Act} {tm2:Tr AVal} {d2:List Dfr} (e:Ext g s w g1 s1 w1) (hz:a1.tmps.size=a.tmps.size)
    (h:Here g1 s1 w1 a1 tm2 d2 s2 a2 w2):Here g s w a tm2 d2 s2 a2 w2:=by
  obtain ⟨⟨g2,f1,f2⟩,f3⟩:=h
  exact ⟨⟨g2,e.trans f1,f2⟩,f3.trans hz⟩
theorem ag1.then {g g1:Sg} {s s1 s2:Sto} {w w1 w2:World} {a a1 a2:Act} {v:AVal} {tm2:Tr AVal} {d2:List Dfr} {chain:List PanicEntry} (e:Ext g s w g1 s1 w1) (hz:a1.tmps.size=a.tmps.size)
    (h:ag1 g1 s1 w1 a1 v tm2 d2 s2 chain a2 w2):ag1 g s w a v tm2 d2 s2 chain a2 w2:=by
  obtain ⟨⟨g2,u,f0,f1,f2⟩,f3⟩:=h
  exact ⟨⟨g2,u,f0,e.trans f1,f2⟩,f3.trans hz⟩
theorem ops_wp {ro:Option Nat} {gl:Tr AVal} (hC:aa6 P gl C) (hN:NoOwn P) (hnb:n≤glBase) {dfs:List Dfr} {N:Nat} {Q:Exit→Act→World→Prop} :
    ∀ {l:List Oper} {i b:Nat} {tm:Tr AVal} {S:St} {recs:List (Nat × Rec)} {ds:List Dfr} {ro' : RO} {g:Sg} {w:World} {a:Act},
    evOps C imp P n ops l i b tm S recs ds=some ro' → (ro=none ∨ (match ro' with | .done _ _ _ ds'=>ds' = [] | .pan _ _ _ ds'=>ds' = []))→l=ops.toList.drop i→i≤ops.size→Inv g S.get w→Glob gl g.imm w →
    Frm g S.get w tm a.tmps→RepD g S.get w (ds ++ dfs) a.defers→n≤a.tmps.size →
    (∀ a' w',(match ro' with
      | .done tm' S' _ ds'=>Here g S.get w a tm' (ds' ++ dfs) S'.get a' w' → Q .normal a' w'
      | .pan v tm' S' ds'=>∀ chain,ag1 g S.get w a v tm' (ds' ++ dfs) S'.get chain a' w' → Q (.panic chain) a' w')) →
    wpOpsIn (Fw ro) N P ops Q (List.range' i (ops.size - i)) a w
  | [],i,b,tm,S,recs,ds,ro',g,w,a,h,hro,hl,hi,hinv,hG,hf,hD,hn,hQ=>by
    simp [evOps] at h
    subst h
    have:ops.size - i=0:=by
      have:=congrArg List.length hl
      simp at this
      omega
    rw [this]
    exact hQ a w (.refl hinv hf hD)
  | o :: l,i,b,tm,S,recs,ds,ro',g,w,a,h,hro,hl,hi,hinv,hG,hf,hD,hn,hQ=>by
    have hlen:i < ops.size:=by
      have:=congrArg List.length hl
      simp at this
      omega
    have ho:ops[i]? = some o:=by
      have:(ops.toList.drop i)[0]? = some o:=by rw [← hl]; simp
      simpa using this
    have hl' : l=ops.toList.drop (i + 1):=by
      have:(ops.toList.drop i).drop 1=l:=by rw [← hl]; simp
      rw [← this,List.drop_drop]
    have er:List.range' i (ops.size - i)=i :: List.range' (i + 1) (ops.size - (i + 1)):=by
      rw [show ops.size - i=(ops.size - (i + 1)) + 1 by omega,List.range'_succ]
    rw [er,wpOpsIn_cons]
    unfold wpOpIn
    rw [ho]
    simp only
    have next:∀ {x:AVal} {S1:St} {tm1:Tr AVal} {recs1:List (Nat × Rec)} {ds1:List Dfr} {u:Value} {g1:Sg} {w1:World} {a1:Act},tm1=putD tm o.dst x→(∀ d,o.dst=some d→d < n) →
        Ext g S.get w g1 S1.get w1→Inv g1 S1.get w1→RepA g1 S1.get w1 x u→a1.tmps=a.tmps→RepD g1 S1.get w1 (ds1 ++ dfs) a1.defers →
        evOps C imp P n ops l (i + 1) (b + 16) tm1 S1 recs1 ds1=some ro' →
        wpOpsIn (Fw ro) N P ops Q (List.range' (i + 1) (ops.size - (i + 1))) (a1.put o.dst u) w1:=by
      intro x S1 tm1 recs1 ds1 u g1 w1 a1 htm hd e1 e2 e3 hat hD1 h
      subst htm
      refine ops_wp hC hN hnb h hro hl' (by omega) e2 (hG.ext e1) (Frm.put (a:=a1) (by rw [hat]; exact hf.ext e1) e3 (fun d hd'=>⟨by rw [hat]; exact Nat.lt_of_lt_of_le (hd d hd') hn,Nat.lt_of_lt_of_le (hd d hd') hnb⟩))
        (by simpa using hD1) (by simpa [hat] using hn) ?_
      intro a' w'
      have:=hQ a' w'
      cases ro' with
      | done tm' S' r ds' =>
        simp only at this ⊢
        intro hh
        exact this (Here.then e1 (by simp [hat]) hh)
      | pan v t S' ds' =>
        simp only at this ⊢
        intro chain hh
        exact this chain (ag1.then e1 (by simp [hat]) hh)
    simp only [evOps] at h
    split at h
    · rename_i hw
      rw [acg hf hw]
      simp only [if_true]
      split at h
      · rename_i e he
        split at h <;> try (simp at h; done)
        rename_i tm1 ht
        obtain ⟨h1,h2⟩:=aaP ht
        refine alR hC.toCallOk hN hinv hG hf he ?_
        intro u g' w' e1 e2 e3
        have hs:upds S.get e.wr=(S.did e.rd e.wr).get:=(aaB _ _ _).symm
        rw [hs] at e1 e2 e3
        exact next (S1:=S.did e.rd e.wr) h1 h2 e1 e2 e3 rfl (hD.ext e1) h
      · rename_i v s' he
        split at h <;> try (simp at h; done)
        rename_i tm1 ht
        obtain ⟨h1,h2⟩:=aaP ht
        refine alR hC.toCallOk hN hinv hG hf he ?_
        intro u g' w' e1 e2 e3
        exact next (S1:={ s' with log:=.call s'.log S.log }) h1 h2 e1 e2 e3 rfl (hD.ext e1) h
      · rename_i v s' he
        simp at h
        subst h
        refine alR hC.toCallOk hN hinv hG hf he ?_
        intro u g' w' e1 e2 e3
        exact hQ a w' _ ⟨⟨g',u,rfl,e1,e2,e3,hf.ext e1,hD.ext e1⟩,rfl⟩
      · rename_i f cap he
        split at h <;> try (simp at h; done)
        rename_i tm1 ht
        obtain ⟨h1,h2⟩:=aaP ht
        have hrn:ro=none:=by
          rcases hro with hro | hro
          · exact hro
          · exfalso
            cases ro' with
            | done _ _ _ ds'=>simp only at hro; subst hro; exact evOps_ds h (by simp)
            | pan _ _ _ ds'=>simp only at hro; subst hro; exact ap4 h (by simp)
        subst hrn
        refine defer_wp hf he ?_
        intro vs hvs
        exact next (ds1:=.call f cap :: ds) (a1:={ a with defers:={ target:=.fn (.func f) vs.toArray,args:=#[] } :: a.defers }) h1 h2 (.refl _ _ _) hinv ajr rfl ⟨vs,a.defers,rfl,hvs,hD⟩ h
      · simp at h
    · rename_i hw
      rw [acg hf hw]
      simp only [Bool.false_eq_true,if_false]
      split at h <;> try (simp at h; done)
      rename_i tm1 ht
      obtain ⟨h1,h2⟩:=aaP ht
      exact ⟨fun _ _=>trivial,next h1 h2 (.refl _ _ _) hinv ajr rfl hD h⟩
    · simp at h
end
end Go.Proofs.YtdnbnpknpejpdaaGreatDoor.Sw
namespace Go.Proofs.YtdnbnpknpejpdaaGreatDoor.Sw
open Go.RowKit
section
variable {C:CallFn} {imp:Nat→Bool} {P:Program} {n:Nat} {ops:Array Oper}
def Ord (B:Array Nat) (i j:Nat):Prop:=(i < j∧(B.getD j 0).testBit i=true) ∨ (j < i∧(B.getD i 0).testBit j=true)
def Down (B:Array Nat) (L:Nat→Bool):Prop:=∀ j i,L j=true→(B.getD j 0).testBit i=true→L i=true
theorem ord_iff {B:Array Nat} {L:Nat→Bool} {i j:Nat} (hd:Down B L) (hj:L j=false) (hr:∀ i,(B.getD j 0).testBit i=true→L i=true) (ho:Ord B i j):L i=decide (i < j):=by
  rcases ho with ⟨h1,h2⟩ | ⟨h1,h2⟩
  · rw [hr i h2]; simp [h1]
  · cases hL:L i with
    | false=>simp; omega
    | true =>
      have:=hd i j hL h2
      rw [hj] at this
      simp at this
def Out.looks (x:Out) (id:Nat):Prop:=match x with
  | .skip=>False
  | .eff e=>id ∈ e.rd
theorem meets_of {x:Nat} {l m:List Nat} (h1:x ∈ l) (h2:x ∈ m):meets l m=true:=by
  induction l with
  | nil=>simp at h1
  | cons y l ih =>
    simp only [meets]
    split
    · rfl
    · rename_i hc
      cases h1 with
      | head=>simp [h2] at hc
      | tail _ h=>exact ih h
theorem clash_of {x y:Out} {id:Nat} (hx:x.writes id) (hy:y.looks id ∨ y.writes id):clash x.rec' y.rec' = true∧clash y.rec' x.rec' = true∧x.rec'.touch∧y.rec'.touch:=by
  cases x with
  | skip=>exact hx.elim
  | eff e =>
    have tx:(Out.eff e).rec'.touch:=.inr (List.ne_nil_of_mem hx)
    cases y with
    | skip=>rcases hy with h | h <;> exact h.elim
    | eff e2 =>
      rcases hy with h | h
      · have:=meets_of hx h
        exact ⟨by simp [clash,Out.rec',recOf,this],by simp [clash,Out.rec',recOf,this],tx, .inl (List.ne_nil_of_mem h)⟩
      · have h1:=meets_of hx h
        have h2:=meets_of h hx
        exact ⟨by simp [clash,Out.rec',recOf,h1],by simp [clash,Out.rec',recOf,h2],tx, .inr (List.ne_nil_of_mem h)⟩
theorem hit_ord {B:Array Nat} {items:Items} (hp:abL B (recsOf 0 items [])=true) {i j:Nat} (hne:i ≠ j) {oi oj:Oper} {xi xj:Out} (hi:items[i]? = some (oi,xi)) (hj:items[j]? = some (oj,xj))
    {id:Nat} (hx:xi.writes id) (hy:xj.looks id ∨ xj.writes id):Ord B i j:=by
  obtain ⟨c1,c2,t1,t2⟩:=clash_of hx hy
  rcases Nat.lt_or_gt_of_ne hne with h | h
  · exact .inl ⟨h,ake hp h hi hj t1 t2 c2⟩
  · exact .inr ⟨h,ake hp h hj hi t2 t1 c1⟩
theorem name_ord {B:Array Nat} (hs:ac2 ops B=true) {i j:Nat} (hne:i ≠ j) {oi oj:Oper} (hi:ops[i]? = some oi) (hj:ops[j]? = some oj) {d:Tmp} (hd:oi.dst=some d)
    (hl:d ∈ oj.looksAt ops ∨ oj.dst=some d):Ord B i j:=by
  rcases Nat.lt_or_gt_of_ne hne with h | h
  · cases hb:(B.getD j 0).testBit i with
    | true=>exact .inl ⟨h,hb⟩
    | false =>
      obtain ⟨h1,h2,_⟩:=Oper.apart_spec (agF hs hi hj h hb)
      rcases hl with hl | hl
      · exact absurd hl (h1 d hd)
      · exact absurd hl (h2 d hd)
  · cases hb:(B.getD i 0).testBit j with
    | true=>exact .inr ⟨h,hb⟩
    | false =>
      obtain ⟨_,h2,h3⟩:=Oper.apart_spec (agF hs hj hi h hb)
      rcases hl with hl | hl
      · exact absurd hl (h3 d hd)
      · exact absurd hd (h2 d hl)
theorem wantedA_agree {tm tm' : Tr AVal} {o:Oper} (h:∀ d ∈ o.looksAt ops,tm'.get d=tm.get d):abt ops tm' o=abt ops tm o:=by
  have h:∀ d ∈ o.looksAt ops,operand tm' (.tmp d)=operand tm (.tmp d):=fun d hd=>by simp only [operand]; rw [h d hd]
  unfold abt
  split
  · rfl
  · rename_i j want hg
    split
    · rename_i oj hoj
      split
      · rename_i d hd
        rw [h d (by simp [Oper.looksAt,hg,hoj,hd])]
      · rfl
    · rfl
theorem operands_look {o:Oper} {t:Tmp} (h:Operand.tmp t ∈ o.op.operands.toList):t ∈ o.looksAt ops :=
  List.mem_append_left _ (List.mem_filterMap.2 ⟨.tmp t,h,rfl⟩)
section step
variable {B:Array Nat} {items:Items} {L:Nat→Bool} {j:Nat} {o:Oper} {x:Out} {tm:Tr AVal} {S:Sto}
theorem step_tm (hs:ac2 ops B=true) (hit:items.map (·.1)=ops.toList) (hd:Down B L) (hj:L j=false) (hr:∀ i,(B.getD j 0).testBit i=true→L i=true) (ho:ops[j]? = some o) :
    ∀ d ∈ o.looksAt ops,(runTm L 0 items tm).get d=(runTm (fun m=>decide (m < 0 + j)) 0 items tm).get d:=by
  intro d hd'
  refine adR rfl fun k o' x' hk hdst=>?_
  simp only [Nat.zero_add]
  by_cases hkj:k=j
  · subst hkj; rw [hj]; simp
  · have hk' : ops[k]? = some o':=by
      have:(items.map (·.1))[k]? = some o':=by simp [hk]
      rw [hit] at this
      simpa using this
    exact ord_iff hd hj hr (name_ord hs hkj hk' ho hdst (.inl hd'))
theorem step_st (hp:abL B (recsOf 0 items [])=true) (hd:Down B L) (hj:L j=false) (hr:∀ i,(B.getD j 0).testBit i=true→L i=true) (hx:items[j]? = some (o,x)) {id:Nat} (hl:x.looks id) :
    runSt L 0 items S id=runSt (fun m=>decide (m < 0 + j)) 0 items S id:=by
  refine adS rfl fun k o' x' hk hw=>?_
  simp only [Nat.zero_add]
  by_cases hkj:k=j
  · subst hkj; rw [hj]; simp
  · exact ord_iff hd hj hr (hit_ord hp hkj hk hx hw (.inl hl))
theorem take_tm (hs:ac2 ops B=true) (hit:items.map (·.1)=ops.toList) (hd:Down B L) (hj:L j=false) (hr:∀ i,(B.getD j 0).testBit i=true→L i=true) (hx:items[j]? = some (o,x)) (t:Nat) :
    (runTm (fun m=>m == j || L m) 0 items tm).get t=(putD (runTm L 0 items tm) o.dst x.val).get t:=by
  have op_of:∀ {k:Nat} {o' : Oper} {x' : Out},items[k]? = some (o',x')→ops[k]? = some o':=fun {k o' x'} hk=>by
    have:(items.map (·.1))[k]? = some o':=by simp [hk]
    rw [hit] at this
    simpa using this
  rw [ajR]
  by_cases hdt:o.dst=some t
  · rw [if_pos hdt]
    refine runTm_last (k:=j) hx hdt (by simp) fun k o' x' hk hlt hd'=>?_
    simp only [Nat.zero_add]
    have hkj:k ≠ j:=by omega
    have:=ord_iff hd hj hr (name_ord hs hkj (op_of hk) (op_of hx) hd' (.inr hdt))
    rw [this]
    simp; omega
  · rw [if_neg hdt]
    refine adR rfl fun k o' x' hk hd'=>?_
    simp only [Nat.zero_add]
    have:k ≠ j:=fun e=>by
      subst e
      rw [hk] at hx
      simp at hx
      exact hdt (hx.1 ▸ hd')
    simp [this]
theorem take_st (hp:abL B (recsOf 0 items [])=true) (hd:Down B L) (hj:L j=false) (hr:∀ i,(B.getD j 0).testBit i=true→L i=true) (hx:items[j]? = some (o,x)) (id:Nat) :
    runSt (fun m=>m == j || L m) 0 items S id=x.st (runSt L 0 items S) id:=by
  by_cases hw:x.writes id
  · refine runSt_last (k:=j) hx hw (by simp) fun k o' x' hk hlt hw'=>?_
    simp only [Nat.zero_add]
    have hkj:k ≠ j:=by omega
    have:=ord_iff hd hj hr (hit_ord hp hkj hk hx hw' (.inr hw))
    rw [this]
    simp; omega
  · rw [Out.st_get hw]
    refine adS rfl fun k o' x' hk hw'=>?_
    simp only [Nat.zero_add]
    have:k ≠ j:=fun e=>by
      subst e
      rw [hk] at hx
      simp at hx
      exact hw (hx.2 ▸ hw')
    simp [this]
end step
theorem any_wp {ro:Option Nat} {gl:Tr AVal} (hC:aa6 P gl C) (hN:NoOwn P) (hnb:n≤glBase) {dfs:List Dfr} {N:Nat} {Q:Exit→Act→World→Prop} (hst:statOk ops=true) {items:Items} (hit:items.map (·.1)=ops.toList)
    (hp:abL (Region.before ops) (recsOf 0 items [])=true) {tm:Tr AVal} {S:St}
    {q:Option (Nat × AVal)}
    (hok:∀ (k:Nat) (o:Oper) (x:Out),items[k]? = some (o,x)→AnyOk C imp P n ops (Region.before ops) q (0 + k) (runTm (fun m=>decide (m < 0 + k)) 0 items tm) (runSt (fun m=>decide (m < 0 + k)) 0 items S.get) o x)
    (hqt:∀ p v,q=some (p,v)→p < ops.size∧quiet (Region.before ops) p (recsOf 0 items [])=true)
    {g₀:Sg} {s₀:Sto} {w₀:World} {a₀:Act} (hG:Glob gl g₀.imm w₀) (hQ:q=none → ∀ a' w',Here g₀ s₀ w₀ a₀ (runTm (fun _=>true) 0 items tm) dfs (runSt (fun _=>true) 0 items S.get) a' w' → Q .normal a' w')
    (hQp:∀ p v,q=some (p,v) → ∀ chain a' w',ag1 g₀ s₀ w₀ a₀ v .lf dfs (runSt (fun _=>true) 0 items S.get) chain a' w' → Q (.panic chain) a' w') (hn:n≤a₀.tmps.size) :
    ∀ (fuel:Nat) (listed:Array Bool) (a:Act) (w:World),listed.size=ops.size→listed.toList.count false≤fuel→Down (Region.before ops) (fun m=>listed.getD m false)→(∀ p v,q=some (p,v)→listed.getD p false=false) →
      Here g₀ s₀ w₀ a₀ (runTm (fun m=>listed.getD m false) 0 items tm) dfs (runSt (fun m=>listed.getD m false) 0 items S.get) a w→wpAnyIn (Fw ro) N P .any ops Q fuel listed a w:=by
  have hst1:ae4 ops=true:=by simp [statOk] at hst; exact hst.1
  have hst2:ac2 ops (Region.before ops)=true:=by simp [statOk] at hst; exact hst.2
  have hil:items.length=ops.size:=by have:=congrArg List.length hit; simpa using this
  have fin:∀ (listed:Array Bool) (a:Act) (w:World),listed.size=ops.size→(∀ i,i < ops.size→listed.getD i false=true)→q=none →
      Here g₀ s₀ w₀ a₀ (runTm (fun m=>listed.getD m false) 0 items tm) dfs (runSt (fun m=>listed.getD m false) 0 items S.get) a w→Q .normal a w:=by
    intro listed a w hsz hall hqn h
    have e1:∀ t,(runTm (fun _=>true) 0 items tm).get t=(runTm (fun m=>listed.getD m false) 0 items tm).get t:=fun t =>
      adR rfl fun k o x hk _=>by
        have:k < items.length:=(List.getElem?_eq_some_iff.1 hk).1
        simp only [Nat.zero_add]; exact (hall k (by omega)).symm
    have e2:runSt (fun _=>true) 0 items S.get=runSt (fun m=>listed.getD m false) 0 items S.get:=funext fun id =>
      adS rfl fun k o x hk _=>by
        have:k < items.length:=(List.getElem?_eq_some_iff.1 hk).1
        simp only [Nat.zero_add]; exact (hall k (by omega)).symm
    obtain ⟨⟨g',f1,f2,f3,f4⟩,f5⟩:=h
    exact hQ hqn a w ⟨⟨g',by rw [e2]; exact f1,by rw [e2]; exact f2,by rw [e2]; exact f3.congr e1,by rw [e2]; exact f4⟩,f5⟩
  have least:∀ (listed:Array Bool),listed.size=ops.size→Region.ready .any ops listed = [] → ∀ i,i < ops.size→listed.getD i false=true:=by
    intro listed hsz hr i
    induction i using Nat.strongRecOn with
    | _ i ih =>
      intro hi
      cases hL:listed.getD i false with
      | true=>rfl
      | false =>
        exfalso
        obtain ⟨o,ho⟩:∃ o,ops[i]? = some o:=⟨ops[i],by simp [hi]⟩
        have:i ∈ Region.ready .any ops listed:=mem_ready.2 ⟨by
            have hi' : i < listed.size:=by omega
            simp only [Array.getD_eq_getD_getElem?,Array.getElem?_eq_getElem hi',Option.getD_some] at hL ⊢
            exact hL,o,ho,fun e he hb=>ih e.on (aeP hst1 ho e he hb) (Nat.lt_trans (aeP hst1 ho e he hb) hi)⟩
        rw [hr] at this
        simp at this
  intro fuel
  induction fuel with
  | zero =>
    intro listed a w hsz hcount hd hpl hh
    have h0:listed.toList.count false=0:=by omega
    have hall:∀ i,i < ops.size→listed.getD i false=true:=by
      intro i hi
      have hi' : i < listed.size:=by omega
      have hnot:=List.count_eq_zero.1 h0
      cases hL:listed.getD i false with
      | true=>rfl
      | false =>
        exfalso
        simp only [Array.getD_eq_getD_getElem?,Array.getElem?_eq_getElem hi',Option.getD_some] at hL
        exact hnot (by rw [← hL]; simp)
    have hqn:q=none:=by
      cases hq:q with
      | none=>rfl
      | some z =>
        obtain ⟨p,v⟩:=z
        have e1:=hall p (hqt p v hq).1
        rw [hpl p v hq] at e1
        simp at e1
    refine ⟨?_,fin listed a w hsz hall hqn hh⟩
    cases hr:Region.ready .any ops listed with
    | nil=>rfl
    | cons j r =>
      exfalso
      have hj:j ∈ Region.ready .any ops listed:=by rw [hr]; simp
      obtain ⟨h1,o,ho,_⟩:=mem_ready.1 hj
      have hjs:=(Array.getElem?_eq_some_iff.1 ho).1
      have:=hall j hjs
      have hj' : j < listed.size:=by omega
      simp only [Array.getD_eq_getD_getElem?,Array.getElem?_eq_getElem hj',Option.getD_some] at this h1
      rw [this] at h1
      simp at h1
  | succ fuel ih =>
    intro listed a w hsz hcount hd hpl hh
    refine ⟨fun hr=>fin listed a w hsz (least listed hsz hr) (by
      cases hq:q with
      | none=>rfl
      | some z =>
        obtain ⟨p,v⟩:=z
        have e1:=least listed hsz hr p (hqt p v hq).1
        rw [hpl p v hq] at e1
        simp at e1) hh,fun j hj=>?_⟩
    obtain ⟨h1,o,ho,hedges⟩:=mem_ready.1 hj
    have hjs:=(Array.getElem?_eq_some_iff.1 ho).1
    have hj' : j < listed.size:=by omega
    have hLj:listed.getD j false=false:=by
      simp only [Array.getD_eq_getD_getElem?,Array.getElem?_eq_getElem hj',Option.getD_some] at h1 ⊢
      exact h1
    have hready:∀ i,((Region.before ops).getD j 0).testBit i=true→listed.getD i false=true:=by
      intro i hb
      obtain ⟨e,e1,e2,e3⟩:=before_spec hst1 ho hb
      rcases e3 with rfl | e3
      · exact hedges e e1 e2
      · exact hd e.on i (hedges e e1 e2) e3
    obtain ⟨x,hx⟩:∃ x,items[j]? = some (o,x):=by
      have hjl:j < items.length:=by omega
      have:(items.map (·.1))[j]? = some o:=by rw [hit]; simpa using ho
      simp only [List.getElem?_map,Option.map_eq_some_iff] at this
      obtain ⟨⟨o',x⟩,q1,q2⟩:=this
      simp at q2
      subst q2
      exact ⟨x,q1⟩
    have hL1:(fun m=>(listed.setIfInBounds j true).getD m false)=fun m=>m == j || listed.getD m false:=by
      funext m
      simp only [Array.getD_eq_getD_getElem?,Array.getElem?_setIfInBounds]
      by_cases hm:m=j
      · subst hm; simp [hj']
      · have:¬ j=m:=fun e=>hm e.symm
        simp [hm,this]
    have hdown:Down (Region.before ops) (fun m=>(listed.setIfInBounds j true).getD m false):=by
      rw [hL1]
      intro k i hk hb
      simp only [Bool.or_eq_true,beq_iff_eq] at hk ⊢
      rcases hk with rfl | hk
      · exact .inr (hready i hb)
      · exact .inr (hd k i hk hb)
    have hcnt:(listed.setIfInBounds j true).toList.count false≤fuel:=by
      rw [Array.toList_setIfInBounds,List.count_set (by simpa using hj')]
      have e1:listed.toList[j]=false:=by
        simp only [Array.getD_eq_getD_getElem?,Array.getElem?_eq_getElem hj',Option.getD_some] at hLj
        simpa using hLj
      simp only [e1,beq_self_eq_true,if_true]
      have:0 < listed.toList.count false:=List.count_pos_iff.2 (by rw [← e1]; simp)
      simp
      simp at this hcount
      omega
    obtain ⟨⟨g1,q1,q2,q3,q4⟩,q5⟩:=hh
    have hG1:=hG.ext q1
    have hna:n≤a.tmps.size:=by omega
    have okA:=hok j o x hx
    have hlook:=step_tm (tm:=tm) hst2 hit hd hLj hready ho
    have htk:=take_tm (tm:=tm) hst2 hit hd hLj hready hx
    have hsk:runSt (fun m=>(listed.setIfInBounds j true).getD m false) 0 items S.get=x.st (runSt (fun m=>listed.getD m false) 0 items S.get):=by
      rw [hL1]
      exact funext fun id=>take_st hp hd hLj hready hx id
    have hagree:Agree (runTm (fun m=>decide (m < 0 + j)) 0 items tm) (runTm (fun m=>listed.getD m false) 0 items tm) o.op.operands.toList :=
      agree_of (fun t ht=>hlook t (operands_look ht)) fun k=>adR rfl fun m o' x' hm hd'=>by
        have:=(hok m o' x' hm).1 _ hd'
        exact absurd (Nat.lt_of_lt_of_le this hnb) (Nat.not_lt.2 (Nat.le_add_right glBase k))
    have hwant:=wantedA_agree hlook
    obtain ⟨hdst,okA⟩:=okA
    rcases okA with ⟨ok,hnp⟩ | ⟨v,s',hq,ok1,rfl,S1,b,hS1,ok2⟩ | ⟨p,v,hq,_,hb,_⟩
    rotate_left
    ·
      rw [Nat.zero_add] at hq
      rw [← hwant] at ok1
      unfold wpOpIn
      rw [ho]
      simp only
      rw [acg q3 ok1]
      simp only [if_true]
      rw [← evOp_tm hagree] at ok2
      obtain ⟨N0,hN0⟩:=aff (L:=fun m=>listed.getD m false) (items:=items) (i:=0) (S.bounded)
      obtain ⟨S2,hS2⟩:=St.of_fun N0 _ hN0
      have hsame:∀ id ∈ s'.log.rdOf,S2.get id=S1.get id:=fun id hid=>by
        rw [hS1,hS2]
        exact step_st hp hd hLj hready hx (x:=.eff ⟨.junk,s'.log.rdOf,s'.log.flat⟩) hid
      obtain ⟨T',k1,k2,k3,k4⟩:=(ads hC.loc ok2).2 { S2 with next:=S1.next } rfl (fun id hid=>hsame id hid)
      have hT:T'.get=(Out.eff ⟨.junk,s'.log.rdOf,s'.log.flat⟩).st S2.get:=by
        rw [k3,afU]
        rfl
      have hS2' : ({ S2 with next:=S1.next }:St).get=S2.get:=rfl
      have hend:runSt (fun _=>true) 0 items S.get=(Out.eff ⟨.junk,s'.log.rdOf,s'.log.flat⟩).st (runSt (fun m=>listed.getD m false) 0 items S.get):=by
        rw [← show runSt (fun m=>m == j || listed.getD m false) 0 items S.get=_ from funext fun id=>take_st hp hd hLj hready hx id]
        refine funext fun id=>adS rfl fun k o' x' hk hw=>?_
        simp only [Nat.zero_add]
        by_cases hkj:k=j
        · subst hkj; simp
        · have ht:x'.rec'.touch:=by
            cases x' with
            | skip=>exact hw.elim
            | eff e =>
              refine .inr fun e0=>?_
              have e0:e.wr.map (·.1) = []:=e0
              have hw:id ∈ e.wr.map (·.1):=hw
              rw [e0] at hw
              simp at hw
          have hin:=ajt (i:=0) (recs:=[]) hk ht
          rw [Nat.zero_add] at hin
          rcases quiet_spec (hqt j v hq).2 _ hin with e1 | e1 | e1
          · exact absurd e1 hkj
          · have:=hready k e1
            simp [this]
          · exfalso
            cases x' with
            | skip=>exact hw
            | eff e =>
              have hw:id ∈ e.wr.map (·.1):=hw
              have e1:e.wr.map (·.1) = []:=e1
              rw [e1] at hw
              simp at hw
      rw [← hS2, ← hS2'] at q2 q3
      rw [← hS2] at q1 q4
      refine alR hC.toCallOk hN q2 hG1 q3 k1 ?_
      intro u g' w' e1 e2 e3
      rw [hS2'] at e1
      refine hQp j v hq _ a w' ⟨⟨g',u,rfl, ?_, ?_, ?_, ?_, ?_⟩,q5⟩
      · rw [hend, ← hS2, ← hT]; exact q1.trans e1
      · rw [hend, ← hS2, ← hT]; exact e2
      · rw [hend, ← hS2, ← hT]; exact e3
      · intro t y ht
        rw [Tr.get_lf] at ht
        simp at ht
      · rw [hend, ← hS2, ← hT]; exact q4.ext e1
    · exfalso
      rw [Nat.zero_add] at hb
      have e1:=hready p hb
      rw [hpl p v hq] at e1
      simp at e1
    have hpl' : ∀ p v,q=some (p,v)→(listed.setIfInBounds j true).getD p false=false:=by
      intro p v hq
      have:=congrFun hL1 p
      rw [this]
      simp only [Bool.or_eq_false_iff]
      exact ⟨by simpa using fun e:p=j=>hnp p v hq (by rw [Nat.zero_add]; exact e.symm),hpl p v hq⟩
    have next:∀ {u:Value} {g2:Sg} {w2:World},Ext g1 (runSt (fun m=>listed.getD m false) 0 items S.get) w g2 (x.st (runSt (fun m=>listed.getD m false) 0 items S.get)) w2 →
        Inv g2 (x.st (runSt (fun m=>listed.getD m false) 0 items S.get)) w2→RepA g2 (x.st (runSt (fun m=>listed.getD m false) 0 items S.get)) w2 x.val u →
        wpAnyIn (Fw ro) N P .any ops Q fuel (listed.setIfInBounds j true) (a.put o.dst u) w2:=by
      intro u g2 w2 f1 f2 f3
      refine ih _ _ _ (by simpa using hsz) hcnt hdown hpl' ?_
      refine ⟨⟨g2, ?_, ?_, ?_, ?_⟩,by simpa using q5⟩
      · rw [hsk]; exact q1.trans f1
      · rw [hsk]; exact f2
      · rw [hsk]
        refine (Frm.put (q3.ext f1) f3 (fun d hd'=>⟨Nat.lt_of_lt_of_le (ok.1 d hd') hna,Nat.lt_of_lt_of_le (ok.1 d hd') hnb⟩)).congr fun t=>?_
        rw [hL1]
        exact htk t
      · rw [hsk,put_defers]; exact q4.ext f1
    unfold wpOpIn
    rw [ho]
    simp only
    obtain ⟨_,ok⟩:=ok
    cases x with
    | skip =>
      rw [← hwant] at ok
      rw [acg q3 ok]
      simp only [Bool.false_eq_true,if_false]
      exact ⟨fun _ _=>trivial,next (.refl _ _ _) q2 ajr⟩
    | eff e =>
      obtain ⟨ok1,S1,b,hS1,ok2⟩:=ok
      rw [← hwant] at ok1
      rw [acg q3 ok1]
      simp only [if_true]
      rw [← evOp_tm hagree] at ok2
      obtain ⟨N0,hN0⟩:=aff (L:=fun m=>listed.getD m false) (items:=items) (i:=0) (S.bounded)
      obtain ⟨S2,hS2⟩:=St.of_fun N0 _ hN0
      have hsame:∀ id ∈ e.rd,S2.get id=S1.get id:=fun id hid=>by
        rw [hS1,hS2]
        exact step_st hp hd hLj hready hx (x:=.eff e) hid
      rcases ok2 with ok2 | ⟨s',ok2,he⟩
      · have ok3:=ap5 (S':=S2) ok2 hsame
        rw [← hS2] at q2 q3 next
        refine alR hC.toCallOk hN q2 hG1 q3 ok3 ?_
        intro u g' w' e1 e2 e3
        exact next e1 e2 e3
      · obtain ⟨T',k1,k2,k3,k4⟩:=(ahy hC.loc ok2).2 { S2 with next:=S1.next } rfl (fun id hid=>hsame id (by rw [he]; exact hid))
        have hT:T'.get=(Out.eff e).st S2.get:=by
          rw [k3,afU]
          show upds S2.get s'.log.flat=upds S2.get e.wr
          rw [he]
        have hS2' : ({ S2 with next:=S1.next }:St).get=S2.get:=rfl
        rw [← hS2, ← hS2'] at q2 q3
        rw [← hS2] at next
        refine alR hC.toCallOk hN q2 hG1 q3 k1 ?_
        intro u g' w' e1 e2 e3
        rw [hT,hS2'] at e1
        rw [hT] at e2 e3
        exact next e1 e2 e3
end
end Go.Proofs.YtdnbnpknpejpdaaGreatDoor.Sw
namespace Go.Proofs.YtdnbnpknpejpdaaGreatDoor.Sw
open Go.RowKit
structure Fine (P:Program):Prop where
  own:NoOwn P
  mixed:P.follows .mixedOrders=true
  code:∀ (f:Nat) (fn:Func) (c:Code),P.funcs[f]? = some fn→fn.body=some c→codeOk c=true
section
variable {C:CallFn} {imp:Nat→Bool} {P:Program} {n:Nat} {g:Sg} {S:St} {w:World}
theorem tm_false {items:Items}:∀ {i:Nat} {tm:Tr AVal},runTm (fun _=>false) i items tm=tm:=by
  induction items with
  | nil=>intro i tm; rfl
  | cons q items ih=>intro i tm; obtain ⟨o,x⟩:=q; simp only [runTm]; exact ih
theorem st_false {items:Items}:∀ {i:Nat} {S:Sto},runSt (fun _=>false) i items S=S:=by
  induction items with
  | nil=>intro i S; rfl
  | cons q items ih=>intro i S; obtain ⟨o,x⟩:=q; simp only [runSt]; exact ih
def Left (g:Sg) (s:Sto) (w:World) (a:Act) (x:XExit) (tm' : Tr AVal) (dfs' : List Dfr) (S' : St) (e:Exit) (a' : Act) (w' : World):Prop :=
  match x,e with
  | .normal, .normal=>Here g s w a tm' dfs' S'.get a' w'
  | .exit i, .exit j=>i=j∧Here g s w a tm' dfs' S'.get a' w'
  | .ret, .ret=>Here g s w a tm' dfs' S'.get a' w'
  | .pan v, .panic chain=>ag1 g s w a v tm' dfs' S'.get chain a' w'
  | _,_=>False
theorem Left.after {g g1:Sg} {s s1:Sto} {w w1 w2:World} {a a1 a2:Act} {x:XExit} {tm2:Tr AVal} {d2:List Dfr} {S2:St} {e:Exit} (h1:Ext g s w g1 s1 w1) (hz:a1.tmps.size=a.tmps.size)
    (h2:Left g1 s1 w1 a1 x tm2 d2 S2 e a2 w2):Left g s w a x tm2 d2 S2 e a2 w2:=by
  cases x <;> cases e <;> simp only [Left] at h2 ⊢ <;> first | exact Here.then h1 hz h2 | exact ⟨h2.1,Here.then h1 hz h2.2⟩ | exact h2.elim | exact ag1.then h1 hz h2
theorem region_wp {ro:Option Nat} {gl:Tr AVal} (hC:aa6 P gl C) (hP:Fine P) (hnb:n≤glBase) {N id:Nat} {Q:Exit→Act→World→Prop} {rd:Bool} (hro:rd=false→ro=none) {ops:Array Oper} {draw:Bool}
    (hs:draw=true→statOk ops=true) {fr fr' : Fr} {S S' : St} {x:XExit} {g:Sg} {w:World} {a:Act}
    (h:acV C imp P n rd ops draw fr S=some (x,fr',S')) (hi:Inv g S.get w) (hG:Glob gl g.imm w) (hf:Frm g S.get w fr.tm a.tmps) (hd:RepD g S.get w fr.dfs a.defers) (hn:n≤a.tmps.size)
    (hQ:∀ e a' w',Left g S.get w a x fr'.tm fr'.dfs S' e a' w' → Q e a' w'):(Code.region id ops draw).wpIn (Fw ro) N P Q a w:=by
  cases draw with
  | false =>
    simp only [acV] at h
    refine wpIn_region ?_
    rw [List.range_eq_range']
    split at h
    · rename_i tm s recs ds ho
      have key:(ro=none ∨ ds = [])∧x = .normal∧fr' = { tm:=tm,dfs:=ds ++ fr.dfs }∧S' = s:=by
        split at h <;> simp at h
        rename_i hno
        obtain ⟨rfl,rfl,rfl⟩:=h
        refine ⟨?_,rfl,rfl,rfl⟩
        cases rd with
        | false=>exact .inl (hro rfl)
        | true=>cases ds with
          | nil=>exact .inr rfl
          | cons q ds=>exact (hno q ds rfl rfl).elim
      obtain ⟨k1,rfl,rfl,rfl⟩:=key
      exact ops_wp hC hP.own hnb (dfs:=fr.dfs) (i:=0) ho k1 (by simp) (Nat.zero_le _) hi hG hf hd hn (fun a' w' hh=>hQ .normal a' w' hh)
    · rename_i v tm s ds ho
      have key:(ro=none ∨ ds = [])∧x = .pan v∧fr' = { tm:=tm,dfs:=ds ++ fr.dfs }∧S' = s:=by
        split at h <;> simp at h
        rename_i hno
        obtain ⟨rfl,rfl,rfl⟩:=h
        refine ⟨?_,rfl,rfl,rfl⟩
        cases rd with
        | false=>exact .inl (hro rfl)
        | true=>cases ds with
          | nil=>exact .inr rfl
          | cons q ds=>exact (hno q ds rfl rfl).elim
      obtain ⟨k1,rfl,rfl,rfl⟩:=key
      exact ops_wp hC hP.own hnb (dfs:=fr.dfs) (i:=0) ho k1 (by simp) (Nat.zero_le _) hi hG hf hd hn (fun a' w' chain hh=>hQ (.panic chain) a' w' hh)
    · simp at h
  | true =>
    simp only [acV] at h
    refine wpIn_region_any hP.mixed ?_
    have e1:(fun m=>(Array.replicate ops.size false).getD m false)=fun _=>false:=by
      funext m
      simp only [Array.getD_eq_getD_getElem?,Array.getElem?_replicate]
      split <;> rfl
    have hdown:Down (Region.before ops) (fun m=>(Array.replicate ops.size false).getD m false):=by
      intro j i hj
      have e2:=congrFun e1 j
      simp only at e2 hj
      rw [e2] at hj
      simp at hj
    split at h
    · rename_i tm s recs ho
      split at h <;> simp at h
      rename_i hpf
      obtain ⟨rfl,rfl,rfl⟩:=h
      obtain ⟨items,h1,h2,h3,h4,h5⟩:=aiT hC.loc ho (fun _ _ e=>by simp at e)
      subst h2 h4
      refine any_wp (n:=n) (dfs:=fr.dfs) (a₀:=a) hC hP.own hnb (hs rfl) h1 hpf h5 (fun _ _ e=>by simp at e) (g₀:=g) (s₀:=S.get) (w₀:=w) hG (fun _ a' w' hh=>hQ .normal a' w' (by rw [← h3] at hh; exact hh))
        (fun _ _ e=>by simp at e) hn ops.size _ a _ (by simp) ?_ hdown (fun _ _ e=>by simp at e) ?_
      · simp
      · rw [e1,tm_false,st_false]
        exact ⟨⟨g,Ext.drew _ _ _,hi.drew,hf.ext (Ext.drew _ _ _),hd.ext (Ext.drew _ _ _)⟩,rfl⟩
    · rename_i tm s recs p u ho
      split at h <;> simp at h
      rename_i hpf hqu
      obtain ⟨rfl,rfl,rfl⟩:=h
      have hk:=(aiT hC.loc ho (fun _ _ e=>by simp at e))
      obtain ⟨items,h1,h2,h3,h4,h5⟩:=hk
      subst h2 h4
      have hpos:p < ops.size:=evAny_in ho (fun _ _ e=>by simp at e)
      refine any_wp (n:=n) (dfs:=fr.dfs) (a₀:=a) hC hP.own hnb (hs rfl) h1 hpf h5 (fun p' v' e=>by simp at e; obtain ⟨rfl,rfl⟩:=e; exact ⟨hpos,hqu⟩) (g₀:=g) (s₀:=S.get) (w₀:=w) hG
        (fun e=>by simp at e) (fun p' v' e chain a' w' hh=>by simp at e; obtain ⟨rfl,rfl⟩:=e; exact hQ (.panic chain) a' w' (by rw [← h3] at hh; exact hh)) hn ops.size _ a _ (by simp) ?_ hdown
        (fun p' v' _=>congrFun e1 p') ?_
      · simp
      · rw [e1,tm_false,st_false]
        exact ⟨⟨g,Ext.drew _ _ _,hi.drew,hf.ext (Ext.drew _ _ _),hd.ext (Ext.drew _ _ _)⟩,rfl⟩
    · simp at h
theorem wpIn_scope {c:Code} {N:Nat} {Q:Exit→Act→World→Prop} {a:Act} {w:World} (h:c.wpIn (Fw none) N P (Exit.noGoto Q) a w):(Code.scope c).wpIn (Fw none) N P Q a w :=
  wpIn_wide.2 (wp_scope_straight (wpIn_wide.1 h))
theorem ah3 {ro:Option Nat} {c:Code} {N:Nat} {Q:Exit→Act→World→Prop} (J:Nat→Act→World→Prop)
    (round:∀ j a w,J j a w→c.wpIn (Fw ro) N P (Exit.then (fun a' w'=>∃ i,i < j∧J i a' w') Q) a w) {j:Nat} {a:Act} {w:World} (h:J j a w):(Code.loop c).wpIn (Fw ro) N P Q a w:=by
  have least:∀ (a:Act) (w:World),(∃ j,J j a w) → ∃ j,J j a w ∧ ∀ i,J i a w→j≤i:=by
    intro a w ⟨j,hj⟩
    induction j using Nat.strongRecOn with
    | _ j ih =>
      by_cases hl:∃ i,i < j∧J i a w
      · obtain ⟨i,h1,h2⟩:=hl
        exact ih i h1 h2
      · exact ⟨j,hj,fun i hi=>Nat.le_of_not_lt fun hlt=>hl ⟨i,hlt,hi⟩⟩
  let μ:Act→World→Nat:=fun a w=>open Classical in if h:∃ j,J j a w then Classical.choose (least a w h) else 0
  have hμ:∀ a w (h:∃ j,J j a w),J (μ a w) a w ∧ ∀ i,J i a w → μ a w≤i:=by
    intro a w h
    have:μ a w=Classical.choose (least a w h):=by simp only [μ]; rw [dif_pos h]
    rw [this]
    exact Classical.choose_spec (least a w h)
  refine wpIn_loop (fun a w=>∃ j,J j a w) μ ⟨j,h⟩ fun a w hI=>?_
  obtain ⟨h1,h2⟩:=hμ a w hI
  refine wpIn_mono (round _ _ _ h1) fun e a' w' he=>?_
  cases e <;> try exact he
  obtain ⟨i,h3,h4⟩:=he
  have h5:=hμ a' w' ⟨i,h4⟩
  exact ⟨⟨i,h4⟩,Nat.lt_of_le_of_lt (h5.2 i h4) h3⟩
theorem start_run (hi:Inv g S.get w) {S1:St} {n:Nat} (hnb:n≤glBase) {ps:Array Tmp} {assign body:Code} {tm:Tr AVal} {tmps:Array Value} (hf:Frm g S.get w tm tmps) (hn:n≤tmps.size)
    (hok:codeOk assign=true∧codeOk body=true) (h:acp n ps.toList assign body tm S=some S1) (fn:FuncId) :
    ∃ g1 w1,(Instr.enterLoop fn tmps ps assign body none).run P w = .ok (w.heap.size + 1,[{ target:=.collected w.heap.size,args:=#[] }]) w1∧Ext g S.get w g1 S1.get w1∧Inv g1 S1.get w1 ∧
      g1.bx S.next=some w.heap.size∧g1.bx (S.next + 1)=some (w.heap.size + 1):=by
  unfold acp at h
  split at h <;> simp at h
  rename_i h1 h2
  subst h
  obtain ⟨g1,e1,i1,b1⟩:=new_ho hi h1 (h:=.dl true) (o:=.deferred (some [])) rfl
  have h2' : upd S.get S.next (.ho (.dl true)) (S.next + 1)=none:=by rw [aak _ _ (by omega)]; exact h2
  obtain ⟨g2,e2,i2,b2⟩:=new_ho i1 h2' (h:=.lp tm n ps.toList assign body .ready none)
    (o:=.loop { state:=.ready,pending:=none,fn,tmps,params:=ps,assign,body,defers:=w.heap.size }) ⟨_,rfl,rfl,rfl,rfl,rfl,rfl,⟨hn,hnb,hok.1,hok.2⟩,hf.ext e1⟩
  have hst:(({ S with next:=S.next + 16 }:St).did [S.next,S.next + 1] [(S.next, .ho (.dl true)),(S.next + 1, .ho (.lp tm n ps.toList assign body .ready none))]).get =
      upd (upd S.get S.next (.ho (.dl true))) (S.next + 1) (.ho (.lp tm n ps.toList assign body .ready none)):=aaB _ _ _
  refine ⟨g2,_,run_enterLoop_outer fn tmps ps assign body, ?_, ?_,e2.bx _ _ b1,by simpa using b2⟩
  · rw [hst]; exact e1.trans e2
  · rw [hst]; exact i2
def PendWp (F:Fence) (N:Nat) (P:Program) (Q:Exit→Act→World→Prop) (a:Act) (w:World):Option Code→Prop
  | none=>Q .normal a w
  | some c=>c.wpIn F N P Q a w
theorem pendX_wp {F:Fence} {N:Nat} {pend:Option Code} {x:XExit} (h:pendX pend=some x) {Q:Exit→Act→World→Prop} {a:Act} {w:World}
    (hQ:match x with | .normal=>Q .normal a w | .ret=>Q .ret a w | .exit i=>Q (.exit i) a w | .pan _=>True) :
    PendWp F N P Q a w pend:=by
  unfold pendX at h
  split at h <;> simp at h <;> subst h
  · exact hQ
  · exact wpIn_ret hQ
  · exact wpIn_exit hQ
theorem alT {gl:Tr AVal} (hC:aa6 P gl C) (hP:Fine P) (hnb:n≤glBase) {k N:Nat} {rd:Bool} {ro:Option Nat} (hro:rd=false→ro=none) :
    ∀ (c:Code) {Q:Exit→Act→World→Prop} {fr fr' : Fr} {S S' : St} {x:XExit} {g:Sg} {w:World} {a:Act},codeOk c=true →
    evCode C imp P k n rd c fr S=some (x,fr',S')→Inv g S.get w→Glob gl g.imm w→Frm g S.get w fr.tm a.tmps→RepD g S.get w fr.dfs a.defers→n≤a.tmps.size →
    (∀ e a' w',Left g S.get w a x fr'.tm fr'.dfs S' e a' w' → Q e a' w')→c.wpIn (Fw ro) N P Q a w:=by
  intro c
  induction c with
  | skip =>
    intro Q fr fr' S S' x g w a _ h hi hG hf hd hn hQ
    simp [evCode] at h
    obtain ⟨rfl,rfl,rfl⟩:=h
    exact wpIn_skip (hQ .normal a w (Here.refl hi hf hd))
  | label l =>
    intro Q fr fr' S S' x g w a _ h hi hG hf hd hn hQ
    simp [evCode] at h
    obtain ⟨rfl,rfl,rfl⟩:=h
    exact wpIn_label (hQ .normal a w (Here.refl hi hf hd))
  | region id ops draw =>
    intro Q fr fr' S S' x g w a hok h hi hG hf hd hn hQ
    simp only [evCode] at h
    exact region_wp hC hP hnb hro (fun hd=>by subst hd; exact hok) h hi hG hf hd hn hQ
  | seq c1 c2 ih1 ih2 =>
    intro Q fr fr' S S' x g w a hok h hi hG hf hd hn hQ
    simp only [codeOk,Bool.and_eq_true] at hok
    simp only [evCode] at h
    split at h
    · rename_i fr1 S1 h1
      refine wpIn_seq (ih1 hok.1 h1 hi hG hf hd hn fun e a1 w1 hl=>?_)
      cases e <;> simp only [Left] at hl
      obtain ⟨⟨g1,e1,e2,e3,e4⟩,e5⟩:=hl
      exact ih2 hok.2 h e2 (hG.ext e1) e3 e4 (by omega) fun e a2 w2 h2=>hQ e a2 w2 (Left.after e1 e5 h2)
    · rename_i hno
      refine wpIn_seq (ih1 hok.1 h hi hG hf hd hn fun e a1 w1 hl=>?_)
      cases e with
      | normal =>
        cases x <;> simp only [Left] at hl
        exact absurd h (hno _ _)
      | _=>exact hQ _ _ _ hl
  | cond o c1 c2 ih1 ih2 =>
    intro Q fr fr' S S' x g w a hok h hi hG hf hd hn hQ
    simp only [codeOk,Bool.and_eq_true] at hok
    simp only [evCode] at h
    split at h
    · rename_i hc
      exact wpIn_cond_true (aac hf hc) (ih1 hok.1 h hi hG hf hd hn hQ)
    · rename_i hc
      exact wpIn_cond_false (aac hf hc) (ih2 hok.2 h hi hG hf hd hn hQ)
    · simp at h
  | block id c ih =>
    intro Q fr fr' S S' x g w a hok h hi hG hf hd hn hQ
    simp only [codeOk] at hok
    simp only [evCode] at h
    split at h
    · rename_i i fr1 S1 h1
      refine wpIn_block (ih hok h1 hi hG hf hd hn fun e a1 w1 hl=>?_)
      cases e <;> simp only [Left] at hl
      rename_i j
      obtain ⟨rfl,hl⟩:=hl
      simp only [Exit.inBlock]
      split at h
      · rename_i hb
        have hb:=Nat.eq_of_beq_eq_true hb
        simp at h
        obtain ⟨rfl,rfl,rfl⟩:=h
        rw [if_pos hb]
        exact hQ .normal _ _ hl
      · rename_i hb
        simp at h
        obtain ⟨rfl,rfl,rfl⟩:=h
        rw [if_neg (fun e=>by subst e; rw [Nat.beq_refl] at hb; simp at hb)]
        exact hQ (.exit i) _ _ ⟨rfl,hl⟩
    · rename_i hno
      refine wpIn_block (ih hok h hi hG hf hd hn fun e a1 w1 hl=>?_)
      cases e with
      | exit j =>
        cases x <;> simp only [Left] at hl
        exact absurd h (hno _ _ _)
      | _=>exact hQ _ _ _ hl
  | loop c ih =>
    intro Q fr fr' S S' x g w a hok h hi hG hf hd hn hQ
    simp only [codeOk] at hok
    simp only [evCode] at h
    let J:Nat→Act→World→Prop:=fun j a1 w1=>∃ fr1 S1,loopN (evCode C imp P k n rd c) j fr1 S1=some (x,fr',S')∧Here g S.get w a fr1.tm fr1.dfs S1.get a1 w1
    refine ah3 J (j:=k) ?_ ⟨fr,S,h,Here.refl hi hf hd⟩
    rintro j a1 w1 ⟨fr1,S1,h1,hh⟩
    obtain ⟨⟨g1,e1,e2,e3,e4⟩,e5⟩:=hh
    cases j with
    | zero=>simp [loopN] at h1
    | succ j =>
      simp only [loopN] at h1
      split at h1
      · rename_i fr2 S2 h2
        refine ih hok h2 e2 (hG.ext e1) e3 e4 (by omega) fun e a2 w2 hl=>?_
        cases e <;> simp only [Left] at hl
        exact ⟨j,Nat.lt_succ_self j,fr2,S2,h1,Here.then e1 e5 hl⟩
      · rename_i hno
        refine ih hok h1 e2 (hG.ext e1) e3 e4 (by omega) fun e a2 w2 hl=>?_
        cases e with
        | normal =>
          cases x <;> simp only [Left] at hl
          exact absurd h1 (hno _ _)
        | _=>exact hQ _ _ _ (Left.after e1 e5 hl)
  | exit id =>
    intro Q fr fr' S S' x g w a _ h hi hG hf hd hn hQ
    simp [evCode] at h
    obtain ⟨rfl,rfl,rfl⟩:=h
    exact wpIn_exit (hQ (.exit id) a w ⟨rfl,Here.refl hi hf hd⟩)
  | scope c ih =>
    intro Q fr fr' S S' x g w a hok h hi hG hf hd hn hQ
    simp only [codeOk] at hok
    simp only [evCode] at h
    split at h <;> try (simp at h; done)
    obtain rfl:=hro rfl
    refine wpIn_scope (ih hok h hi hG hf hd hn fun e a1 w1 hl=>?_)
    cases e with
    | goto l=>cases x <;> simp only [Left] at hl
    | _=>exact hQ _ _ _ hl
  | ret =>
    intro Q fr fr' S S' x g w a _ h hi hG hf hd hn hQ
    simp [evCode] at h
    obtain ⟨rfl,rfl,rfl⟩:=h
    exact wpIn_ret (hQ .ret a w (Here.refl hi hf hd))
  | rangeFunc go ps assign body ih1 ih2 =>
    intro Q fr fr' S S' x g w a hok h hi hG hf hd hn hQ
    simp only [evCode] at h
    split at h <;> try (simp at h; done)
    rename_i gv hgv
    split at h <;> try (simp at h; done)
    rename_i f cap hfn
    split at h <;> try (simp at h; done)
    rename_i s1 hst
    obtain rfl:=hro rfl
    obtain ⟨vs,v1,v2⟩:=anh (aac hf hgv) hfn
    refine wpIn_rangeFunc fun fn _=>?_
    obtain ⟨g1,w1,r1,e1,i1,b1,b2⟩:=start_run (P:=P) hi hnb hf hn (by simpa [codeOk] using hok) hst fn
    have hargs:RepAs g1 s1.get w1 (.rf .yld (S.next + 1) :: cap) (.func (.yield (w.heap.size + 1)) #[] #[] :: vs):=⟨_,_,rfl,⟨_,b2,rfl⟩,RepAs.ext e1 _ _ v2⟩
    unfold aka at h
    split at h
    · rename_i rv s2 hcall
      obtain ⟨hb,hcl⟩:=hC.fn _ _ _ _ _ _ _ hcall i1 (hG.ext e1) hargs
      split at h <;> try (simp at h; done)
      rename_i tm' n' ps' as' bd' st pend hget
      have key:st ≠ .busy∧pendX pend=some x∧fr' = { fr with dfs:=.mark S.next :: fr.dfs }∧S' = s2.did [S.next + 1] [(S.next + 1, .ho (.lp tm' n' ps' as' bd' .exhausted pend))]:=by
        split at h <;> simp at h
        rename_i hno hpx
        obtain ⟨rfl,rfl,rfl⟩:=h
        exact ⟨fun e=>hno e,hpx,rfl,rfl⟩
      obtain ⟨k1,k2,rfl,rfl⟩:=key
      refine ⟨w.heap.size + 1,[{ target:=.collected w.heap.size,args:=#[] }],w1, { target:=.fn (.func f) vs.toArray,args:=#[.func (.yield (w.heap.size + 1)) #[] #[]] },w1,f,
        (.func (.yield (w.heap.size + 1)) #[] #[] :: vs).toArray,w1,r1, ?_,fun _ _=>trivial, ?_,by simp [Fw,Fence.wide], ?_⟩
      · have e:resolve a.eval (rangeCall go (w.heap.size + 1)) 0=Deferred.ofValue (a.eval go) #[.func (.yield (w.heap.size + 1)) #[] #[]]:=by
          simp only [resolve,List.map_toArray,List.map_cons,List.map_nil]; rfl
        rw [e,v1]
        simp [Deferred.ofValue]
      · simp [invoke,abK hP.own hb]
      · refine CallsIn.mono (show CallsIn (Fw none) (N - 1) P f _ w1 _ from hcl.more (Nat.zero_le _)) fun e w3 hc=>?_
        cases e with
        | panicked chain=>exact hc.elim
        | outgrown=>exact hc.elim
        | returned u =>
          obtain ⟨g2,f1,f2,f3⟩:=hc
          have bl:=f1.bx _ _ b2
          obtain ⟨o,q1,r,rfl,q2,q3,q4,q5,q6,q7,q8⟩:=f2.at_ho hget bl
          obtain ⟨z1,z2⟩:=set_ho f2 hget bl (h:=.lp tm' n' ps' as' bd' .exhausted pend) (o:=.loop { r with state:=.exhausted }) ⟨_,rfl,rfl,q3,q4,q5,q6,q7,q8⟩
          have hs3:upd s2.get (S.next + 1) (.ho (.lp tm' n' ps' as' bd' .exhausted pend))=(s2.did [S.next + 1] [(S.next + 1, .ho (.lp tm' n' ps' as' bd' .exhausted pend))]).get:=by rw [aaB]; rfl
          rw [hs3] at z1 z2
          refine ⟨pend,_,by rw [← q3]; exact run_endLoop q1 (by rw [q2]; exact k1), ?_⟩
          have hext:=(e1.trans f1).trans z1
          have hh:Here g S.get w a fr.tm (.mark S.next :: fr.dfs) (s2.did [S.next + 1] [(S.next + 1, .ho (.lp tm' n' ps' as' bd' .exhausted pend))]).get
              { a with defers:=[{ target:=.collected w.heap.size,args:=#[] }] ++ a.defers } (w3.putObj (w.heap.size + 1) (.loop { r with state:=.exhausted })) :=
            ⟨⟨g2,hext,z2,hf.ext hext,⟨w.heap.size,a.defers,rfl,(f1.trans z1).bx _ _ b1,hd.ext hext⟩⟩,rfl⟩
          have:=pendX_wp (F:=Fw none) (N:=N) (P:=P) k2 (Q:=Q) (a:={ a with defers:=[{ target:=.collected w.heap.size,args:=#[] }] ++ a.defers })
            (w:=w3.putObj (w.heap.size + 1) (.loop { r with state:=.exhausted })) (by
              cases x with
              | normal=>exact hQ .normal _ _ hh
              | ret=>exact hQ .ret _ _ hh
              | exit i=>exact hQ (.exit i) _ _ ⟨rfl,hh⟩
              | pan v=>trivial)
          cases pend with
          | none=>exact this
          | some c=>exact this
    · rename_i v s2 hcall
      obtain ⟨hb,hcl⟩:=hC.fn _ _ _ _ _ _ _ hcall i1 (hG.ext e1) hargs
      simp at h
      obtain ⟨rfl,rfl,rfl⟩:=h
      refine ⟨w.heap.size + 1,[{ target:=.collected w.heap.size,args:=#[] }],w1, { target:=.fn (.func f) vs.toArray,args:=#[.func (.yield (w.heap.size + 1)) #[] #[]] },w1,f,
        (.func (.yield (w.heap.size + 1)) #[] #[] :: vs).toArray,w1,r1, ?_,fun _ _=>trivial, ?_,by simp [Fw,Fence.wide], ?_⟩
      · have e:resolve a.eval (rangeCall go (w.heap.size + 1)) 0=Deferred.ofValue (a.eval go) #[.func (.yield (w.heap.size + 1)) #[] #[]]:=by
          simp only [resolve,List.map_toArray,List.map_cons,List.map_nil]; rfl
        rw [e,v1]
        simp [Deferred.ofValue]
      · simp [invoke,abK hP.own hb]
      · refine CallsIn.mono (show CallsIn (Fw none) (N - 1) P f _ w1 _ from hcl.more (Nat.zero_le _)) fun e w3 hc=>?_
        cases e with
        | returned u=>exact hc.elim
        | outgrown=>exact hc.elim
        | panicked chain =>
          obtain ⟨g2,u,rfl,f1,f2,f3⟩:=hc
          have hext:=e1.trans f1
          exact hQ (.panic _) _ _ ⟨⟨g2,u,rfl,hext,f2,f3,hf.ext hext,⟨w.heap.size,a.defers,rfl,f1.bx _ _ b1,hd.ext hext⟩⟩,rfl⟩
    · simp at h
  | _ =>
    intro Q fr fr' S S' x g w a _ h
    simp [evCode] at h
end
end Go.Proofs.YtdnbnpknpejpdaaGreatDoor.Sw
