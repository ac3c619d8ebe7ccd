/- What the functions of the law return, whatever the kind and the value. -/
import Derived.Test.YtdnbnpknpejpdaaGreatDoorLawA
set_option linter.unusedVariables false
set_option linter.unusedSimpArgs false
set_option linter.unusedSectionVars false
namespace Go.Proofs.YtdnbnpknpejpdaaGreatDoor
open Go Go.Proofs.YtdnbnpknpejpdaaGreatDoor.Sw
theorem aqb {k:Nat} {rec:Rec1} {ts:Tds} {kx:aga→Option AVal} {z1 z2 z3 z4:Int} {s1 s2:List Nat} {p q:PVal} {xs:List PVal} (hs:IsSl p xs) (hx:xs.length < 100000) :
    ∀ {xs2:List PVal} {ks2:List Iv.V} (xs1:List PVal) (acc:List PVal) (j:Nat),IsVs xs2 ks2→xs=xs1 ++ xs2→xs2.length < j→acc.length=xs1.length →
      (∀ x k',k' ∈ ks2→IsV x k' → rec abE [x]=some (.p (encV k'))) →
      abC k rec ts kx j (.b acc.length p ((xs.length:Nat):Int) (Int.ofNat xs1.length) z1 z2 s1 q z3 z4 s2 acc)=kx (.b (acc ++ encVs ks2).length z1 z2 s1 q z3 z4 s2 (acc ++ encVs ks2))
  | [],_,xs1,acc,j, .nil,he,hj,ha,_=>by
    obtain ⟨j,rfl⟩:∃ j',j=j' + 1:=⟨j - 1,by omega⟩
    subst he
    simp only [abC,aea,dlt,List.append_nil,Nat.lt_irrefl,decide_false,ifB_f,encVs]
  | x :: xs2,k2 :: ks2,xs1,acc,j, .cons hk hr,he,hj,ha,hrec=>by
    obtain ⟨j,rfl⟩:∃ j',j=j' + 1:=⟨j - 1,by omega⟩
    have hlt:xs1.length < xs.length:=by rw [he]; simp
    have hr1:=hrec x k2 (by simp) hk
    have ih:=aqb (k:=k) (rec:=rec) (ts:=ts) (kx:=kx) (z1:=z1) (z2:=z2) (z3:=z3) (z4:=z4) (s1:=s1) (s2:=s2) (q:=q) hs hx (xs1 ++ [x]) (acc ++ [encV k2]) j hr (by rw [he]; simp) (by simp at hj; omega) (by simp [ha]) (fun x k' h=>hrec x k' (List.mem_cons_of_mem _ h))
    rw [List.length_append,List.length_singleton,List.length_append,List.length_singleton] at ih
    rw [encVs]
    cases k2 with
    | mk kk nn tt pp =>
    rw [encV] at hr1 ih ⊢
    cases hk with
    | mk hs2 hk2 =>
      simp only [abC,aea,hs.slK,dlt,hlt,decide_true,ifB_t,aal,aao (abf he),kK,vK,aah,aab,aad,aam,aae,hr1,aag,pK_p]
      rw [aax (by omega),ih]
      have hb:Nat.ble ((acc.length + 1) * 56) 1099511627776=true:=ble_of (by omega)
      rw [hb,ad5]
      show kx _=_
      simp
theorem copied_F {lk:Nat} {rec:Rec1} {x:PVal} {v:Iv.V} (hv:IsV x v) (hn:v.nodes < 1000) (hlk:1000 < lk)
    (hrec:∀ x v',v'.nodes < v.nodes→IsV x v' → rec abE [x]=some (.p (encV v'))):aqv lk rec x=some (.p (encV v)):=by
  cases hv with
  | mk hs hl =>
    rename_i kd n t p xs l
    have e1:=hl.len
    have h2:=lenV (l:=l)
    rw [nodesV] at hn
    have hrec2:∀ x k',k' ∈ l→IsV x k' → rec abE [x]=some (.p (encV k')):=fun x k' hk'=>hrec x k' (by have:=memV hk'; rw [nodesV]; omega)
    simp only [aqv,al7,kK,vK,aah,aab,aad,aam,aae,hs.slK]
    obtain ⟨lk',rfl⟩:∃ l,lk=l + 1:=⟨lk - 1,by omega⟩
    cases hl with
    | nil=>rfl
    | @cons y k0 xr kr hk0 hkr =>
      have hr1:=hrec2 y k0 (by simp) hk0
      have lp:=fun kx=>aqb (k:=lk' + 1) (rec:=rec) (ts:=tds (lk' + 1) rec (lk' + 1)) (kx:=kx) (z1:=kd) (z2:=n) (z3:=Int.ofNat 0) (z4:=Int.ofNat 0) (s1:=t) (s2:=[]) (q:=p) hs (by omega) [y] [encV k0] lk' hkr rfl (by simp at e1 h2; omega) rfl (fun x k' h=>hrec2 x k' (List.mem_cons_of_mem _ h))
      rw [encV,encVs]
      cases k0 with
      | mk kk nn tt pp =>
      rw [encV] at hr1 lp ⊢
      cases hk0 with
      | mk hs2 hk2 =>
        have hlt:∀ y:PVal,decide (Int.ofNat 0 < (((y :: xr).length:Nat):Int))=true:=fun y=>dlt.trans (by simp)
        rw [abC]
        simp only [aea,hs.slK,hlt,ifB_t,aal,aao (show (_ :: xr)[0]? = some _ from rfl),kK,vK,aah,aab,aad,aam,aae,hr1,aag,pK_p]
        refine (show _=abC _ _ _ _ _ _ from rfl).trans ((lp _).trans ?_)
        simp only [List.drop_zero,List.take_length,Nat.zero_add,ble_of (Nat.le_refl _),chk_t]
        rfl
theorem ahk:∀ (l:List Iv.V),widths true 4 (encVs l)=true
  | []=>rfl
  | .mk k n t p :: r=>by
    rw [encVs,encV]
    exact ahk r
theorem aaW:∀ {l:List Iv.V},(encVs l).length=l.length
  | []=>rfl
  | v :: r=>by simp [encVs,aaW (l:=r)]
theorem ae3:∀ (l m:List Iv.V),encVs (l ++ m)=encVs l ++ encVs m
  | [],_=>rfl
  | v :: r,m=>by simp [encVs,ae3 r m]
theorem clip_nil {lk:Nat} {rec:Rec1}:F_Clp lk rec .nils=some (.p .nils):=rfl
theorem clip_F {lk:Nat} {rec:Rec1} {l:List Iv.V} (hl:l ≠ []):F_Clp lk rec (.sl (encVs l))=some (.cl (encVs l)):=by
  cases l with
  | nil=>exact absurd rfl hl
  | cons v r =>
    simp only [F_Clp,FF_Clp,slK_sl,nslK_sl,ble_of (Nat.le_refl _),ad5,chk_t,List.drop_zero,Nat.sub_zero,List.take_length]
    cases v
    rfl
theorem clone_nil {lk:Nat} {rec:Rec1}:F_Cln lk rec .nils=some (.p .nils):=rfl
theorem clone_F {lk:Nat} {rec:Rec1} {l:List Iv.V} (hl:l ≠ []) (hn:l.length < 1000):F_Cln lk rec (.sl (encVs l))=some (.p (.sl (encVs l))):=by
  have e1:=aaW (l:=l)
  have hw:=ahk l
  simp only [F_Cln,FF_Cln,slK_sl,nilSK_sl,ifB_f,hw,chk_t]
  cases l with
  | nil=>exact absurd rfl hl
  | cons v r =>
    rw [encVs] at e1 ⊢
    simp only [listK_cons,List.nil_append,Nat.zero_add,List.drop_zero,List.take_length,ble_of (Nat.le_refl _),chk_t]
    rw [ble_of (by rw [e1]; simp at hn ⊢; omega)]
    rfl
theorem number_F {lk:Nat} {rec:Rec1} {z:Int}:aqt lk rec (.int .i64 z)=some (.p (encV (Iv.intV z))):=by
  simp only [aqt,al5,aad,Iv.intV,encV,encVs,encS]
  rfl
theorem composed_F {lk:Nat} {rec:Rec1} {z:Int} {p:PVal} (hr:rec i_Cln [p]=some (.p p)) (hp:∃ l,IsSl p l):aja lk rec (.int .i64 z) p=some (.p (.agg [.int .i64 z,I 0, .str [],p])):=by
  simp only [aja,ahc,aad,hr,aag,pK_p]
  obtain ⟨l,hp⟩:=hp
  cases hp <;> rfl
structure LF (rec:Rec1):Prop where
  clip0:rec i_Clp [.nils]=some (.p .nils)
  clip:∀ l:List Iv.V,l ≠ []→l.length≤40→rec i_Clp [.sl (encVs l)]=some (.cl (encVs l))
  clone:∀ l:List Iv.V,l ≠ []→l.length≤40→rec i_Cln [.sl (encVs l)]=some (.p (.sl (encVs l)))
  comp0:∀ z,rec abe [.int .i64 z, .nils]=some (.p (.agg [.int .i64 z,I 0, .str [], .nils]))
  comp:∀ z (l:List Iv.V),l ≠ []→l.length≤40→rec abe [.int .i64 z, .sl (encVs l)]=some (.p (.agg [.int .i64 z,I 0, .str [], .sl (encVs l)]))
  number:∀ z,rec agN [.int .i64 z]=some (.p (encV (Iv.intV z)))
section
variable {k:Nat} {rec:Rec1} {j:Nat}
theorem set_end {α:Type} {l:List α} {a b:α}:List.set (l ++ [a]) (0 + l.length) b=l ++ [b]:=by simp
theorem rdo_f75_b' {α:Type} {K:aec→Option α} {b:Bool} {n:Nat} {l:List PVal}:abk (adI (.b b n l)) K=K (if b=true then .a n l else .b false n l):=by cases b <;> rfl
theorem putA {α:Type} {z1 z2:Int} {s:List Nat} {x:PVal} {K:aec→Option α}:bindK ((tds k rec (j + 1)).t_f75 (.a z1 z2 s x)) (fun r=>abk r K)=K (.a 1 [.agg [.int .i64 z1, .int .i64 z2, .str s,x]]):=rfl
theorem putB {α:Type} {z1 z2:Int} {s:List Nat} {x:PVal} {K:aec→Option α} {n:Nat} {l:List PVal} (hn:n=l.length) (hl:n < 100000) :
    bindK ((tds k rec (j + 1)).t_f75 (.b z1 z2 s x n l)) (fun r=>abk r K)=K (if n + 1≤32 then .a (n + 1) (l ++ [.agg [.int .i64 z1, .int .i64 z2, .str s,x]]) else .b false (n + 1) (l ++ [.agg [.int .i64 z1, .int .i64 z2, .str s,x]])):=by
  subst hn
  have h1:TS_f75 k rec (tds k rec j) (.b z1 z2 s x l.length l)=some (adI (.b (decide (l.length + 1≤32)) (l.length + 1) (l ++ [.agg [.int .i64 z1, .int .i64 z2, .str s,x]]))):=by
    simp only [TS_f75,ad5,chk_t]
    rw [ble_of (by omega),blt_of (by omega),blt_of (by simp),chk_t,chk_t,chk_t]
    rw [aao (x:=(.agg [(.int .i64 (Int.ofNat 0)),(.int .i64 (Int.ofNat 0)),(.str []), .nils])) (by simp)]
    simp only [kK,vK,aah,set_end]
    rw [show decide ((((l.length + 1):Nat):Int)≤(Int.ofNat 32))=decide (l.length + 1≤32) from dle]
    rfl
  show bindK (TS_f75 k rec (tds k rec j) (.b z1 z2 s x l.length l)) _=_
  rw [h1,aag,rdo_f75_b']
  by_cases h:l.length + 1≤32 <;> simp [h]
def app (ac ys:List PVal):Option (List PVal):=if ac.length + ys.length≤32 then some (ac ++ ys) else none
theorem agX {ac:List PVal} (h:ac.length≤32):app ac []=some ac:=by simp [app,h]
theorem aez {ac A B:List PVal} (h:app ac A=none):app ac (A ++ B)=none:=by
  unfold app at *
  split at h
  · simp at h
  · rename_i h; rw [if_neg]; simp; omega
theorem aey {ac A B ac' : List PVal} (h:app ac A=some ac'):ac'.length≤32∧app ac (A ++ B)=app ac' B:=by
  unfold app at *
  split at h
  · simp at h; subst h
    rename_i h
    simp only [List.length_append,List.append_assoc,Nat.add_assoc]
    exact ⟨h,trivial⟩
  · simp at h
theorem ae6 {ac:List PVal} {x:PVal} (h:ac.length + 1≤32):app ac [x]=some (ac ++ [x]):=if_pos h
theorem aqi {ac:List PVal} {x:PVal} (h:¬ac.length + 1≤32):app ac [x]=none:=if_neg h
end
end Go.Proofs.YtdnbnpknpejpdaaGreatDoor
namespace Go.Proofs.YtdnbnpknpejpdaaGreatDoor
open Go Go.Proofs.YtdnbnpknpejpdaaGreatDoor.Sw
section
variable {k:Nat} {rec:Rec1} {j:Nat}
theorem putB_t {α:Type} {z1 z2:Int} {s:List Nat} {x:PVal} {K:aec→Option α} {l:List PVal} (h:l.length + 1≤32) :
    bindK ((tds k rec (j + 1)).t_f75 (.b z1 z2 s x l.length l)) (fun r=>abk r K)=K (.a (l.length + 1) (l ++ [.agg [.int .i64 z1, .int .i64 z2, .str s,x]])):=by
  rw [putB rfl (by omega),if_pos h]
theorem putB_f {α:Type} {z1 z2:Int} {s:List Nat} {x:PVal} {K:aec→Option α} {l:List PVal} (h:¬l.length + 1≤32) (hl:l.length≤32) :
    bindK ((tds k rec (j + 1)).t_f75 (.b z1 z2 s x l.length l)) (fun r=>abk r K)=K (.b false (l.length + 1) (l ++ [.agg [.int .i64 z1, .int .i64 z2, .str s,x]])):=by
  rw [putB rfl (by omega),if_neg h]
theorem ex_ifB {O:Type} {P:O→Prop} {f:O→Option XRes} {b:Bool} {X Y:Option XRes} (h:∃ o,X=f o∧P o) (h' : ∃ o,Y=f o∧P o):∃ o,ifB b X Y=f o∧P o:=by
  cases b
  · exact h'
  · exact h
theorem exK {E α:Type} {L:(E→Option α)→Option α} {Q:E→Prop} (h:∀ kx, ∃ e,L kx=kx e∧Q e) (C:Option α→Prop) {kx:E→Option α} (hk:∀ e,Q e→C (kx e)):C (L kx):=by
  obtain ⟨e,h1,h2⟩:=h kx
  rw [h1]
  exact hk e h2
def setP (bg:List PVal):PVal:=.agg [I 5,I 0, .str [],encS bg]
theorem setP_eq (l:List Iv.V):encV (Iv.setV l)=setP (encVs l):=by unfold Iv.setV encV; rfl
def i0 (bg:List PVal) (b:Bool) (ac:List PVal):In_r0:=match bg,ac with
  | [],[]=>.a b
  | x :: r,[]=>.b (x :: r).length (x :: r) b
  | x :: r,y :: s=>.c (x :: r).length (x :: r) b (y :: s).length (y :: s)
  | [],y :: s=>.d b (y :: s).length (y :: s)
inductive Y0 (b:Bool):List PVal→Option (List PVal)→Out_r0→Prop where
  | a {ac:List PVal}:Y0 b [] (some ac) (.a b ac.length ac)
  | b {n:Nat} {l:List PVal}:Y0 b [] none (.b false n l)
  | c {x:PVal} {r:List PVal} {m:Nat} {ac:List PVal}:Y0 b (x :: r) (some ac) (.c (x :: r) m b ac.length ac)
  | d {x:PVal} {r:List PVal} {m n:Nat} {l:List PVal}:Y0 b (x :: r) none (.d (x :: r) m false n l)
theorem aho {α:Type} (o:Out_r0) (K:Out_r0→Option α):rdo_r0 (mko_r0 o) K=K o:=by cases o <;> rfl
theorem r0_ok (F:LF rec) (bg:List Iv.V) (hb:bg.length≤40) (b:Bool) (ac:List PVal) (ha:ac.length≤32) :
    ∃ o,(tds k rec (j + 2)).t_r0 (i0 (encVs bg) b ac)=some (mko_r0 o)∧Y0 b (encVs bg) (app ac [encV (Iv.setV bg)]) o:=by
  show ∃ o,TS_r0 k rec (tds k rec (j + 1)) _=_∧_
  rw [setP_eq]
  cases bg with
  | nil =>
    have h:=F.comp0 (Int.ofNat 5)
    cases ac with
    | nil =>
      simp only [encVs,i0,TS_r0,h,aag,pK_p,kK,vK,aah,aab,aad,aam,aae,putA]
      rw [ae6 (by simp)]
      exact ⟨.a b 1 [setP []],rfl, .a⟩
    | cons y s =>
      by_cases hh:(y :: s).length + 1≤32
      · simp only [encVs,i0,TS_r0,h,aag,pK_p,kK,vK,aah,aab,aad,aam,aae,putB_t hh]
        rw [ae6 hh]
        exact ⟨.a b ((y :: s).length + 1) _,rfl,by have:=@Y0.a b ((y :: s) ++ [setP []]); rw [List.length_append] at this; exact this⟩
      · simp only [encVs,i0,TS_r0,h,aag,pK_p,kK,vK,aah,aab,aad,aam,aae,putB_f hh ha,Bool.not_false,ifB_t]
        rw [aqi hh]
        exact ⟨.b false _ _,rfl, .b⟩
  | cons v r =>
    have h:=F.comp (Int.ofNat 5) (v :: r) (by simp) hb
    have hne:encVs (v :: r) ≠ []:=by rw [encVs]; simp
    generalize encVs (v :: r)=bp at h hne ⊢
    cases bp with
    | nil=>exact absurd rfl hne
    | cons x t =>
      cases ac with
      | nil =>
        simp only [i0,TS_r0,Nat.zero_add,ble_of (Nat.le_refl _),chk_t,List.drop_zero,List.take_length,h,aag,pK_p,kK,vK,aah,aab,aad,aam,aae,putA]
        rw [ae6 (by simp)]
        exact ex_ifB ⟨.c (x :: t) 0 b 1 [setP (x :: t)],rfl, .c⟩ ⟨.c (x :: t) (x :: t).length b 1 [setP (x :: t)],rfl, .c⟩
      | cons y s =>
        by_cases hh:(y :: s).length + 1≤32
        · simp only [i0,TS_r0,Nat.zero_add,ble_of (Nat.le_refl _),chk_t,List.drop_zero,List.take_length,h,aag,pK_p,kK,vK,aah,aab,aad,aam,aae,putB_t hh]
          rw [ae6 hh]
          have e:∀ m,Y0 b (x :: t) (some ((y :: s) ++ [setP (x :: t)])) (.c (x :: t) m b ((y :: s).length + 1) ((y :: s) ++ [setP (x :: t)])):=fun m=>by
            have:=@Y0.c b x t m ((y :: s) ++ [setP (x :: t)])
            rw [List.length_append] at this; exact this
          exact ex_ifB ⟨.c (x :: t) 0 b ((y :: s).length + 1) _,rfl,e _⟩ ⟨.c (x :: t) (x :: t).length b ((y :: s).length + 1) _,rfl,e _⟩
        · simp only [i0,TS_r0,Nat.zero_add,ble_of (Nat.le_refl _),chk_t,List.drop_zero,List.take_length,h,aag,pK_p,kK,vK,aah,aab,aad,aam,aae,putB_f hh ha,Bool.not_false,ifB_t]
          rw [aqi hh]
          exact ex_ifB ⟨.d (x :: t) 0 false _ _,rfl, .d⟩ ⟨.d (x :: t) (x :: t).length false _ _,rfl, .d⟩
def i127 (bg:List PVal) (fr mn:Int) (x:PVal) (b:Bool) (ac:List PVal):aeQ:=match bg,ac with
  | [],[]=>.a fr mn x b
  | y :: r,[]=>.b (y :: r).length fr (y :: r) mn x b
  | y :: r,z :: s=>.c (y :: r).length fr (y :: r) mn x b (z :: s).length (z :: s)
  | [],z :: s=>.d fr mn x b (z :: s).length (z :: s)
theorem i127_snoc {y z:PVal} {r:List PVal} {fr mn:Int} {x:PVal} {b:Bool}:i127 ((y :: r) ++ [z]) fr mn x b [] = .b ((y :: r).length + 1) fr ((y :: r) ++ [z]) mn x b:=by simp [i127]
theorem i127_snoc' {y z u:PVal} {r s:List PVal} {fr mn:Int} {x:PVal} {b:Bool}:i127 ((y :: r) ++ [z]) fr mn x b (u :: s) = .c ((y :: r).length + 1) fr ((y :: r) ++ [z]) mn x b (u :: s).length (u :: s):=by simp [i127]
inductive Y127 (mn:Int) (x:PVal) (b:Bool):List PVal→Option (List PVal)→ab2→Prop where
  | a {y:PVal} {s:List PVal}:Y127 mn x b [] (some (y :: s)) (.a mn x b (y :: s).length (y :: s))
  | b {n:Nat} {l:List PVal}:Y127 mn x b [] none (.b mn x false n l)
  | c:Y127 mn x b [] (some []) (.c mn x b)
  | d {z:PVal} {r:List PVal} {m:Nat} {y:PVal} {s:List PVal}:Y127 mn x b (z :: r) (some (y :: s)) (.d (z :: r) m mn x b (y :: s).length (y :: s))
  | e {z:PVal} {r:List PVal} {m n:Nat} {l:List PVal}:Y127 mn x b (z :: r) none (.e (z :: r) m mn x false n l)
  | f {z:PVal} {r:List PVal} {m:Nat}:Y127 mn x b (z :: r) (some []) (.f (z :: r) m mn x b)
theorem abm {α:Type} (o:ab2) (K:ab2→Option α):aba (aaq o) K=K o:=by cases o <;> rfl
def ysOf (bg l:List Iv.V) (d:Nat):List PVal:=(Iv.combos l d).map fun c=>encV (Iv.setV (bg ++ c))
theorem aje (bg l:List Iv.V) (v:Iv.V) (d:Nat):ysOf bg (v :: l) (d + 1)=ysOf (bg ++ [v]) l d ++ ysOf bg l (d + 1):=by
  unfold ysOf
  rw [Iv.combos,List.map_append,List.map_map]
  congr 1
  simp [Function.comp_def]
theorem am3 (bg:List Iv.V) (d:Nat):ysOf bg [] (d + 1) = []:=rfl
theorem ysOf_zero (bg l:List Iv.V):ysOf bg l 0 = [encV (Iv.setV bg)]:=by
  unfold ysOf
  cases l <;> simp [Iv.combos]
theorem app_ne {y:PVal} {s ys:List PVal}:app (y :: s) ys ≠ some []:=by
  unfold app; split <;> simp
theorem aiO {all l1 l2:List Iv.V} {v:Iv.V} (h:all=l1 ++ v :: l2):(encVs all)[l1.length]? = some (encV v):=by
  subst h
  rw [ae3,encVs]
  exact ang rfl aaW.symm
theorem lt_enc {all l1 l2:List Iv.V} {v:Iv.V} (h:all=l1 ++ v :: l2):decide (Int.ofNat l1.length < (((encVs all).length:Nat):Int))=true:=by
  rw [dlt,aaW,h]; simp
theorem afM {all l1:List Iv.V} (h:all=l1):decide (Int.ofNat l1.length < (((encVs all).length:Nat):Int))=false:=by
  rw [dlt,aaW,h]; simp
theorem anj {α:Type} {all l1 l2:List α} {v:α} (h:all=l1 ++ v :: l2):all.drop (l1.length + 1)=l2:=by subst h; simp
def Put (ts:Tds) (all bg:List Iv.V) (d:Nat) (mn:Int) (x:PVal) (b:Bool):Prop:=∀ (v:Iv.V) (fr:Nat) (ac:List PVal),fr≤all.length→ac.length≤32 →
  ∃ o,ts.t_f127 (i127 (encVs (bg ++ [v])) (Int.ofNat fr) mn x b ac)=some (aaq o)∧Y127 mn x b (encVs (bg ++ [v])) (app ac (ysOf (bg ++ [v]) (all.drop fr) d)) o
def stA (fr mn:Int) (x:PVal) (b:Bool) (ac:List PVal):acC:=match ac with
  | []=>.a fr mn x b
  | y :: s=>.b fr mn x b (y :: s).length (y :: s)
inductive EA (mn:Int) (x:PVal) (b:Bool):Option (List PVal)→ahg→Prop where
  | a:EA mn x b (some []) (.a mn x b)
  | b {n:Nat} {l:List PVal}:EA mn x b none (.b mn x false n l)
  | c {y:PVal} {s:List PVal}:EA mn x b (some (y :: s)) (.c mn x b (y :: s).length (y :: s))
theorem loopA {ts:Tds} {kx:ahg→Option XRes} {x:PVal} {all:List Iv.V} {mn:Int} {b:Bool} {d:Nat} (F:LF rec) (hs:IsSl x (encVs all)) (hall:all.length≤32) (hrec:Put ts all [] d mn x b) :
    ∀ (l2 l1:List Iv.V) (jj:Nat) (ac:List PVal),all=l1 ++ l2→l2.length < jj→ac.length≤32 →
      ∃ e,acb k rec ts kx jj (stA (Int.ofNat l1.length) mn x b ac)=kx e∧EA mn x b (app ac (ysOf [] l2 (d + 1))) e
  | [],l1,jj,ac,he,hj,ha=>by
    obtain ⟨jj,rfl⟩:∃ j',jj=j' + 1:=⟨jj - 1,by omega⟩
    rw [am3,agX ha]
    have hf:=afM (all:=all) (l1:=l1) (by simpa using he)
    cases ac with
    | nil=>simp only [stA,acb,ae8,hs.slK,hf,ifB_f]; exact ⟨_,rfl, .a⟩
    | cons y s=>simp only [stA,acb,ae8,hs.slK,hf,ifB_f]; exact ⟨_,rfl, .c⟩
  | v :: l2,l1,jj,ac,he,hj,ha=>by
    obtain ⟨jj,rfl⟩:∃ j',jj=j' + 1:=⟨jj - 1,by omega⟩
    have ih:=loopA (ts:=ts) (kx:=kx) F hs hall hrec l2 (l1 ++ [v]) jj
    rw [List.length_append,List.length_singleton] at ih
    have hg:=aiO he
    have ht:=lt_enc he
    have hlen:l1.length + 1≤all.length:=by rw [he]; simp
    obtain ⟨o,h1,h2⟩:=hrec v (l1.length + 1) ac hlen ha
    rw [anj he] at h2
    rw [aje]
    cases v with
    | mk kk nn tt pp =>
    rw [encV] at hg
    have hap:∀ {ac'},app ac (ysOf ([] ++ [Iv.V.mk kk nn tt pp]) l2 d)=some ac' → ac'.length≤32∧app ac (ysOf ([] ++ [Iv.V.mk kk nn tt pp]) l2 d ++ ysOf [] l2 (d + 1))=app ac' (ysOf [] l2 (d + 1)):=fun h=>aey h
    have hapn:app ac (ysOf ([] ++ [Iv.V.mk kk nn tt pp]) l2 d)=none→app ac (ysOf ([] ++ [Iv.V.mk kk nn tt pp]) l2 d ++ ysOf [] l2 (d + 1))=none:=fun h=>aez h
    have hn:ac ≠ []→app ac (ysOf ([] ++ [Iv.V.mk kk nn tt pp]) l2 d) ≠ some []:=fun h=>by
      cases ac with
      | nil=>exact absurd rfl h
      | cons y s=>exact app_ne
    generalize app ac (ysOf ([] ++ [Iv.V.mk kk nn tt pp]) l2 d)=res at h2 hap hapn hn
    have hw:=aax (n:=l1.length) (by omega)
    cases ac with
    | nil =>
      have h1:ts.t_f127 (.b 1 (Int.ofNat (l1.length + 1)) [.agg [.int .i64 kk, .int .i64 nn, .str tt,encS (encVs pp)]] mn x b)=some (aaq o):=h1
      simp only [stA,acb,ae8,hs.slK,ht,ifB_t,F.clip0,aag,agD,aal,aao hg,kK,vK,aah,aab,aad,aam,aae,hw,h1,abm]
      have h2:Y127 mn x b [_] res o:=h2
      cases h2 with
      | d =>
        obtain ⟨q1,q2⟩:=hap rfl
        rw [q2]
        exact ih _ (by rw [he]; simp) (by simp at hj; omega) q1
      | e=>rw [hapn rfl]; exact ⟨_,rfl, .b⟩
      | f =>
        obtain ⟨q1,q2⟩:=hap rfl
        rw [q2]
        exact ih _ (by rw [he]; simp) (by simp at hj; omega) q1
    | cons y s =>
      have h1:ts.t_f127 (.c 1 (Int.ofNat (l1.length + 1)) [.agg [.int .i64 kk, .int .i64 nn, .str tt,encS (encVs pp)]] mn x b (y :: s).length (y :: s))=some (aaq o):=h1
      simp only [stA,acb,ae8,hs.slK,ht,ifB_t,F.clip0,aag,agD,aal,aao hg,kK,vK,aah,aab,aad,aam,aae,hw,h1,abm]
      have h2:Y127 mn x b [_] res o:=h2
      cases h2 with
      | d =>
        obtain ⟨q1,q2⟩:=hap rfl
        rw [q2]
        exact ih _ (by rw [he]; simp) (by simp at hj; omega) q1
      | e=>rw [hapn rfl]; exact ⟨_,rfl, .b⟩
      | f=>exact absurd rfl (hn (by simp))
inductive ED (mn:Int) (x:PVal) (b:Bool):Option (List PVal)→ahd→Prop where
  | a {n:Nat} {l:List PVal}:ED mn x b none (.a mn x false n l)
  | b {y:PVal} {s:List PVal}:ED mn x b (some (y :: s)) (.b mn x b (y :: s).length (y :: s))
theorem loopD {ts:Tds} {kx:ahd→Option XRes} {x:PVal} {all:List Iv.V} {mn:Int} {b:Bool} {d:Nat} (F:LF rec) (hs:IsSl x (encVs all)) (hall:all.length≤32) (hrec:Put ts all [] d mn x b) :
    ∀ (l2 l1:List Iv.V) (jj:Nat) (y:PVal) (s:List PVal),all=l1 ++ l2→l2.length < jj→(y :: s).length≤32 →
      ∃ e,adC k rec ts kx jj (.a (Int.ofNat l1.length) mn x b (y :: s).length (y :: s))=kx e∧ED mn x b (app (y :: s) (ysOf [] l2 (d + 1))) e
  | [],l1,jj,y,s,he,hj,ha=>by
    obtain ⟨jj,rfl⟩:∃ j',jj=j' + 1:=⟨jj - 1,by omega⟩
    rw [am3,agX ha]
    have hf:=afM (all:=all) (l1:=l1) (by simpa using he)
    simp only [adC,akl,hs.slK,hf,ifB_f]; exact ⟨_,rfl, .b⟩
  | v :: l2,l1,jj,y,s,he,hj,ha=>by
    obtain ⟨jj,rfl⟩:∃ j',jj=j' + 1:=⟨jj - 1,by omega⟩
    have ih:=loopD (ts:=ts) (kx:=kx) F hs hall hrec l2 (l1 ++ [v]) jj
    rw [List.length_append,List.length_singleton] at ih
    have hg:=aiO he
    have ht:=lt_enc he
    have hlen:l1.length + 1≤all.length:=by rw [he]; simp
    obtain ⟨o,h1,h2⟩:=hrec v (l1.length + 1) (y :: s) hlen ha
    rw [anj he] at h2
    rw [aje]
    cases v with
    | mk kk nn tt pp =>
    rw [encV] at hg
    have hap:∀ {ac'},app (y :: s) (ysOf ([] ++ [Iv.V.mk kk nn tt pp]) l2 d)=some ac' → ac'.length≤32∧app (y :: s) (ysOf ([] ++ [Iv.V.mk kk nn tt pp]) l2 d ++ ysOf [] l2 (d + 1))=app ac' (ysOf [] l2 (d + 1)):=fun h=>aey h
    have hapn:app (y :: s) (ysOf ([] ++ [Iv.V.mk kk nn tt pp]) l2 d)=none→app (y :: s) (ysOf ([] ++ [Iv.V.mk kk nn tt pp]) l2 d ++ ysOf [] l2 (d + 1))=none:=fun h=>aez h
    have hn:app (y :: s) (ysOf ([] ++ [Iv.V.mk kk nn tt pp]) l2 d) ≠ some []:=app_ne
    generalize app (y :: s) (ysOf ([] ++ [Iv.V.mk kk nn tt pp]) l2 d)=res at h2 hap hapn hn
    have hw:=aax (n:=l1.length) (by omega)
    have h1:ts.t_f127 (.c 1 (Int.ofNat (l1.length + 1)) [.agg [.int .i64 kk, .int .i64 nn, .str tt,encS (encVs pp)]] mn x b (y :: s).length (y :: s))=some (aaq o):=h1
    simp only [adC,akl,hs.slK,ht,ifB_t,F.clip0,aag,agD,aal,aao hg,kK,vK,aah,aab,aad,aam,aae,hw,h1,abm]
    have h2:Y127 mn x b [_] res o:=h2
    cases h2 with
    | d =>
      obtain ⟨q1,q2⟩:=hap rfl
      rw [q2]
      exact ih _ _ (by rw [he]; simp) (by simp at hj; omega) q1
    | e=>rw [hapn rfl]; exact ⟨_,rfl, .a⟩
    | f=>exact absurd rfl hn
end
end Go.Proofs.YtdnbnpknpejpdaaGreatDoor
namespace Go.Proofs.YtdnbnpknpejpdaaGreatDoor
open Go Go.Proofs.YtdnbnpknpejpdaaGreatDoor.Sw
section
variable {k:Nat} {rec:Rec1} {j:Nat}
def stB (n:Nat) (fr:Int) (bp:List PVal) (m:Nat) (mn:Int) (x:PVal) (b:Bool) (ac:List PVal):acB:=match ac with
  | []=>.a n fr bp m mn x b
  | y :: s=>.b n fr bp m mn x b (y :: s).length (y :: s)
inductive EB (bp:List PVal) (mn:Int) (x:PVal) (b:Bool):Option (List PVal)→ahf→Prop where
  | a {m:Nat}:EB bp mn x b (some []) (.a bp m mn x b)
  | b {m n:Nat} {l:List PVal}:EB bp mn x b none (.b bp m mn x false n l)
  | c {m:Nat} {y:PVal} {s:List PVal}:EB bp mn x b (some (y :: s)) (.c bp m mn x b (y :: s).length (y :: s))
theorem loopB {ts:Tds} {kx:ahf→Option XRes} {x:PVal} {all bg:List Iv.V} {mn:Int} {b:Bool} {d:Nat} (F:LF rec) (hs:IsSl x (encVs all)) (hall:all.length≤32) (hb:bg ≠ []) (hb2:bg.length≤40) (hrec:Put ts all bg d mn x b) :
    ∀ (l2 l1:List Iv.V) (jj m:Nat) (ac:List PVal),all=l1 ++ l2→l2.length < jj→ac.length≤32 →
      ∃ e,aca k rec ts kx jj (stB (encVs bg).length (Int.ofNat l1.length) (encVs bg) m mn x b ac)=kx e∧EB (encVs bg) mn x b (app ac (ysOf bg l2 (d + 1))) e
  | [],l1,jj,m,ac,he,hj,ha=>by
    obtain ⟨jj,rfl⟩:∃ j',jj=j' + 1:=⟨jj - 1,by omega⟩
    rw [am3,agX ha]
    have hf:=afM (all:=all) (l1:=l1) (by simpa using he)
    cases ac with
    | nil=>simp only [stB,aca,ae7,hs.slK,hf,ifB_f]; exact ⟨_,rfl, .a⟩
    | cons y s=>simp only [stB,aca,ae7,hs.slK,hf,ifB_f]; exact ⟨_,rfl, .c⟩
  | v :: l2,l1,jj,m,ac,he,hj,ha=>by
    obtain ⟨jj,rfl⟩:∃ j',jj=j' + 1:=⟨jj - 1,by omega⟩
    have ih:=loopB (ts:=ts) (kx:=kx) F hs hall hb hb2 hrec l2 (l1 ++ [v]) jj
    rw [List.length_append,List.length_singleton] at ih
    have hg:=aiO he
    have ht:=lt_enc he
    have hlen:l1.length + 1≤all.length:=by rw [he]; simp
    obtain ⟨o,h1,h2⟩:=hrec v (l1.length + 1) ac hlen ha
    rw [anj he] at h2
    rw [aje]
    cases v with
    | mk kk nn tt pp =>
    rw [ae3] at h1 h2
    rw [encV] at hg
    have hap:∀ {ac'},app ac (ysOf (bg ++ [Iv.V.mk kk nn tt pp]) l2 d)=some ac' → ac'.length≤32∧app ac (ysOf (bg ++ [Iv.V.mk kk nn tt pp]) l2 d ++ ysOf bg l2 (d + 1))=app ac' (ysOf bg l2 (d + 1)):=fun h=>aey h
    have hapn:app ac (ysOf (bg ++ [Iv.V.mk kk nn tt pp]) l2 d)=none→app ac (ysOf (bg ++ [Iv.V.mk kk nn tt pp]) l2 d ++ ysOf bg l2 (d + 1))=none:=fun h=>aez h
    have hn:ac ≠ []→app ac (ysOf (bg ++ [Iv.V.mk kk nn tt pp]) l2 d) ≠ some []:=fun h=>by
      cases ac with
      | nil=>exact absurd rfl h
      | cons y s=>exact app_ne
    generalize app ac (ysOf (bg ++ [Iv.V.mk kk nn tt pp]) l2 d)=res at h2 hap hapn hn
    have hw:=aax (n:=l1.length) (by omega)
    have hc:=F.clip bg hb hb2
    have hwd:=ahk bg
    have hbl:=aaW (l:=bg)
    have hne:encVs bg ≠ []:=fun h=>hb (List.length_eq_zero_iff.1 (by rw [← hbl,h]; rfl))
    have hble:Nat.ble (((encVs bg).length + 1) * 56) 1099511627776=true:=ble_of (by omega)
    rw [encVs,encV,encVs] at h1 h2
    generalize encVs bg=bp at h1 h2 hc hwd hne hble ih ⊢
    cases bp with
    | nil=>exact absurd rfl hne
    | cons b0 br =>
    cases ac with
    | nil =>
      rw [i127_snoc] at h1
      simp only [stB,aca,ae7,hs.slK,ht,ifB_t,Nat.zero_add,ble_of (Nat.le_refl _),chk_t,List.drop_zero,List.take_length,hc,aag,alm,aal,aao hg,kK,vK,aah,aab,aad,aam,aae,hwd,hble,hw,h1,abm]
      generalize hq:(b0 :: br) ++ [PVal.agg [.int .i64 kk, .int .i64 nn, .str tt,encS (encVs pp)]]=q at h2
      cases h2 with
      | a=>simp at hq
      | b=>simp at hq
      | c=>simp at hq
      | d =>
        obtain ⟨q1,q2⟩:=hap rfl
        rw [q2]
        exact ih _ _ (by rw [he]; simp) (by simp at hj; omega) q1
      | e=>rw [hapn rfl]; exact ⟨_,rfl, .b⟩
      | f =>
        obtain ⟨q1,q2⟩:=hap rfl
        rw [q2]
        exact ih _ _ (by rw [he]; simp) (by simp at hj; omega) q1
    | cons y s =>
      rw [i127_snoc'] at h1
      simp only [stB,aca,ae7,hs.slK,ht,ifB_t,Nat.zero_add,ble_of (Nat.le_refl _),chk_t,List.drop_zero,List.take_length,hc,aag,alm,aal,aao hg,kK,vK,aah,aab,aad,aam,aae,hwd,hble,hw,h1,abm]
      generalize hq:(b0 :: br) ++ [PVal.agg [.int .i64 kk, .int .i64 nn, .str tt,encS (encVs pp)]]=q at h2
      cases h2 with
      | a=>simp at hq
      | b=>simp at hq
      | c=>simp at hq
      | d =>
        obtain ⟨q1,q2⟩:=hap rfl
        rw [q2]
        exact ih _ _ (by rw [he]; simp) (by simp at hj; omega) q1
      | e=>rw [hapn rfl]; exact ⟨_,rfl, .b⟩
      | f=>exact absurd rfl (hn (by simp))
inductive EC (bp:List PVal) (mn:Int) (x:PVal) (b:Bool):Option (List PVal)→ahe→Prop where
  | a {m n:Nat} {l:List PVal}:EC bp mn x b none (.a bp m mn x false n l)
  | b {m:Nat} {y:PVal} {s:List PVal}:EC bp mn x b (some (y :: s)) (.b bp m mn x b (y :: s).length (y :: s))
theorem loopC {ts:Tds} {kx:ahe→Option XRes} {x:PVal} {all bg:List Iv.V} {mn:Int} {b:Bool} {d:Nat} (F:LF rec) (hs:IsSl x (encVs all)) (hall:all.length≤32) (hb:bg ≠ []) (hb2:bg.length≤40) (hrec:Put ts all bg d mn x b) :
    ∀ (l2 l1:List Iv.V) (jj m:Nat) (y:PVal) (s:List PVal),all=l1 ++ l2→l2.length < jj→(y :: s).length≤32 →
      ∃ e,adD k rec ts kx jj (.a (encVs bg).length (Int.ofNat l1.length) (encVs bg) m mn x b (y :: s).length (y :: s))=kx e∧EC (encVs bg) mn x b (app (y :: s) (ysOf bg l2 (d + 1))) e
  | [],l1,jj,m,y,s,he,hj,ha=>by
    obtain ⟨jj,rfl⟩:∃ j',jj=j' + 1:=⟨jj - 1,by omega⟩
    rw [am3,agX ha]
    have hf:=afM (all:=all) (l1:=l1) (by simpa using he)
    simp only [adD,akm,hs.slK,hf,ifB_f]; exact ⟨_,rfl, .b⟩
  | v :: l2,l1,jj,m,y,s,he,hj,ha=>by
    obtain ⟨jj,rfl⟩:∃ j',jj=j' + 1:=⟨jj - 1,by omega⟩
    have ih:=loopC (ts:=ts) (kx:=kx) F hs hall hb hb2 hrec l2 (l1 ++ [v]) jj
    rw [List.length_append,List.length_singleton] at ih
    have hg:=aiO he
    have ht:=lt_enc he
    have hlen:l1.length + 1≤all.length:=by rw [he]; simp
    obtain ⟨o,h1,h2⟩:=hrec v (l1.length + 1) (y :: s) hlen ha
    rw [anj he] at h2
    rw [aje]
    cases v with
    | mk kk nn tt pp =>
    rw [ae3] at h1 h2
    rw [encV] at hg
    have hap:∀ {ac'},app (y :: s) (ysOf (bg ++ [Iv.V.mk kk nn tt pp]) l2 d)=some ac' → ac'.length≤32∧app (y :: s) (ysOf (bg ++ [Iv.V.mk kk nn tt pp]) l2 d ++ ysOf bg l2 (d + 1))=app ac' (ysOf bg l2 (d + 1)):=fun h=>aey h
    have hapn:app (y :: s) (ysOf (bg ++ [Iv.V.mk kk nn tt pp]) l2 d)=none→app (y :: s) (ysOf (bg ++ [Iv.V.mk kk nn tt pp]) l2 d ++ ysOf bg l2 (d + 1))=none:=fun h=>aez h
    have hn:app (y :: s) (ysOf (bg ++ [Iv.V.mk kk nn tt pp]) l2 d) ≠ some []:=app_ne
    generalize app (y :: s) (ysOf (bg ++ [Iv.V.mk kk nn tt pp]) l2 d)=res at h2 hap hapn hn
    have hw:=aax (n:=l1.length) (by omega)
    have hc:=F.clip bg hb hb2
    have hwd:=ahk bg
    have hbl:=aaW (l:=bg)
    have hne:encVs bg ≠ []:=fun h=>hb (List.length_eq_zero_iff.1 (by rw [← hbl,h]; rfl))
    have hble:Nat.ble (((encVs bg).length + 1) * 56) 1099511627776=true:=ble_of (by omega)
    rw [encVs,encV,encVs] at h1 h2
    generalize encVs bg=bp at h1 h2 hc hwd hne hble ih ⊢
    cases bp with
    | nil=>exact absurd rfl hne
    | cons b0 br =>
    rw [i127_snoc'] at h1
    simp only [adD,akm,hs.slK,ht,ifB_t,Nat.zero_add,ble_of (Nat.le_refl _),chk_t,List.drop_zero,List.take_length,hc,aag,alm,aal,aao hg,kK,vK,aah,aab,aad,aam,aae,hwd,hble,hw,h1,abm]
    generalize hq:(b0 :: br) ++ [PVal.agg [.int .i64 kk, .int .i64 nn, .str tt,encS (encVs pp)]]=q at h2
    cases h2 with
    | a=>simp at hq
    | b=>simp at hq
    | c=>simp at hq
    | d =>
      obtain ⟨q1,q2⟩:=hap rfl
      rw [q2]
      exact ih _ _ _ (by rw [he]; simp) (by simp at hj; omega) q1
    | e=>rw [hapn rfl]; exact ⟨_,rfl, .a⟩
    | f=>exact absurd rfl hn
theorem beq0_f {n:Nat} {m:Nat} (h:n ≠ m):(((n:Nat):Int) == Int.ofNat m)=false:=by simp; omega
theorem beq0_t {n:Nat}:(((n:Nat):Int) == Int.ofNat n)=true:=by simp
theorem cons_enc {bg:List Iv.V} {y:PVal} {s:List PVal} (h:encVs bg=y :: s):bg ≠ []:=fun e=>by rw [e,encVs] at h; cases h
theorem alk {bg:List Iv.V} (h:encVs bg = []):bg = []:=by cases bg with
  | nil=>rfl
  | cons v r=>rw [encVs] at h; cases h
theorem split_at {all:List Iv.V} {fr:Nat} (h:fr≤all.length):∃ l1,all=l1 ++ all.drop fr∧l1.length=fr:=⟨all.take fr,(List.take_append_drop fr all).symm,by simp; omega⟩
theorem p127 (F:LF rec) {x:PVal} {all:List Iv.V} (hs:IsSl x (encVs all)) (hall:all.length≤32) (hk:1000 < k) {mn:Nat} (hmn:mn≤40) {b:Bool} :
    ∀ (d:Nat) (bg:List Iv.V) (fr:Nat) (ac:List PVal) (j:Nat),bg.length + d=mn→fr≤all.length→ac.length≤32→d + 3≤j →
      ∃ o,(tds k rec j).t_f127 (i127 (encVs bg) (Int.ofNat fr) (Int.ofNat mn) x b ac)=some (aaq o)∧Y127 (Int.ofNat mn) x b (encVs bg) (app ac (ysOf bg (all.drop fr) d)) o
  | 0,bg,fr,ac,j,hd,hfr,ha,hj=>by
    obtain ⟨j,rfl⟩:∃ j',j=j' + 3:=⟨j - 3,by omega⟩
    rw [ysOf_zero]
    show ∃ o,adK k rec (tds k rec (j + 2)) _=_∧_
    have hl:=aaW (l:=bg)
    obtain ⟨o,h1,h2⟩:=r0_ok (k:=k) (j:=j) F bg (by omega) b ac ha
    have hn:ac ≠ []→app ac [encV (Iv.setV bg)] ≠ some []:=fun h=>by
      cases ac with
      | nil=>exact absurd rfl h
      | cons y s=>exact app_ne
    have hn2:app ac [encV (Iv.setV bg)] ≠ some []:=by unfold app; split <;> simp
    generalize app ac [encV (Iv.setV bg)]=res at h2 hn2 ⊢
    cases hbp:encVs bg with
    | nil =>
      rw [hbp] at hl h1 h2
      have hm:mn=0:=by simp at hl; omega
      subst hm
      cases ac with
      | nil =>
        have h1:(tds k rec (j + 2)).t_r0 (.a b)=some (mko_r0 o):=h1
        simp only [i127,adK,show (Int.ofNat 0 == Int.ofNat 0)=true from rfl,ifB_t,h1,aag,aho]
        cases h2 with
        | @a acc=>cases acc with
          | nil=>exact absurd rfl hn2
          | cons y s=>exact ⟨.a _ _ _ _ _,rfl, .a⟩
        | b=>exact ⟨.b _ _ _ _ _,rfl, .b⟩
      | cons z t =>
        have h1:(tds k rec (j + 2)).t_r0 (.d b (z :: t).length (z :: t))=some (mko_r0 o):=h1
        simp only [i127,adK,show (Int.ofNat 0 == Int.ofNat 0)=true from rfl,ifB_t,h1,aag,aho]
        cases h2 with
        | @a acc=>cases acc with
          | nil=>exact absurd rfl hn2
          | cons y s=>exact ⟨.a _ _ _ _ _,rfl, .a⟩
        | b=>exact ⟨.b _ _ _ _ _,rfl, .b⟩
    | cons b0 br =>
      rw [hbp] at hl h1 h2
      have hm:mn=(b0 :: br).length:=by omega
      subst hm
      cases ac with
      | nil =>
        have h1:(tds k rec (j + 2)).t_r0 (.b (b0 :: br).length (b0 :: br) b)=some (mko_r0 o):=h1
        simp only [i127,adK,beq0_t,ifB_t,h1,aag,aho]
        cases h2 with
        | @c _ _ _ acc=>cases acc with
          | nil=>exact absurd rfl hn2
          | cons y s=>exact ⟨.d _ _ _ _ _ _ _,rfl, .d⟩
        | d=>exact ⟨.e _ _ _ _ _ _ _,rfl, .e⟩
      | cons z t =>
        have h1:(tds k rec (j + 2)).t_r0 (.c (b0 :: br).length (b0 :: br) b (z :: t).length (z :: t))=some (mko_r0 o):=h1
        simp only [i127,adK,beq0_t,ifB_t,h1,aag,aho]
        cases h2 with
        | @c _ _ _ acc=>cases acc with
          | nil=>exact absurd rfl hn2
          | cons y s=>exact ⟨.d _ _ _ _ _ _ _,rfl, .d⟩
        | d=>exact ⟨.e _ _ _ _ _ _ _,rfl, .e⟩
  | d + 1,bg,fr,ac,j,hd,hfr,ha,hj=>by
    obtain ⟨j,rfl⟩:∃ j',j=j' + 1:=⟨j - 1,by omega⟩
    show ∃ o,adK k rec (tds k rec j) _=_∧_
    have hl:=aaW (l:=bg)
    have hp:Put (tds k rec j) all bg d (Int.ofNat mn) x b:=fun v fr' ac' hfr' ha'=>p127 F hs hall hk hmn d (bg ++ [v]) fr' ac' j (by simp; omega) hfr' ha' (by omega)
    obtain ⟨l1,e1,e2⟩:=split_at hfr
    have hlen:(all.drop fr).length < k:=by simp; omega
    subst e2
    cases hbp:encVs bg with
    | nil =>
      have:=alk hbp
      subst this
      have hc:(Int.ofNat 0 == Int.ofNat mn)=false:=beq0_f (n:=0) (by simp at hd; omega)
      cases ac with
      | nil =>
        simp only [i127,adK,hc,ifB_f]
        refine exK (L:=fun kx=>acb k rec (tds k rec j) kx k (stA (Int.ofNat l1.length) (Int.ofNat mn) x b [])) (fun kx=>loopA F hs hall hp _ l1 k [] e1 hlen ha) (fun r=>∃ o,r=some (aaq o)∧Y127 (Int.ofNat mn) x b [] _ o) ?_
        intro e hE
        generalize app _ (ysOf _ _ _)=res at hE ⊢
        cases hE with
        | a=>exact ⟨.c _ _ _,rfl, .c⟩
        | b=>exact ⟨.b _ _ _ _ _,rfl, .b⟩
        | c=>exact ⟨.a _ _ _ _ _,rfl, .a⟩
      | cons z t =>
        simp only [i127,adK,hc,ifB_f]
        refine exK (L:=fun kx=>adC k rec (tds k rec j) kx k (.a (Int.ofNat l1.length) (Int.ofNat mn) x b (z :: t).length (z :: t))) (fun kx=>loopD F hs hall hp _ l1 k z t e1 hlen ha) (fun r=>∃ o,r=some (aaq o)∧Y127 (Int.ofNat mn) x b [] _ o) ?_
        intro e hE
        generalize app _ (ysOf _ _ _)=res at hE ⊢
        cases hE with
        | a=>exact ⟨.b _ _ _ _ _,rfl, .b⟩
        | b=>exact ⟨.a _ _ _ _ _,rfl, .a⟩
    | cons b0 br =>
      have hb:=cons_enc hbp
      have hc:((((b0 :: br).length:Nat):Int) == Int.ofNat mn)=false:=beq0_f (by rw [hbp] at hl; omega)
      cases ac with
      | nil =>
        simp only [i127,adK,hc,ifB_f]
        have lp:=fun kx=>loopB (k:=k) (kx:=kx) F hs hall hb (by omega) hp _ l1 k 0 [] e1 hlen ha
        rw [hbp] at lp
        refine exK (L:=fun kx=>aca k rec (tds k rec j) kx k (stB (b0 :: br).length (Int.ofNat l1.length) (b0 :: br) 0 (Int.ofNat mn) x b [])) lp (fun r=>∃ o,r=some (aaq o)∧Y127 (Int.ofNat mn) x b (b0 :: br) _ o) ?_
        intro e hE
        generalize app _ (ysOf _ _ _)=res at hE ⊢
        cases hE with
        | a=>exact ⟨.f _ _ _ _ _,rfl, .f⟩
        | b=>exact ⟨.e _ _ _ _ _ _ _,rfl, .e⟩
        | c=>exact ⟨.d _ _ _ _ _ _ _,rfl, .d⟩
      | cons z t =>
        simp only [i127,adK,hc,ifB_f]
        have lp:=fun kx=>loopC (k:=k) (kx:=kx) F hs hall hb (by omega) hp _ l1 k 0 z t e1 hlen ha
        rw [hbp] at lp
        refine exK (L:=fun kx=>adD k rec (tds k rec j) kx k (.a (b0 :: br).length (Int.ofNat l1.length) (b0 :: br) 0 (Int.ofNat mn) x b (z :: t).length (z :: t))) lp (fun r=>∃ o,r=some (aaq o)∧Y127 (Int.ofNat mn) x b (b0 :: br) _ o) ?_
        intro e hE
        generalize app _ (ysOf _ _ _)=res at hE ⊢
        cases hE with
        | a=>exact ⟨.e _ _ _ _ _ _ _,rfl, .e⟩
        | b=>exact ⟨.d _ _ _ _ _ _ _,rfl, .d⟩
end
end Go.Proofs.YtdnbnpknpejpdaaGreatDoor
namespace Go.Proofs.YtdnbnpknpejpdaaGreatDoor
open Go Go.Proofs.YtdnbnpknpejpdaaGreatDoor.Sw
section
variable {k:Nat} {rec:Rec1} {j:Nat}
def i126 (mn:Int) (x:PVal) (b:Bool) (ac:List PVal):ag0:=match ac with
  | []=>.a mn x b
  | y :: s=>.b mn x b (y :: s).length (y :: s)
inductive Y126 (mn:Int) (x:PVal) (b:Bool):Option (List PVal)→adu→Prop where
  | a {y:PVal} {s:List PVal}:Y126 mn x b (some (y :: s)) (.a mn x b (y :: s).length (y :: s))
  | b {n:Nat} {l:List PVal}:Y126 mn x b none (.b mn x false n l)
  | c:Y126 mn x b (some []) (.c mn x b)
theorem amm {α:Type} (o:adu) (K:adu→Option α):ajw (aaZ o) K=K o:=by cases o <;> rfl
theorem anL {α:Type} (o:ai0) (K:ai0→Option α):anN (aeM o) K=K o:=by cases o <;> rfl
theorem f79_ok {x:PVal} {l:List PVal} (hs:IsSl x l) {z:Int}:(tds k rec (j + 1)).t_f79 (.a x z)=some (aeM (.a z x)):=by cases hs <;> rfl
theorem f126_ok (F:LF rec) {x:PVal} {all:List Iv.V} (hs:IsSl x (encVs all)) (hall:all.length≤32) (hk:1000 < k) {mn:Nat} (hmn:mn≤40) {b:Bool} (ac:List PVal) (ha:ac.length≤32) (hj:mn + 4≤j) :
    ∃ o,(tds k rec j).t_f126 (i126 (Int.ofNat mn) x b ac)=some (aaZ o)∧Y126 (Int.ofNat mn) x b (app ac (ysOf [] all mn)) o:=by
  obtain ⟨j,rfl⟩:∃ j',j=j' + 1:=⟨j - 1,by omega⟩
  show ∃ o,aql k rec (tds k rec j) _=_∧_
  obtain ⟨o,h1,h2⟩:=p127 F hs hall hk hmn (b:=b) mn [] 0 ac j (by simp) (by omega) ha (by omega)
  rw [List.drop_zero] at h2
  cases ac with
  | nil =>
    have h1:(tds k rec j).t_f127 (.a (Int.ofNat 0) (Int.ofNat mn) x b)=some (aaq o):=h1
    simp only [i126,aql,h1,aag,abm]
    have h2:Y127 (Int.ofNat mn) x b [] _ o:=h2
    generalize app [] (ysOf [] all mn)=res at h2 ⊢
    cases h2 with
    | a=>exact ⟨.a _ _ _ _ _,rfl, .a⟩
    | b=>exact ⟨.b _ _ _ _ _,rfl, .b⟩
    | c=>exact ⟨.c _ _ _,rfl, .c⟩
  | cons y s =>
    have hn:app (y :: s) (ysOf [] all mn) ≠ some []:=app_ne
    have h1:(tds k rec j).t_f127 (.d (Int.ofNat 0) (Int.ofNat mn) x b (y :: s).length (y :: s))=some (aaq o):=h1
    simp only [i126,aql,h1,aag,abm]
    have h2:Y127 (Int.ofNat mn) x b [] _ o:=h2
    generalize app (y :: s) (ysOf [] all mn)=res at h2 hn ⊢
    cases h2 with
    | a=>exact ⟨.a _ _ _ _ _,rfl, .a⟩
    | b=>exact ⟨.b _ _ _ _ _,rfl, .b⟩
    | c=>exact absurd rfl hn
def st7 (x:PVal) (T i:Int) (b:Bool) (ac:List PVal):abo:=match ac with
  | []=>.a x T i b
  | y :: s=>.b x T i b (y :: s).length (y :: s)
inductive E7 (b:Bool):Option (List PVal)→aef→Prop where
  | a:E7 b (some []) (.a b)
  | b:E7 b none (.b false)
  | c {y:PVal} {s:List PVal}:E7 b (some (y :: s)) (.c b (y :: s).length (y :: s))
def ys7 (all:List Iv.V) (i m:Nat):List PVal:=(List.range' i m).flatMap fun n=>ysOf [] all n
theorem ys7_succ (all:List Iv.V) (i m:Nat):ys7 all i (m + 1)=ysOf [] all i ++ ys7 all (i + 1) m:=by simp [ys7,List.range'_succ]
theorem loop7 (F:LF rec) {x:PVal} {all:List Iv.V} (hs:IsSl x (encVs all)) (hall:all.length≤32) (hk:1000 < k) {T:Nat} (hT:T≤34) (hj:60≤j) {b:Bool} {kx:aef→Option AVal} :
    ∀ (m i jj:Nat) (ac:List PVal),i + m=T→m < jj→ac.length≤32 →
      ∃ e,abh k rec (tds k rec j) kx jj (st7 x (Int.ofNat T) (Int.ofNat i) b ac)=kx e∧E7 b (app ac (ys7 all i m)) e
  | 0,i,jj,ac,hi,hjj,ha=>by
    obtain ⟨jj,rfl⟩:∃ j',jj=j' + 1:=⟨jj - 1,by omega⟩
    have hd:decide (Int.ofNat i < Int.ofNat T)=false:=by apply decide_eq_false; simp; omega
    rw [show ys7 all i 0 = [] from rfl,agX ha]
    cases ac with
    | nil=>simp only [st7,abh,adh,hd,ifB_f]; exact ⟨_,rfl, .a⟩
    | cons y s=>simp only [st7,abh,adh,hd,ifB_f]; exact ⟨_,rfl, .c⟩
  | m + 1,i,jj,ac,hi,hjj,ha=>by
    obtain ⟨jj,rfl⟩:∃ j',jj=j' + 1:=⟨jj - 1,by omega⟩
    have hd:decide (Int.ofNat i < Int.ofNat T)=true:=by apply decide_eq_true; simp; omega
    have ih:=loop7 F hs hall hk hT hj (b:=b) (kx:=kx) m (i + 1) jj
    obtain ⟨o,h1,h2⟩:=f126_ok F hs hall hk (mn:=i) (by omega) (b:=b) ac ha (j:=j) (by omega)
    have h3:(tds k rec j).t_f79 (.a x (Int.ofNat i))=some (aeM (.a (Int.ofNat i) x)):=by
      obtain ⟨j,rfl⟩:∃ j',j=j' + 1:=⟨j - 1,by omega⟩
      exact f79_ok hs
    have hw:=aax (n:=i) (by omega)
    rw [ys7_succ]
    have hap:∀ {ac'},app ac (ysOf [] all i)=some ac' → ac'.length≤32∧app ac (ysOf [] all i ++ ys7 all (i + 1) m)=app ac' (ys7 all (i + 1) m):=fun h=>aey h
    have hapn:app ac (ysOf [] all i)=none→app ac (ysOf [] all i ++ ys7 all (i + 1) m)=none:=fun h=>aez h
    have hn:ac ≠ []→app ac (ysOf [] all i) ≠ some []:=fun h=>by
      cases ac with
      | nil=>exact absurd rfl h
      | cons y s=>exact app_ne
    generalize app ac (ysOf [] all i)=res at h2 hap hapn hn
    cases ac with
    | nil =>
      have h1:(tds k rec j).t_f126 (.a (Int.ofNat i) x b)=some (aaZ o):=h1
      simp only [st7,abh,adh,hd,ifB_t,h3,aag,anL,h1,amm,hw]
      cases h2 with
      | a =>
        obtain ⟨q1,q2⟩:=hap rfl
        rw [q2]
        exact ih _ (by omega) (by omega) q1
      | b=>rw [hapn rfl]; exact ⟨_,rfl, .b⟩
      | c =>
        obtain ⟨q1,q2⟩:=hap rfl
        rw [q2]
        exact ih _ (by omega) (by omega) q1
    | cons y s =>
      have h1:(tds k rec j).t_f126 (.b (Int.ofNat i) x b (y :: s).length (y :: s))=some (aaZ o):=h1
      simp only [st7,abh,adh,hd,ifB_t,h3,aag,anL,h1,amm,hw]
      cases h2 with
      | a =>
        obtain ⟨q1,q2⟩:=hap rfl
        rw [q2]
        exact ih _ (by omega) (by omega) q1
      | b=>rw [hapn rfl]; exact ⟨_,rfl, .b⟩
      | c=>exact absurd rfl (hn (by simp))
def ys1 (z:Int):Nat→List PVal
  | 0=>[]
  | m + 1=>encV (Iv.intV z) :: ys1 (z + 1) m
def st1 (z:Int) (b:Bool) (lo hi:Int) (ac:List PVal):abq:=match ac with
  | []=>.a z b lo hi
  | y :: s=>.b z b (y :: s).length lo hi (y :: s)
def e1 (b:Bool) (ac:List PVal):aeh:=match ac with
  | []=>.a b
  | y :: s=>.b b (y :: s).length (y :: s)
theorem loop1 (F:LF rec) {kx:aeh→Option AVal} {b:Bool} {lo hi:Int} (hlo:hi≤1000000000) :
    ∀ (m:Nat) (z:Int) (jj:Nat) (ac:List PVal),z + m=hi + 1 → -1000000000≤z→m < jj→ac.length + m≤32 →
      abA k rec (tds k rec (j + 1)) kx jj (st1 z b lo hi ac)=kx (e1 b (ac ++ ys1 z m))
  | 0,z,jj,ac,hz,hz2,hjj,ha=>by
    obtain ⟨jj,rfl⟩:∃ j',jj=j' + 1:=⟨jj - 1,by omega⟩
    have hd:decide (z≤hi)=false:=by apply decide_eq_false; omega
    rw [ys1,List.append_nil]
    cases ac <;> simp only [st1,abA,ad8,hd,ifB_f,e1]
  | m + 1,z,jj,ac,hz,hz2,hjj,ha=>by
    obtain ⟨jj,rfl⟩:∃ j',jj=j' + 1:=⟨jj - 1,by omega⟩
    have hd:decide (z≤hi)=true:=by apply decide_eq_true; omega
    have ih:=loop1 F (kx:=kx) (b:=b) (lo:=lo) hlo m (z + 1) jj (ac ++ [encV (Iv.intV z)]) (by omega) (by omega) (by omega) (by simp; omega)
    have h1:=F.number z
    have hw:IntKind.wrap .i64 (z + Int.ofNat 1)=z + 1:=acJ (by simp; omega) (by simp; omega)
    rw [ys1,List.append_cons]
    rw [show encV (Iv.intV z) = .agg [.int .i64 1, .int .i64 z, .str [], .nils] from by rw [Iv.intV,encV]; rfl] at h1 ih ⊢
    cases ac with
    | nil =>
      simp only [st1,abA,ad8,hd,ifB_t,h1,aag,pK_p,kK,vK,aah,aab,aad,aam,aae,putA,hw]
      exact ih
    | cons y s =>
      simp only [st1,abA,ad8,hd,ifB_t,h1,aag,pK_p,kK,vK,aah,aab,aad,aam,aae,putB_t (show (y :: s).length + 1≤32 by omega),hw]
      refine (show _=abA k rec (tds k rec (j + 1)) kx jj (st1 (z + 1) b lo hi ((y :: s) ++ [.agg [.int .i64 1, .int .i64 z, .str [], .nils]])) from ?_).trans ih
      simp only [st1,List.cons_append,List.length_cons,List.length_append,List.length_nil,Nat.zero_add]
def outL (o:Option (List Iv.V)):Option AVal:=match o with
  | none=>some (.p (.tup [.nils, .bool false]))
  | some l=>some (.p (.tup [encS (encVs l), .bool true]))
theorem outL_some (l:List Iv.V):outL (some l)=some (.p (.tup [encS (encVs l), .bool true])):=rfl
theorem m139:methodAt prog 139 "sward/induct.few" = some acu:=by kernel_rfl
theorem m141:methodAt prog 141 "sward/induct.few" = some acw:=by kernel_rfl
theorem m144:methodAt prog 144 "sward/induct.few" = some acv:=by kernel_rfl
theorem m150:methodAt prog 150 "sward/induct.few" = some acy:=by kernel_rfl
theorem m152:methodAt prog 152 "sward/induct.few" = some acz:=by kernel_rfl
theorem m153:methodAt prog 153 "sward/induct.few" = some acx:=by kernel_rfl
theorem listed_texts {lk:Nat} (h:rec acx [.agg []]=rB false):abd lk rec (.iface 153 (.agg []))=outL none:=by
  simp only [abd,acI,ifK_if,m153,aag,show xi acx=false from rfl,Bool.not_false,chk_t,h,pK_p,aai,ifB_t]
  rfl
theorem listed_empty {lk:Nat} (h:rec acz [.agg []]=rB true):abd lk rec (.iface 152 (.agg []))=outL (some []):=by
  simp only [abd,acI,ifK_if,m152,aag,show xi acz=false from rfl,Bool.not_false,chk_t,h,pK_p,aai,Bool.not_true,ifB_f]
  rfl
theorem listed_truth {lk:Nat} (hlk:1000 < lk) (h:rec acw [.agg []]=rB true):abd lk rec (.iface 141 (.agg []))=outL (some [Iv.boolV 0,Iv.boolV 1]):=by
  obtain ⟨lk,rfl⟩:∃ l,lk=l + 1:=⟨lk - 1,by omega⟩
  simp only [abd,acI,ifK_if,m141,aag,show xi acw=false from rfl,Bool.not_false,chk_t,h,pK_p,aai,Bool.not_true,ifB_f,show Nat.beq 141 139=false from rfl,show Nat.beq 141 141=true from rfl,ifB_t,kK,vK,aah,aae,putA]
  rfl
theorem map_range1 (f:Int→Iv.V):∀ (m:Nat) (z:Int),(List.range m).map (fun (i:Nat)=>f (z + i))=match m with
    | 0=>[]
    | m + 1=>f z :: (List.range m).map (fun (i:Nat)=>f (z + 1 + i))
  | 0,z=>rfl
  | m + 1,z=>by
    rw [List.range_succ_eq_map,List.map_cons,List.map_map]
    congr 1
    · simp
    · refine List.map_congr_left fun i _=>?_
      show f (z + ((i + 1:Nat):Int))=_
      congr 1
      omega
theorem ys1_eq:∀ (m:Nat) (z:Int),ys1 z m=encVs ((List.range m).map fun (i:Nat)=>Iv.intV (z + i))
  | 0,z=>rfl
  | m + 1,z=>by
    rw [map_range1 (fun z=>Iv.intV z),encVs,ys1,ys1_eq m (z + 1)]
theorem listed_whole {lk:Nat} (hlk:1000 < lk) {lo hi mo:Int} (h1 : -1000000000≤lo) (h2:lo≤hi) (h3:hi≤1000000000) (h:rec acu [.agg [I lo,I hi]]=rB (decide (hi - lo < 32))) (F:LF rec) :
    abd lk rec (.iface 139 (.agg [I lo,I hi]))=outL (Iv.vals (.mk 2 lo hi mo [])):=by
  obtain ⟨lk',rfl⟩:∃ l,lk=l + 1:=⟨lk - 1,by omega⟩
  have hv:Iv.vals (.mk 2 lo hi mo [])=if hi - lo < 32 then some ((List.range (hi - lo + 1).toNat).map fun (i:Nat)=>Iv.intV (lo + i)) else none:=by unfold Iv.vals; rfl
  rw [hv]
  simp only [abd,acI,ifK_if,m139,aag,show xi acu=false from rfl,Bool.not_false,chk_t,h,pK_p,aai]
  by_cases hd:hi - lo < 32
  · rw [decide_eq_true hd,if_pos hd]
    have lp:=fun kx=>loop1 (k:=lk' + 1) (j:=lk') F (kx:=kx) (b:=false) (lo:=lo) h3 (hi - lo + 1).toNat lo (lk' + 1) [] (by omega) h1 (by omega) (by simp; omega)
    rw [ys1_eq] at lp
    obtain ⟨m,hm⟩:∃ m,(hi - lo + 1).toNat=m + 1:=⟨(hi - lo).toNat,by omega⟩
    simp only [Bool.not_true,ifB_f,show Nat.beq 139 139=true from rfl,ifB_t,kK,vK,aah,aab,aad,aae]
    refine (lp _).trans ?_
    rw [hm,map_range1 (fun z=>Iv.intV z),encVs]
    simp only [List.nil_append,e1,Nat.zero_add,ble_of (Nat.le_refl _),chk_t,List.drop_zero,List.take_length,outL,encVs,encS]
  · rw [decide_eq_false hd,if_neg hd]
    rfl
theorem minT2 (A B:Int):(Decidable.rec (fun _=>A) (fun _=>B) (Int.neg.match_1 (fun y33=>(Decidable (Int.NonNeg y33))) (A - (B + (Int.ofNat 1))) (fun y33=>(Decidable.isTrue (Int.NonNeg.mk y33))) (fun y33=>(Decidable.isFalse (Int.decNonneg._proof_1 y33)))):Int)=min A B:=by
  have h:(Decidable.rec (fun _=>A) (fun _=>B) (Int.neg.match_1 (fun y33=>(Decidable (Int.NonNeg y33))) (A - (B + (Int.ofNat 1))) (fun y33=>(Decidable.isTrue (Int.NonNeg.mk y33))) (fun y33=>(Decidable.isFalse (Int.decNonneg._proof_1 y33)))):Int)=if B < A then B else A:=rfl
  rw [h]
  split <;> omega
theorem ys7_upTo (l:List Iv.V) (n:Nat):ys7 l 0 (n + 1)=encVs ((Iv.upTo l n).map Iv.setV):=by
  unfold ys7 Iv.upTo ysOf
  rw [ap6,List.map_map,List.map_flatMap,List.range_eq_range']
  rfl
theorem app_cut (l:List Iv.V):app [] (encVs l)=(Iv.cut l).map encVs:=by
  unfold app Iv.cut
  rw [aaW]
  simp only [List.length_nil,Nat.zero_add,List.nil_append]
  split <;> rfl
theorem listed_group {lk:Nat} (hlk:1000 < lk) {lo hi mo:Int} {k1:Iv.K} (h1:0≤mo) (h2:mo≤1000000000) (h:rec acy [.agg [I mo,encF k1]]=rB (Iv.vals k1).isSome)
    (h3:rec aaI [encF k1]=outL (Iv.vals k1)) (h4:∀ l,Iv.vals k1=some l→l.length≤32) (F:LF rec) :
    abd lk rec (.iface 150 (.agg [I mo,encF k1]))=outL (Iv.vals (.mk 6 lo hi mo [k1])):=by
  have hv:Iv.vals (.mk 6 lo hi mo [k1])=match Iv.vals k1 with
      | some l=>Iv.cut ((Iv.upTo l (min mo.toNat l.length)).map Iv.setV)
      | none=>none:=by
    simp only [Iv.vals,Iv.valsL]
    cases Iv.vals k1 <;> rfl
  rw [hv]
  simp only [abd,acI,ifK_if,m150,aag,show xi acy=false from rfl,Bool.not_false,chk_t,h,pK_p,aai]
  cases hk1:Iv.vals k1 with
  | none=>rfl
  | some l =>
    have hl:=h4 l hk1
    rw [hk1] at h3
    have hs:=agS (encVs l)
    have hmin:((min mo.toNat l.length:Nat):Int)=min mo l.length:=by omega
    have hT:IntKind.wrap .i64 (min mo (((encVs l).length:Nat):Int) + Int.ofNat 1)=Int.ofNat (min mo.toNat l.length + 1):=by
      rw [aaW, ← hmin]
      exact aax (by omega)
    simp only [Option.isSome_some,Bool.not_true,ifB_f,show Nat.beq 150 139=false from rfl,show Nat.beq 150 141=false from rfl,show Nat.beq 150 144=false from rfl,show Nat.beq 150 150=true from rfl,ifB_t,kK,vK,aah,aab,aad,aae,
      show rec aaI [encF k1]=some (.p (.tup [encS (encVs l), .bool true])) from h3,aag,pK_p,acL,aai,hs.slK,minT2,hT]
    have lp:=fun kx=>loop7 (k:=lk) (j:=lk) F hs hl hlk (T:=min mo.toNat l.length + 1) (by omega) (by omega) (b:=false) (kx:=kx) (min mo.toNat l.length + 1) 0 lk [] (by omega) (by omega) (by simp)
    rw [ys7_upTo,app_cut] at lp
    refine exK (L:=fun kx=>abh lk rec (tds lk rec lk) kx lk (st7 (encS (encVs l)) (Int.ofNat (min mo.toNat l.length + 1)) (Int.ofNat 0) false [])) lp (fun r=>r=outL (Iv.cut ((Iv.upTo l (min mo.toNat l.length)).map Iv.setV))) ?_
    intro e hE
    cases hc:Iv.cut ((Iv.upTo l (min mo.toNat l.length)).map Iv.setV) with
    | none =>
      rw [hc,Option.map_none] at hE
      cases hE
      rfl
    | some ys =>
      rw [hc,Option.map_some] at hE
      rw [outL_some]
      generalize encVs ys=yp at hE ⊢
      cases hE with
      | a=>rfl
      | c=>simp only [Nat.zero_add,ble_of (Nat.le_refl _),chk_t,List.drop_zero,List.take_length,encS]
end
end Go.Proofs.YtdnbnpknpejpdaaGreatDoor
namespace Go.Proofs.YtdnbnpknpejpdaaGreatDoor
open Go Go.Proofs.YtdnbnpknpejpdaaGreatDoor.Sw
section
variable {k:Nat} {rec:Rec1} {j:Nat}
def tupP (bg:List PVal):PVal:=.agg [I 4,I 0, .str [],encS bg]
theorem tupP_eq (l:List Iv.V):encV (Iv.tupleV l)=tupP (encVs l):=by unfold Iv.tupleV encV; rfl
def i1 (x:PVal) (b:Bool) (ac:List PVal):In_r1:=match ac with
  | []=>.a x b
  | y :: s=>.b x b (y :: s).length (y :: s)
inductive Y1 (b:Bool):Option (List PVal)→Out_r1→Prop where
  | a {ac:List PVal}:Y1 b (some ac) (.a b ac.length ac)
  | b {n:Nat} {l:List PVal}:Y1 b none (.b false n l)
theorem rdo_r1_mko {α:Type} (o:Out_r1) (K:Out_r1→Option α):rdo_r1 (mko_r1 o) K=K o:=by cases o <;> rfl
theorem r1_ok (F:LF rec) (bg:List Iv.V) (hb0:bg ≠ []) (hb:bg.length≤40) (b:Bool) (ac:List PVal) (ha:ac.length≤32) :
    ∃ o,(tds k rec (j + 2)).t_r1 (i1 (.sl (encVs bg)) b ac)=some (mko_r1 o)∧Y1 b (app ac [encV (Iv.tupleV bg)]) o:=by
  show ∃ o,TS_r1 k rec (tds k rec (j + 1)) _=_∧_
  rw [tupP_eq]
  have h:=F.comp (Int.ofNat 4) bg hb0 hb
  have hne:encVs bg ≠ []:=fun h=>hb0 (alk h)
  generalize encVs bg=bp at h hne ⊢
  cases bp with
  | nil=>exact absurd rfl hne
  | cons x t =>
    cases ac with
    | nil =>
      simp only [i1,TS_r1,h,aag,pK_p,kK,vK,aah,aab,aad,aam,aae,putA]
      rw [ae6 (by simp)]
      exact ⟨.a b 1 [tupP (x :: t)],rfl, .a⟩
    | cons y s =>
      by_cases hh:(y :: s).length + 1≤32
      · simp only [i1,TS_r1,h,aag,pK_p,kK,vK,aah,aab,aad,aam,aae,putB_t hh]
        rw [ae6 hh]
        exact ⟨.a b ((y :: s).length + 1) _,rfl,by have:=@Y1.a b ((y :: s) ++ [tupP (x :: t)]); rw [List.length_append] at this; exact this⟩
      · simp only [i1,TS_r1,h,aag,pK_p,kK,vK,aah,aab,aad,aam,aae,putB_f hh ha,Bool.not_false,ifB_t]
        rw [aqi hh]
        exact ⟨.b false _ _,rfl, .b⟩
def encl (l:List Iv.V):PVal:=encS (encVs l)
def i123 (bg lp:List PVal) (b:Bool) (ac:List PVal):aeR:=match bg,ac with
  | [],_=>.b lp.length lp b
  | y :: r,[]=>.c (y :: r).length (y :: r) lp.length lp b
  | y :: r,z :: s=>.d (y :: r).length (y :: r) lp.length lp b (z :: s).length (z :: s)
theorem i123_snoc {y z:PVal} {r lp:List PVal} {b:Bool}:i123 ((y :: r) ++ [z]) lp b [] = .c ((y :: r).length + 1) ((y :: r) ++ [z]) lp.length lp b:=by simp [i123]
theorem i123_snoc' {y z u:PVal} {r lp s:List PVal} {b:Bool}:i123 ((y :: r) ++ [z]) lp b (u :: s) = .d ((y :: r).length + 1) ((y :: r) ++ [z]) lp.length lp b (u :: s).length (u :: s):=by simp [i123]
inductive Y123 (lp:List PVal) (b:Bool):List PVal→Option (List PVal)→aby→Prop where
  | c {y:PVal} {s:List PVal}:Y123 lp b [] (some (y :: s)) (.c lp.length lp b (y :: s).length (y :: s))
  | d {n:Nat} {l:List PVal}:Y123 lp b [] none (.d lp.length lp false n l)
  | e:Y123 lp b [] (some []) (.e lp.length lp b)
  | f {z:PVal} {r:List PVal} {m:Nat} {y:PVal} {s:List PVal}:Y123 lp b (z :: r) (some (y :: s)) (.f (z :: r) m lp.length lp b (y :: s).length (y :: s))
  | g {z:PVal} {r:List PVal} {m n:Nat} {l:List PVal}:Y123 lp b (z :: r) none (.g (z :: r) m lp.length lp false n l)
  | h {z:PVal} {r:List PVal} {m:Nat}:Y123 lp b (z :: r) (some []) (.h (z :: r) m lp.length lp b)
theorem acr {α:Type} (o:aby) (K:aby→Option α):abu (aaj o) K=K o:=by cases o <;> rfl
def ysT (bg:List Iv.V) (ls:List (List Iv.V)):List PVal:=(Iv.prod ls).map fun c=>encV (Iv.tupleV (bg ++ c))
def ysU (bg l:List Iv.V) (ls:List (List Iv.V)):List PVal:=l.flatMap fun v=>ysT (bg ++ [v]) ls
theorem ysT_nil (bg:List Iv.V):ysT bg [] = [encV (Iv.tupleV bg)]:=by simp [ysT,Iv.prod]
theorem ysT_cons (bg l:List Iv.V) (ls:List (List Iv.V)):ysT bg (l :: ls)=ysU bg l ls:=by
  unfold ysT ysU Iv.prod ysT
  rw [List.map_flatMap]
  congr 1
  funext v
  rw [List.map_map]
  simp [Function.comp_def]
theorem ysU_cons (bg l:List Iv.V) (v:Iv.V) (ls:List (List Iv.V)):ysU bg (v :: l) ls=ysT (bg ++ [v]) ls ++ ysU bg l ls:=rfl
theorem ysU_nil (bg:List Iv.V) (ls:List (List Iv.V)):ysU bg [] ls = []:=rfl
def PutT (ts:Tds) (bg:List Iv.V) (lp:List PVal) (ls:List (List Iv.V)) (b:Bool):Prop:=∀ (v:Iv.V) (ac:List PVal),ac.length≤32 →
  ∃ o,ts.t_f123 (i123 (encVs (bg ++ [v])) lp b ac)=some (aaj o)∧Y123 lp b (encVs (bg ++ [v])) (app ac (ysT (bg ++ [v]) ls)) o
def st123b (x:PVal) (T i:Int) (lp:List PVal) (b:Bool) (ac:List PVal):acE:=match ac with
  | []=>.a x T i lp.length lp b
  | y :: s=>.b x T i lp.length lp b (y :: s).length (y :: s)
inductive E123b (lp:List PVal) (b:Bool):Option (List PVal)→ahj→Prop where
  | a:E123b lp b (some []) (.a lp.length lp b)
  | b {n:Nat} {l:List PVal}:E123b lp b none (.b lp.length lp false n l)
  | c {y:PVal} {s:List PVal}:E123b lp b (some (y :: s)) (.c lp.length lp b (y :: s).length (y :: s))
theorem loopTb {ts:Tds} {kx:ahj→Option XRes} {x:PVal} {all:List Iv.V} {lp:List PVal} {ls:List (List Iv.V)} {b:Bool} (F:LF rec) (hs:IsSl x (encVs all)) (hall:all.length≤32) (hrec:PutT ts [] lp ls b) :
    ∀ (l2 l1:List Iv.V) (jj:Nat) (ac:List PVal),all=l1 ++ l2→l2.length < jj→ac.length≤32 →
      ∃ e,abT k rec ts kx jj (st123b x (((encVs all).length:Nat):Int) (Int.ofNat l1.length) lp b ac)=kx e∧E123b lp b (app ac (ysU [] l2 ls)) e
  | [],l1,jj,ac,he,hj,ha=>by
    obtain ⟨jj,rfl⟩:∃ j',jj=j' + 1:=⟨jj - 1,by omega⟩
    rw [ysU_nil,agX ha]
    have hf:=afM (all:=all) (l1:=l1) (by simpa using he)
    cases ac with
    | nil=>simp only [st123b,abT,afa,hf,ifB_f]; exact ⟨_,rfl, .a⟩
    | cons y s=>simp only [st123b,abT,afa,hf,ifB_f]; exact ⟨_,rfl, .c⟩
  | v :: l2,l1,jj,ac,he,hj,ha=>by
    obtain ⟨jj,rfl⟩:∃ j',jj=j' + 1:=⟨jj - 1,by omega⟩
    have ih:=loopTb (ts:=ts) (kx:=kx) F hs hall hrec l2 (l1 ++ [v]) jj
    rw [List.length_append,List.length_singleton] at ih
    have hg:=aiO he
    have ht:=lt_enc he
    have hall2:l1.length < 32:=by
                                      have:all.length=l1.length + (l2.length + 1):=by rw [he]; simp
                                      omega
    obtain ⟨o,h1,h2⟩:=hrec v ac ha
    rw [ysU_cons]
    cases v with
    | mk kk nn tt pp =>
    rw [encV] at hg
    have hap:∀ {ac'},app ac (ysT ([] ++ [Iv.V.mk kk nn tt pp]) ls)=some ac' → ac'.length≤32∧app ac (ysT ([] ++ [Iv.V.mk kk nn tt pp]) ls ++ ysU [] l2 ls)=app ac' (ysU [] l2 ls):=fun h=>aey h
    have hapn:app ac (ysT ([] ++ [Iv.V.mk kk nn tt pp]) ls)=none→app ac (ysT ([] ++ [Iv.V.mk kk nn tt pp]) ls ++ ysU [] l2 ls)=none:=fun h=>aez h
    have hn:ac ≠ []→app ac (ysT ([] ++ [Iv.V.mk kk nn tt pp]) ls) ≠ some []:=fun h=>by
      cases ac with
      | nil=>exact absurd rfl h
      | cons y s=>exact app_ne
    generalize app ac (ysT ([] ++ [Iv.V.mk kk nn tt pp]) ls)=res at h2 hap hapn hn
    have hw:=aax (n:=l1.length) (by omega)
    cases ac with
    | nil =>
      have h1:ts.t_f123 (.c 1 [.agg [.int .i64 kk, .int .i64 nn, .str tt,encS (encVs pp)]] lp.length lp b)=some (aaj o):=h1
      simp only [st123b,abT,afa,hs.slK,ht,ifB_t,aal,aao hg,kK,vK,aah,aab,aad,aam,aae,F.clip0,aag,agD,hw,h1,acr]
      have h2:Y123 lp b [_] res o:=h2
      cases h2 with
      | f =>
        obtain ⟨q1,q2⟩:=hap rfl
        rw [q2]
        exact ih _ (by rw [he]; simp) (by simp at hj; omega) q1
      | g=>rw [hapn rfl]; exact ⟨_,rfl, .b⟩
      | h =>
        obtain ⟨q1,q2⟩:=hap rfl
        rw [q2]
        exact ih _ (by rw [he]; simp) (by simp at hj; omega) q1
    | cons y s =>
      have h1:ts.t_f123 (.d 1 [.agg [.int .i64 kk, .int .i64 nn, .str tt,encS (encVs pp)]] lp.length lp b (y :: s).length (y :: s))=some (aaj o):=h1
      simp only [st123b,abT,afa,hs.slK,ht,ifB_t,aal,aao hg,kK,vK,aah,aab,aad,aam,aae,F.clip0,aag,agD,hw,h1,acr]
      have h2:Y123 lp b [_] res o:=h2
      cases h2 with
      | f =>
        obtain ⟨q1,q2⟩:=hap rfl
        rw [q2]
        exact ih _ (by rw [he]; simp) (by simp at hj; omega) q1
      | g=>rw [hapn rfl]; exact ⟨_,rfl, .b⟩
      | h=>exact absurd rfl (hn (by simp))
def st123c (n:Nat) (x:PVal) (T i:Int) (bp:List PVal) (m:Nat) (lp:List PVal) (b:Bool) (ac:List PVal):acD:=match ac with
  | []=>.a n x T i bp m lp.length lp b
  | y :: s=>.b n x T i bp m lp.length lp b (y :: s).length (y :: s)
inductive E123c (bp lp:List PVal) (b:Bool):Option (List PVal)→ahi→Prop where
  | a {m n:Nat} {l:List PVal}:E123c bp lp b none (.a bp m lp.length lp false n l)
  | b {m:Nat}:E123c bp lp b (some []) (.b bp m lp.length lp b)
  | c {m:Nat} {y:PVal} {s:List PVal}:E123c bp lp b (some (y :: s)) (.c bp m lp.length lp b (y :: s).length (y :: s))
theorem loopTc {ts:Tds} {kx:ahi→Option XRes} {x:PVal} {all bg:List Iv.V} {lp:List PVal} {ls:List (List Iv.V)} {b:Bool} (F:LF rec) (hs:IsSl x (encVs all)) (hall:all.length≤32) (hb:bg ≠ []) (hb2:bg.length≤40) (hrec:PutT ts bg lp ls b) :
    ∀ (l2 l1:List Iv.V) (jj m:Nat) (ac:List PVal),all=l1 ++ l2→l2.length < jj→ac.length≤32 →
      ∃ e,abS k rec ts kx jj (st123c (encVs bg).length x (((encVs all).length:Nat):Int) (Int.ofNat l1.length) (encVs bg) m lp b ac)=kx e∧E123c (encVs bg) lp b (app ac (ysU bg l2 ls)) e
  | [],l1,jj,m,ac,he,hj,ha=>by
    obtain ⟨jj,rfl⟩:∃ j',jj=j' + 1:=⟨jj - 1,by omega⟩
    rw [ysU_nil,agX ha]
    have hf:=afM (all:=all) (l1:=l1) (by simpa using he)
    cases ac with
    | nil=>simp only [st123c,abS,ae9,hf,ifB_f]; exact ⟨_,rfl, .b⟩
    | cons y s=>simp only [st123c,abS,ae9,hf,ifB_f]; exact ⟨_,rfl, .c⟩
  | v :: l2,l1,jj,m,ac,he,hj,ha=>by
    obtain ⟨jj,rfl⟩:∃ j',jj=j' + 1:=⟨jj - 1,by omega⟩
    have ih:=loopTc (ts:=ts) (kx:=kx) F hs hall hb hb2 hrec l2 (l1 ++ [v]) jj
    rw [List.length_append,List.length_singleton] at ih
    have hg:=aiO he
    have ht:=lt_enc he
    have hall2:l1.length < 32:=by
                                      have:all.length=l1.length + (l2.length + 1):=by rw [he]; simp
                                      omega
    obtain ⟨o,h1,h2⟩:=hrec v ac ha
    rw [ysU_cons]
    cases v with
    | mk kk nn tt pp =>
    rw [ae3] at h1 h2
    rw [encV] at hg
    have hap:∀ {ac'},app ac (ysT (bg ++ [Iv.V.mk kk nn tt pp]) ls)=some ac' → ac'.length≤32∧app ac (ysT (bg ++ [Iv.V.mk kk nn tt pp]) ls ++ ysU bg l2 ls)=app ac' (ysU bg l2 ls):=fun h=>aey h
    have hapn:app ac (ysT (bg ++ [Iv.V.mk kk nn tt pp]) ls)=none→app ac (ysT (bg ++ [Iv.V.mk kk nn tt pp]) ls ++ ysU bg l2 ls)=none:=fun h=>aez h
    have hn:ac ≠ []→app ac (ysT (bg ++ [Iv.V.mk kk nn tt pp]) ls) ≠ some []:=fun h=>by
      cases ac with
      | nil=>exact absurd rfl h
      | cons y s=>exact app_ne
    generalize app ac (ysT (bg ++ [Iv.V.mk kk nn tt pp]) ls)=res at h2 hap hapn hn
    have hw:=aax (n:=l1.length) (by omega)
    have hc:=F.clip bg hb hb2
    have hwd:=ahk bg
    have hbl:=aaW (l:=bg)
    have hne:encVs bg ≠ []:=fun h=>hb (alk h)
    have hble:Nat.ble (((encVs bg).length + 1) * 56) 1099511627776=true:=ble_of (by omega)
    rw [encVs,encV,encVs] at h1 h2
    generalize encVs bg=bp at h1 h2 hc hwd hne hble ih ⊢
    cases bp with
    | nil=>exact absurd rfl hne
    | cons b0 br =>
    cases ac with
    | nil =>
      rw [i123_snoc] at h1
      simp only [st123c,abS,ae9,hs.slK,ht,ifB_t,aal,aao hg,kK,vK,aah,aab,aad,aam,aae,Nat.zero_add,ble_of (Nat.le_refl _),chk_t,List.drop_zero,List.take_length,hc,aag,alm,hwd,hble,hw,h1,acr]
      generalize hq:(b0 :: br) ++ [PVal.agg [.int .i64 kk, .int .i64 nn, .str tt,encS (encVs pp)]]=q at h2
      cases h2 with
      | c=>simp at hq
      | d=>simp at hq
      | e=>simp at hq
      | f =>
        obtain ⟨q1,q2⟩:=hap rfl
        rw [q2]
        exact ih _ _ (by rw [he]; simp) (by simp at hj; omega) q1
      | g=>rw [hapn rfl]; exact ⟨_,rfl, .a⟩
      | h =>
        obtain ⟨q1,q2⟩:=hap rfl
        rw [q2]
        exact ih _ _ (by rw [he]; simp) (by simp at hj; omega) q1
    | cons y s =>
      rw [i123_snoc'] at h1
      simp only [st123c,abS,ae9,hs.slK,ht,ifB_t,aal,aao hg,kK,vK,aah,aab,aad,aam,aae,Nat.zero_add,ble_of (Nat.le_refl _),chk_t,List.drop_zero,List.take_length,hc,aag,alm,hwd,hble,hw,h1,acr]
      generalize hq:(b0 :: br) ++ [PVal.agg [.int .i64 kk, .int .i64 nn, .str tt,encS (encVs pp)]]=q at h2
      cases h2 with
      | c=>simp at hq
      | d=>simp at hq
      | e=>simp at hq
      | f =>
        obtain ⟨q1,q2⟩:=hap rfl
        rw [q2]
        exact ih _ _ (by rw [he]; simp) (by simp at hj; omega) q1
      | g=>rw [hapn rfl]; exact ⟨_,rfl, .a⟩
      | h=>exact absurd rfl (hn (by simp))
inductive E123d (bp lp:List PVal) (b:Bool):Option (List PVal)→ahh→Prop where
  | a {m n:Nat} {l:List PVal}:E123d bp lp b none (.a bp m lp.length lp false n l)
  | b {m:Nat} {y:PVal} {s:List PVal}:E123d bp lp b (some (y :: s)) (.b bp m lp.length lp b (y :: s).length (y :: s))
theorem loopTd {ts:Tds} {kx:ahh→Option XRes} {x:PVal} {all bg:List Iv.V} {lp:List PVal} {ls:List (List Iv.V)} {b:Bool} (F:LF rec) (hs:IsSl x (encVs all)) (hall:all.length≤32) (hb:bg ≠ []) (hb2:bg.length≤40) (hrec:PutT ts bg lp ls b) :
    ∀ (l2 l1:List Iv.V) (jj m:Nat) (y:PVal) (s:List PVal),all=l1 ++ l2→l2.length < jj→(y :: s).length≤32 →
      ∃ e,acX k rec ts kx jj (.a (encVs bg).length x (((encVs all).length:Nat):Int) (Int.ofNat l1.length) (encVs bg) m lp.length lp b (y :: s).length (y :: s))=kx e∧E123d (encVs bg) lp b (app (y :: s) (ysU bg l2 ls)) e
  | [],l1,jj,m,y,s,he,hj,ha=>by
    obtain ⟨jj,rfl⟩:∃ j',jj=j' + 1:=⟨jj - 1,by omega⟩
    rw [ysU_nil,agX ha]
    have hf:=afM (all:=all) (l1:=l1) (by simpa using he)
    simp only [acX,akn,hf,ifB_f]; exact ⟨_,rfl, .b⟩
  | v :: l2,l1,jj,m,y,s,he,hj,ha=>by
    obtain ⟨jj,rfl⟩:∃ j',jj=j' + 1:=⟨jj - 1,by omega⟩
    have ih:=loopTd (ts:=ts) (kx:=kx) F hs hall hb hb2 hrec l2 (l1 ++ [v]) jj
    rw [List.length_append,List.length_singleton] at ih
    have hg:=aiO he
    have ht:=lt_enc he
    have hall2:l1.length < 32:=by
                                      have:all.length=l1.length + (l2.length + 1):=by rw [he]; simp
                                      omega
    obtain ⟨o,h1,h2⟩:=hrec v (y :: s) ha
    rw [ysU_cons]
    cases v with
    | mk kk nn tt pp =>
    rw [ae3] at h1 h2
    rw [encV] at hg
    have hap:∀ {ac'},app (y :: s) (ysT (bg ++ [Iv.V.mk kk nn tt pp]) ls)=some ac' → ac'.length≤32∧app (y :: s) (ysT (bg ++ [Iv.V.mk kk nn tt pp]) ls ++ ysU bg l2 ls)=app ac' (ysU bg l2 ls):=fun h=>aey h
    have hapn:app (y :: s) (ysT (bg ++ [Iv.V.mk kk nn tt pp]) ls)=none→app (y :: s) (ysT (bg ++ [Iv.V.mk kk nn tt pp]) ls ++ ysU bg l2 ls)=none:=fun h=>aez h
    have hn:(y :: s) ≠ []→app (y :: s) (ysT (bg ++ [Iv.V.mk kk nn tt pp]) ls) ≠ some []:=fun h=>by
      exact app_ne
    generalize app (y :: s) (ysT (bg ++ [Iv.V.mk kk nn tt pp]) ls)=res at h2 hap hapn hn
    have hw:=aax (n:=l1.length) (by omega)
    have hc:=F.clip bg hb hb2
    have hwd:=ahk bg
    have hbl:=aaW (l:=bg)
    have hne:encVs bg ≠ []:=fun h=>hb (alk h)
    have hble:Nat.ble (((encVs bg).length + 1) * 56) 1099511627776=true:=ble_of (by omega)
    rw [encVs,encV,encVs] at h1 h2
    generalize encVs bg=bp at h1 h2 hc hwd hne hble ih ⊢
    cases bp with
    | nil=>exact absurd rfl hne
    | cons b0 br =>
    rw [i123_snoc'] at h1
    simp only [acX,akn,hs.slK,ht,ifB_t,aal,aao hg,kK,vK,aah,aab,aad,aam,aae,Nat.zero_add,ble_of (Nat.le_refl _),chk_t,List.drop_zero,List.take_length,hc,aag,alm,hwd,hble,hw,h1,acr]
    generalize hq:(b0 :: br) ++ [PVal.agg [.int .i64 kk, .int .i64 nn, .str tt,encS (encVs pp)]]=q at h2
    cases h2 with
    | c=>simp at hq
    | d=>simp at hq
    | e=>simp at hq
    | f =>
      obtain ⟨q1,q2⟩:=hap rfl
      rw [q2]
      exact ih _ _ _ (by rw [he]; simp) (by simp at hj; omega) q1
    | g=>rw [hapn rfl]; exact ⟨_,rfl, .a⟩
    | h=>exact absurd rfl (hn (by simp))
theorem get_drop {α:Type} {l r:List α} {a:α} {n:Nat} (h:l.drop n=a :: r):l[n]? = some a∧l.drop (n + 1)=r∧n < l.length:=by
  have h0:n < l.length:=by
    by_cases h1:n < l.length
    · exact h1
    · rw [List.drop_eq_nil_of_le (by omega)] at h; cases h
  rw [List.drop_eq_getElem_cons h0] at h
  simp only [List.cons.injEq] at h
  exact ⟨by rw [List.getElem?_eq_getElem h0,h.1],h.2,h0⟩
theorem get_encl {lss r:List (List Iv.V)} {l:List Iv.V} {n:Nat} (h:lss.drop n=l :: r):(lss.map encl)[n]? = some (encl l):=by rw [List.getElem?_map,(get_drop h).1]; rfl
theorem oneP_encl (l:List Iv.V):(oneP.match_1 (fun _=>Bool) (encl l) (fun _=>false) (fun _=>false) (fun _=>true))=true:=by
  unfold encl
  cases encVs l <;> rfl
theorem p123 (F:LF rec) {lss:List (List Iv.V)} (hls:∀ l ∈ lss,l.length≤32) (hn0:lss ≠ []) (hn:lss.length≤40) (hk:1000 < k) {b:Bool} :
    ∀ (ls:List (List Iv.V)) (bg:List Iv.V) (ac:List PVal) (j:Nat),lss.drop bg.length=ls→bg.length + ls.length=lss.length→ac.length≤32→(bg = []→ac = [])→ls.length + 3≤j →
      ∃ o,(tds k rec j).t_f123 (i123 (encVs bg) (lss.map encl) b ac)=some (aaj o)∧Y123 (lss.map encl) b (encVs bg) (app ac (ysT bg ls)) o
  | [],bg,ac,j,hd,hlen,ha,hba,hj=>by
    obtain ⟨j,rfl⟩:∃ j',j=j' + 3:=⟨j - 3,by simp at hj; omega⟩
    rw [ysT_nil]
    show ∃ o,afV k rec (tds k rec (j + 2)) _=_∧_
    have hl:=aaW (l:=bg)
    have hb0:bg ≠ []:=fun e=>by subst e; simp at hlen; exact hn0 (List.length_eq_zero_iff.1 hlen.symm)
    have hb:bg.length≤40:=by simp at hlen; omega
    obtain ⟨o,h1,h2⟩:=r1_ok (k:=k) (j:=j) F bg hb0 hb b ac ha
    have hc:=F.clone bg hb0 hb
    have hn2:app ac [encV (Iv.tupleV bg)] ≠ some []:=by unfold app; split <;> simp
    generalize app ac [encV (Iv.tupleV bg)]=res at h2 hn2 ⊢
    have hll:(lss.map encl).length=(encVs bg).length:=by rw [List.length_map,hl]; simp at hlen; omega
    generalize lss.map encl=lp at hll ⊢
    have hne:encVs bg ≠ []:=fun h=>hb0 (alk h)
    generalize encVs bg=bp at h1 hc hll hne ⊢
    cases bp with
    | nil=>exact absurd rfl hne
    | cons b0 br =>
    have hq:((((b0 :: br).length:Nat):Int) == ((lp.length:Nat):Int))=true:=by rw [hll]; simp
    cases ac with
    | nil =>
      have h1:(tds k rec (j + 2)).t_r1 (.a (.sl (b0 :: br)) b)=some (mko_r1 o):=h1
      simp only [i123,afV,hq,ifB_t,Nat.zero_add,ble_of (Nat.le_refl _),chk_t,List.drop_zero,List.take_length,hc,aag,pK_p,h1,rdo_r1_mko]
      cases h2 with
      | @a acc=>cases acc with
        | nil=>exact absurd rfl hn2
        | cons y s=>exact ex_ifB ⟨.f _ _ _ _ _ _ _,rfl, .f⟩ ⟨.f _ _ _ _ _ _ _,rfl, .f⟩
      | b=>exact ex_ifB ⟨.g _ _ _ _ _ _ _,rfl, .g⟩ ⟨.g _ _ _ _ _ _ _,rfl, .g⟩
    | cons z t =>
      have h1:(tds k rec (j + 2)).t_r1 (.b (.sl (b0 :: br)) b (z :: t).length (z :: t))=some (mko_r1 o):=h1
      simp only [i123,afV,hq,ifB_t,Nat.zero_add,ble_of (Nat.le_refl _),chk_t,List.drop_zero,List.take_length,hc,aag,pK_p,h1,rdo_r1_mko]
      cases h2 with
      | @a acc=>cases acc with
        | nil=>exact absurd rfl hn2
        | cons y s=>exact ex_ifB ⟨.f _ _ _ _ _ _ _,rfl, .f⟩ ⟨.f _ _ _ _ _ _ _,rfl, .f⟩
      | b=>exact ex_ifB ⟨.g _ _ _ _ _ _ _,rfl, .g⟩ ⟨.g _ _ _ _ _ _ _,rfl, .g⟩
  | l :: ls,bg,ac,j,hd,hlen,ha,hba,hj=>by
    obtain ⟨j,rfl⟩:∃ j',j=j' + 1:=⟨j - 1,by simp at hj; omega⟩
    show ∃ o,afV k rec (tds k rec j) _=_∧_
    have hl:=aaW (l:=bg)
    obtain ⟨g1,g2,g3⟩:=get_drop hd
    have hp:PutT (tds k rec j) bg (lss.map encl) ls b:=fun v ac' ha'=>p123 F hls hn0 hn hk ls (bg ++ [v]) ac' j (by simpa using g2) (by simp at hlen ⊢; omega) ha' (fun h=>by simp at h) (by simp at hj; omega)
    have hg:=get_encl hd
    have hl32:=hls l (List.mem_of_mem_drop (i:=bg.length) (by rw [hd]; simp))
    have hs:IsSl (encl l) (encVs l):=agS _
    have ho:=oneP_encl l
    rw [ysT_cons]
    have hb2:bg.length≤40:=by omega
    cases hbp:encVs bg with
    | nil =>
      have:=alk hbp
      subst this
      have:=hba rfl
      subst this
      have hq:((Int.ofNat 0) == (((lss.map encl).length:Nat):Int))=false:=by
        rw [List.length_map]; simp at g3; simp; omega
      have hlt:Nat.blt 0 (lss.map encl).length=true:=blt_of (by rw [List.length_map]; exact g3)
      simp only [i123,afV,hq,ifB_f,hlt,chk_t,Nat.zero_add,Nat.add_zero,aao (show (lss.map encl)[0]? = some (encl l) from hg),ho,ifB_t,hs.slK]
      refine exK (L:=fun kx=>abT k rec (tds k rec j) kx k (st123b (encl l) (((encVs l).length:Nat):Int) (Int.ofNat 0) (lss.map encl) b [])) (fun kx=>loopTb F hs hl32 hp l [] k [] rfl (by omega) ha) (fun r=>∃ o,r=some (aaj o)∧Y123 (lss.map encl) b [] _ o) ?_
      intro e hE
      generalize app _ (ysU _ _ _)=res at hE ⊢
      cases hE with
      | a=>exact ⟨.e _ _ _,rfl, .e⟩
      | b=>exact ⟨.d _ _ _ _ _,rfl, .d⟩
      | c=>exact ⟨.c _ _ _ _ _,rfl, .c⟩
    | cons b0 br =>
      have hb:=cons_enc hbp
      have hbl:(b0 :: br).length=bg.length:=by rw [← hbp,hl]
      have hq:((((b0 :: br).length:Nat):Int) == (((lss.map encl).length:Nat):Int))=false:=by
        rw [hbl,List.length_map]; simp; omega
      have hlt:Nat.blt (b0 :: br).length (lss.map encl).length=true:=blt_of (by rw [hbl,List.length_map]; exact g3)
      have hg:(lss.map encl)[(b0 :: br).length]? = some (encl l):=by rw [hbl]; exact hg
      cases ac with
      | nil =>
        simp only [i123,afV,hq,ifB_f,hlt,chk_t,Nat.zero_add,aao hg,ho,ifB_t,hs.slK]
        have lp:=fun kx=>loopTc (k:=k) (kx:=kx) F hs hl32 hb hb2 hp l [] k 0 [] rfl (by omega) ha
        rw [hbp] at lp
        refine exK (L:=fun kx=>abS k rec (tds k rec j) kx k (st123c (b0 :: br).length (encl l) (((encVs l).length:Nat):Int) (Int.ofNat 0) (b0 :: br) 0 (lss.map encl) b [])) lp (fun r=>∃ o,r=some (aaj o)∧Y123 (lss.map encl) b (b0 :: br) _ o) ?_
        intro e hE
        generalize app _ (ysU _ _ _)=res at hE ⊢
        cases hE with
        | a=>exact ⟨.g _ _ _ _ _ _ _,rfl, .g⟩
        | b=>exact ⟨.h _ _ _ _ _,rfl, .h⟩
        | c=>exact ⟨.f _ _ _ _ _ _ _,rfl, .f⟩
      | cons z t =>
        simp only [i123,afV,hq,ifB_f,hlt,chk_t,Nat.zero_add,aao hg,ho,ifB_t,hs.slK]
        have lp:=fun kx=>loopTd (k:=k) (kx:=kx) F hs hl32 hb hb2 hp l [] k 0 z t rfl (by omega) ha
        rw [hbp] at lp
        refine exK (L:=fun kx=>acX k rec (tds k rec j) kx k (.a (b0 :: br).length (encl l) (((encVs l).length:Nat):Int) (Int.ofNat 0) (b0 :: br) 0 (lss.map encl).length (lss.map encl) b (z :: t).length (z :: t))) lp (fun r=>∃ o,r=some (aaj o)∧Y123 (lss.map encl) b (b0 :: br) _ o) ?_
        intro e hE
        generalize app _ (ysU _ _ _)=res at hE ⊢
        cases hE with
        | a=>exact ⟨.g _ _ _ _ _ _ _,rfl, .g⟩
        | b=>exact ⟨.f _ _ _ _ _ _ _,rfl, .f⟩
end
end Go.Proofs.YtdnbnpknpejpdaaGreatDoor
namespace Go.Proofs.YtdnbnpknpejpdaaGreatDoor
open Go Go.Proofs.YtdnbnpknpejpdaaGreatDoor.Sw
section
variable {k:Nat} {rec:Rec1} {j:Nat}
def idxE:List (List Iv.V)→Nat→Int
  | [],_=>-1
  | l :: r,n=>if l.isEmpty then Int.ofNat n else idxE r (n + 1)
theorem idxE_pos:∀ (l:List (List Iv.V)) (n:Nat),decide (idxE l n ≥ Int.ofNat 0)=l.any fun l=>l.isEmpty
  | [],n=>rfl
  | l :: r,n=>by
    unfold idxE
    cases h:l.isEmpty with
    | true=>simp [h]
    | false=>simp only [if_false,idxE_pos r (n + 1),List.any_cons,h,Bool.false_or,Bool.false_eq_true]
theorem cells_encl (l:List Iv.V):Nat.beq (List.length (cellsP (encl l))) 1=true:=by unfold encl; cases encVs l <;> rfl
theorem agg_encl (l:List Iv.V):isAggP (encl l)=false:=by unfold encl; cases encVs l <;> rfl
theorem widths_encl (l:List Iv.V):widths false 1 [encl l]=true:=by unfold encl; cases encVs l <;> rfl
theorem idxE_loop {ts:Tds} {kx:ExXFL_0→Option AVal} {p:PVal} {lss:List (List Iv.V)} (hs:IsSl p (lss.map encl)) (hx:lss.length < 100000) (ha:∀ z,kx (.a z)=rI z) (hb:kx .b=rI (-1)) :
    ∀ (l2 l1:List (List Iv.V)) (j:Nat),lss=l1 ++ l2→l2.length < j→(∀ l ∈ l2,rec aaF [encl l]=rB l.isEmpty) →
      ai5 k rec ts kx j (.a p (.fn (.func aaF) []) (((lss.map encl).length:Nat):Int) (Int.ofNat l1.length))=rI (idxE l2 l1.length)
  | [],l1,j,he,hj,_=>by
    obtain ⟨j,rfl⟩:∃ j',j=j' + 1:=⟨j - 1,by omega⟩
    have hf:decide (Int.ofNat l1.length < (((lss.map encl).length:Nat):Int))=false:=by rw [dlt,List.length_map,he]; simp
    simp only [ai5,S_XFL_0,hf,ifB_f,hb,idxE]
  | l :: l2,l1,j,he,hj,hrec=>by
    obtain ⟨j,rfl⟩:∃ j',j=j' + 1:=⟨j - 1,by omega⟩
    have ht:decide (Int.ofNat l1.length < (((lss.map encl).length:Nat):Int))=true:=by rw [dlt,List.length_map,he]; simp
    have hr1:=hrec l (by simp)
    have hg:(lss.map encl)[l1.length]? = some (encl l):=by rw [he]; simp
    have hlen:l1.length < lss.length:=by rw [he]; simp
    have ih:=idxE_loop (ts:=ts) (kx:=kx) hs hx ha hb l2 (l1 ++ [l]) j (by rw [he]; simp) (by simp at hj; omega) (fun l' h=>hrec l' (List.mem_cons_of_mem _ h))
    rw [List.length_append,List.length_singleton] at ih
    rw [idxE]
    generalize l.isEmpty=b at hr1
    simp only [ai5,S_XFL_0,hs.slK,ht,ifB_t,aal,aao hg,cells_encl,agg_encl,fnK_fn,show xi aaF=false from rfl,Bool.not_false,chk_t,List.append_nil,hr1,aag,pK_p,aai]
    rw [aax (by omega),ih,ha]
    cases b <;> rfl
theorem idxE_F {lk:Nat} {p:PVal} {lss:List (List Iv.V)} (hs:IsSl p (lss.map encl)) (hn:lss.length < 1000) (hl:1000 < lk) (hrec:∀ l ∈ lss,rec aaF [encl l]=rB l.isEmpty) :
    F_XFL lk rec p (.fn (.func aaF) [])=rI (idxE lss 0):=by
  simp only [F_XFL,FF_XFL,hs.slK]
  exact idxE_loop hs (by omega) (fun z=>rfl) rfl lss [] lk rfl (by omega) hrec
theorem containsE_F {lk:Nat} {p:PVal} {lss:List (List Iv.V)} (hrec:rec i_XFL [p, .fn (.func aaF) []]=rI (idxE lss 0)) :
    F_CFL lk rec p (.fn (.func aaF) [])=rB (lss.any fun l=>l.isEmpty):=by
  simp only [F_CFL,FF_CFL,hrec,aag,pK_p,aad,idxE_pos]
inductive Y120 (lp:List PVal) (b:Bool):Option (List PVal)→ab3→Prop where
  | b:Y120 lp b (some []) (.b lp.length b lp)
  | e {y:PVal} {s:List PVal}:Y120 lp b (some (y :: s)) (.e lp.length b lp (y :: s).length (y :: s))
  | f {n:Nat} {l:List PVal}:Y120 lp b none (.f lp.length false lp n l)
theorem rdo_f120_mko {α:Type} (o:ab3) (K:ab3→Option α):ahp (aaE o) K=K o:=by cases o <;> rfl
theorem rdo_f77_mko {α:Type} (o:agZ) (K:agZ→Option α):anQ (adH o) K=K o:=by cases o <;> rfl
theorem prod_empty:∀ {ls:List (List Iv.V)},(ls.any fun l=>l.isEmpty)=true→Iv.prod ls = []
  | [],h=>by simp at h
  | l :: r,h=>by
    rw [List.any_cons,Bool.or_eq_true] at h
    rw [Iv.prod]
    rcases h with h | h
    · rw [List.isEmpty_iff.1 h]; rfl
    · rw [prod_empty h]; simp
theorem f120_ok (F:LF rec) {lss:List (List Iv.V)} (hls:∀ l ∈ lss,l.length≤32) (hn0:lss ≠ []) (hn:lss.length≤40) (hk:1000 < k) {b:Bool} (hj:lss.length + 4≤j)
    (hany:rec i_CFL [.sl (lss.map encl), .fn (.func aaF) []]=rB (lss.any fun l=>l.isEmpty)) :
    ∃ o,(tds k rec j).t_f120 (.b (lss.map encl).length b (lss.map encl))=some (aaE o)∧Y120 (lss.map encl) b (app [] (ysT [] lss)) o:=by
  obtain ⟨j,rfl⟩:∃ j',j=j' + 1:=⟨j - 1,by omega⟩
  show ∃ o,TS_f120 k rec (tds k rec j) (.b (lss.map encl).length b (lss.map encl))=some (aaE o)∧Y120 (lss.map encl) b (app [] (ysT [] lss)) o
  simp only [TS_f120,Nat.zero_add,ble_of (Nat.le_refl _),chk_t,List.drop_zero,List.take_length,hany,aag,pK_p,aai]
  cases he:lss.any fun l=>l.isEmpty with
  | true =>
    rw [ysT,prod_empty he]
    exact ⟨.b _ _ _,rfl, .b⟩
  | false =>
    obtain ⟨o,h1,h2⟩:=p123 F hls hn0 hn hk (b:=b) lss [] [] j rfl (by simp) (by simp) (fun _=>rfl) (by omega)
    have h1:(tds k rec j).t_f123 (.b (lss.map encl).length (lss.map encl) b)=some (aaj o):=h1
    simp only [ifB_f,h1,aag,acr]
    have h2:Y123 (lss.map encl) b [] _ o:=h2
    generalize app [] (ysT [] lss)=res at h2 ⊢
    cases h2 with
    | c=>exact ⟨.e _ _ _ _ _,rfl, .e⟩
    | d=>exact ⟨.f _ _ _ _ _,rfl, .f⟩
    | e=>exact ⟨.b _ _ _,rfl, .b⟩
def st3 (x:PVal) (T i:Int) (b:Bool) (ac:List PVal):abp:=match ac with
  | []=>.a x T i b
  | y :: s=>.b (y :: s).length x T i b (y :: s)
def e3 (b:Bool) (ac:List PVal):aeg:=match ac with
  | []=>.a b
  | y :: s=>.b (y :: s).length b (y :: s)
theorem encF_c (k:Iv.K):Nat.beq (List.length (cellsP (encF k))) 1=true∧isAggP (encF k)=false:=by
  obtain ⟨t,v,h⟩:=ap7 k
  rw [h]
  exact ⟨rfl,rfl⟩
theorem valsL_cons {k:Iv.K} {r:List Iv.K} {ls:List (List Iv.V)} (h:Iv.valsL (k :: r)=some ls):∃ l ls',Iv.vals k=some l∧Iv.valsL r=some ls' ∧ ls=l :: ls':=by
  unfold Iv.valsL at h
  split at h
  · rename_i l ls' h1 h2
    simp only [Option.some.injEq] at h
    exact ⟨l,ls',h1,h2,h.symm⟩
  · cases h
theorem loop3 {ts:Tds} {kx:aeg→Option AVal} {x:PVal} {ps:List Iv.K} (hs:IsSl x (encFs ps)) (hps:ps.length≤1000) {b:Bool} :
    ∀ (p2:List Iv.K) (ls2:List (List Iv.V)) (p1:List Iv.K) (jj:Nat) (ac:List PVal),ps=p1 ++ p2→Iv.valsL p2=some ls2→p2.length < jj→ac.length=p1.length →
      (∀ k' ∈ p2,rec aaI [encF k']=outL (Iv.vals k')) →
      abz k rec ts kx jj (st3 x (((encFs ps).length:Nat):Int) (Int.ofNat p1.length) b ac)=kx (e3 b (ac ++ ls2.map encl))
  | [],ls2,p1,jj,ac,he,hv,hj,ha,_=>by
    obtain ⟨jj,rfl⟩:∃ j',jj=j' + 1:=⟨jj - 1,by omega⟩
    have hf:decide (Int.ofNat p1.length < (((encFs ps).length:Nat):Int))=false:=by rw [dlt,akb,he]; simp
    simp only [Iv.valsL,Option.some.injEq] at hv
    subst hv
    rw [List.map_nil,List.append_nil]
    cases ac <;> simp only [st3,abz,ad7,hf,ifB_f,e3]
  | k2 :: p2,ls2,p1,jj,ac,he,hv,hj,ha,hrec=>by
    obtain ⟨jj,rfl⟩:∃ j',jj=j' + 1:=⟨jj - 1,by omega⟩
    obtain ⟨l,ls',v1,v2,rfl⟩:=valsL_cons hv
    have ht:decide (Int.ofNat p1.length < (((encFs ps).length:Nat):Int))=true:=by rw [dlt,akb,he]; simp
    have hr1:=hrec k2 (by simp)
    rw [v1] at hr1
    have hr1:rec aaI [encF k2]=some (.p (.tup [encl l, .bool true])):=hr1
    have hg:(encFs ps)[p1.length]? = some (encF k2):=by rw [encFs_map,he]; simp
    have hlen:p1.length < ps.length:=by rw [he]; simp
    have ih:=loop3 (ts:=ts) (kx:=kx) hs hps (b:=b) p2 ls' (p1 ++ [k2]) jj (ac ++ [encl l]) (by rw [he]; simp) v2 (by simp at hj; omega) (by simp [ha]) (fun k' h=>hrec k' (List.mem_cons_of_mem _ h))
    rw [List.length_append,List.length_singleton] at ih
    rw [List.map_cons,List.append_cons]
    have hw:=aax (n:=p1.length) (by omega)
    have hc:=encF_c k2
    have ho:=oneP_encl l
    have hwd:=widths_encl l
    cases ac with
    | nil =>
      simp only [st3,abz,ad7,hs.slK,ht,ifB_t,aal,aao hg,hc.1,hc.2,Bool.not_false,chk_t,hr1,aag,pK_p,acL,aab,aai,aae,ho,hwd,hw]
      exact ih
    | cons y s =>
      have hble:Nat.ble (((y :: s).length + 1) * 24) 1099511627776=true:=ble_of (by omega)
      simp only [st3,abz,ad7,hs.slK,ht,ifB_t,aal,aao hg,hc.1,hc.2,Bool.not_false,chk_t,hr1,aag,pK_p,acL,aab,aai,aae,ho,hwd,hw,ad5,hble]
      refine (show _=abz k rec ts kx jj (st3 x (((encFs ps).length:Nat):Int) (Int.ofNat (p1.length + 1)) b ((y :: s) ++ [encl l])) from ?_).trans ih
      simp only [st3,List.cons_append,List.length_cons,List.length_append,List.length_nil,Nat.zero_add]
theorem agf:∀ (ps:List Iv.K),(Iv.valsL ps).isSome=ps.all fun k=>(Iv.vals k).isSome
  | []=>rfl
  | k :: r=>by
    unfold Iv.valsL
    rw [List.all_cons, ← agf r]
    cases Iv.vals k <;> cases Iv.valsL r <;> rfl
theorem aji:∀ {ps:List Iv.K} {ls:List (List Iv.V)},Iv.valsL ps=some ls→ls.length=ps.length ∧ ∀ l ∈ ls,l.length≤32
  | [],ls,h=>by simp only [Iv.valsL,Option.some.injEq] at h; subst h; simp
  | k :: r,ls,h=>by
    obtain ⟨l,ls',h1,h2,rfl⟩:=valsL_cons h
    obtain ⟨h3,h4⟩:=aji h2
    refine ⟨by simp [h3],fun l' hl'=>?_⟩
    rcases List.mem_cons.1 hl' with rfl | hl'
    · exact Iv.am5 _ h1
    · exact h4 l' hl'
theorem ysT_map (ls:List (List Iv.V)):ysT [] ls=encVs ((Iv.prod ls).map Iv.tupleV):=by
  unfold ysT
  rw [ap6,List.map_map]
  rfl
theorem listed_tuple {lk:Nat} (hlk:1000 < lk) {lo hi mo:Int} {ps:List Iv.K} (h1:ps ≠ []) (h2:ps.length≤30) (h:rec acv [.agg [encS (encFs ps)]]=rB (ps.all fun k=>(Iv.vals k).isSome))
    (h3:∀ k' ∈ ps,rec aaI [encF k']=outL (Iv.vals k'))
    (h4:∀ lss,Iv.valsL ps=some lss→rec i_CFL [.sl (lss.map encl), .fn (.func aaF) []]=rB (lss.any fun l=>l.isEmpty)) (F:LF rec) :
    abd lk rec (.iface 144 (.agg [encS (encFs ps)]))=outL (Iv.vals (.mk 5 lo hi mo ps)):=by
  have hv:Iv.vals (.mk 5 lo hi mo ps)=match Iv.valsL ps with
      | some ls=>Iv.cut ((Iv.prod ls).map Iv.tupleV)
      | none=>none:=by
    unfold Iv.vals
    rfl
  rw [hv]
  rw [← agf] at h
  simp only [abd,acI,ifK_if,m144,aag,show xi acv=false from rfl,Bool.not_false,chk_t,h,pK_p,aai]
  cases hps:Iv.valsL ps with
  | none=>rfl
  | some lss =>
    obtain ⟨l1,l2⟩:=aji hps
    have hne:lss ≠ []:=fun e=>by rw [e] at l1; exact h1 (List.length_eq_zero_iff.1 l1.symm)
    have hs:=agS (encFs ps)
    simp only [Option.isSome_some,Bool.not_true,ifB_f,show Nat.beq 144 139=false from rfl,show Nat.beq 144 141=false from rfl,show Nat.beq 144 144=true from rfl,ifB_t,kK,vK,aah,aab,aae,hs.slK]
    have lp:=fun kx=>loop3 (k:=lk) (rec:=rec) (ts:=tds lk rec lk) (kx:=kx) hs (by omega) (b:=false) ps lss [] lk [] rfl hps (by omega) rfl h3
    refine (lp _).trans ?_
    rw [List.nil_append]
    obtain ⟨o,q1,q2⟩:=f120_ok F l2 hne (by omega) hlk (b:=false) (j:=lk) (by omega) (h4 _ hps)
    rw [ysT_map,app_cut] at q2
    have hmn:lss.map encl ≠ []:=by simpa using hne
    generalize lss.map encl=lp at q1 q2 hmn ⊢
    cases lp with
    | nil=>exact absurd rfl hmn
    | cons y s =>
    have q0:(tds lk rec lk).t_f77 (.b (y :: s).length (y :: s))=some (adH (.b (y :: s) (y :: s).length)):=by
      obtain ⟨lk,rfl⟩:∃ l,lk=l + 1:=⟨lk - 1,by omega⟩
      rfl
    simp only [e3,q0,aag,rdo_f77_mko,q1,rdo_f120_mko]
    cases hc:Iv.cut ((Iv.prod lss).map Iv.tupleV) with
    | none =>
      rw [hc,Option.map_none] at q2
      cases q2
      rfl
    | some ys =>
      rw [hc,Option.map_some] at q2
      rw [outL_some]
      generalize encVs ys=yp at q2 ⊢
      cases q2 with
      | b=>rfl
      | e=>simp only [Nat.zero_add,ble_of (Nat.le_refl _),chk_t,List.drop_zero,List.take_length,encS]
structure Few (rec:Rec1) (k:Iv.K):Prop where
  texts:rec acx [.agg []]=rB false
  empty:rec acz [.agg []]=rB true
  truth:rec acw [.agg []]=rB true
  whole:∀ lo hi, -1000000000≤lo→lo≤hi→hi≤1000000000→rec acu [.agg [I lo,I hi]]=rB (decide (hi - lo < 32))
  group:∀ lo hi mo k1,k = .mk 6 lo hi mo [k1]→rec acy [.agg [I mo,encF k1]]=rB (Iv.vals k1).isSome
  tuple:∀ lo hi mo ps,k = .mk 5 lo hi mo ps→rec acv [.agg [encS (encFs ps)]]=rB (ps.all fun k=>(Iv.vals k).isSome)
  part:∀ f lo hi mo ps,k = .mk f lo hi mo ps → ∀ k' ∈ ps,rec aaI [encF k']=outL (Iv.vals k')
  any:∀ f lo hi mo ps,k = .mk f lo hi mo ps → ∀ lss,Iv.valsL ps=some lss→lss ≠ []→rec i_CFL [.sl (lss.map encl), .fn (.func aaF) []]=rB (lss.any fun l=>l.isEmpty)
theorem listed_F {lk:Nat} (hlk:1000 < lk) {k:Iv.K} (hsh:Iv.aap k=true) (F:LF rec) (W:Few rec k):abd lk rec (encF k)=outL (Iv.vals k):=by
  cases k with
  | mk f lo hi mo ps =>
  have hsh0:=hsh
  rw [acq,Bool.and_eq_true] at hsh
  have hsh:=hsh.2
  unfold swK at hsh
  unfold encF
  by_cases c2:f=2
  · subst c2
    simp [Iv.inR] at hsh
    obtain ⟨⟨a1,a2⟩,⟨a3,a4⟩,a5,a6⟩:=hsh
    subst a6
    rw [if_pos rfl]
    exact listed_whole hlk a1 a3 a4 (W.whole lo hi a1 a3 a4) F
  rw [if_neg c2]
  by_cases c3:f=3
  · subst c3
    have hv:Iv.vals (.mk 3 lo hi mo ps)=some [Iv.boolV 0,Iv.boolV 1]:=by unfold Iv.vals; rfl
    rw [hv,if_pos rfl]
    exact listed_truth hlk W.truth
  rw [if_neg c3]
  by_cases c5:f=5
  · subst c5
    simp [Iv.inR] at hsh
    rw [if_pos rfl]
    have hne:ps ≠ []:=fun e=>by subst e; simp at hsh
    exact listed_tuple hlk hne (by omega) (W.tuple _ _ _ _ rfl) (W.part _ _ _ _ _ rfl) (fun lss h=>W.any _ _ _ _ _ rfl lss h (fun e=>by have:=(aji h).1; rw [e] at this; exact hne (List.length_eq_zero_iff.1 this.symm))) F
  rw [if_neg c5]
  by_cases c6:f=6
  · subst c6
    simp [Iv.inR] at hsh
    obtain ⟨a1,a2,a3,a4⟩:=hsh
    obtain ⟨k1,rfl⟩:=List.length_eq_one_iff.1 a4
    rw [if_pos rfl]
    exact listed_group hlk (by omega) (by omega) (W.group _ _ _ _ rfl) (W.part _ _ _ _ _ rfl k1 (by simp)) (fun l h=>Iv.am5 _ h) F
  rw [if_neg c6]
  by_cases c1:f=1
  · subst c1
    have hv:Iv.vals (.mk 1 lo hi mo ps)=some []:=by unfold Iv.vals; rfl
    rw [hv,if_pos rfl]
    exact listed_empty W.empty
  · have hv:Iv.vals (.mk f lo hi mo ps)=none:=by unfold Iv.vals; simp [c1,c2,c3,c5,c6]
    rw [hv,if_neg c1]
    exact listed_texts W.texts
end
end Go.Proofs.YtdnbnpknpejpdaaGreatDoor
