/- What the functions of the law return, whatever the kind and the value. -/
import Derived.Test.YtdnbnpknpejpdaaGreatDoorTihM9
import Derived.Test.YtdnbnpknpejpdaaGreatDoorBase
import Derived.Test.YtdnbnpknpejpdaaGreatDoorLawB
import Derived.Test.YtdnbnpknpejpdaaGreatDoorRows
import Derived.Test.YtdnbnpknpejpdaaGreatDoorEvD
import Derived.ProofKit
import Derived.OpenShut
set_option linter.unusedVariables false
set_option linter.unusedSimpArgs false
set_option linter.unusedSectionVars false
namespace Go.Proofs.YtdnbnpknpejpdaaGreatDoor
open Go Go.Proofs.YtdnbnpknpejpdaaGreatDoor.Sw
theorem lKn_known:Known prog gl i_lKn [] (.p (.bool true)) []:=Tih.k197
end Go.Proofs.YtdnbnpknpejpdaaGreatDoor
namespace Go.Proofs.YtdnbnpknpejpdaaGreatDoor
open Go Go.Proofs.YtdnbnpknpejpdaaGreatDoor.Sw
set_option maxRecDepth 100000
noncomputable section
def ents:List (EntX prog gl):=[ent0 i_lKn (fun _=>some (.p (.bool true))) (fun _ _ hv _=>by cases hv; exact ⟨rfl,lKn_known⟩),N_ein,N_ain,N_aorder,N_eplain,N_aletters,N_xin,N_xisInt,N_xrefused,N_eWeigh,N_aWeigh,N_abrief,N_eshaped,N_eSmall,N_aSmall,N_eValid,N_eempty,N_eCount,N_aCompare,N_ashaped,N_aValid,N_eIs,N_aLists,N_aEqual,N_xkindNodes,N_xisForm_1,N_XFK,N_CFK,N_xisForm,N_xisKind,N_xCheckKind,N_kind_valid,N_kind_Check,N_dformed,N_dfresh,N_dwhole_few,N_dtruth_few,N_dtuple_few_1,N_XFF,N_CFF,N_dtuple_few,N_dgroup_few,N_dempty_few,N_dtexts_few,N_dValues,N_XFV,N_CFV,N_lIV_1,N_lIV,N_Clp,N_Cln,N_dnumber,N_dlists_1_1,N_dcomposed,N_XFL,N_CFL,N_dcopied,N_dlisted]
theorem lv_ein (n:Nat) (p0 p1 p2:PVal):level ents (n + 1) i_ein [p0,p1,p2]=good (F_ein lk (level ents n) p0 p1 p2):=rfl
theorem lv_ain (n:Nat) (p0 p1 p2:PVal):level ents (n + 1) i_ain [p0,p1,p2]=good (F_ain lk (level ents n) p0 p1 p2):=rfl
theorem lv_aorder (n:Nat) (p0 p1:PVal):level ents (n + 1) acS [p0,p1]=good (F_aorder lk (level ents n) p0 p1):=rfl
theorem lv_eplain (n:Nat) (p0:PVal):level ents (n + 1) ado [p0]=good (F_eplain lk (level ents n) p0):=rfl
theorem lv_aletters (n:Nat) (p0:PVal):level ents (n + 1) ae1 [p0]=good (al0 lk (level ents n) p0):=rfl
theorem lv_xin (n:Nat) (p0 p1 p2:PVal):level ents (n + 1) i_xin [p0,p1,p2]=good (F_xin lk (level ents n) p0 p1 p2):=rfl
theorem lv_xisInt (n:Nat) (p0:PVal):level ents (n + 1) aaO [p0]=good (F_xisInt lk (level ents n) p0):=rfl
theorem lv_xrefused (n:Nat) (p0:PVal):level ents (n + 1) ae0 [p0]=good (alZ lk (level ents n) p0):=rfl
theorem lv_eWeigh (n:Nat) (p0 p1 p2:PVal):level ents (n + 1) adp [p0,p1,p2]=good (F_eWeigh lk (level ents n) p0 p1 p2):=rfl
theorem lv_aWeigh (n:Nat) (p0 p1 p2:PVal):level ents (n + 1) adq [p0,p1,p2]=good (F_aWeigh lk (level ents n) p0 p1 p2):=rfl
theorem lv_abrief (n:Nat) (p0:PVal):level ents (n + 1) aeq [p0]=good (F_abrief lk (level ents n) p0):=rfl
theorem lv_eshaped (n:Nat) (p0:PVal):level ents (n + 1) ady [p0]=good (aqs lk (level ents n) p0):=rfl
theorem lv_eSmall (n:Nat) (p0:PVal):level ents (n + 1) anc [p0]=good (F_eSmall lk (level ents n) p0):=rfl
theorem lv_aSmall (n:Nat) (p0:PVal):level ents (n + 1) adr [p0]=good (F_aSmall lk (level ents n) p0):=rfl
theorem lv_eValid (n:Nat) (p0:PVal):level ents (n + 1) anb [p0]=good (F_eValid lk (level ents n) p0):=rfl
theorem lv_eempty (n:Nat) (p0:PVal):level ents (n + 1) aj5 [p0]=good (F_eempty lk (level ents n) p0):=rfl
theorem lv_eCount (n:Nat) (p0:PVal):level ents (n + 1) acf [p0]=good (F_eCount lk (level ents n) p0):=rfl
theorem lv_aCompare (n:Nat) (p0 p1:PVal):level ents (n + 1) aaV [p0,p1]=good (al1 lk (level ents n) p0 p1):=rfl
theorem lv_ashaped (n:Nat) (p0:PVal):level ents (n + 1) adz [p0]=good (aqw lk (level ents n) p0):=rfl
theorem lv_aValid (n:Nat) (p0:PVal):level ents (n + 1) abZ [p0]=good (F_aValid lk (level ents n) p0):=rfl
theorem lv_eIs (n:Nat) (p0 p1:PVal):level ents (n + 1) i_eIs [p0,p1]=good (F_eIs lk (level ents n) p0 p1):=rfl
theorem lv_aLists (n:Nat) (p0 p1:PVal):level ents (n + 1) ane [p0,p1]=good (F_aLists lk (level ents n) p0 p1):=rfl
theorem lv_aEqual (n:Nat) (p0 p1:PVal):level ents (n + 1) aer [p0,p1]=good (F_aEqual lk (level ents n) p0 p1):=rfl
theorem lv_xkindNodes (n:Nat) (p0 p1 p2:PVal):level ents (n + 1) abn [p0,p1,p2]=good (ag2 lk (level ents n) p0 p1 p2):=rfl
theorem lv_xisForm_1 (n:Nat) (p0:PVal):level ents (n + 1) aaQ [p0]=good (ai9 lk (level ents n) p0):=rfl
theorem lv_XFK (n:Nat) (p0 p1:PVal):level ents (n + 1) i_XFK [p0,p1]=good (F_XFK lk (level ents n) p0 p1):=rfl
theorem lv_CFK (n:Nat) (p0 p1:PVal):level ents (n + 1) i_CFK [p0,p1]=good (F_CFK lk (level ents n) p0 p1):=rfl
theorem lv_xisForm (n:Nat) (p0:PVal):level ents (n + 1) ad0 [p0]=good (aqr lk (level ents n) p0):=rfl
theorem lv_xisKind (n:Nat) (p0:PVal):level ents (n + 1) aj4 [p0]=good (aqq lk (level ents n) p0):=rfl
theorem lv_xCheckKind (n:Nat) (p0:PVal):level ents (n + 1) aeo [p0]=good (ag3 lk (level ents n) p0):=rfl
theorem lv_kind_valid (n:Nat) (p0:PVal):level ents (n + 1) aep [p0]=good (ag4 lk (level ents n) p0):=rfl
theorem lv_kind_Check (n:Nat) (p0:PVal):level ents (n + 1) acs [p0]=good (ag5 lk (level ents n) p0):=rfl
theorem lv_dformed (n:Nat) (p0:PVal):level ents (n + 1) abD [p0]=good (aqu lk (level ents n) p0):=rfl
theorem lv_dfresh (n:Nat) (p0:PVal):level ents (n + 1) aj6 [p0]=good (F_dfresh lk (level ents n) p0):=rfl
theorem lv_dwhole_few (n:Nat) (p0:PVal):level ents (n + 1) acu [p0]=good (ag6 lk (level ents n) p0):=rfl
theorem lv_dtruth_few (n:Nat) (p0:PVal):level ents (n + 1) acw [p0]=good (amG lk (level ents n) p0):=rfl
theorem apf (n:Nat) (p0:PVal):level ents (n + 1) aaG [p0]=good (aeS lk (level ents n) p0):=rfl
theorem lv_XFF (n:Nat) (p0 p1:PVal):level ents (n + 1) i_XFF [p0,p1]=good (F_XFF lk (level ents n) p0 p1):=rfl
theorem lv_CFF (n:Nat) (p0 p1:PVal):level ents (n + 1) i_CFF [p0,p1]=good (F_CFF lk (level ents n) p0 p1):=rfl
theorem lv_dtuple_few (n:Nat) (p0:PVal):level ents (n + 1) acv [p0]=good (ag7 lk (level ents n) p0):=rfl
theorem lv_dgroup_few (n:Nat) (p0:PVal):level ents (n + 1) acy [p0]=good (ag9 lk (level ents n) p0):=rfl
theorem lv_dempty_few (n:Nat) (p0:PVal):level ents (n + 1) acz [p0]=good (amI lk (level ents n) p0):=rfl
theorem lv_dtexts_few (n:Nat) (p0:PVal):level ents (n + 1) acx [p0]=good (amH lk (level ents n) p0):=rfl
theorem lv_dValues (n:Nat) (p0:PVal):level ents (n + 1) ad1 [p0]=good (aha lk (level ents n) p0):=rfl
theorem lv_XFV (n:Nat) (p0 p1:PVal):level ents (n + 1) i_XFV [p0,p1]=good (F_XFV lk (level ents n) p0 p1):=rfl
theorem lv_CFV (n:Nat) (p0 p1:PVal):level ents (n + 1) i_CFV [p0,p1]=good (F_CFV lk (level ents n) p0 p1):=rfl
theorem lv_lIV_1 (n:Nat) (p0 p1:PVal):level ents (n + 1) acR [p0,p1]=good (F_lIV_1 lk (level ents n) p0 p1):=rfl
theorem lv_lIV (n:Nat) (p0 p1:PVal):level ents (n + 1) i_lIV [p0,p1]=good (F_lIV lk (level ents n) p0 p1):=rfl
theorem lv_Clp (n:Nat) (p0:PVal):level ents (n + 1) i_Clp [p0]=good (F_Clp lk (level ents n) p0):=rfl
theorem lv_Cln (n:Nat) (p0:PVal):level ents (n + 1) i_Cln [p0]=good (F_Cln lk (level ents n) p0):=rfl
theorem lv_dnumber (n:Nat) (p0:PVal):level ents (n + 1) agN [p0]=good (aqt lk (level ents n) p0):=rfl
theorem lv_dlists_1_1 (n:Nat) (p0:PVal):level ents (n + 1) aaF [p0]=good (ag8 lk (level ents n) p0):=rfl
theorem amv (n:Nat) (p0 p1:PVal):level ents (n + 1) abe [p0,p1]=good (aja lk (level ents n) p0 p1):=rfl
theorem lv_XFL (n:Nat) (p0 p1:PVal):level ents (n + 1) i_XFL [p0,p1]=good (F_XFL lk (level ents n) p0 p1):=rfl
theorem lv_CFL (n:Nat) (p0 p1:PVal):level ents (n + 1) i_CFL [p0,p1]=good (F_CFL lk (level ents n) p0 p1):=rfl
theorem lv_dcopied (n:Nat) (p0:PVal):level ents (n + 1) abE [p0]=good (aqv lk (level ents n) p0):=rfl
theorem lv_dlisted (n:Nat) (p0:PVal):level ents (n + 1) aaI [p0]=good (abd lk (level ents n) p0):=rfl
theorem lists11_F {lk:Nat} {rec:Rec1} {l:List Iv.V}:ag8 lk rec (encl l)=rB l.isEmpty:=by
  simp only [ag8,af6,encl,(agS (encVs l)).slK,aaW]
  cases l <;> rfl
end
end Go.Proofs.YtdnbnpknpejpdaaGreatDoor
namespace Go.Proofs.YtdnbnpknpejpdaaGreatDoor
open Go Go.Proofs.YtdnbnpknpejpdaaGreatDoor.Sw
set_option maxRecDepth 100000
noncomputable section
abbrev lv (N:Nat):Rec1:=level ents N
theorem lk_lt {n:Nat} (h:n < 1900):n < lk:=by show n < 2000; omega
theorem pred {m N:Nat} (h:m + 1≤N):∃ M,N=M + 1∧m≤M:=⟨N - 1,by omega,by omega⟩
theorem posn {k:Iv.K}:1≤k.nodes:=by cases k; unfold Iv.K.nodes; omega
theorem posv {k:Iv.V}:1≤k.nodes:=by cases k; unfold Iv.V.nodes; omega
section
variable {N:Nat}
theorem K_in5 (hN:1≤N) (a b c:Int):lv N i_ein [I a,I b,I c]=rB (Iv.inR a b c):=by
  obtain ⟨M,rfl,_⟩:=pred (m:=0) hN
  rw [lv,lv_ein,in5_F]; rfl
theorem K_in1 (hN:1≤N) (a b c:Int):lv N i_ain [I a,I b,I c]=rB (Iv.inR a b c):=by
  obtain ⟨M,rfl,_⟩:=pred (m:=0) hN
  rw [lv,lv_ain,in1_F]; rfl
theorem K_inS (hN:1≤N) (a b c:Int):lv N i_xin [I a,I b,I c]=rB (Iv.inR a b c):=by
  obtain ⟨M,rfl,_⟩:=pred (m:=0) hN
  rw [lv,lv_xin,inS_F]; rfl
theorem K_order (hN:1≤N) (a b:Int):lv N acS [I a,I b]=rI (Iv.order a b):=by
  obtain ⟨M,rfl,_⟩:=pred (m:=0) hN
  rw [lv,lv_aorder,order_F]; rfl
theorem K_refused (hN:1≤N) (b:Bool):lv N ae0 [.bool b]=rI (if b then 0 else 2):=by
  obtain ⟨M,rfl,_⟩:=pred (m:=0) hN
  rw [lv,lv_xrefused,refused_F]; rfl
theorem K_isInt (hN:2≤N) (a:Int):lv N aaO [I a]=rB (Iv.inR a (-1000000000) 1000000000):=by
  obtain ⟨M,rfl,h⟩:=pred (m:=1) hN
  rw [lv,lv_xisInt,isInt_F (K_inS h _ _ _)]; rfl
theorem K_plain (hN:1≤N) {x:PVal} {f lo hi mo:Int} {ks:List Iv.K} (hk:IsK x (.mk f lo hi mo ks)):lv N ado [x]=rB (decide (lo=0) && decide (hi=0) && decide (mo=0)):=by
  obtain ⟨M,rfl,_⟩:=pred (m:=0) hN
  rw [lv,lv_eplain,plain_F hk]; rfl
theorem K_letters (hN:1≤N) {t:List Nat} (ht:t.length < 1000):lv N ae1 [.str t]=rB (Iv.alx t):=by
  obtain ⟨M,rfl,_⟩:=pred (m:=0) hN
  rw [lv,lv_aletters,letters_F (by omega) (lk_lt (by omega))]; rfl
theorem K_weigh5:∀ (N:Nat) {x:PVal} {k:Iv.K} {l d:Int},1≤N→IsK x k → -1≤l→l≤1000 → -1000≤d→d≤1000→d < N→lv N adp [x,I l,I d]=rI (weighK k l d)
  | 0,_,_,_,_,h,_,_,_,_,_,_=>by omega
  | M + 1,x,k,l,d,_,hk,h1,h2,h3,h4,h5=>by
    rw [lv,lv_eWeigh,weigh5_F hk h1 h2 ⟨h3,h4⟩ (lk_lt (by omega)) (fun hd x k' hk' l hl hl2=>K_weigh5 M (by omega) hk' hl hl2 (by omega) (by omega) (by omega))]; rfl
theorem ako:∀ (N:Nat) {x:PVal} {k:Iv.V} {l d:Int},1≤N→IsV x k → -1≤l→l≤1000 → -1000≤d→d≤1000→d < N→lv N adq [x,I l,I d]=rI (weighV k l d)
  | 0,_,_,_,_,h,_,_,_,_,_,_=>by omega
  | M + 1,x,k,l,d,_,hk,h1,h2,h3,h4,h5=>by
    rw [lv,lv_aWeigh,weigh1_F hk h1 h2 ⟨h3,h4⟩ (lk_lt (by omega)) (fun hd x k' hk' l hl hl2=>ako M (by omega) hk' hl hl2 (by omega) (by omega) (by omega))]; rfl
theorem K_brief:∀ (N:Nat) {x:PVal} {v:Iv.V},IsV x v→v.nodes≤N→v.nodes < 1000→lv N aeq [x]=rB (briefV v)
  | 0,_,v,_,h,_=>by have:=posv (k:=v); omega
  | M + 1,x,v,hv,h,h2=>by
    rw [lv,lv_abrief,brief_F hv h2 (lk_lt (by omega)) (fun x v' hn hv'=>K_brief M hv' (by omega) (by omega))]; rfl
theorem K_shaped5:∀ (N:Nat) {x:PVal} {k:Iv.K},IsK x k→k.nodes + 1≤N→k.nodes < 1000→lv N ady [x]=rB (Iv.aap k)
  | 0,_,v,_,h,_=>by omega
  | M + 1,x,k,hk,h,h2=>by
    have h0:=posn (k:=k)
    rw [lv,lv_eshaped,shaped5_F hk h2 (lk_lt (by omega)) (K_in5 (by omega)) (fun x f lo hi mo ks h=>K_plain (by omega) h) (fun x k' hn hk'=>K_shaped5 M hk' (by omega) (by omega))]; rfl
theorem memV' {v k:Iv.V} (h:k ∈ v.parts):k.nodes < v.nodes:=by
  cases v with
  | mk a b c p =>
    have:=memV (l:=p) h
    rw [nodesV]; omega
theorem aqp:∀ (N:Nat) {x y:PVal} {a b:Iv.V},IsV x a→IsV y b→a.nodes + 1≤N→a.nodes < 1000→lv N aaV [x,y]=rI (Iv.cmp a b)
  | 0,_,_,_,_,_,_,h,_=>by omega
  | M + 1,x,y,a,b,ha,hb,h,h2=>by
    have h0:=posv (k:=a)
    rw [lv,lv_aCompare,compare_F ha hb h2 (lk_lt (by omega)) (K_order (by omega)) (fun x y k' m' hk' hm' hx hy=>by have:=memV' hk'; exact aqp M hx hy (by omega) (by omega))]; rfl
theorem K_equal:∀ (n:Nat) {N:Nat} {x y:PVal} {a b:Iv.V},IsV x a→IsV y b→a.nodes≤n→2 * n≤N→n < 900→lv N aer [x,y]=rB (eqV a b)
  | 0,_,_,_,a,_,_,_,h,_,_=>by have:=posv (k:=a); omega
  | n + 1,N,x,y,a,b,ha,hb,h,h2,h3=>by
    obtain ⟨M,rfl⟩:∃ M,N=M + 2:=⟨N - 2,by omega⟩
    rw [lv,lv_aEqual,equal_F ha hb (fun p q xs ys hp hq hx hy=>by
      have hl:a.parts.length < 1000:=by
        cases a with
        | mk a1 a2 a3 p =>
          have:=lenV (l:=p)
          rw [nodesV] at h
          show p.length < _
          omega
      show level ents _ _ _=_; rw [lv_aLists,lists_F hp hq hx hy hl (lk_lt (by omega)) (fun x y k' m' hk' hm' hx hy=>by have:=memV' hk'; exact K_equal n hx hy (by omega) (by omega) (by omega))]; rfl)]; rfl
theorem brief_txt {v:Iv.V} (h:briefV v=true):v.txt.length < 1000:=by
  cases v with
  | mk a b t p =>
    unfold briefV at h
    rw [Bool.and_eq_true,decide_eq_true_eq] at h
    show t.length < _
    omega
theorem brief_part {v k:Iv.V} (h:briefV v=true) (hk:k ∈ v.parts):briefV k=true:=by
  cases v
  unfold briefV at h
  rw [Bool.and_eq_true,aiY,List.all_eq_true] at h
  exact h.1 k hk
theorem aqn:∀ (N:Nat) {x:PVal} {k:Iv.V},IsV x k→k.nodes + 1≤N→k.nodes < 1000→briefV k=true→lv N adz [x]=rB (Iv.aaS k)
  | 0,_,v,_,h,_,_=>by omega
  | M + 1,x,k,hk,h,h2,hb=>by
    have h0:=posv (k:=k)
    rw [lv,lv_ashaped,shaped1_F hk h2 (brief_txt hb) (lk_lt (by omega)) (K_in1 (by omega)) (fun t ht=>K_letters (by omega) ht)
      (fun x y k' m' hk' hm' hx hy=>by have:=memV' hk'; exact aqp M hx hy (by omega) (by omega)) (fun x k' hk' hx=>by have:=memV' hk'; exact aqn M hx (by omega) (by omega) (brief_part hb hk'))]; rfl
theorem K_is:∀ (N:Nat) {x y:PVal} {k:Iv.K} {v:Iv.V},IsK x k→IsV y v→k.nodes + 1≤N→v.nodes < 1000→Iv.aap k=true→lv N i_eIs [x,y]=rB (Iv.isV k v)
  | 0,_,_,_,_,_,_,h,_,_=>by omega
  | M + 1,x,y,k,v,hk,hv,h,h2,hs=>by
    have h0:=posn (k:=k)
    rw [lv,lv_eIs,is_F hk hv h2 (lk_lt (by omega)) hs (K_in5 (by omega)) (fun x y k' v' hn hs' hv' hx hy=>by have:=memV' hv'; exact K_is M hx hy (by omega) (by omega) hs')]; rfl
theorem amd {f lo hi mo:Int} {ks:List Iv.K} (h:Iv.aap (.mk f lo hi mo ks)=true):∀ k' ∈ ks,Iv.aap k' = true:=by
  rw [acq,Bool.and_eq_true,List.all_eq_true] at h
  exact h.1
theorem memK' {f lo hi mo:Int} {ks:List Iv.K} {k' : Iv.K} (h:k' ∈ ks):k'.nodes < (Iv.K.mk f lo hi mo ks).nodes:=by
  have:=memK h
  rw [nodesK]; omega
theorem lenK' {f lo hi mo:Int} {ks:List Iv.K}:ks.length < (Iv.K.mk f lo hi mo ks).nodes:=by
  have:=lenK (l:=ks)
  rw [nodesK]; omega
theorem K_count:∀ (n:Nat) {N:Nat} {x:PVal} {k:Iv.K},IsK x k→k.nodes≤n→2 * n≤N→n < 900→Iv.aap k=true→lv N acf [x]=rT (Iv.count k).1 (Iv.count k).2
  | 0,_,_,k,_,h,_,_,_=>by have:=posn (k:=k); omega
  | n + 1,N,x,k,hk,h,h2,h3,hs=>by
    obtain ⟨M,rfl⟩:∃ M,N=M + 2:=⟨N - 2,by omega⟩
    rw [lv,lv_eCount,count_F hk (by omega) (lk_lt (by omega)) hs (fun x f lo hi mo ks e hx=>by
      subst e
      have hl:=lenK' (f:=f) (lo:=lo) (hi:=hi) (mo:=mo) (ks:=ks)
      show level ents _ _ _=_; rw [lv_eempty,empty_F hx (by omega) (lk_lt (by omega)) (fun x k' hk' hx=>by have:=memK' (f:=f) (lo:=lo) (hi:=hi) (mo:=mo) hk'; exact K_count n hx (by omega) (by omega) (by omega) (amd hs k' hk'))]; rfl)
      (fun x k' hn hs' hx=>K_count n hx (by omega) (by omega) (by omega) hs')]; rfl
theorem aqo:∀ (N:Nat) {x:PVal} {k:Iv.K} {l d:Int},IsK x k → -1≤l→l≤1000→(k.nodes:Int)≤d + 999→d≤1000→k.nodes < 1000→k.nodes≤N→lv N abn [x,I l,I d]=rI (weighK k l d)
  | 0,_,k,_,_,_,_,_,_,_,_,h=>by have:=posn (k:=k); omega
  | M + 1,x,k,l,d,hk,h1,h2,h3,h4,h5,h6=>by
    have h0:=posn (k:=k)
    rw [lv,lv_xkindNodes,kindNodes_F hk h1 h2 ⟨by omega,h4⟩ h5 (lk_lt (by omega)) (fun x k' hn hx l hl hl2=>aqo M hx hl hl2 (by omega) (by omega) (by omega) (by omega))]; rfl
theorem K_isForm:∀ (n:Nat) {N:Nat} {x:PVal} {k:Iv.K},IsK x k→k.nodes≤n→4 * n + 2≤N→n < 900→lv N ad0 [x]=rB (Iv.aap k)
  | 0,_,_,k,_,h,_,_=>by have:=posn (k:=k); omega
  | n + 1,N,x,k,hk,h,h2,h3=>by
    obtain ⟨M,rfl⟩:∃ M,N=M + 4:=⟨N - 4,by omega⟩
    rw [lv,lv_xisForm,isForm_F hk (K_inS (by omega)) (K_isInt (by omega)) (fun p xs ks hp hxs hl hks=>by
      show level ents _ _ _=_; rw [lv_CFK,contains_F (ks:=ks) (by
        show level ents _ _ _=_; rw [lv_XFK,idx_F hp hxs (by omega) (lk_lt (by omega)) (fun x k' hk' hx=>by
          have:=hks k' hk'
          show level ents _ _ _=_; rw [lv_xisForm_1,isForm1_F hx (K_isForm n hx (by omega) (by omega) (by omega))]; rfl)]; rfl)]; rfl)]; rfl
theorem K_kcheck {x:PVal} {k:Iv.K} (hk:IsK x k) (h:k.nodes≤30) (hN:200≤N) (hv:Iv.validK k=true):lv N acs [x]=rI 0:=by
  obtain ⟨M,rfl⟩:∃ M,N=M + 4:=⟨N - 4,by omega⟩
  have e:(decide (0≤weighK k 20 6) && Iv.aap k)=true:=by
    rw [posK (k:=k) (a:=20) (b:=6) (x:=20) (y:=6) rfl rfl]; exact hv
  rw [lv,lv_kind_Check,kcheck_F (b:=true) hk (by
    show level ents _ _ _=_; rw [lv_kind_valid,kvalid_F (b:=true) hk (by
      show level ents _ _ _=_; rw [lv_xCheckKind,checkKind_F (b:=true) hk (by
        show level ents _ _ _=_; rw [lv_xisKind,isKind_F hk (aqo M hk (by omega) (by omega) (by omega) (by omega) (by omega) (by omega)) (K_isForm 30 hk h (by omega) (by omega)),e]; rfl) (K_refused (by omega) true)]; rfl)]; rfl)]; rfl
theorem K_formed:∀ (N:Nat) {x:PVal} {k:Iv.K},IsK x k→k.nodes≤N→k.nodes < 1000→Iv.aap k=true→lv N abD [x]=some (.p (encF k))
  | 0,_,k,_,h,_,_=>by have:=posn (k:=k); omega
  | M + 1,x,k,hk,h,h2,hs=>by
    rw [lv,lv_dformed,formed_F hk h2 (lk_lt (by omega)) hs (fun x k' hn hs' hx=>K_formed M hx (by omega) (by omega) hs')]; rfl
theorem K_copied:∀ (N:Nat) {x:PVal} {v:Iv.V},IsV x v→v.nodes≤N→v.nodes < 1000→lv N abE [x]=some (.p (encV v))
  | 0,_,v,_,h,_=>by have:=posv (k:=v); omega
  | M + 1,x,v,hv,h,h2=>by
    rw [lv,lv_dcopied,copied_F hv h2 (lk_lt (by omega)) (fun x v' hn hv'=>K_copied M hv' (by omega) (by omega))]; rfl
end
end
end Go.Proofs.YtdnbnpknpejpdaaGreatDoor
namespace Go.Proofs.YtdnbnpknpejpdaaGreatDoor
open Go Go.Proofs.YtdnbnpknpejpdaaGreatDoor.Sw
set_option maxRecDepth 100000
noncomputable section
section
variable {N:Nat}
theorem LF_of (hN:2≤N):LF (lv N):=by
  obtain ⟨M,rfl⟩:∃ M,N=M + 2:=⟨N - 2,by omega⟩
  refine ⟨?_,fun l h1 h2=>?_,fun l h1 h2=>?_,fun z=>?_,fun z l h1 h2=>?_,fun z=>?_⟩
  · rw [lv,lv_Clp,clip_nil]; rfl
  · rw [lv,lv_Clp,clip_F h1]; rfl
  · rw [lv,lv_Cln,clone_F h1 (by omega)]; rfl
  · rw [lv,amv,composed_F (by show level ents _ _ _=_; rw [lv_Cln,clone_nil]; rfl) ⟨_, .nil⟩]; rfl
  · rw [lv,amv,composed_F (by show level ents _ _ _=_; rw [lv_Cln,clone_F h1 (by omega)]; rfl) ⟨_, .sl _⟩]; rfl
  · rw [lv,lv_dnumber,number_F]; rfl
theorem outL_good (o:Option (List Iv.V)):good (outL o)=outL o:=by cases o <;> rfl
theorem outL_get (o:Option (List Iv.V)):∃ q,outL o=some (.p (.tup [q, .bool o.isSome])):=by
  cases o with
  | none=>exact ⟨_,rfl⟩
  | some l=>exact ⟨_,rfl⟩
theorem akp:∀ (n:Nat) {N:Nat} {k:Iv.K},k.nodes≤n→5 * n + 5≤N→n < 300→Iv.aap k=true→lv N aaI [encF k]=outL (Iv.vals k)
  | 0,_,k,h,_,_,_=>by have:=posn (k:=k); omega
  | n + 1,N,k,h,h2,h3,hs=>by
    obtain ⟨M,rfl⟩:∃ M,N=M + 5:=⟨N - 5,by omega⟩
    have hp:∀ {f lo hi mo ps},k = .mk f lo hi mo ps → ∀ k' ∈ ps,k'.nodes≤n∧Iv.aap k' = true:=fun e k' hk'=>by
      subst e
      rename_i f lo hi mo ps
      have:=memK' (f:=f) (lo:=lo) (hi:=hi) (mo:=mo) hk'
      exact ⟨by omega,amd hs k' hk'⟩
    have hl:∀ {f lo hi mo ps},k = .mk f lo hi mo ps→ps.length < 1000:=fun e=>by
      subst e
      rename_i f lo hi mo ps
      have:=lenK' (f:=f) (lo:=lo) (hi:=hi) (mo:=mo) (ks:=ps)
      omega
    rw [lv,lv_dlisted,listed_F (lk_lt (by omega)) hs (LF_of (by omega)) ⟨?_, ?_, ?_,fun lo hi a b c=>?_,fun lo hi mo k1 e=>?_,fun lo hi mo ps e=>?_,fun f lo hi mo ps e k' hk'=>?_,fun f lo hi mo ps e lss hv hne=>?_⟩,outL_good]
    · show level ents _ _ _=_; rw [lv_dtexts_few,textsFew_F]; rfl
    · show level ents _ _ _=_; rw [lv_dempty_few,emptyFew_F]; rfl
    · show level ents _ _ _=_; rw [lv_dtruth_few,truthFew_F]; rfl
    · show level ents _ _ _=_; rw [lv_dwhole_few,wholeFew_F ⟨by omega,by omega⟩ ⟨by omega,by omega⟩]; rfl
    · have hk1:=hp e k1 (by simp)
      obtain ⟨q,hq⟩:=outL_get (Iv.vals k1)
      show level ents _ _ _=_; rw [lv_dgroup_few,groupFew_F (q:=q) ((akp n (N:=M + 3) hk1.1 (by omega) (by omega) hk1.2).trans hq)]; rfl
    · show level ents _ _ _=_; rw [lv_dtuple_few,tupleFew_F (b:=!ps.all fun k=>(Iv.vals k).isSome) (by
        show level ents _ _ _=_; rw [lv_CFF,containsF_F (ks:=ps) (by
          show level ents _ _ _=_; rw [lv_XFF,idxF_F (agS _) (hl e) (lk_lt (by omega)) (fun k' hk'=>by
            obtain ⟨q,hq⟩:=outL_get (Iv.vals k')
            have hk1:=hp e k' hk'
            show level ents _ _ _=_; rw [apf,tupleFew1_F (q:=q) ((akp n (N:=M) hk1.1 (by omega) (by omega) hk1.2).trans hq)]; rfl)]; rfl)]; rfl)]
      rw [Bool.not_not]; rfl
    · have hk1:=hp e k' hk'
      exact akp n hk1.1 (by omega) (by omega) hk1.2
    · have h5:=(aji hv).1
      have h6:=hl e
      show level ents _ _ _=_; rw [lv_CFL,containsE_F (lss:=lss) (by
        show level ents _ _ _=_; rw [lv_XFL,idxE_F (.sl _) (by omega) (lk_lt (by omega)) (fun l _=>by
          show level ents _ _ _=_; rw [lv_dlists_1_1,lists11_F]; rfl)]; rfl)]; rfl
theorem K_fresh (hN:500≤N) {l:List Iv.V} (hl:l.length≤32) (hn:∀ v ∈ l,v.nodes≤200):lv N aj6 [encS (encVs l)]=some (.p (encS (encVs l))):=by
  obtain ⟨M,rfl,h⟩:=pred (m:=499) hN
  rw [lv,lv_dfresh,fresh_F (agS _) (ani l) (by omega) (lk_lt (by omega)) (fun x k' hk' hx=>by have:=hn k' hk'; exact K_copied M hx (by omega) (by omega))]; rfl
theorem vals_none (hN:600≤N) {x:PVal} {k:Iv.K} (hk:IsK x k) (h0:k.nodes≤30) (hv:Iv.validK k=true) (h:Iv.vals k=none):lv N ad1 [x]=some (.p (.tup [.nils,I 3])):=by
  obtain ⟨M,rfl,hM⟩:=pred (m:=599) hN
  have hs:Iv.aap k=true:=by
    unfold Iv.validK at hv
    simp only [Bool.and_eq_true] at hv
    exact hv.2
  have hl:=akp 30 (N:=M) h0 (by omega) (by omega) hs
  rw [h] at hl
  rw [lv,lv_dValues,values_none hk (K_kcheck hk h0 (by omega) hv) (K_formed M hk (by omega) (by omega) hs) hl]; rfl
theorem vals_some (hN:600≤N) {x:PVal} {k:Iv.K} (hk:IsK x k) (h0:k.nodes≤30) (hv:Iv.validK k=true) {l:List Iv.V} (h:Iv.vals k=some l):lv N ad1 [x]=some (.p (.tup [encS (encVs l),I 0])):=by
  obtain ⟨M,rfl,hM⟩:=pred (m:=599) hN
  have hs:Iv.aap k=true:=by
    unfold Iv.validK at hv
    simp only [Bool.and_eq_true] at hv
    exact hv.2
  have hl:=akp 30 (N:=M) h0 (by omega) (by omega) hs
  rw [h] at hl
  have hn:∀ v ∈ l,v.nodes≤200:=fun v hv'=>by
    have:=(Iv.aku hv h v hv').1
    unfold Iv.validV at this
    simp only [Bool.and_eq_true,decide_eq_true_eq] at this
    exact this.1.1
  rw [lv,lv_dValues,values_some hk (K_kcheck hk h0 (by omega) hv) (K_formed M hk (by omega) (by omega) hs) hl (K_fresh (by omega) (Iv.am5 _ h) hn)]; rfl
theorem al9 {v:Iv.V} {a b:Int} (h:0≤weighV v a b):(v.nodes:Int)≤a:=by
  rw [anp] at h
  split at h
  · omega
  · omega
theorem lawFacts (hN:700≤N) {x y:PVal} {k:Iv.K} {v:Iv.V} (hk:IsK x k) (hv:IsV y v):LawFacts (lv N) x k y v:=by
  obtain ⟨M,rfl⟩:∃ M,N=M + 3:=⟨N - 3,by omega⟩
  have hK:Iv.validK k=true→k.nodes≤20∧Iv.aap k=true:=fun h=>by
    unfold Iv.validK at h
    simp only [Bool.and_eq_true,decide_eq_true_eq] at h
    exact ⟨h.1.1,h.2⟩
  have hV:∀ u,Iv.validV u=true→u.nodes≤200∧u.hgt≤8∧Iv.aaS u=true:=fun u h=>by
    unfold Iv.validV at h
    simp only [Bool.and_eq_true,decide_eq_true_eq] at h
    exact ⟨h.1.1,h.1.2,h.2⟩
  refine ⟨?_, ?_,fun h=>?_,rfl,fun h1 h2=>?_,fun h1 l h2=>?_,fun h=>?_,fun h z u hz hu hb=>⟨?_, ?_, ?_⟩,fun z z' a b ha hb hz hz'=>?_,fun h1 h2=>?_,fun h1 h2=>?_,fun h1 q xs l hq hxs hl hu=>?_⟩
  · rw [lv,lv_eSmall,small5_F hk (K_weigh5 (M + 2) (by omega) hk (by omega) (by omega) (by omega) (by omega) (by omega))]; rfl
  · rw [lv,lv_aSmall,small1_F hv (ako (M + 2) (by omega) hv (by omega) (by omega) (by omega) (by omega) (by omega)) (fun h=>K_brief (M + 2) hv (by have:=al9 h; omega) (by have:=al9 h; omega))]; rfl
  · rw [lv,lv_eValid,valid5_F hk (K_weigh5 (M + 2) (by omega) hk (by omega) (by omega) (by omega) (by omega) (by omega)) (fun _=>K_shaped5 (M + 2) hk (by omega) (by omega))]; rfl
  · exact vals_none (by omega) hk (by have:=(hK h1).1; omega) h1 h2
  · exact ⟨_,_,agS _,ani l,vals_some (by omega) hk (by have:=(hK h1).1; omega) h1 h2⟩
  · exact K_count 30 hk (by have:=(hK h).1; omega) (by omega) (by omega) (hK h).2
  · obtain ⟨u1,u2,u3⟩:=hV u hu
    rw [lv,lv_aSmall,small1_F hz (ako (M + 2) (by omega) hz (by omega) (by omega) (by omega) (by omega) (by omega)) (fun h=>K_brief (M + 2) hz (by omega) (by omega))]
    rw [posV (k:=u) (a:=260) (b:=12) (x:=260) (y:=12) rfl rfl,decide_eq_true (show u.nodes≤260 by omega),decide_eq_true (show u.hgt≤12 by omega),hb]; rfl
  · obtain ⟨u1,u2,u3⟩:=hV u hu
    rw [lv,lv_aValid,valid1_F hz (ako (M + 2) (by omega) hz (by omega) (by omega) (by omega) (by omega) (by omega)) (fun h=>aqn (M + 2) hz (by omega) (by omega) hb)]
    rw [posV (k:=u) (a:=200) (b:=8) (x:=200) (y:=8) rfl rfl,decide_eq_true u1,decide_eq_true u2,u3]; rfl
  · obtain ⟨u1,u2,u3⟩:=hV u hu
    exact K_is (M + 3) hk hz (by have:=(hK h).1; omega) (by omega) (hK h).2
  · obtain ⟨u1,u2,u3⟩:=hV a ha
    exact aqp (M + 3) hz hz' (by omega) (by omega)
  · rw [lv,lv_aValid,valid1_F hv (ako (M + 2) (by omega) hv (by omega) (by omega) (by omega) (by omega) (by omega)) (fun h=>aqn (M + 2) hv (by omega) (by omega) h2)]
    rw [posV (k:=v) (a:=200) (b:=8) (x:=200) (y:=8) rfl rfl]; rfl
  · exact K_is (M + 3) hk hv (by have:=(hK h1).1; omega) (by omega) (hK h1).2
  · rw [lv,lv_CFV,containsV_F (l:=l) (v:=v) (by
      show level ents _ _ _=_; rw [lv_XFV,idxV_F hq hxs (by omega) (lk_lt (by omega)) (fun x k' hk' hx=>by
        obtain ⟨u1,u2,u3⟩:=hV k' (hu k' hk')
        show level ents _ _ _=_; rw [lv_lIV_1,law1_F hx hv (K_equal 200 hx hv u1 (by omega) (by omega))]; rfl)]; rfl)]; rfl
theorem law_true {x y:PVal} {k:Iv.K} {v:Iv.V} (hk:IsK x k) (hv:IsV y v):lv 800 i_lIV [x,y]=rB true:=by
  rw [lv,lv_lIV,law_F hk hv (lk_lt (by omega)) (lawFacts (N:=799) (by omega) hk hv)]; rfl
end
end
end Go.Proofs.YtdnbnpknpejpdaaGreatDoor
namespace Go.Proofs.YtdnbnpknpejpdaaGreatDoor
open Go Go.ChangeShapes Go.WideShapes Go.ChangeAt Go.RowKit Go.Proofs.YtdnbnpknpejpdaaGreatDoor.Sw
set_option maxRecDepth 100000
theorem paramsH:Tryz.f3.params = #[25,29]:=by kernel_rfl
theorem resultsH:Tryz.f3.resultTypes = #[4]:=by kernel_rfl
theorem undB:Tryz.prog.underlying 4=some .bool:=by kernel_rfl
theorem laidOutH:laidOutB Tryz.prog=true:=by kernel_rfl
theorem shut_b {H:Type} {enc:TypeId × Value→H} {W:World} {base:Nat} {sp:Nat→Bool} {held:Bool} (b:Bool):DataW.Trod enc Tryz.prog W base sp held 4 (.bool b) (.lit (.bool b)) []:=⟨1,by simp [DataW.trod,Value.cells,undB]⟩
noncomputable def fieldsK:Array Field:=match Tryz.prog.underlying 25 with
  | some (.struct fs)=>fs
  | _=>#[]
noncomputable def fieldsV:Array Field:=match Tryz.prog.underlying 29 with
  | some (.struct fs)=>fs
  | _=>#[]
theorem undK:Tryz.prog.underlying 25=some (.struct fieldsK):=by kernel_rfl
theorem undV:Tryz.prog.underlying 29=some (.struct fieldsV):=by kernel_rfl
theorem typesK:fieldsK.toList.map (fun f=>f.type) = [22,3,3,3,23]:=by kernel_rfl
theorem typesV:fieldsV.toList.map (fun f=>f.type) = [26,3,9,27]:=by kernel_rfl
theorem cellsK:Tryz.prog.cellsOf 25=5:=by kernel_rfl
theorem cellsV:Tryz.prog.cellsOf 29=4:=by kernel_rfl
def isT (t:Nat):Prop:=t=22 ∨ t=3 ∨ t=26 ∨ t=9 ∨ t=23 ∨ t=25 ∨ t=27 ∨ t=29
def isD (t:Nat) (ps:List PVal):Prop :=
  if t=22 ∨ t=3 ∨ t=26 then ∃ z,ps = [I z]
  else if t=9 then ∃ s,ps = [.str s]
  else if t=23 then ∃ p xs ks,ps = [p]∧IsSl p xs∧IsKs xs ks
  else if t=25 then ∃ k,IsK (.agg ps) k
  else if t=27 then ∃ p xs vs,ps = [p]∧IsSl p xs∧IsVs xs vs
  else ∃ v,IsV (.agg ps) v
theorem aiN {t:Nat} (h:t=22 ∨ t=3 ∨ t=26) {ps:List PVal}:isD t ps ↔ ∃ z,ps = [I z]:=by unfold isD; rw [if_pos h]
theorem isD9 {ps:List PVal}:isD 9 ps ↔ ∃ s,ps = [.str s]:=by unfold isD; simp
theorem isD23 {ps:List PVal}:isD 23 ps ↔ ∃ p xs ks,ps = [p]∧IsSl p xs∧IsKs xs ks:=by unfold isD; simp
theorem isD25 {ps:List PVal}:isD 25 ps ↔ ∃ k,IsK (.agg ps) k:=by unfold isD; simp
theorem isD27 {ps:List PVal}:isD 27 ps ↔ ∃ p xs vs,ps = [p]∧IsSl p xs∧IsVs xs vs:=by unfold isD; simp
theorem isD29 {ps:List PVal}:isD 29 ps ↔ ∃ v,IsV (.agg ps) v:=by unfold isD; simp
theorem all_K:∀ (qs:List (List PVal)),(∀ q ∈ qs,isD 25 q) → ∃ ks,IsKs (qs.map (elemP true)) ks
  | [],_=>⟨[], .nil⟩
  | q :: r,h=>by
    obtain ⟨k,hk⟩:=isD25.1 (h q (by simp))
    obtain ⟨ks,hks⟩:=all_K r fun q' hq=>h q' (List.mem_cons_of_mem _ hq)
    exact ⟨k :: ks, .cons hk hks⟩
theorem all_V:∀ (qs:List (List PVal)),(∀ q ∈ qs,isD 29 q) → ∃ ks,IsVs (qs.map (elemP true)) ks
  | [],_=>⟨[], .nil⟩
  | q :: r,h=>by
    obtain ⟨k,hk⟩:=isD29.1 (h q (by simp))
    obtain ⟨ks,hks⟩:=all_V r fun q' hq=>h q' (List.mem_cons_of_mem _ hq)
    exact ⟨k :: ks, .cons hk hks⟩
theorem field_type {fs:Array Field} {ts:List Nat} (h:fs.toList.map (fun f=>f.type)=ts) {i:Nat} {t:Nat} (hi:ts[i]? = some t):∃ f:Field,fs[i]? = some f∧f.type=t:=by
  rw [← h,List.getElem?_map,Array.getElem?_toList] at hi
  cases hf:fs[i]? with
  | none=>rw [hf] at hi; simp at hi
  | some f=>rw [hf] at hi; exact ⟨f,rfl,by simpa using hi⟩
theorem types_mem {fs:Array Field} {ts:List Nat} (h:fs.toList.map (fun f=>f.type)=ts):∀ f ∈ fs.toList,f.type ∈ ts:=fun f hf=>by rw [← h]; exact List.mem_map_of_mem hf
theorem size_of {fs:Array Field} {ts:List Nat} (h:fs.toList.map (fun f=>f.type)=ts):fs.size=ts.length:=by rw [← h]; simp
theorem plainKV:Plain Tryz.prog isT isD:=by
  refine ⟨fun t ht=>?_⟩
  have int:∀ t,(t=22 ∨ t=3 ∨ t=26)→Tryz.prog.underlying t=some (.int .i64)→Tryz.prog.cellsOf t=1 → ∃ k,Tryz.prog.underlying t=some (.int k)∧Tryz.prog.cellsOf t=1 ∧ ∀ z,k.min≤z→z≤k.max→isD t [.int k z] :=
    fun t h h1 h2=>⟨.i64,h1,h2,fun z _ _=>(aiN h).2 ⟨z,rfl⟩⟩
  rcases ht with rfl | rfl | rfl | rfl | rfl | rfl | rfl | rfl
  · exact .inr (.inl (int 22 (by simp) (by kernel_rfl) (by kernel_rfl)))
  · exact .inr (.inl (int 3 (by simp) (by kernel_rfl) (by kernel_rfl)))
  · exact .inr (.inl (int 26 (by simp) (by kernel_rfl) (by kernel_rfl)))
  · exact .inr (.inr (.inl ⟨by kernel_rfl,by kernel_rfl,fun s _=>isD9.2 ⟨_,rfl⟩⟩))
  · exact .inr (.inr (.inr (.inl ⟨25,true,(by kernel_rfl),(by unfold isT; simp),(by kernel_rfl),(by rw [cellsK]; omega),nofun,isD23.2 ⟨_,_,_,rfl, .nil, .nil⟩,fun qs _ h=>by
      obtain ⟨ks,hks⟩:=all_K qs h
      exact isD23.2 ⟨_,_,ks,rfl, .sl _,hks⟩⟩)))
  · refine .inr (.inr (.inr (.inr ⟨fieldsK,undK,by kernel_rfl,(fun f hf=>by
      have:=types_mem typesK f hf
      simp only [List.mem_cons,List.not_mem_nil,or_false] at this
      rcases this with h | h | h | h | h <;> (rw [h]; unfold isT; simp)),fun qs hl h=>?_⟩)))
    rw [size_of typesK] at hl
    match qs,hl with
    | [q0,q1,q2,q3,q4],_ =>
      have g:∀ (i:Nat) (t:Nat) (q:List PVal),[22,3,3,3,23][i]? = some t → [q0,q1,q2,q3,q4][i]? = some q→isD t q:=fun i t q hi hq=>by
        obtain ⟨f,h1,h2⟩:=field_type typesK hi
        rw [← h2]
        exact h i f q h1 hq
      obtain ⟨z0,rfl⟩:=(aiN (by simp)).1 (g 0 22 q0 rfl rfl)
      obtain ⟨z1,rfl⟩:=(aiN (by simp)).1 (g 1 3 q1 rfl rfl)
      obtain ⟨z2,rfl⟩:=(aiN (by simp)).1 (g 2 3 q2 rfl rfl)
      obtain ⟨z3,rfl⟩:=(aiN (by simp)).1 (g 3 3 q3 rfl rfl)
      obtain ⟨p,xs,ks,rfl,h1,h2⟩:=isD23.1 (g 4 23 q4 rfl rfl)
      exact isD25.2 ⟨_, .mk h1 h2⟩
  · exact .inr (.inr (.inr (.inl ⟨29,true,(by kernel_rfl),(by unfold isT; simp),(by kernel_rfl),(by rw [cellsV]; omega),nofun,isD27.2 ⟨_,_,_,rfl, .nil, .nil⟩,fun qs _ h=>by
      obtain ⟨ks,hks⟩:=all_V qs h
      exact isD27.2 ⟨_,_,ks,rfl, .sl _,hks⟩⟩)))
  · refine .inr (.inr (.inr (.inr ⟨fieldsV,undV,by kernel_rfl,(fun f hf=>by
      have:=types_mem typesV f hf
      simp only [List.mem_cons,List.not_mem_nil,or_false] at this
      rcases this with h | h | h | h <;> (rw [h]; unfold isT; simp)),fun qs hl h=>?_⟩)))
    rw [size_of typesV] at hl
    match qs,hl with
    | [q0,q1,q2,q3],_ =>
      have g:∀ (i:Nat) (t:Nat) (q:List PVal),[26,3,9,27][i]? = some t → [q0,q1,q2,q3][i]? = some q→isD t q:=fun i t q hi hq=>by
        obtain ⟨f,h1,h2⟩:=field_type typesV hi
        rw [← h2]
        exact h i f q h1 hq
      obtain ⟨z0,rfl⟩:=(aiN (by simp)).1 (g 0 26 q0 rfl rfl)
      obtain ⟨z1,rfl⟩:=(aiN (by simp)).1 (g 1 3 q1 rfl rfl)
      obtain ⟨s,rfl⟩:=isD9.1 (g 2 9 q2 rfl rfl)
      obtain ⟨p,xs,ks,rfl,h1,h2⟩:=isD27.1 (g 3 27 q3 rfl rfl)
      exact isD29.2 ⟨_, .mk h1 h2⟩
theorem agg_of {v:Value} (h:v.cells.toList.length ≠ 1):v = .agg v.cells:=by
  cases v <;> first | rfl | exact absurd rfl h
theorem arg_agg {H:Type} {enc:TypeId × Value→H} {W:World} {sp:Nat→Bool} {held:Bool} {t:Nat} (hT:isT t) (hc:Tryz.prog.cellsOf t ≠ 1) {v:Value} {d:DataW H} {ps:List MemPlace} (hd:DataW.Trod enc Tryz.prog W 0 sp held t v d ps) :
    ∃ qs,isD t qs∧RepP (old W) W (.agg qs) v:=by
  obtain ⟨fuel,hf⟩:=hd
  obtain ⟨qs,h1,h2,h3,h4⟩:=anx plainKV fuel t _ _ hT hf
  have e:=agg_of (v:=v) (by rw [h4]; exact hc)
  exact ⟨qs,h1,v.cells.toList,by rw [Array.toArray_toList]; exact e,h2,h3⟩
theorem lawKnown {x y:PVal} {k:Iv.K} {v:Iv.V} (hk:IsK x k) (hv:IsV y v):Known prog gl 3 ([x,y].map .p) (.p (.bool true)) [] :=
  (aph ents 800 _ _ _ (law_true hk hv)).2
theorem lawCalls {W:World} (hG:Glob gl (old W) W) {v0 v1:Value} {x y:PVal} {k:Iv.K} {v:Iv.V} (hk:IsK x k) (hv:IsV y v) (h0:RepP (old W) W x v0) (h1:RepP (old W) W y v1) :
    Calls Tryz.prog 3 #[v0,v1] W (fun e w'=>e = .returned (.bool true)∧Below W.heap.size W w') :=
  known_args (ps:=[x,y]) (us:=[v0,v1]) (lawKnown hk hv) hG ⟨_,_,rfl,h0,_,_,rfl,h1,rfl⟩
theorem contract (H:Type) (enc:TypeId × Value→H) (W:World) (base:Nat) (args:Array Value) (ds gs:List (DataW H)) (before:List MemPlace)
    (hW:DataW.Whole enc Tryz.prog Tryz.f3.params.toList Rows.inductValuesSpec.vars false W args.toList ds gs before) (hG:Glob gl (old W) W) :
    Calls Tryz.prog 3 args W fun e W'=>∃ v,e = .returned v∧Rows.inductValuesSpec.post enc Tryz.prog Tryz.f3 false true false false W args v W':=by
  have hW':=hW
  obtain ⟨p,q,hA0,hV,rfl,hfz,hnd⟩:=hW
  have hA:DataW.TrodAll enc Tryz.prog W 0 (fun _=>true) true Tryz.f3.params.toList args.toList ds p:=hA0
  rw [paramsH] at hA
  obtain ⟨v0,v1,d0,d1,p0,p1,rfl,rfl,rfl,h0,h1⟩:=trodAll_two hA
  obtain ⟨rfl,rfl⟩:=trodVars_none hV
  obtain ⟨qk,hk,hr0⟩:=arg_agg (t:=25) (by unfold isT; simp) (by rw [cellsK]; omega) h0
  obtain ⟨qv,hv,hr1⟩:=arg_agg (t:=29) (by unfold isT; simp) (by rw [cellsV]; omega) h1
  obtain ⟨k,hk⟩:=isD25.1 hk
  obtain ⟨v,hv⟩:=isD29.1 hv
  refine (lawCalls hG hk hv hr0 hr1).mono fun e W' ⟨he,hb⟩=>?_
  subst he
  have hlt0:∀ x ∈ p0,x.block < W.heap.size:=fun x hx=>by simpa using hW'.lt x (by simp [hx])
  have hlt1:∀ x ∈ p1,x.block < W.heap.size:=fun x hx=>by simpa using hW'.lt x (by simp [hx])
  refine ⟨_,rfl,_,[],_,[],p0 ++ p1,[],hW', ?_, ?_,rfl,am2 hb _,fun h=>by cases h⟩
  · rw [resultsH]
    exact trodAll_cons_mk (shut_b _) trodAll_mk0
  · rw [paramsH]
    exact trodAll_mk2 (Below.trod laidOutH (by kernel_rfl) (of_decide_eq_true (by kernel_rfl)) h0 hb hlt0) (Below.trod laidOutH (by kernel_rfl) (of_decide_eq_true (by kernel_rfl)) h1 hb hlt1)
end Go.Proofs.YtdnbnpknpejpdaaGreatDoor
