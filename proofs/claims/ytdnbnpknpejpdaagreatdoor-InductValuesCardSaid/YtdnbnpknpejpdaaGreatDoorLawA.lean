/- What the functions of the law return, whatever the kind and the value. -/
import Derived.Test.YtdnbnpknpejpdaaGreatDoorEvD
import Derived.IntWalk
import Derived.Test.YtdnbnpknpejpdaaGreatDoorText
set_option linter.unusedVariables false
set_option linter.unusedSimpArgs false
set_option linter.unusedSectionVars false
namespace Go.Proofs.YtdnbnpknpejpdaaGreatDoor.Sw
section
variable {α:Type}
@[simp] theorem chk_t (x:Option α):chk true x=x:=rfl
@[simp] theorem ifB_t (x y:Option α):ifB true x y=x:=rfl
@[simp] theorem ifB_f (x y:Option α):ifB false x y=y:=rfl
@[simp] theorem aag {β:Type} (v:β) (K:β→Option α):bindK (some v) K=K v:=rfl
@[simp] theorem listK_cons {β:Type} (x:β) (r:List β) (A:Option α) (K:β→List β→Option α):listK (x :: r) A K=K x r:=rfl
@[simp] theorem aal (n:Nat) (K:Nat→Option α):natK (Int.ofNat n) K=K n:=rfl
@[simp] theorem aad (k:IntKind) (z:Int) (K:Int→Option α):intK k (.int k z) K=K z:=by
  unfold intK; simp
@[simp] theorem aai (b:Bool) (K:Bool→Option α):boolK (.bool b) K=K b:=rfl
@[simp] theorem aam (l:List Nat) (K:List Nat→Option α):strK (.str l) K=K l:=rfl
@[simp] theorem aah (l:List PVal) (K:List PVal→Option α):aggK (.agg l) K=K l:=rfl
@[simp] theorem acL (l:List PVal) (K:List PVal→Option α):tupK (.tup l) K=K l:=rfl
@[simp] theorem slK_sl (l:List PVal) (K:List PVal→Option α):slK (.sl l) K=K l:=rfl
@[simp] theorem ipK_ip (v:PVal) (K:PVal→Option α):ipK (.ip v) K=K v:=rfl
@[simp] theorem fnK_fn (f:Nat) (c:List PVal) (K:Nat→List PVal→Option α):fnK (.fn (.func f) c) K=K f c:=rfl
@[simp] theorem ifK_if (t:Nat) (v:PVal) (K:Nat→PVal→Option α):ifK (.iface t v) K=K t v:=rfl
@[simp] theorem pK_p (v:PVal) (K:PVal→Option α):pK (.p v) K=K v:=rfl
@[simp] theorem agD (A:Option α) (K:List PVal→Option α):nclK (.p .nils) A K=A:=rfl
@[simp] theorem alm (l:List PVal) (A:Option α) (K:List PVal→Option α):nclK (.cl l) A K=K l:=rfl
@[simp] theorem aab (x:PVal) (r:List PVal) (K:PVal→List PVal→Option α):consK (x :: r) K=K x r:=rfl
@[simp] theorem aae (x:Option α):endK [] x=x:=rfl
@[simp] theorem nslK_sl (l:List PVal) (A:Option α) (K:List PVal→Option α):nslK (.sl l) A K=K l:=rfl
@[simp] theorem nilSK_sl (l:List PVal) (K:Bool→Option α):nilSK (.sl l) K=K false:=rfl
theorem aao {β:Type} {l:List β} {n:Nat} {x:β} (h:l[n]? = some x) (K:β→Option α):nthK l n K=K x:=by
  unfold nthK; rw [nth_eq,h]
theorem ble_of {m n:Nat} (h:m≤n):Nat.ble m n=true:=Nat.ble_eq_true_of_le h
theorem blt_of {m n:Nat} (h:m < n):Nat.blt m n=true:=Nat.ble_eq_true_of_le h
@[simp] theorem ad5 (n:Nat):Nat.beq n n=true:=Nat.beq_refl n
theorem wrap_small {z:Int} (h0:0≤z) (h:z < 4611686018427387904):IntKind.wrap .i64 z=z:=IntWalk.i64_in _ (by omega)
theorem aax {n:Nat} (h:n < 4611686018427387903):IntKind.wrap .i64 (Int.ofNat n + Int.ofNat 1)=Int.ofNat (n + 1):=by
  rw [wrap_small]
  · rfl
  · simp only [Int.ofNat_eq_natCast]; omega
  · simp only [Int.ofNat_eq_natCast]; omega
end
inductive IsSl:PVal→List PVal→Prop where
  | nil:IsSl .nils []
  | sl (l:List PVal):IsSl (.sl l) l
theorem IsSl.slK {α:Type} {x:PVal} {l:List PVal} (h:IsSl x l) (K:List PVal→Option α):Sw.slK x K=K l:=by
  cases h <;> rfl
theorem IsSl.slice {x:PVal} {l:List PVal} (h:IsSl x l) (a b:Nat):IsSl (sliceP x a b) ((l.drop a).take (b - a)):=by
  cases h with
  | nil=>simp only [sliceP,List.drop_nil,List.take_nil]; exact .nil
  | sl l=>exact .sl _
def encS (l:List PVal):PVal:=match l with
  | []=>.nils
  | l=>.sl l
theorem agS (l:List PVal):IsSl (encS l) l:=by
  cases l with
  | nil=>exact .nil
  | cons x l=>exact .sl _
end Go.Proofs.YtdnbnpknpejpdaaGreatDoor.Sw
namespace Go.Proofs.YtdnbnpknpejpdaaGreatDoor.Iv
inductive V where
  | mk (k n:Int) (t:List Nat) (p:List V)
inductive K where
  | mk (f lo hi mo:Int) (p:List K)
abbrev V.kd:V→Int | .mk k _ _ _=>k
abbrev V.num:V→Int | .mk _ n _ _=>n
abbrev V.txt:V→List Nat | .mk _ _ t _=>t
abbrev V.parts:V→List V | .mk _ _ _ p=>p
mutual
def V.nodes:V→Nat | .mk _ _ _ p=>1 + V.nodesL p
def V.nodesL:List V→Nat | []=>0 | v :: r=>v.nodes + V.nodesL r
end
mutual
def V.hgt:V→Nat | .mk _ _ _ p=>1 + V.hgtL p
def V.hgtL:List V→Nat | []=>0 | v :: r=>max v.hgt (V.hgtL r)
end
mutual
def K.nodes:K→Nat | .mk _ _ _ _ p=>1 + K.nodesL p
def K.nodesL:List K→Nat | []=>0 | v :: r=>v.nodes + K.nodesL r
end
mutual
def K.hgt:K→Nat | .mk _ _ _ _ p=>1 + K.hgtL p
def K.hgtL:List K→Nat | []=>0 | v :: r=>max v.hgt (K.hgtL r)
end
def order (a b:Int):Int:=if a < b then -1 else if b < a then 1 else 0
def ab6:List Nat→List Nat→Bool
  | _,[]=>false
  | [],_ :: _=>true
  | a :: x,b :: y=>if a < b then true else if a=b then ab6 x y else false
mutual
def cmp:V→V→Int
  | .mk k n t p, .mk k' n' t' p' =>
    if k ≠ k' then order k k'
    else if k=3 then (if t=t' then 0 else if ab6 t t' then -1 else 1)
    else if k=1 ∨ k=2 ∨ p.length ≠ p'.length then order n n' + order p.length p'.length
    else cmpL p p'
def cmpL:List V→List V→Int
  | a :: x,b :: y=>if cmp a b ≠ 0 then cmp a b else cmpL x y
  | _,_=>0
end
def lt (a b:V):Prop:=cmp a b < 0
theorem ao6 (a b:Int):order b a = -order a b:=by unfold order; split <;> split <;> (try split) <;> omega
theorem ajl:∀ {a b:List Nat},ab6 a b=true→ab6 b a=false
  | _,[],h=>by simp [ab6] at h
  | [],_ :: _,_=>by simp [ab6]
  | a :: x,b :: y,h=>by
    simp only [ab6] at h ⊢
    split at h
    · rename_i h1
      rw [if_neg (by omega),if_neg (by omega)]
    · split at h
      · rename_i h1 h2
        subst h2
        rw [if_neg (by omega),if_pos rfl]
        exact ajl h
      · simp at h
theorem ajk:∀ {a b:List Nat},a ≠ b→ab6 a b=false→ab6 b a=true
  | [],[],h,_=>absurd rfl h
  | _ :: _,[],_,_=>by simp [ab6]
  | [],_ :: _,_,h=>by simp [ab6] at h
  | a :: x,b :: y,hn,h=>by
    simp only [ab6] at h ⊢
    split at h
    · simp at h
    · rename_i h1
      split at h
      · rename_i h2
        subst h2
        rw [if_neg (by omega),if_pos rfl]
        exact ajk (fun e=>hn (by rw [e])) h
      · rw [if_pos (by omega)]
mutual
theorem cmp_neg:∀ (a b:V),cmp b a = -cmp a b
  | .mk k n t p, .mk k' n' t' p'=>by
    unfold cmp
    by_cases hk:k=k'
    · subst hk
      simp only [ne_eq,not_true_eq_false,if_false]
      by_cases h3:k=3
      · simp only [h3,if_true]
        by_cases ht:t=t'
        · simp [ht]
        · rw [if_neg (fun e=>ht e.symm),if_neg ht]
          cases h:ab6 t t' with
          | true=>rw [ajl h]; simp
          | false=>rw [ajk ht h]; simp
      · simp only [h3,if_false]
        by_cases hc:k=1 ∨ k=2 ∨ ¬p.length=p'.length
        · rw [if_pos hc,if_pos (by omega)]
          have:=ao6 n n'
          have:=ao6 (p.length:Int) p'.length
          omega
        · rw [if_neg hc,if_neg (by omega)]
          exact cmpL_neg p p'
    · rw [if_pos (fun e=>hk e.symm),if_pos hk]
      exact ao6 k k'
theorem cmpL_neg:∀ (a b:List V),cmpL b a = -cmpL a b
  | a :: x,b :: y=>by
    unfold cmpL
    have h:=cmp_neg a b
    have h2:=cmpL_neg x y
    by_cases hz:cmp a b=0
    · rw [if_neg (by omega),if_neg (by omega)]; exact h2
    · rw [if_pos (by omega),if_pos hz]; exact h
  | [],[]=>by simp [cmpL]
  | [],_ :: _=>by simp [cmpL]
  | _ :: _,[]=>by simp [cmpL]
end
theorem cmp_self (a:V):cmp a a=0:=by have:=cmp_neg a a; omega
theorem lt_irrefl (a:V):¬lt a a:=by unfold lt; rw [cmp_self]; omega
theorem lt_asymm {a b:V} (h:lt a b):¬lt b a:=by unfold lt at *; rw [cmp_neg a b]; omega
def inR (n lo hi:Int):Bool:=decide (lo≤n) && decide (n≤hi)
def alx (t:List Nat):Bool:=t.all (fun c=>decide (32≤c) && decide (c≤126) && !decide (c=34) && !decide (c=92)) && decide (t.length≤20)
def rising:List V→Bool
  | a :: b :: r=>decide (cmp a b < 0) && rising (b :: r)
  | _=>true
mutual
def aaS:V→Bool
  | .mk k n t p=>aaX p &&
    (if k=1 then inR n (-1000000000) 1000000000 && t.isEmpty && p.isEmpty
    else if k=2 then inR n 0 1 && t.isEmpty && p.isEmpty
    else if k=3 then decide (n=0) && alx t && p.isEmpty
    else if k=4 then decide (n=0) && t.isEmpty && inR p.length 2 6
    else if k=5 then rising p && decide (n=0) && t.isEmpty
    else false)
def aaX:List V→Bool
  | []=>true
  | v :: r=>aaS v && aaX r
end
def validV (v:V):Bool:=decide (v.nodes≤200) && decide (v.hgt≤8) && aaS v
mutual
def aap:K→Bool
  | .mk f lo hi mo p=>acM p &&
    (if f=1 ∨ f=3 ∨ f=4 then decide (lo=0) && decide (hi=0) && decide (mo=0) && p.isEmpty
    else if f=2 then inR lo (-1000000000) 1000000000 && inR hi lo 1000000000 && decide (mo=0) && p.isEmpty
    else if f=5 then decide (lo=0) && decide (hi=0) && decide (mo=0) && inR p.length 2 6
    else if f=6 then decide (lo=0) && decide (hi=0) && inR mo 0 199 && decide (p.length=1)
    else false)
def acM:List K→Bool
  | []=>true
  | v :: r=>aap v && acM r
end
def validK (k:K):Bool:=decide (k.nodes≤20) && decide (k.hgt≤6) && aap k
mutual
def isV:K→V→Bool
  | .mk f lo hi mo q,v =>
    if f=2 then decide (v.kd=1) && inR v.num lo hi
    else if f=3 then decide (v.kd=2)
    else if f=4 then decide (v.kd=3)
    else if f=5 then decide (v.kd=4) && decide (v.parts.length=q.length) && isVL q v.parts
    else if f=6 then decide (v.kd=5) && decide ((v.parts.length:Int)≤mo) && isVS q v.parts
    else false
def isVL:List K→List V→Bool
  | k :: ks,vs=>match vs with
    | v :: vs=>isV k v && isVL ks vs
    | []=>true
  | [],_=>true
def isVS:List K→List V→Bool
  | k :: _,vs=>vs.all fun v=>isV k v
  | [],vs=>vs.isEmpty
end
def prod:List (List V)→List (List V)
  | []=>[[]]
  | l :: r=>l.flatMap fun v=>(prod r).map (v :: ·)
def combos:List V→Nat→List (List V)
  | _,0=>[[]]
  | [],_ + 1=>[]
  | v :: l,n + 1=>(combos l n).map (v :: ·) ++ combos l (n + 1)
def upTo (l:List V) (n:Nat):List (List V):=(List.range (n + 1)).flatMap (combos l)
def cut (l:List V):Option (List V):=if l.length≤32 then some l else none
def tupleV (l:List V):V:=.mk 4 0 [] l
def setV (l:List V):V:=.mk 5 0 [] l
def intV (n:Int):V:=.mk 1 n [] []
def boolV (n:Int):V:=.mk 2 n [] []
mutual
def vals:K→Option (List V)
  | .mk f lo hi mo p =>
    if f=1 then some []
    else if f=2 then (if hi - lo < 32 then some ((List.range (hi - lo + 1).toNat).map fun (i:Nat)=>intV (lo + i)) else none)
    else if f=3 then some [boolV 0,boolV 1]
    else if f=5 then match valsL p with
      | some ls=>cut ((prod ls).map tupleV)
      | none=>none
    else if f=6 then match valsL p with
      | some (l :: _)=>cut ((upTo l (min mo.toNat l.length)).map setV)
      | _=>none
    else none
def valsL:List K→Option (List (List V))
  | []=>some []
  | k :: r=>match vals k,valsL r with
    | some l,some ls=>some (l :: ls)
    | _,_=>none
end
theorem cmpL_cons_same (v:V) (x y:List V):cmpL (v :: x) (v :: y)=cmpL x y:=by
  rw [cmpL,if_neg (by rw [cmp_self]; simp)]
theorem amA {a b:V} (h:lt a b) (x y:List V):cmpL (a :: x) (b :: y) < 0:=by
  unfold lt at h
  unfold cmpL
  rw [if_pos (by omega)]
  exact h
theorem aeY {v:V}:∀ {l:List (List V)},l.Pairwise (fun x y=>cmpL x y < 0)→(l.map (v :: ·)).Pairwise fun x y=>cmpL x y < 0:=fun h =>
  List.pairwise_map.2 (h.imp fun h=>by rw [cmpL_cons_same]; exact h)
theorem adx {f:V→List (List V)} (hf:∀ v,(f v).Pairwise fun x y=>cmpL x y < 0):∀ {l:List V},l.Pairwise lt→(l.flatMap fun v=>(f v).map (v :: ·)).Pairwise fun x y=>cmpL x y < 0
  | [],_=>by simp
  | v :: l,h=>by
    rw [List.flatMap_cons,List.pairwise_append]
    have h:=List.pairwise_cons.1 h
    refine ⟨aeY (hf v),adx hf h.2,fun x hx y hy=>?_⟩
    obtain ⟨x,_,rfl⟩:=List.mem_map.1 hx
    obtain ⟨w,hw,hy⟩:=List.mem_flatMap.1 hy
    obtain ⟨y,_,rfl⟩:=List.mem_map.1 hy
    exact amA (h.1 w hw) _ _
theorem prod_lt:∀ {ls:List (List V)},(∀ l ∈ ls,l.Pairwise lt)→(prod ls).Pairwise fun x y=>cmpL x y < 0
  | [],_=>by simp [prod]
  | l :: r,h=>adx (fun _=>prod_lt fun l hl=>h l (List.mem_cons_of_mem _ hl)) (h l (by simp))
theorem aav:∀ {l:List V} {n:Nat} {x:List V},x ∈ combos l n ↔ x.Sublist l∧x.length=n
  | l,0,x=>by
    cases l <;> simp only [combos,List.mem_singleton] <;> constructor
    · rintro rfl; simp
    · rintro ⟨_,h⟩; exact List.eq_nil_of_length_eq_zero h
    · rintro rfl; simp
    · rintro ⟨_,h⟩; exact List.eq_nil_of_length_eq_zero h
  | [],n + 1,x=>by
    simp only [combos,List.not_mem_nil,false_iff]
    rintro ⟨h,hl⟩
    rw [List.sublist_nil.1 h] at hl
    simp at hl
  | v :: l,n + 1,x=>by
    simp only [combos,List.mem_append,List.mem_map]
    constructor
    · rintro (⟨y,hy,rfl⟩ | h)
      · obtain ⟨h1,h2⟩:=aav.1 hy
        exact ⟨h1.cons_cons v,by simp [h2]⟩
      · obtain ⟨h1,h2⟩:=aav.1 h
        exact ⟨h1.cons v,h2⟩
    · rintro ⟨h1,h2⟩
      cases h1 with
      | cons _ h=>exact .inr (aav.2 ⟨h,h2⟩)
      | cons_cons _ h=>exact .inl ⟨_,aav.2 ⟨h,by simpa using h2⟩,rfl⟩
theorem aqc:∀ {l:List V} {n:Nat},l.Pairwise lt→(combos l n).Pairwise fun x y=>cmpL x y < 0
  | l,0,_=>by cases l <;> simp [combos]
  | [],n + 1,_=>by simp [combos]
  | v :: l,n + 1,h=>by
    have h:=List.pairwise_cons.1 h
    rw [combos,List.pairwise_append]
    refine ⟨aeY (aqc h.2),aqc h.2,fun x hx y hy=>?_⟩
    obtain ⟨x,_,rfl⟩:=List.mem_map.1 hx
    obtain ⟨h1,h2⟩:=aav.1 hy
    cases y with
    | nil=>simp at h2
    | cons w y=>exact amA (h.1 w (h1.subset (by simp))) _ _
theorem cmp_set {x y:List V} (h:x.length=y.length):cmp (setV x) (setV y)=cmpL x y:=by
  unfold setV cmp
  simp [h]
theorem cmp_tuple {x y:List V} (h:x.length=y.length):cmp (tupleV x) (tupleV y)=cmpL x y:=by
  unfold tupleV cmp
  simp [h]
theorem cmp_set_len {x y:List V} (h:x.length < y.length):cmp (setV x) (setV y) < 0:=by
  unfold setV cmp
  simp only [ne_eq,not_true_eq_false,if_false]
  rw [if_neg (by decide),if_pos (.inr (.inr (by omega)))]
  unfold order
  rw [if_neg (by omega),if_neg (by omega),if_pos (by omega)]
  omega
theorem upTo_lt {l:List V} (hl:l.Pairwise lt) (n:Nat):((upTo l n).map setV).Pairwise lt:=by
  rw [List.pairwise_map]
  unfold upTo
  have key:∀ (ns:List Nat),ns.Pairwise (· < ·)→(ns.flatMap (combos l)).Pairwise fun x y=>lt (setV x) (setV y):=by
    intro ns
    induction ns with
    | nil=>intro _; simp
    | cons n ns ih =>
      intro h
      have h:=List.pairwise_cons.1 h
      rw [List.flatMap_cons,List.pairwise_append]
      refine ⟨?_,ih h.2,fun x hx y hy=>?_⟩
      · refine (aqc (n:=n) hl).imp_of_mem fun {x y} hx hy hlt=>?_
        have e1:=(aav.1 hx).2
        have e2:=(aav.1 hy).2
        unfold lt
        rw [cmp_set (by omega)]
        exact hlt
      · obtain ⟨m,hm,hy⟩:=List.mem_flatMap.1 hy
        have e1:=(aav.1 hx).2
        have e2:=(aav.1 hy).2
        have:=h.1 m hm
        exact cmp_set_len (by omega)
  exact key _ List.pairwise_lt_range
theorem prod_mem:∀ {ls:List (List V)} {x:List V},x ∈ prod ls→x.length=ls.length
  | [],x,h=>by simp [prod] at h; subst h; rfl
  | l :: r,x,h=>by
    obtain ⟨v,_,h⟩:=List.mem_flatMap.1 h
    obtain ⟨y,hy,rfl⟩:=List.mem_map.1 h
    simp [prod_mem hy]
theorem prod_tuple_lt {ls:List (List V)} (h:∀ l ∈ ls,l.Pairwise lt):((prod ls).map tupleV).Pairwise lt:=by
  rw [List.pairwise_map]
  refine (prod_lt h).imp_of_mem fun {x y} hx hy hlt=>?_
  unfold lt
  rw [cmp_tuple (by rw [prod_mem hx,prod_mem hy])]
  exact hlt
theorem ints_lt (lo:Int) (n:Nat):((List.range n).map fun (i:Nat)=>intV (lo + i)).Pairwise lt:=by
  rw [List.pairwise_map]
  refine List.pairwise_lt_range.imp fun {a b} h=>?_
  unfold lt intV cmp
  simp only [ne_eq,not_true_eq_false,if_false]
  rw [if_neg (by decide),if_pos (by simp)]
  unfold order
  rw [if_pos (by omega)]
  simp
mutual
theorem vals_lt:∀ (k:K) {l:List V},vals k=some l→l.Pairwise lt
  | .mk f lo hi mo p,l,h=>by
    unfold vals at h
    split at h
    · simp at h; subst h; simp
    · split at h
      · split at h
        · simp at h; subst h; exact ints_lt lo _
        · simp at h
      · split at h
        · simp at h; subst h
          simp only [List.pairwise_cons,List.mem_singleton,List.not_mem_nil,false_implies,implies_true,List.Pairwise.nil,and_true,forall_eq]
          unfold lt boolV cmp
          simp [order]
        · split at h
          · split at h <;> try (simp at h; done)
            rename_i ls hls
            unfold cut at h
            split at h <;> simp at h
            subst h
            exact prod_tuple_lt (ajh p hls)
          · split at h
            · split at h <;> try (simp at h; done)
              rename_i l1 ls hls
              unfold cut at h
              split at h <;> simp at h
              subst h
              exact upTo_lt (ajh p hls l1 (by simp)) _
            · simp at h
theorem ajh:∀ (p:List K) {ls:List (List V)},valsL p=some ls → ∀ l ∈ ls,l.Pairwise lt
  | [],ls,h=>by simp [valsL] at h; subst h; simp
  | k :: r,ls,h=>by
    unfold valsL at h
    split at h <;> try (simp at h; done)
    rename_i l ls' h1 h2
    simp at h
    subst h
    intro l hl
    rcases List.mem_cons.1 hl with rfl | hl
    · exact vals_lt k h1
    · exact ajh r h2 l hl
end
theorem am5:∀ (k:K) {l:List V},vals k=some l→l.length≤32
  | .mk f lo hi mo p,l,h=>by
    unfold vals at h
    split at h
    · simp at h; subst h; simp
    · split at h
      · split at h
        · simp at h; subst h; simp; omega
        · simp at h
      · split at h
        · simp at h; subst h; simp
        · split at h
          · split at h <;> try (simp at h; done)
            unfold cut at h
            split at h <;> simp at h
            subst h; assumption
          · split at h
            · split at h <;> try (simp at h; done)
              unfold cut at h
              split at h <;> simp at h
              subst h; assumption
            · simp at h
end Go.Proofs.YtdnbnpknpejpdaaGreatDoor.Iv
namespace Go.Proofs.YtdnbnpknpejpdaaGreatDoor.Iv
theorem rising_of_pairwise:∀ {l:List V},l.Pairwise lt→rising l=true
  | [],_=>rfl
  | [_],_=>rfl
  | a :: b :: r,h=>by
    have h:=List.pairwise_cons.1 h
    simp only [rising,Bool.and_eq_true,decide_eq_true_eq]
    exact ⟨h.1 b (by simp),rising_of_pairwise h.2⟩
theorem agj:∀ {l:List V},aaX l=true ↔ ∀ v ∈ l,aaS v=true
  | []=>by simp [aaX]
  | v :: r=>by simp [aaX,agj (l:=r)]
theorem ame:∀ {l:List K},acM l=true ↔ ∀ v ∈ l,aap v=true
  | []=>by simp [acM]
  | v :: r=>by simp [acM,ame (l:=r)]
theorem agM {n lo hi:Int}:inR n lo hi=true ↔ lo≤n∧n≤hi:=by simp [inR]
mutual
theorem vals_is:∀ (k:K) {l:List V},aap k=true→vals k=some l → ∀ x ∈ l,isV k x=true∧aaS x=true
  | .mk f lo hi mo p,l,hs,h,x,hx=>by
    unfold aap at hs
    rw [Bool.and_eq_true] at hs
    obtain ⟨hp,hs⟩:=hs
    unfold vals at h
    by_cases h1:f=1
    · rw [if_pos h1] at h; simp at h; subst h; simp at hx
    rw [if_neg h1] at h
    by_cases h2:f=2
    · subst h2
      rw [if_pos rfl] at h
      rw [if_neg (by decide),if_pos rfl] at hs
      simp only [Bool.and_eq_true,agM] at hs
      split at h <;> simp at h
      subst h
      obtain ⟨i,hi',rfl⟩:=List.mem_map.1 hx
      have hi':=List.mem_range.1 hi'
      unfold isV aaS intV
      simp only [V.kd,V.num,inR,aaX]
      simp
      omega
    rw [if_neg h2] at h
    by_cases h3:f=3
    · subst h3
      rw [if_pos rfl] at h
      simp at h
      subst h
      rcases List.mem_cons.1 hx with rfl | hx
      · unfold isV aaS boolV
        simp [inR,aaX]
      · rw [List.mem_singleton.1 hx]
        unfold isV aaS boolV
        simp [inR,aaX]
    rw [if_neg h3] at h
    by_cases h5:f=5
    · subst h5
      rw [if_pos rfl] at h
      split at h <;> try (simp at h; done)
      rename_i ls hls
      unfold cut at h
      split at h <;> simp at h
      subst h
      obtain ⟨y,hy,rfl⟩:=List.mem_map.1 hx
      obtain ⟨q1,q2,q3⟩:=valsL_is p hp hls y hy
      rw [if_neg (by decide),if_neg (by decide),if_pos rfl] at hs
      simp only [Bool.and_eq_true,agM] at hs
      unfold isV aaS tupleV
      simp [q1,q2,q3,inR]
      omega
    rw [if_neg h5] at h
    by_cases h6:f=6
    · subst h6
      rw [if_pos rfl] at h
      split at h <;> try (simp at h; done)
      rename_i l1 ls hls
      unfold cut at h
      split at h <;> simp at h
      subst h
      obtain ⟨y,hy,rfl⟩:=List.mem_map.1 hx
      unfold upTo at hy
      obtain ⟨n,hn,hy⟩:=List.mem_flatMap.1 hy
      have hn:=List.mem_range.1 hn
      obtain ⟨q1,q2⟩:=aav.1 hy
      rw [if_neg (by decide),if_neg (by decide),if_neg (by decide),if_pos rfl] at hs
      simp only [Bool.and_eq_true,agM] at hs
      have hq:=valsL_one p hp hls
      have hl1:=ajh p hls l1 (by simp)
      have hy2:y.Pairwise lt:=hl1.sublist q1
      unfold isV aaS setV
      have e1:isVS p y=true:=by
        cases p with
        | nil=>simp at hs
        | cons k r =>
          unfold isVS
          rw [List.all_eq_true]
          intro v hv
          exact (hq k r rfl v (q1.subset hv)).1
      have e2:aaX y=true:=by
        cases p with
        | nil=>simp at hs
        | cons k r=>exact agj.2 fun v hv=>(hq k r rfl v (q1.subset hv)).2
      simp only [V.kd,V.parts,e1,e2,rising_of_pairwise hy2]
      simp
      omega
    · rw [if_neg h6] at h; simp at h
theorem valsL_is:∀ (p:List K) {ls:List (List V)},acM p=true→valsL p=some ls → ∀ x ∈ prod ls,isVL p x=true∧aaX x=true∧x.length=p.length
  | [],ls,_,h,x,hx=>by
    simp [valsL] at h; subst h
    simp [prod] at hx; subst hx
    simp [isVL,aaX]
  | k :: r,ls,hs,h,x,hx=>by
    unfold acM at hs
    rw [Bool.and_eq_true] at hs
    unfold valsL at h
    split at h <;> try (simp at h; done)
    rename_i l ls' h1 h2
    simp at h
    subst h
    obtain ⟨v,hv,hx⟩:=List.mem_flatMap.1 hx
    obtain ⟨y,hy,rfl⟩:=List.mem_map.1 hx
    obtain ⟨a1,a2⟩:=vals_is k hs.1 h1 v hv
    obtain ⟨b1,b2,b3⟩:=valsL_is r hs.2 h2 y hy
    simp [isVL,aaX,a1,a2,b1,b2,b3]
theorem valsL_one:∀ (p:List K) {l:List V} {ls:List (List V)},acM p=true→valsL p=some (l :: ls) → ∀ k r,p=k :: r → ∀ x ∈ l,isV k x=true∧aaS x=true
  | [],l,ls,_,h,k,r,e,x,hx=>by simp at e
  | k' :: r',l,ls,hs,h,k,r,e,x,hx=>by
    simp at e
    obtain ⟨rfl,rfl⟩:=e
    unfold acM at hs
    rw [Bool.and_eq_true] at hs
    unfold valsL at h
    split at h <;> try (simp at h; done)
    rename_i l' ls' h1 h2
    simp at h
    obtain ⟨rfl,rfl⟩:=h
    exact vals_is k' hs.1 h1 x hx
end
theorem anH {a:V} {l:List V} (hl:(a :: l).Pairwise lt):∀ {p:List V} {c:V},rising (c :: p)=true→c ∈ l→(∀ x ∈ p,x ∈ a :: l) → ∀ x ∈ p,x ∈ l
  | [],_,_,_,_=>by simp
  | d :: p,c,hr,hc,hp=>by
    simp only [rising,Bool.and_eq_true,decide_eq_true_eq] at hr
    have hd:d ∈ l:=by
      rcases List.mem_cons.1 (hp d (by simp)) with rfl | h
      · exact absurd hr.1 (lt_asymm ((List.pairwise_cons.1 hl).1 c hc))
      · exact h
    intro x hx
    rcases List.mem_cons.1 hx with rfl | hx
    · exact hd
    · exact anH hl hr.2 hd (fun y hy=>hp y (List.mem_cons_of_mem _ hy)) x hx
theorem anF {a:V} {p:List V} (h:rising (a :: p)=true):rising p=true:=by
  cases p with
  | nil=>rfl
  | cons b p=>simp only [rising,Bool.and_eq_true] at h; exact h.2
theorem afc:∀ {l p:List V},l.Pairwise lt→(∀ x ∈ p,x ∈ l)→rising p=true→p.Sublist l
  | [],p,_,h,_=>by
    cases p with
    | nil=>simp
    | cons b p=>exact absurd (h b (by simp)) (by simp)
  | a :: l,[],_,_,_=>by simp
  | a :: l,b :: p,hl,h,hr=>by
    have hl':=List.pairwise_cons.1 hl
    rcases List.mem_cons.1 (h b (by simp)) with rfl | hb
    · refine .cons_cons _ (afc hl'.2 ?_ (anF hr))
      cases p with
      | nil=>simp
      | cons d p =>
        have hd:d ∈ l:=by
          simp only [rising,Bool.and_eq_true,decide_eq_true_eq] at hr
          rcases List.mem_cons.1 (h d (by simp)) with rfl | h'
          · exact absurd hr.1 (lt_irrefl _)
          · exact h'
        intro x hx
        rcases List.mem_cons.1 hx with rfl | hx
        · exact hd
        · exact anH hl (anF hr) hd (fun y hy=>h y (by simp [hy])) x hx
    · exact .cons _ (afc hl'.2 (fun x hx=>by
        rcases List.mem_cons.1 hx with rfl | hx
        · exact hb
        · exact anH hl hr hb (fun y hy=>h y (by simp [hy])) x hx) hr)
mutual
theorem vals_all:∀ (k:K) {l:List V},vals k=some l → ∀ v,aaS v=true→isV k v=true→v ∈ l
  | .mk f lo hi mo p,l,h, .mk vk vn vt vp,hs,hi'=>by
    unfold aaS at hs
    unfold isV at hi'
    unfold vals at h
    rw [Bool.and_eq_true] at hs
    by_cases h1:f=1
    · subst h1; simp at hi'
    rw [if_neg h1] at h
    by_cases h2:f=2
    · subst h2
      rw [if_pos rfl] at h hi'
      simp only [Bool.and_eq_true,decide_eq_true_eq,agM] at hi'
      have e:vk=1:=hi'.1
      subst e
      rw [if_pos rfl] at hs
      simp only [Bool.and_eq_true,List.isEmpty_iff] at hs
      obtain ⟨_,⟨_,rfl⟩,rfl⟩:=hs
      split at h <;> simp at h
      subst h
      have hb:lo≤vn∧vn≤hi:=hi'.2
      exact List.mem_map.2 ⟨(vn - lo).toNat,List.mem_range.2 (by omega),by unfold intV; congr 1; omega⟩
    rw [if_neg h2] at h hi'
    by_cases h3:f=3
    · subst h3
      rw [if_pos rfl] at h hi'
      simp only [decide_eq_true_eq] at hi'
      have e:vk=2:=hi'
      subst e
      rw [if_neg (by decide),if_pos rfl] at hs
      simp only [Bool.and_eq_true,List.isEmpty_iff,agM] at hs
      obtain ⟨_,⟨hn,rfl⟩,rfl⟩:=hs
      simp at h
      subst h
      have:vn=0 ∨ vn=1:=by omega
      rcases this with rfl | rfl <;> simp [boolV]
    rw [if_neg h3] at h hi'
    by_cases h4:f=4
    · subst h4; simp at h
    rw [if_neg h4] at hi'
    by_cases h5:f=5
    · subst h5
      rw [if_pos rfl] at h hi'
      simp only [Bool.and_eq_true,decide_eq_true_eq] at hi'
      have e:vk=4:=hi'.1.1
      subst e
      rw [if_neg (by decide),if_neg (by decide),if_neg (by decide),if_pos rfl] at hs
      simp only [Bool.and_eq_true,List.isEmpty_iff,decide_eq_true_eq] at hs
      obtain ⟨hvp,⟨rfl,rfl⟩,_⟩:=hs
      split at h <;> try (simp at h; done)
      rename_i ls hls
      unfold cut at h
      split at h <;> simp at h
      subst h
      exact List.mem_map.2 ⟨vp,agf p hls vp hvp hi'.1.2 hi'.2,rfl⟩
    rw [if_neg h5] at h hi'
    by_cases h6:f=6
    · subst h6
      rw [if_pos rfl] at h hi'
      simp only [Bool.and_eq_true,decide_eq_true_eq] at hi'
      have e:vk=5:=hi'.1.1
      subst e
      rw [if_neg (by decide),if_neg (by decide),if_neg (by decide),if_neg (by decide),if_pos rfl] at hs
      simp only [Bool.and_eq_true,List.isEmpty_iff,decide_eq_true_eq] at hs
      obtain ⟨hvp,⟨hri,rfl⟩,rfl⟩:=hs
      have hmo:(vp.length:Int)≤mo:=hi'.1.2
      split at h <;> try (simp at h; done)
      rename_i l1 ls hls
      have hone:=valsL_allS p hls vp hvp hi'.2
      have hlt:=ajh p hls l1 (by simp)
      unfold cut at h
      split at h <;> simp at h
      subst h
      have hsub:=afc hlt hone hri
      have hle:=hsub.length_le
      refine List.mem_map.2 ⟨vp, ?_,rfl⟩
      unfold upTo
      exact List.mem_flatMap.2 ⟨vp.length,List.mem_range.2 (by omega),aav.2 ⟨hsub,rfl⟩⟩
    · rw [if_neg h6] at h; simp at h
theorem agf:∀ (p:List K) {ls:List (List V)},valsL p=some ls → ∀ vs,aaX vs=true→vs.length=p.length→isVL p vs=true→vs ∈ prod ls
  | [],ls,h,vs,_,hl,_=>by
    simp [valsL] at h; subst h
    have:vs = []:=List.eq_nil_of_length_eq_zero (by simpa using hl)
    subst this
    simp [prod]
  | k :: r,ls,h,vs,hs,hl,hi=>by
    cases vs with
    | nil=>simp at hl
    | cons v vs =>
      unfold valsL at h
      split at h <;> try (simp at h; done)
      rename_i l ls' h1 h2
      simp at h
      subst h
      simp only [aaX,Bool.and_eq_true] at hs
      simp only [isVL,Bool.and_eq_true] at hi
      exact List.mem_flatMap.2 ⟨v,vals_all k h1 v hs.1 hi.1,List.mem_map.2 ⟨vs,agf r h2 vs hs.2 (by simpa using hl) hi.2,rfl⟩⟩
theorem valsL_allS:∀ (p:List K) {l:List V} {ls:List (List V)},valsL p=some (l :: ls) → ∀ vs,aaX vs=true→isVS p vs=true → ∀ x ∈ vs,x ∈ l
  | [],l,ls,h,vs,_,_,x,hx=>by simp [valsL] at h
  | k :: r,l,ls,h,vs,hs,hi,x,hx=>by
    unfold valsL at h
    split at h <;> try (simp at h; done)
    rename_i l' ls' h1 h2
    simp at h
    obtain ⟨rfl,rfl⟩:=h
    unfold isVS at hi
    rw [List.all_eq_true] at hi
    exact vals_all k h1 x (agj.1 hs x hx) (hi x hx)
end
mutual
def count:K→Int × Bool
  | .mk f lo hi _ p =>
    if f=1 then (0,true)
    else if f=3 then (2,true)
    else if f=2 then (hi - lo + 1,decide (hi - lo + 1≤1000000000))
    else if f=5 then countL (emptyL p) p 1
    else (0,false)
def countL (em:Bool):List K→Int→Int × Bool
  | [],n=>(n,true)
  | k :: r,n =>
    if (count k).2=false ∨ (1000000000 < n * (count k).1∧em=false) then (0,false)
    else countL em r (min (n * (count k).1) 1000000000)
def emptyL:List K→Bool
  | []=>false
  | k :: r=>((count k).2 && decide ((count k).1=0)) || emptyL r
end
theorem aiw:∀ (l:List V) (ls:List (List V)),(prod (l :: ls)).length=l.length * (prod ls).length
  | l,ls=>by
    rw [prod]
    induction l with
    | nil=>simp
    | cons v l ih=>rw [List.flatMap_cons,List.length_append,ih,List.length_map,List.length_cons,Nat.add_mul,Nat.one_mul,Nat.add_comm]
theorem ap9 {em:Bool}:∀ {p:List K} {ls:List (List V)} {n:Int},(∀ k ∈ p, ∀ l,vals k=some l→(count k).2=true→(count k).1=l.length)→valsL p=some ls→(countL em p n).2=true→(n=0 ∨ (prod ls).length=0)→(countL em p n).1=0
  | [],ls,n,_,h,_,hz=>by
    simp [valsL] at h; subst h
    simp [prod] at hz
    simp [countL,hz]
  | k :: r,ls,n,ih,h,hc,hz=>by
    unfold valsL at h
    split at h <;> try (simp at h; done)
    rename_i l ls' h1 h2
    simp at h
    subst h
    unfold countL at hc ⊢
    by_cases hq:(count k).2=false ∨ (1000000000 < n * (count k).1∧em=false)
    · rw [if_pos hq] at hc; simp at hc
    · rw [if_neg hq] at hc ⊢
      have hk:=ih k (by simp) l h1 (by cases e:(count k).2 <;> simp_all)
      refine ap9 (fun k hk=>ih k (List.mem_cons_of_mem _ hk)) h2 hc ?_
      rw [aiw] at hz
      rcases hz with rfl | hz
      · left; rw [Int.zero_mul]; decide
      · rcases Nat.mul_eq_zero.1 hz with hz | hz
        · left; rw [hk,hz,show ((0:Nat):Int)=0 from rfl,Int.mul_zero]; decide
        · exact .inr hz
theorem aqa {em:Bool}:∀ {p:List K} {ls:List (List V)} {n:Nat},(∀ k ∈ p, ∀ l,vals k=some l→(count k).2=true→(count k).1=l.length)→valsL p=some ls→(countL em p n).2=true→0 < (prod ls).length→n * (prod ls).length≤32→(countL em p n).1=((n * (prod ls).length:Nat):Int)
  | [],ls,n,_,h,_,_,_=>by
    simp [valsL] at h; subst h
    simp [prod,countL]
  | k :: r,ls,n,ih,h,hc,hp,hn=>by
    unfold valsL at h
    split at h <;> try (simp at h; done)
    rename_i l ls' h1 h2
    simp at h
    subst h
    unfold countL at hc ⊢
    by_cases hq:(count k).2=false ∨ (1000000000 < (n:Int) * (count k).1∧em=false)
    · rw [if_pos hq] at hc; simp at hc
    · rw [if_neg hq] at hc ⊢
      have hk:=ih k (by simp) l h1 (by cases e:(count k).2 <;> simp_all)
      rw [aiw] at hp hn ⊢
      have hp' : 0 < (prod ls').length:=Nat.pos_of_mul_pos_left hp
      have hle:n * l.length≤32:=Nat.le_trans (Nat.mul_le_mul_left n (Nat.le_mul_of_pos_right _ hp')) hn
      have hm:min ((n:Int) * (count k).1) 1000000000=((n * l.length:Nat):Int):=by
        rw [hk, ← Int.natCast_mul]
        omega
      rw [hm] at hc ⊢
      rw [aqa (fun k hk=>ih k (List.mem_cons_of_mem _ hk)) h2 hc hp' (by rw [Nat.mul_assoc]; exact hn),Nat.mul_assoc]
theorem vals_count:∀ (m:Nat) (k:K),k.nodes≤m → ∀ {l:List V},aap k=true→vals k=some l→(count k).2=true→(count k).1=l.length
  | 0, .mk f lo hi mo p,hm,l,hs,h,hc=>by unfold K.nodes at hm; omega
  | m + 1, .mk f lo hi mo p,hm,l,hs,h,hc=>by
    unfold aap at hs
    rw [Bool.and_eq_true] at hs
    unfold count at hc ⊢
    unfold vals at h
    by_cases h1:f=1
    · rw [if_pos h1] at h hc ⊢; simp at h; subst h; rfl
    rw [if_neg h1] at h hc ⊢
    by_cases h2:f=2
    · subst h2
      rw [if_pos rfl] at h
      rw [if_neg (by decide),if_pos rfl]
      have hs:=hs.2
      rw [if_neg (by decide),if_pos rfl] at hs
      simp only [Bool.and_eq_true,agM] at hs
      split at h <;> simp at h
      subst h
      simp
      omega
    rw [if_neg h2] at h
    by_cases h3:f=3
    · rw [if_pos h3] at h hc ⊢; simp at h; subst h; rfl
    rw [if_neg h3] at h hc ⊢
    rw [if_neg h2] at hc ⊢
    by_cases h5:f=5
    · rw [if_pos h5] at h hc ⊢
      split at h <;> try (simp at h; done)
      rename_i ls hls
      unfold cut at h
      split at h <;> simp at h
      rename_i hle
      subst h
      simp at hle
      simp only [List.length_map]
      have hpn:∀ k ∈ p,k.nodes≤m:=by
        have hall:∀ (p:List K), ∀ k ∈ p,k.nodes≤K.nodesL p:=by
          intro p
          induction p with
          | nil=>intro k hk; simp at hk
          | cons a p ih =>
            intro k hk
            unfold K.nodesL
            rcases List.mem_cons.1 hk with rfl | hk
            · omega
            · have:=ih k hk; omega
        intro k hk
        have:=hall p k hk
        unfold K.nodes at hm
        omega
      have ih:∀ k ∈ p, ∀ l,vals k=some l→(count k).2=true→(count k).1=l.length:=fun k hk l hv hc=>vals_count m k (hpn k hk) (ame.1 hs.1 k hk) hv hc
      by_cases hz:(prod ls).length=0
      · rw [ap9 ih hls hc (.inr hz),hz]; rfl
      · have:=aqa (n:=1) ih hls hc (by omega) (by omega)
        rw [show ((1:Nat):Int)=1 from rfl,Nat.one_mul] at this
        exact this
    · rw [if_neg h5] at hc; simp at hc
def grow (c:Nat):Nat :=
  if c < 4 then 1 else if c < 8 then 2 else if c < 11 then 3 else if c < 15 then 4 else if c < 16 then 6 else if c < 32 then 8 else 10
theorem grow_pos (c:Nat):1≤grow c:=by
                                              unfold grow; repeat' split
                                              all_goals omega
theorem grow_le (c:Nat):grow c≤10:=by
                                              unfold grow; repeat' split
                                              all_goals omega
theorem apy {a b:Nat} (h:a≤b):grow a≤grow b:=by
  unfold grow
  repeat' split
  all_goals omega
def choose:Nat→Nat→Nat
  | _,0=>1
  | 0,_ + 1=>0
  | m + 1,n + 1=>choose m n + choose m (n + 1)
theorem afQ:∀ {l:List V} {n:Nat},(combos l n).length=choose l.length n
  | l,0=>by cases l <;> simp [combos,choose]
  | [],n + 1=>by simp [combos,choose]
  | v :: l,n + 1=>by simp [combos,choose,afQ (l:=l)]
def upN (m:Nat):Nat→Nat
  | 0=>1
  | t + 1=>upN m t + choose m (t + 1)
theorem anw {l:List V}:∀ (t:Nat),(upTo l t).length=upN l.length t
  | 0=>by simp [upTo,upN,afQ,choose]
  | t + 1=>by
    have ih:=anw (l:=l) t
    unfold upTo at ih ⊢
    rw [List.range_succ,List.flatMap_append,List.length_append,ih,upN]
    simp [afQ]
theorem ahD:∀ m,choose m 1=m
  | 0=>rfl
  | m + 1=>by rw [choose,choose,ahD m]; omega
theorem choose_two:∀ m,2 * choose m 2 + m=m * m
  | 0=>rfl
  | m + 1=>by
    have:=choose_two m
    show 2 * (choose m 1 + choose m 2) + (m + 1)=_
    rw [ahD,Nat.mul_add,Nat.add_mul,Nat.mul_add]
    omega
theorem upN_ge (m:Nat):∀ {s t:Nat},s≤t→upN m s≤upN m t
  | s,0,h=>by rw [Nat.le_zero.1 h]; exact Nat.le_refl _
  | s,t + 1,h=>by
    rcases Nat.lt_or_ge t s with h' | h'
    · rw [show s=t + 1 by omega]; exact Nat.le_refl _
    · have:=upN_ge m h'; rw [upN]; omega
theorem grow_small:∀ m < 8, ∀ t < 8,t≤m→upN m t≤32→t * grow m≤grow (upN m t):=by decide
theorem grow_up {m t:Nat} (ht:t≤m) (h:upN m t≤32):t * grow m≤grow (upN m t):=by
  rcases t with _ | _ | t
  · simp
  · rw [Nat.zero_add,Nat.one_mul]
    have:upN m 1=m + 1:=by simp [upN,ahD]; omega
    rw [this]
    exact apy (by omega)
  · have h:upN m (t + 2)≤32:=h
    have h2:upN m 2≤upN m (t + 2):=upN_ge m (by omega)
    have h3:upN m 2=1 + m + choose m 2:=by simp [upN,ahD]
    have h4:=choose_two m
    have hm:m < 8:=by
      rcases Nat.lt_or_ge m 8 with h' | h'
      · exact h'
      · have:8 * m≤m * m:=Nat.mul_le_mul_right m h'
        omega
    exact grow_small m hm (t + 2) (by omega) ht h
theorem nodesL_le {B:Nat}:∀ {l:List V},(∀ v ∈ l,v.nodes≤B)→V.nodesL l≤l.length * B
  | [],_=>by simp [V.nodesL]
  | v :: l,h=>by
    have h1:=h v (by simp)
    have h2:=nodesL_le (l:=l) fun v hv=>h v (List.mem_cons_of_mem _ hv)
    unfold V.nodesL
    rw [List.length_cons,Nat.add_mul,Nat.one_mul]
    omega
theorem hgtL_le {B:Nat}:∀ {l:List V},(∀ v ∈ l,v.hgt≤B)→V.hgtL l≤B
  | [],_=>by simp [V.hgtL]
  | v :: l,h=>by
    have h1:=h v (by simp)
    have h2:=hgtL_le (l:=l) fun v hv=>h v (List.mem_cons_of_mem _ hv)
    unfold V.hgtL
    omega
mutual
theorem anu:∀ (k:K) {l:List V},vals k=some l → ∀ x ∈ l,x.nodes≤k.nodes * grow l.length∧x.hgt≤k.hgt
  | .mk f lo hi mo p,l,h,x,hx=>by
    have hg:=grow_pos l.length
    unfold K.nodes K.hgt
    have leaf:x.parts = []→x.nodes≤(1 + K.nodesL p) * grow l.length∧x.hgt≤1 + K.hgtL p:=by
      intro e
      obtain ⟨k,n,t,q⟩:=x
      have e:q = []:=e
      subst e
      unfold V.nodes V.nodesL V.hgt V.hgtL
      rw [Nat.add_mul]
      omega
    unfold vals at h
    by_cases h1:f=1
    · rw [if_pos h1] at h; simp at h; subst h; simp at hx
    rw [if_neg h1] at h
    by_cases h2:f=2
    · rw [if_pos h2] at h
      split at h <;> simp at h
      subst h
      obtain ⟨i,_,rfl⟩:=List.mem_map.1 hx
      exact leaf rfl
    rw [if_neg h2] at h
    by_cases h3:f=3
    · rw [if_pos h3] at h
      simp at h
      subst h
      rcases List.mem_cons.1 hx with rfl | hx
      · exact leaf rfl
      · rw [List.mem_singleton.1 hx] at leaf ⊢; exact leaf rfl
    rw [if_neg h3] at h
    by_cases h5:f=5
    · rw [if_pos h5] at h
      split at h <;> try (simp at h; done)
      rename_i ls hls
      unfold cut at h
      split at h <;> simp at h
      subst h
      obtain ⟨y,hy,rfl⟩:=List.mem_map.1 hx
      obtain ⟨q1,q2⟩:=valsL_size p hls y hy
      simp only [List.length_map] at hg ⊢
      unfold tupleV V.nodes V.hgt
      rw [Nat.add_mul]
      omega
    rw [if_neg h5] at h
    by_cases h6:f=6
    · rw [if_pos h6] at h
      split at h <;> try (simp at h; done)
      rename_i l1 ls hls
      unfold cut at h
      split at h <;> simp at h
      rename_i hle
      subst h
      obtain ⟨y,hy,rfl⟩:=List.mem_map.1 hx
      unfold upTo at hy
      obtain ⟨n,hn,hy⟩:=List.mem_flatMap.1 hy
      have hn:=List.mem_range.1 hn
      obtain ⟨q1,q2⟩:=aav.1 hy
      have hone:=valsL_sizeS p hls
      have hN:=nodesL_le (l:=y) (B:=K.nodesL p * grow l1.length) fun v hv=>(hone v (q1.subset hv)).1
      have hH:=hgtL_le (l:=y) (B:=K.hgtL p) fun v hv=>(hone v (q1.subset hv)).2
      simp only [List.length_map,anw] at hle hg ⊢
      have hG:=grow_up (m:=l1.length) (t:=min mo.toNat l1.length) (by omega) hle
      unfold setV V.nodes V.hgt
      have h7:y.length * (K.nodesL p * grow l1.length)≤K.nodesL p * grow (upN l1.length (min mo.toNat l1.length)):=by
        calc y.length * (K.nodesL p * grow l1.length)≤min mo.toNat l1.length * (K.nodesL p * grow l1.length):=Nat.mul_le_mul_right _ (by omega)
          _=K.nodesL p * (min mo.toNat l1.length * grow l1.length):=by rw [Nat.mul_left_comm]
          _≤_:=Nat.mul_le_mul_left _ hG
      rw [Nat.add_mul]
      omega
    · rw [if_neg h6] at h; simp at h
theorem valsL_size:∀ (p:List K) {ls:List (List V)},valsL p=some ls → ∀ x ∈ prod ls,V.nodesL x≤K.nodesL p * grow (prod ls).length∧V.hgtL x≤K.hgtL p
  | [],ls,h,x,hx=>by
    simp [valsL] at h; subst h
    simp [prod] at hx; subst hx
    simp [V.nodesL,V.hgtL]
  | k :: r,ls,h,x,hx=>by
    unfold valsL at h
    split at h <;> try (simp at h; done)
    rename_i l ls' h1 h2
    simp at h
    subst h
    have hlen:=aiw l ls'
    obtain ⟨v,hv,hx⟩:=List.mem_flatMap.1 hx
    obtain ⟨y,hy,rfl⟩:=List.mem_map.1 hx
    obtain ⟨a1,a2⟩:=anu k h1 v hv
    obtain ⟨b1,b2⟩:=valsL_size r h2 y hy
    have c1:0 < l.length:=List.length_pos_of_mem hv
    have c2:0 < (prod ls').length:=List.length_pos_of_mem hy
    have d1:l.length≤(prod (l :: ls')).length:=by rw [hlen]; exact Nat.le_mul_of_pos_right _ c2
    have d2:(prod ls').length≤(prod (l :: ls')).length:=by rw [hlen]; exact Nat.le_mul_of_pos_left _ c1
    have e1:=Nat.mul_le_mul_left k.nodes (apy d1)
    have e2:=Nat.mul_le_mul_left (K.nodesL r) (apy d2)
    unfold V.nodesL V.hgtL K.nodesL K.hgtL
    rw [Nat.add_mul]
    omega
theorem valsL_sizeS:∀ (p:List K) {l:List V} {ls:List (List V)},valsL p=some (l :: ls) → ∀ x ∈ l,x.nodes≤K.nodesL p * grow l.length∧x.hgt≤K.hgtL p
  | [],l,ls,h,x,hx=>by simp [valsL] at h
  | k :: r,l,ls,h,x,hx=>by
    unfold valsL at h
    split at h <;> try (simp at h; done)
    rename_i l' ls' h1 h2
    simp at h
    obtain ⟨rfl,rfl⟩:=h
    obtain ⟨a1,a2⟩:=anu k h1 x hx
    unfold K.nodesL K.hgtL
    rw [Nat.add_mul]
    omega
end
theorem aku {k:K} (hk:validK k=true) {l:List V} (h:vals k=some l):∀ x ∈ l,validV x=true∧isV k x=true:=fun x hx=>by
  unfold validK at hk
  simp only [Bool.and_eq_true,decide_eq_true_eq] at hk
  obtain ⟨h1,h2⟩:=vals_is k hk.2 h x hx
  obtain ⟨h3,h4⟩:=anu k h x hx
  have h5:k.nodes * grow l.length≤20 * 10:=Nat.mul_le_mul hk.1.1 (grow_le _)
  refine ⟨?_,h1⟩
  unfold validV
  simp only [Bool.and_eq_true,decide_eq_true_eq]
  exact ⟨⟨by omega,by omega⟩,h2⟩
theorem vals_iff {k:K} (hk:validK k=true) {l:List V} (h:vals k=some l) {v:V} (hv:validV v=true):v ∈ l ↔ isV k v=true :=
  ⟨fun hx=>(aku hk h v hx).2,fun hi=>vals_all k h v (by unfold validV at hv; simp only [Bool.and_eq_true] at hv; exact hv.2) hi⟩
theorem vals_many {k:K} (hk:validK k=true) {l:List V} (h:vals k=some l) (hc:(count k).2=true):(count k).1=l.length:=by
  unfold validK at hk
  simp only [Bool.and_eq_true] at hk
  exact vals_count _ k (Nat.le_refl _) hk.2 h hc
end Go.Proofs.YtdnbnpknpejpdaaGreatDoor.Iv
namespace Go.Proofs.YtdnbnpknpejpdaaGreatDoor
open Go Go.Proofs.YtdnbnpknpejpdaaGreatDoor.Sw
mutual
inductive IsK:PVal→Iv.K→Prop where
  | mk {f lo hi mo:Int} {p:PVal} {xs:List PVal} {ks:List Iv.K}:IsSl p xs→IsKs xs ks→IsK (.agg [.int .i64 f, .int .i64 lo, .int .i64 hi, .int .i64 mo,p]) (.mk f lo hi mo ks)
inductive IsKs:List PVal→List Iv.K→Prop where
  | nil:IsKs [] []
  | cons {x:PVal} {k:Iv.K} {xs:List PVal} {ks:List Iv.K}:IsK x k→IsKs xs ks→IsKs (x :: xs) (k :: ks)
end
mutual
inductive IsV:PVal→Iv.V→Prop where
  | mk {k n:Int} {t:List Nat} {p:PVal} {xs:List PVal} {vs:List Iv.V}:IsSl p xs→IsVs xs vs→IsV (.agg [.int .i64 k, .int .i64 n, .str t,p]) (.mk k n t vs)
inductive IsVs:List PVal→List Iv.V→Prop where
  | nil:IsVs [] []
  | cons {x:PVal} {v:Iv.V} {xs:List PVal} {vs:List Iv.V}:IsV x v→IsVs xs vs→IsVs (x :: xs) (v :: vs)
end
theorem IsKs.len:∀ {xs:List PVal} {ks:List Iv.K},IsKs xs ks→xs.length=ks.length
  | _,_, .nil=>rfl
  | _,_, .cons _ h=>by simp [h.len]
theorem IsVs.len:∀ {xs:List PVal} {vs:List Iv.V},IsVs xs vs→xs.length=vs.length
  | _,_, .nil=>rfl
  | _,_, .cons _ h=>by simp [h.len]
abbrev I (z:Int):PVal:=.int .i64 z
abbrev rI (z:Int):Option AVal:=some (.p (.int .i64 z))
abbrev rB (b:Bool):Option AVal:=some (.p (.bool b))
theorem abf {α:Type} {l a b:List α} {x:α} (h:l=a ++ x :: b):l[a.length]? = some x:=by subst h; simp
theorem dlt {n m:Nat}:decide (Int.ofNat n < ((m:Nat):Int))=decide (n < m):=by
  by_cases h:n < m <;> simp [h]
theorem acJ {z:Int} (h0 : -4611686018427387904≤z) (h:z≤4611686018427387904):IntKind.wrap .i64 z=z:=IntWalk.i64_in _ (by omega)
theorem dge0 {l:Int}:decide (l ≥ Int.ofNat 0)=decide (0≤l):=rfl
theorem dlt1 {l:Int}:decide (l < Int.ofNat 1)=decide (l < 1):=rfl
mutual
def weighK:Iv.K→Int→Int→Int
  | .mk _ _ _ _ p,l,d=>if l < 1 then -1 else if d < 1 then -1 else abr p (l - 1) (d - 1)
def abr:List Iv.K→Int→Int→Int
  | [],l,_=>l
  | k :: r,l,d=>if 0≤l then abr r (weighK k l d) d else l
end
mutual
theorem anq:∀ (k:Iv.K) (l d:Int), -1≤weighK k l d∧(0≤l→weighK k l d≤l - 1)
  | .mk _ _ _ _ p,l,d=>by
    unfold weighK
    split
    · omega
    · split
      · omega
      · have:=weighKs_in p (l - 1) (d - 1) (by omega)
        omega
theorem weighKs_in:∀ (p:List Iv.K) (l d:Int), -1≤l → -1≤abr p l d∧(abr p l d≤l)
  | [],l,d,h=>by unfold abr; omega
  | k :: r,l,d,h=>by
    unfold abr
    split
    · have h1:=anq k l d
      have h2:=weighKs_in r (weighK k l d) d h1.1
      omega
    · omega
end
theorem anr {k:Nat} {rec:Rec1} {ts:Tds} {kx:ahW→Option AVal} {f lo hi mo:Int} {d:Int} {p:PVal} {xs:List PVal} (hs:IsSl p xs) (hd : -1000≤d∧d≤1000)
    (hrec:∀ x k',IsK x k' → ∀ l, -1≤l→l≤1000→rec adp [x,I l,I (d - 1)]=rI (weighK k' l (d - 1))) :
    ∀ {xs2:List PVal} {ks2:List Iv.K} (xs1:List PVal) (j:Nat) (l:Int),IsKs xs2 ks2→xs=xs1 ++ xs2→l + 2≤j → -1≤l→(xs1.length:Int) + l≤1000 →
      adj k rec ts kx j (.a l d (Int.ofNat xs1.length) f lo hi mo p)=kx (.a (abr ks2 l (d - 1)))
  | [],_,xs1,j,l, .nil,he,hj,hl,_=>by
    obtain ⟨j,rfl⟩:∃ j',j=j' + 1:=⟨j - 1,by omega⟩
    subst he
    simp only [adj,ahP,hs.slK,dlt,List.append_nil,Nat.lt_irrefl,decide_false,ifB_f,abr]
  | x :: xs2,k2 :: ks2,xs1,j,l, .cons hk hr,he,hj,hl,hl2=>by
    obtain ⟨j,rfl⟩:∃ j',j=j' + 1:=⟨j - 1,by omega⟩
    have hlt:xs1.length < xs.length:=by rw [he]; simp
    simp only [adj,ahP,hs.slK,dlt,hlt,decide_true,ifB_t,dge0]
    by_cases h0:0≤l
    · have hr1:=hrec x k2 hk l hl (by omega)
      have hw:=anq k2 l (d - 1)
      have hw2:=hw.2 h0
      have ih:=anr (k:=k) (rec:=rec) (ts:=ts) (kx:=kx) (f:=f) (lo:=lo) (hi:=hi) (mo:=mo) hs hd hrec (xs1 ++ [x]) j (weighK k2 l (d - 1)) hr (by rw [he]; simp) (by omega) hw.1 (by simp; omega)
      rw [List.length_append,List.length_singleton] at ih
      cases hk with
      | mk hs2 hk2 =>
        simp only [h0,decide_true,ifB_t,aal,aao (abf he),kK,vK,aah,aab,aad,aam,aae]
        rw [show IntKind.wrap .i64 (d - Int.ofNat 1)=d - 1 from acJ (by simp; omega) (by simp; omega)]
        rw [hr1]
        simp only [aag,pK_p,aad]
        rw [aax (by omega),ih]
        simp only [abr,h0,if_true]
    · simp only [h0,decide_false,ifB_f,abr,if_false]
theorem weigh5_F {lk:Nat} {rec:Rec1} {x:PVal} {k:Iv.K} {l d:Int} (hk:IsK x k) (hl : -1≤l) (hl2:l≤1000) (hd : -1000≤d∧d≤1000) (hn:1001 < lk)
    (hrec:1≤d → ∀ x k',IsK x k' → ∀ l, -1≤l→l≤1000→rec adp [x,I l,I (d - 1)]=rI (weighK k' l (d - 1))):F_eWeigh lk rec x (I l) (I d)=rI (weighK k l d):=by
  cases hk with
  | mk hs hks =>
    simp only [F_eWeigh,aqA,kK,vK,aah,aab,aad,aam,aae,weighK,dlt1]
    by_cases h1:l < 1
    · simp only [h1,decide_true,ifB_t,if_true]; rfl
    · by_cases h2:d < 1
      · simp only [h1,h2,decide_true,decide_false,ifB_t,ifB_f,if_true,if_false]; rfl
      · simp only [h1,h2,decide_false,ifB_f,if_false]
        rw [show IntKind.wrap .i64 (l - Int.ofNat 1)=l - 1 from acJ (by simp; omega) (by simp; omega)]
        exact (anr hs hd (hrec (by omega)) [] lk (l - 1) hks rfl (by omega) (by omega) (by simp; omega)).trans rfl
mutual
def weighV:Iv.V→Int→Int→Int
  | .mk _ _ _ p,l,d=>if l < 1 then -1 else if d < 1 then -1 else ab5 p (l - 1) (d - 1)
def ab5:List Iv.V→Int→Int→Int
  | [],l,_=>l
  | k :: r,l,d=>if 0≤l then ab5 r (weighV k l d) d else l
end
mutual
theorem weighV_in:∀ (k:Iv.V) (l d:Int), -1≤weighV k l d∧(0≤l→weighV k l d≤l - 1)
  | .mk _ _ _ p,l,d=>by
    unfold weighV
    split
    · omega
    · split
      · omega
      · have:=weighVs_in p (l - 1) (d - 1) (by omega)
        omega
theorem weighVs_in:∀ (p:List Iv.V) (l d:Int), -1≤l → -1≤ab5 p l d∧(ab5 p l d≤l)
  | [],l,d,h=>by unfold ab5; omega
  | k :: r,l,d,h=>by
    unfold ab5
    split
    · have h1:=weighV_in k l d
      have h2:=weighVs_in r (weighV k l d) d h1.1
      omega
    · omega
end
theorem ans {k:Nat} {rec:Rec1} {ts:Tds} {kx:ah0→Option AVal} {kd n:Int} {t:List Nat} {d:Int} {p:PVal} {xs:List PVal} (hs:IsSl p xs) (hd : -1000≤d∧d≤1000)
    (hrec:∀ x k',IsV x k' → ∀ l, -1≤l→l≤1000→rec adq [x,I l,I (d - 1)]=rI (weighV k' l (d - 1))) :
    ∀ {xs2:List PVal} {ks2:List Iv.V} (xs1:List PVal) (j:Nat) (l:Int),IsVs xs2 ks2→xs=xs1 ++ xs2→l + 2≤j → -1≤l→(xs1.length:Int) + l≤1000 →
      adm k rec ts kx j (.a l d (Int.ofNat xs1.length) kd n t p)=kx (.a (ab5 ks2 l (d - 1)))
  | [],_,xs1,j,l, .nil,he,hj,hl,_=>by
    obtain ⟨j,rfl⟩:∃ j',j=j' + 1:=⟨j - 1,by omega⟩
    subst he
    simp only [adm,ahS,hs.slK,dlt,List.append_nil,Nat.lt_irrefl,decide_false,ifB_f,ab5]
  | x :: xs2,k2 :: ks2,xs1,j,l, .cons hk hr,he,hj,hl,hl2=>by
    obtain ⟨j,rfl⟩:∃ j',j=j' + 1:=⟨j - 1,by omega⟩
    have hlt:xs1.length < xs.length:=by rw [he]; simp
    simp only [adm,ahS,hs.slK,dlt,hlt,decide_true,ifB_t,dge0]
    by_cases h0:0≤l
    · have hr1:=hrec x k2 hk l hl (by omega)
      have hw:=weighV_in k2 l (d - 1)
      have hw2:=hw.2 h0
      have ih:=ans (k:=k) (rec:=rec) (ts:=ts) (kx:=kx) (kd:=kd) (n:=n) (t:=t) hs hd hrec (xs1 ++ [x]) j (weighV k2 l (d - 1)) hr (by rw [he]; simp) (by omega) hw.1 (by simp; omega)
      rw [List.length_append,List.length_singleton] at ih
      cases hk with
      | mk hs2 hk2 =>
        simp only [h0,decide_true,ifB_t,aal,aao (abf he),kK,vK,aah,aab,aad,aam,aae]
        rw [show IntKind.wrap .i64 (d - Int.ofNat 1)=d - 1 from acJ (by simp; omega) (by simp; omega)]
        rw [hr1]
        simp only [aag,pK_p,aad]
        rw [aax (by omega),ih]
        simp only [ab5,h0,if_true]
    · simp only [h0,decide_false,ifB_f,ab5,if_false]
theorem weigh1_F {lk:Nat} {rec:Rec1} {x:PVal} {k:Iv.V} {l d:Int} (hk:IsV x k) (hl : -1≤l) (hl2:l≤1000) (hd : -1000≤d∧d≤1000) (hn:1001 < lk)
    (hrec:1≤d → ∀ x k',IsV x k' → ∀ l, -1≤l→l≤1000→rec adq [x,I l,I (d - 1)]=rI (weighV k' l (d - 1))):F_aWeigh lk rec x (I l) (I d)=rI (weighV k l d):=by
  cases hk with
  | mk hs hks =>
    simp only [F_aWeigh,aqH,kK,vK,aah,aab,aad,aam,aae,weighV,dlt1]
    by_cases h1:l < 1
    · simp only [h1,decide_true,ifB_t,if_true]; rfl
    · by_cases h2:d < 1
      · simp only [h1,h2,decide_true,decide_false,ifB_t,ifB_f,if_true,if_false]; rfl
      · simp only [h1,h2,decide_false,ifB_f,if_false]
        rw [show IntKind.wrap .i64 (l - Int.ofNat 1)=l - 1 from acJ (by simp; omega) (by simp; omega)]
        exact (ans hs hd (hrec (by omega)) [] lk (l - 1) hks rfl (by omega) (by omega) (by simp; omega)).trans rfl
end Go.Proofs.YtdnbnpknpejpdaaGreatDoor
namespace Go.Proofs.YtdnbnpknpejpdaaGreatDoor
open Go Go.Proofs.YtdnbnpknpejpdaaGreatDoor.Sw
theorem dge {a b:Int}:decide (a ≥ b)=decide (b≤a):=rfl
theorem ieq {a b:Int}:(a == b)=decide (a=b):=by by_cases h:a=b <;> simp [h]
theorem dle {n m:Nat}:decide (((n:Nat):Int)≤Int.ofNat m)=decide (n≤m):=by by_cases h:n≤m <;> simp [h]
theorem dgt {a b:Int}:decide (a > b)=decide (b < a):=rfl
theorem in5_F {lk:Nat} {rec:Rec1} {a b c:Int}:F_ein lk rec (I a) (I b) (I c)=rB (Iv.inR a b c):=by
  simp only [F_ein,FF_ein,aad,dge,Iv.inR]
  by_cases h:b≤a <;> simp [h]
theorem in1_F {lk:Nat} {rec:Rec1} {a b c:Int}:F_ain lk rec (I a) (I b) (I c)=rB (Iv.inR a b c):=by
  simp only [F_ain,FF_ain,aad,dge,Iv.inR]
  by_cases h:b≤a <;> simp [h]
theorem inS_F {lk:Nat} {rec:Rec1} {a b c:Int}:F_xin lk rec (I a) (I b) (I c)=rB (Iv.inR a b c):=by
  simp only [F_xin,FF_xin,aad,dge,Iv.inR]
  by_cases h:b≤a <;> simp [h]
theorem order_F {lk:Nat} {rec:Rec1} {a b:Int}:F_aorder lk rec (I a) (I b)=rI (Iv.order a b):=by
  simp only [F_aorder,aqF,aad,dgt,Iv.order]
  by_cases h:a < b
  · simp [h]
  · by_cases h2:b < a <;> simp [h,h2]
theorem isInt_F {lk:Nat} {rec:Rec1} {a:Int} (hr:rec i_xin [I a,I (-1000000000),I 1000000000]=rB (Iv.inR a (-1000000000) 1000000000)):F_xisInt lk rec (I a)=rB (Iv.inR a (-1000000000) 1000000000):=by
  have hr:rec i_xin [I a,I (Int.negSucc 999999999),I (Int.ofNat 1000000000)]=rB (Iv.inR a (-1000000000) 1000000000):=hr
  simp only [F_xisInt,aqx,aad,hr,aag,pK_p,aai]
theorem refused_F {lk:Nat} {rec:Rec1} {b:Bool}:alZ lk rec (.bool b)=rI (if b then 0 else 2):=by
  simp only [alZ,ajb,aai]
  cases b <;> rfl
theorem plain_F {lk:Nat} {rec:Rec1} {x:PVal} {f lo hi mo:Int} {ks:List Iv.K} (hk:IsK x (.mk f lo hi mo ks)):F_eplain lk rec x=rB (decide (lo=0) && decide (hi=0) && decide (mo=0)):=by
  cases hk with
  | mk hs hks =>
    simp only [F_eplain,aqy,kK,vK,aah,aab,aad,aae,ieq]
    show ifB (decide (lo=0)) (ifB (decide (hi=0)) (rB (decide (mo=0))) (rB false)) (rB false)=_
    cases decide (lo=0) <;> cases decide (hi=0) <;> rfl
def okC (c:Nat):Bool:=decide (32≤c) && decide (c≤126) && !decide (c=34) && !decide (c=92)
theorem amw {k:Nat} {rec:Rec1} {ts:Tds} {kx:aeD→Option AVal} {t:List Nat} (ht:t.length < 100000) :
    ∀ {t2 t1:List Nat} {j:Nat},t=t1 ++ t2→t2.length < j→abV k rec ts kx j (.a t (Int.ofNat t1.length))=if t2.all okC then kx (.b t) else kx .a
  | [],t1,j,he,hj=>by
    obtain ⟨j,rfl⟩:∃ j',j=j' + 1:=⟨j - 1,by omega⟩
    subst he
    simp only [abV,aeB,dlt,List.append_nil,Nat.lt_irrefl,decide_false,ifB_f,List.all_nil,if_true]
  | c :: t2,t1,j,he,hj=>by
    obtain ⟨j,rfl⟩:∃ j',j=j' + 1:=⟨j - 1,by omega⟩
    have hlt:t1.length < t.length:=by rw [he]; simp
    have ih:=amw (k:=k) (rec:=rec) (ts:=ts) (kx:=kx) ht (t2:=t2) (t1:=t1 ++ [c]) (j:=j) (by rw [he]; simp) (by simp at hj; omega)
    rw [List.length_append,List.length_singleton] at ih
    simp only [abV,aeB,dlt,hlt,decide_true,ifB_t,aal,aao (abf he),List.all_cons]
    rw [aax (by omega),ih]
    have e1:decide (Int.ofNat c < Int.ofNat 32) = !decide (32≤c):=by by_cases h:32≤c <;> simp [h] <;> omega
    have e2:decide (Int.ofNat c > Int.ofNat 126) = !decide (c≤126):=by by_cases h:c≤126 <;> simp [h] <;> omega
    have e3:(Int.ofNat c == Int.ofNat 34)=decide (c=34):=by by_cases h:c=34 <;> simp [h]; omega
    have e4:(Int.ofNat c == Int.ofNat 92)=decide (c=92):=by by_cases h:c=92 <;> simp [h]; omega
    rw [e1,e2,e3,e4]
    unfold okC
    by_cases h1:32≤c <;> by_cases h2:c≤126 <;> by_cases h3:c=34 <;> by_cases h4:c=92 <;> simp [h1,h2,h3,h4]
theorem letters_F {lk:Nat} {rec:Rec1} {t:List Nat} (ht:t.length < 100000) (hl:t.length < lk):al0 lk rec (.str t)=rB (Iv.alx t):=by
  simp only [al0,ajc,aam]
  refine (amw ht (t2:=t) (t1:=[]) rfl hl).trans ?_
  show (if t.all okC then _ else _)=rB (t.all okC && decide (t.length≤20))
  cases t.all okC with
  | true=>exact congrArg (fun b=>rB b) dle
  | false=>rfl
theorem alG {b c:Bool} {X Y:Option AVal}:ifB (!b) X (if c=true then Y else X)=if (b && c)=true then Y else X:=by cases b <;> simp
theorem nodesV {k n:Int} {t:List Nat} {p:List Iv.V}:(Iv.V.mk k n t p).nodes=1 + Iv.V.nodesL p:=by rw [Iv.V.nodes]
theorem nodesK {f lo hi mo:Int} {p:List Iv.K}:(Iv.K.mk f lo hi mo p).nodes=1 + Iv.K.nodesL p:=by rw [Iv.K.nodes]
theorem lenK:∀ {l:List Iv.K},l.length≤Iv.K.nodesL l
  | []=>by simp
  | k :: r=>by
    have:=lenK (l:=r)
    have h:1≤k.nodes:=by cases k; unfold Iv.K.nodes; omega
    unfold Iv.K.nodesL; simp; omega
theorem lenV:∀ {l:List Iv.V},l.length≤Iv.V.nodesL l
  | []=>by simp
  | k :: r=>by
    have:=lenV (l:=r)
    have h:1≤k.nodes:=by cases k; unfold Iv.V.nodes; omega
    unfold Iv.V.nodesL; simp; omega
theorem memK:∀ {l:List Iv.K} {k:Iv.K},k ∈ l→k.nodes≤Iv.K.nodesL l
  | a :: r,k,h=>by
    unfold Iv.K.nodesL
    rcases List.mem_cons.1 h with rfl | h
    · omega
    · have:=memK h; omega
theorem memV:∀ {l:List Iv.V} {k:Iv.V},k ∈ l→k.nodes≤Iv.V.nodesL l
  | a :: r,k,h=>by
    unfold Iv.V.nodesL
    rcases List.mem_cons.1 h with rfl | h
    · omega
    · have:=memV h; omega
theorem brief_loop {k:Nat} {rec:Rec1} {ts:Tds} {kx:ahZ→Option AVal} {kd n:Int} {t:List Nat} {p:PVal} {xs:List PVal} {fn:Iv.V→Bool} (hs:IsSl p xs) (hx:xs.length < 100000) :
    ∀ {xs2:List PVal} {ks2:List Iv.V} (xs1:List PVal) (j:Nat),IsVs xs2 ks2→xs=xs1 ++ xs2→xs2.length < j →
      (∀ x k',k' ∈ ks2→IsV x k' → rec aeq [x]=rB (fn k')) →
      adl k rec ts kx j (.a (Int.ofNat xs1.length) kd n t p)=if ks2.all fn then kx (.b kd n t p) else kx .a
  | [],_,xs1,j, .nil,he,hj,_=>by
    obtain ⟨j,rfl⟩:∃ j',j=j' + 1:=⟨j - 1,by omega⟩
    subst he
    simp only [adl,ahR,hs.slK,dlt,List.append_nil,Nat.lt_irrefl,decide_false,ifB_f,List.all_nil,if_true]
  | x :: xs2,k2 :: ks2,xs1,j, .cons hk hr,he,hj,hrec=>by
    obtain ⟨j,rfl⟩:∃ j',j=j' + 1:=⟨j - 1,by omega⟩
    have hlt:xs1.length < xs.length:=by rw [he]; simp
    have hr1:=hrec x k2 (by simp) hk
    have ih:=brief_loop (k:=k) (rec:=rec) (ts:=ts) (kx:=kx) (kd:=kd) (n:=n) (t:=t) (fn:=fn) hs hx (xs1 ++ [x]) j hr (by rw [he]; simp) (by simp at hj; omega) (fun x k' h=>hrec x k' (List.mem_cons_of_mem _ h))
    rw [List.length_append,List.length_singleton] at ih
    cases hk with
    | mk hs2 hk2 =>
      simp only [adl,ahR,hs.slK,dlt,hlt,decide_true,ifB_t,aal,aao (abf he),kK,vK,aah,aab,aad,aam,aae,hr1,aag,pK_p,aai,List.all_cons]
      rw [aax (by omega),ih]
      exact alG
mutual
def briefV:Iv.V→Bool | .mk _ _ t p=>alW p && decide (t.length≤30)
def alW:List Iv.V→Bool | []=>true | v :: r=>briefV v && alW r
end
theorem aiY:∀ {l:List Iv.V},alW l=l.all briefV
  | []=>rfl
  | v :: r=>by simp [alW,aiY (l:=r)]
theorem brief_F {lk:Nat} {rec:Rec1} {x:PVal} {v:Iv.V} (hv:IsV x v) (hn:v.nodes < 1000) (hl:1000 < lk) (hrec:∀ x v',v'.nodes < v.nodes→IsV x v' → rec aeq [x]=rB (briefV v')):F_abrief lk rec x=rB (briefV v):=by
  cases hv with
  | mk hs hks =>
    rename_i kd n t p xs ks
    have h1:=hks.len
    have h2:=lenV (l:=ks)
    rw [nodesV] at hn
    simp only [F_abrief,aqG,kK,vK,aah,aab,aad,aam,aae]
    refine (brief_loop hs (by omega) [] lk hks rfl (by omega) (fun x k' hk'=>hrec x k' (by have:=memV hk'; rw [nodesV]; omega))).trans ?_
    unfold briefV
    rw [aiY]
    cases ks.all briefV with
    | true=>exact congrArg (fun b=>rB b) dle
    | false=>rfl
theorem small5_F {lk:Nat} {rec:Rec1} {x:PVal} {k:Iv.K} (hk:IsK x k) (hrec:rec adp [x,I 30,I 9]=rI (weighK k 30 9)):F_eSmall lk rec x=rB (decide (0≤weighK k 30 9)):=by
  cases hk with
  | mk hs hks =>
    have hrec:=hrec
    simp only [F_eSmall,aqC,kK,vK,aah,aab,aad,aae]
    rw [show (Int.ofNat 30)=30 from rfl,show (Int.ofNat 9)=9 from rfl,hrec]
    simp only [aag,pK_p,aad]
    rfl
theorem valid5_F {lk:Nat} {rec:Rec1} {x:PVal} {k:Iv.K} (hk:IsK x k) (hrec:rec adp [x,I 20,I 6]=rI (weighK k 20 6)) (hrec2:0≤weighK k 20 6→rec ady [x]=rB (Iv.aap k)) :
    F_eValid lk rec x=rB (decide (0≤weighK k 20 6) && Iv.aap k):=by
  cases hk with
  | mk hs hks =>
    rename_i f lo hi mo p xs ks
    simp only [F_eValid,aqB,kK,vK,aah,aab,aad,aae]
    rw [show (Int.ofNat 20)=20 from rfl,show (Int.ofNat 6)=6 from rfl,hrec]
    simp only [aag,pK_p,aad,dge0]
    by_cases h:0≤weighK (.mk f lo hi mo ks) 20 6
    · simp only [h,decide_true,ifB_t,hrec2 h,aag,pK_p,aai,Bool.true_and]
    · simp only [h,decide_false,ifB_f,Bool.false_and]
theorem small1_F {lk:Nat} {rec:Rec1} {x:PVal} {k:Iv.V} (hk:IsV x k) (hrec:rec adq [x,I 260,I 12]=rI (weighV k 260 12)) (hrec2:0≤weighV k 260 12→rec aeq [x]=rB (briefV k)) :
    F_aSmall lk rec x=rB (decide (0≤weighV k 260 12) && briefV k):=by
  cases hk with
  | mk hs hks =>
    rename_i kd n t p xs ks
    simp only [F_aSmall,aqJ,kK,vK,aah,aab,aad,aam,aae]
    rw [show (Int.ofNat 260)=260 from rfl,show (Int.ofNat 12)=12 from rfl,hrec]
    simp only [aag,pK_p,aad,dge0]
    by_cases h:0≤weighV (.mk kd n t ks) 260 12
    · simp only [h,decide_true,ifB_t,hrec2 h,aag,pK_p,aai,Bool.true_and]
    · simp only [h,decide_false,ifB_f,Bool.false_and]
theorem valid1_F {lk:Nat} {rec:Rec1} {x:PVal} {k:Iv.V} (hk:IsV x k) (hrec:rec adq [x,I 200,I 8]=rI (weighV k 200 8)) (hrec2:0≤weighV k 200 8→rec adz [x]=rB (Iv.aaS k)) :
    F_aValid lk rec x=rB (decide (0≤weighV k 200 8) && Iv.aaS k):=by
  cases hk with
  | mk hs hks =>
    rename_i kd n t p xs ks
    simp only [F_aValid,aqI,kK,vK,aah,aab,aad,aam,aae]
    rw [show (Int.ofNat 200)=200 from rfl,show (Int.ofNat 8)=8 from rfl,hrec]
    simp only [aag,pK_p,aad,dge0]
    by_cases h:0≤weighV (.mk kd n t ks) 200 8
    · simp only [h,decide_true,ifB_t,hrec2 h,aag,pK_p,aai,Bool.true_and]
    · simp only [h,decide_false,ifB_f,Bool.false_and]
theorem amg {k:Nat} {rec:Rec1} {ts:Tds} {kx:af8→Option AVal} {f lo hi mo:Int} {p:PVal} {xs:List PVal} {fn:Iv.K→Bool} (hs:IsSl p xs) (hx:xs.length < 100000) :
    ∀ {xs2:List PVal} {ks2:List Iv.K} (xs1:List PVal) (j:Nat),IsKs xs2 ks2→xs=xs1 ++ xs2→xs2.length < j →
      (∀ x k',k' ∈ ks2→IsK x k' → rec ady [x]=rB (fn k')) →
      acn k rec ts kx j (.a (Int.ofNat xs1.length) f lo hi mo p)=if ks2.all fn then kx (.b f lo hi mo p) else kx .a
  | [],_,xs1,j, .nil,he,hj,_=>by
    obtain ⟨j,rfl⟩:∃ j',j=j' + 1:=⟨j - 1,by omega⟩
    subst he
    simp only [acn,afW,hs.slK,dlt,List.append_nil,Nat.lt_irrefl,decide_false,ifB_f,List.all_nil,if_true]
  | x :: xs2,k2 :: ks2,xs1,j, .cons hk hr,he,hj,hrec=>by
    obtain ⟨j,rfl⟩:∃ j',j=j' + 1:=⟨j - 1,by omega⟩
    have hlt:xs1.length < xs.length:=by rw [he]; simp
    have hr1:=hrec x k2 (by simp) hk
    have ih:=amg (k:=k) (rec:=rec) (ts:=ts) (kx:=kx) (f:=f) (lo:=lo) (hi:=hi) (mo:=mo) (fn:=fn) hs hx (xs1 ++ [x]) j hr (by rw [he]; simp) (by simp at hj; omega) (fun x k' h=>hrec x k' (List.mem_cons_of_mem _ h))
    rw [List.length_append,List.length_singleton] at ih
    cases hk with
    | mk hs2 hk2 =>
      simp only [acn,afW,hs.slK,dlt,hlt,decide_true,ifB_t,aal,aao (abf he),kK,vK,aah,aab,aad,aam,aae,hr1,aag,pK_p,aai,List.all_cons]
      rw [aax (by omega),ih]
      exact alG
end Go.Proofs.YtdnbnpknpejpdaaGreatDoor
namespace Go.Proofs.YtdnbnpknpejpdaaGreatDoor
open Go Go.Proofs.YtdnbnpknpejpdaaGreatDoor.Sw
theorem adM:∀ (a b:List Nat),aaC a b=decide (a=b)
  | [],[]=>rfl
  | [],_ :: _=>rfl
  | _ :: _,[]=>rfl
  | a :: x,b :: y=>by
    unfold aaC
    have ih:=adM x y
    by_cases h:a=b
    · subst h; simp only [Nat.beq_refl,ih,List.cons.injEq,true_and]
    · have:Nat.beq a b=false:=by
        cases e:Nat.beq a b with
        | false=>rfl
        | true=>exact absurd (Nat.eq_of_beq_eq_true e) h
      simp [this,h]
theorem aki:∀ (a b:List Nat),bytesLess a b=Iv.ab6 a b
  | [],[]=>rfl
  | [],_ :: _=>rfl
  | _ :: _,[]=>rfl
  | a :: x,b :: y=>by
    unfold bytesLess Iv.ab6
    have ih:=aki x y
    by_cases h1:a < b
    · simp [show Nat.blt a b=true from blt_of h1,h1]
    · have e1:Nat.blt a b=false:=by
        cases e:Nat.blt a b with
        | false=>rfl
        | true=>exact absurd (Nat.le_of_ble_eq_true e) h1
      by_cases h:a=b
      · subst h; simp [e1,ih]
      · have:Nat.beq a b=false:=by
          cases e:Nat.beq a b with
          | false=>rfl
          | true=>exact absurd (Nat.eq_of_beq_eq_true e) h
        simp [e1,this,h,h1]
mutual
def eqV:Iv.V→Iv.V→Bool
  | .mk k n t p, .mk k' n' t' p'=>decide (k=k') && decide (n=n') && decide (t=t') && eqVs p p'
def eqVs:List Iv.V→List Iv.V→Bool
  | [],[]=>true
  | a :: x,b :: y=>eqV a b && eqVs x y
  | _,_=>false
end
mutual
theorem eqV_iff:∀ (a b:Iv.V),eqV a b=true ↔ a=b
  | .mk k n t p, .mk k' n' t' p'=>by
    have:=eqVs_iff p p'
    simp only [eqV,Bool.and_eq_true,decide_eq_true_eq,this,Iv.V.mk.injEq,and_assoc]
theorem eqVs_iff:∀ (a b:List Iv.V),eqVs a b=true ↔ a=b
  | [],[]=>by simp [eqVs]
  | a :: x,b :: y=>by simp only [eqVs,Bool.and_eq_true,eqV_iff a b,eqVs_iff x y,List.cons.injEq]
  | [],_ :: _=>by simp [eqVs]
  | _ :: _,[]=>by simp [eqVs]
end
theorem eqVs_len:∀ {a b:List Iv.V},a.length ≠ b.length→eqVs a b=false:=fun {a b} h=>by
  cases e:eqVs a b with
  | false=>rfl
  | true=>exact absurd (congrArg List.length ((eqVs_iff a b).1 e)) h
theorem ang {α:Type} {l a b:List α} {n:Nat} {x:α} (h:l=a ++ x :: b) (hn:n=a.length):l[n]? = some x:=by subst h; subst hn; simp
theorem lists_loop {k:Nat} {rec:Rec1} {ts:Tds} {kx:ah1→Option AVal} {p q:PVal} {xs ys:List PVal} (hs:IsSl p xs) (ht:IsSl q ys) (hx:xs.length < 100000) :
    ∀ {xs2 ys2:List PVal} {ks2 ms2:List Iv.V} (xs1 ys1:List PVal) (j:Nat),IsVs xs2 ks2→IsVs ys2 ms2→xs=xs1 ++ xs2→ys=ys1 ++ ys2→xs1.length=ys1.length→xs2.length=ys2.length→xs2.length < j →
      (∀ x y k' m',k' ∈ ks2→m' ∈ ms2→IsV x k' → IsV y m' → rec aer [x,y]=rB (eqV k' m')) →
      adn k rec ts kx j (.a p q (Int.ofNat xs1.length))=if eqVs ks2 ms2 then kx .b else kx .a
  | [],ys2,_,ms2,xs1,ys1,j, .nil,hm,he,he2,hl,hl2,hj,_=>by
    obtain ⟨j,rfl⟩:∃ j',j=j' + 1:=⟨j - 1,by omega⟩
    have:ys2 = []:=List.eq_nil_of_length_eq_zero hl2.symm
    subst this
    cases hm
    subst he
    simp only [adn,ahT,hs.slK,dlt,List.append_nil,Nat.lt_irrefl,decide_false,ifB_f,eqVs,if_true]
  | x :: xs2,ys2,k2 :: ks2,ms2,xs1,ys1,j, .cons hk hr,hm,he,he2,hl,hl2,hj,hrec=>by
    obtain ⟨j,rfl⟩:∃ j',j=j' + 1:=⟨j - 1,by omega⟩
    cases hm with
    | nil=>simp at hl2
    | @cons y m2 ys2 ms2 hm hmr =>
      have hlt:xs1.length < xs.length:=by rw [he]; simp
      have hr1:=hrec x y k2 m2 (by simp) (by simp) hk hm
      have ih:=lists_loop (k:=k) (rec:=rec) (ts:=ts) (kx:=kx) hs ht hx (xs1 ++ [x]) (ys1 ++ [y]) j hr hmr (by rw [he]; simp) (by rw [he2]; simp) (by simp [hl]) (by simpa using hl2) (by simp at hj; omega)
        (fun x y k' m' h h'=>hrec x y k' m' (List.mem_cons_of_mem _ h) (List.mem_cons_of_mem _ h'))
      rw [List.length_append,List.length_singleton] at ih
      cases hk with
      | mk hs2 hk2 =>
        cases hm with
        | mk ht2 hm2 =>
          simp only [adn,ahT,hs.slK,ht.slK,dlt,hlt,decide_true,ifB_t,aal,aao (abf he),aao (ang he2 hl),kK,vK,aah,aab,aad,aam,aae,hr1,aag,pK_p,aai]
          rw [aax (by omega),ih]
          exact alG
theorem natne {n m:Nat}:(((n:Nat):Int) != ((m:Nat):Int)) = !decide (n=m):=by
  by_cases h:n=m
  · simp [h]
  · have:¬((n:Int)=(m:Int)):=by omega
    simp [h,this]
theorem natdec {n m:Nat}:decide (((n:Nat):Int)=((m:Nat):Int))=decide (n=m):=by
  by_cases h:n=m
  · simp [h]
  · have:¬((n:Int)=(m:Int)):=by omega
    simp [h,this]
theorem intne {n m:Int}:(n != m) = !decide (n=m):=by
  by_cases h:n=m <;> simp [h]
theorem lists_F {lk:Nat} {rec:Rec1} {p q:PVal} {xs ys:List PVal} {ks ms:List Iv.V} (hs:IsSl p xs) (ht:IsSl q ys) (hk:IsVs xs ks) (hm:IsVs ys ms) (hn:ks.length < 1000) (hl:1000 < lk)
    (hrec:∀ x y k' m',k' ∈ ks→m' ∈ ms→IsV x k' → IsV y m' → rec aer [x,y]=rB (eqV k' m')):F_aLists lk rec p q=rB (eqVs ks ms):=by
  have e1:=hk.len
  have e2:=hm.len
  simp only [F_aLists,aqK,hs.slK,ht.slK,natne,e1,e2]
  by_cases h:ks.length=ms.length
  · simp only [h,decide_true,Bool.not_true,ifB_f]
    refine (lists_loop hs ht (by omega) [] [] lk hk hm rfl rfl rfl (by omega) (by omega) hrec).trans ?_
    cases eqVs ks ms <;> rfl
  · simp only [h,decide_false,Bool.not_false,ifB_t,eqVs_len h]
theorem equal_F {lk:Nat} {rec:Rec1} {x y:PVal} {a b:Iv.V} (ha:IsV x a) (hb:IsV y b)
    (hrec:∀ p q xs ys,IsSl p xs→IsSl q ys→IsVs xs a.parts→IsVs ys b.parts→rec ane [p,q]=rB (eqVs a.parts b.parts)):F_aEqual lk rec x y=rB (eqV a b):=by
  cases ha with
  | mk hs hk =>
    cases hb with
    | mk ht hm =>
      have hr:=hrec _ _ _ _ hs ht hk hm
      simp only [F_aEqual,aqL,kK,vK,aah,aab,aad,aam,aae,intne,adM,eqV,hr,aag,pK_p,aai]
      rename_i k n t p xs vs k' n' t' q ys ms
      cases decide (k=k') <;> cases decide (n=n') <;> cases decide (t=t') <;> rfl
theorem amz {k:Nat} {rec:Rec1} {ts:Tds} {kx:aeE→Option AVal} {z1 z2 z3 z4:Int} {t1 t2:List Nat} {p q:PVal} {xs ys:List PVal} (hs:IsSl p xs) (ht:IsSl q ys) (hx:xs.length < 100000) :
    ∀ {xs2 ys2:List PVal} {ks2 ms2:List Iv.V} (xs1 ys1:List PVal) (j:Nat),IsVs xs2 ks2→IsVs ys2 ms2→xs=xs1 ++ xs2→ys=ys1 ++ ys2→xs1.length=ys1.length→xs2.length=ys2.length→xs2.length < j →
      (∀ x y k' m',k' ∈ ks2→m' ∈ ms2→IsV x k' → IsV y m' → rec aaV [x,y]=rI (Iv.cmp k' m'))→(∀ z,kx (.a z)=rI z)→kx .b=rI 0 →
      abW k rec ts kx j (.a (Int.ofNat xs1.length) z1 z2 t1 p z3 z4 t2 q)=rI (Iv.cmpL ks2 ms2)
  | [],ys2,_,ms2,xs1,ys1,j, .nil,hm,he,he2,hl,hl2,hj,_,_,hb=>by
    obtain ⟨j,rfl⟩:∃ j',j=j' + 1:=⟨j - 1,by omega⟩
    have:ys2 = []:=List.eq_nil_of_length_eq_zero hl2.symm
    subst this
    cases hm
    subst he
    simp only [abW,aeC,hs.slK,dlt,List.append_nil,Nat.lt_irrefl,decide_false,ifB_f,hb,Iv.cmpL]
  | x :: xs2,ys2,k2 :: ks2,ms2,xs1,ys1,j, .cons hk hr,hm,he,he2,hl,hl2,hj,hrec,ha,hb=>by
    obtain ⟨j,rfl⟩:∃ j',j=j' + 1:=⟨j - 1,by omega⟩
    cases hm with
    | nil=>simp at hl2
    | @cons y m2 ys2 ms2 hm hmr =>
      have hlt:xs1.length < xs.length:=by rw [he]; simp
      have hr1:=hrec x y k2 m2 (by simp) (by simp) hk hm
      have ih:=amz (k:=k) (rec:=rec) (ts:=ts) (kx:=kx) (z1:=z1) (z2:=z2) (z3:=z3) (z4:=z4) (t1:=t1) (t2:=t2) hs ht hx (xs1 ++ [x]) (ys1 ++ [y]) j hr hmr (by rw [he]; simp) (by rw [he2]; simp) (by simp [hl]) (by simpa using hl2) (by simp at hj; omega)
        (fun x y k' m' h h'=>hrec x y k' m' (List.mem_cons_of_mem _ h) (List.mem_cons_of_mem _ h')) ha hb
      rw [List.length_append,List.length_singleton] at ih
      cases hk with
      | mk hs2 hk2 =>
        cases hm with
        | mk ht2 hm2 =>
          simp only [abW,aeC,hs.slK,ht.slK,dlt,hlt,decide_true,ifB_t,aal,aao (abf he),aao (ang he2 hl),kK,vK,aah,aab,aad,aam,aae,hr1,aag,pK_p,intne]
          rw [aax (by omega),ih,ha,Iv.cmpL]
          rename_i ka na ta pa xsa vsa kb nb tb pb xsb vsb
          by_cases h:Iv.cmp (.mk ka na ta vsa) (.mk kb nb tb vsb)=0
          · simp [h]
          · simp [h]
theorem order_in (a b:Int) : -1≤Iv.order a b∧Iv.order a b≤1:=by unfold Iv.order; split <;> (try split) <;> omega
theorem compare_F {lk:Nat} {rec:Rec1} {x y:PVal} {a b:Iv.V} (ha:IsV x a) (hb:IsV y b) (hn:a.nodes < 1000) (hl:1000 < lk)
    (hord:∀ u v,rec acS [I u,I v]=rI (Iv.order u v))
    (hrec:∀ x y k' m',k' ∈ a.parts→m' ∈ b.parts→IsV x k' → IsV y m' → rec aaV [x,y]=rI (Iv.cmp k' m')):al1 lk rec x y=rI (Iv.cmp a b):=by
  cases ha with
  | mk hs hk =>
    cases hb with
    | mk ht hm =>
      rename_i k n t p xs vs k' n' t' q ys ms
      have e1:=hk.len
      have e2:=hm.len
      have hvl:=lenV (l:=vs)
      rw [nodesV] at hn
      have hw:∀ u v u' v' : Int,IntKind.wrap .i64 (Iv.order u v + Iv.order u' v')=Iv.order u v + Iv.order u' v':=fun u v u' v'=>by
        have:=order_in u v; have:=order_in u' v'
        exact acJ (by omega) (by omega)
      simp only [al1,ajd,kK,vK,aah,aab,aad,aam,aae,intne,natdec,ieq,adM,aki,hord,aag,pK_p,hs.slK,ht.slK,hw,e1,e2,Iv.cmp]
      by_cases h1:k=k'
      · subst h1
        simp only [decide_true,Bool.not_true,ifB_f,ne_eq,not_true_eq_false,if_false]
        by_cases h3:k=3
        · subst h3
          simp only [show decide ((3:Int)=Int.ofNat 3)=true from rfl,ifB_t,if_true]
          by_cases h4:t=t'
          · subst h4; simp only [decide_true,ifB_t,if_true]; rfl
          · simp only [h4,decide_false,ifB_f,if_false]
            cases Iv.ab6 t t' <;> rfl
        · simp only [show decide (k=Int.ofNat 3)=false from decide_eq_false h3,ifB_f,h3,if_false]
          by_cases h4:k=1
          · subst h4
            simp only [show decide ((1:Int)=Int.ofNat 1)=true from rfl,ifB_t,true_or,if_true]
          · simp only [show decide (k=Int.ofNat 1)=false from decide_eq_false h4,ifB_f,h4,false_or]
            by_cases h5:k=2
            · subst h5
              simp only [show decide ((2:Int)=Int.ofNat 2)=true from rfl,ifB_t,true_or,if_true]
            · simp only [show decide (k=Int.ofNat 2)=false from decide_eq_false h5,ifB_f,h5,false_or]
              by_cases h6:vs.length=ms.length
              · simp only [h6,decide_true,Bool.not_true,ifB_f,not_true_eq_false,if_false]
                exact amz hs ht (by omega) [] [] lk hk hm rfl rfl rfl (by omega) (by omega) hrec (fun z=>rfl) rfl
              · simp only [h6,decide_false,Bool.not_false,ifB_t,not_false_eq_true,if_true]
      · simp only [h1,decide_false,Bool.not_false,ifB_t,ne_eq,not_false_eq_true,if_true]
end Go.Proofs.YtdnbnpknpejpdaaGreatDoor
namespace Go.Proofs.YtdnbnpknpejpdaaGreatDoor
open Go Go.Proofs.YtdnbnpknpejpdaaGreatDoor.Sw
theorem natof {n m:Nat}:decide (((n:Nat):Int)=Int.ofNat m)=decide (n=m):=natdec
theorem isE {α:Type} (l:List α):l.isEmpty=decide (l.length=0):=by cases l <;> rfl
theorem aen {a b:Bool}:ifB a (some (AVal.p (PVal.bool b))) (some (AVal.p (PVal.bool false)))=some (AVal.p (PVal.bool (a && b))):=by cases a <;> rfl
theorem ifB_not {a:Bool} {X:Option AVal}:ifB (!a) (some (AVal.p (PVal.bool false))) X=ifB a X (some (AVal.p (PVal.bool false))):=by cases a <;> rfl
def swK (f lo hi mo:Int) (n:Nat):Bool :=
  if f=1 ∨ f=3 ∨ f=4 then decide (lo=0) && decide (hi=0) && decide (mo=0) && decide (n=0)
  else if f=2 then Iv.inR lo (-1000000000) 1000000000 && (Iv.inR hi lo 1000000000 && (decide (mo=0) && decide (n=0)))
  else if f=5 then decide (lo=0) && decide (hi=0) && decide (mo=0) && Iv.inR n 2 6
  else if f=6 then decide (lo=0) && (decide (hi=0) && (Iv.inR mo 0 199 && decide (n=1)))
  else false
theorem amf:∀ {l:List Iv.K},Iv.acM l=l.all Iv.aap
  | []=>rfl
  | k :: r=>by simp [Iv.acM,amf (l:=r)]
theorem agk:∀ {l:List Iv.V},Iv.aaX l=l.all Iv.aaS
  | []=>rfl
  | k :: r=>by simp [Iv.aaX,agk (l:=r)]
theorem acq {f lo hi mo:Int} {ks:List Iv.K}:Iv.aap (.mk f lo hi mo ks)=(ks.all Iv.aap && swK f lo hi mo ks.length):=by
  unfold Iv.aap swK
  rw [amf,isE]
  congr 1
  split
  · rfl
  · split
    · simp only [Bool.and_assoc]
    · split
      · rfl
      · split
        · simp only [Bool.and_assoc]
        · rfl
theorem shaped5_F {lk:Nat} {rec:Rec1} {x:PVal} {k:Iv.K} (hk:IsK x k) (hn:k.nodes < 1000) (hl:1000 < lk)
    (hin:∀ a b c,rec i_ein [I a,I b,I c]=rB (Iv.inR a b c)) (hpl:∀ x f lo hi mo ks,IsK x (.mk f lo hi mo ks)→rec ado [x]=rB (decide (lo=0) && decide (hi=0) && decide (mo=0)))
    (hrec:∀ x k',k'.nodes < k.nodes→IsK x k' → rec ady [x]=rB (Iv.aap k')):aqs lk rec x=rB (Iv.aap k):=by
  have hpl:=fun f lo hi mo ks=>hpl x f lo hi mo ks
  cases hk with
  | mk hs hks =>
    rename_i f lo hi mo p xs ks
    have hpl:=hpl f lo hi mo ks (.mk hs hks)
    have h1:=hks.len
    have h2:=lenK (l:=ks)
    rw [nodesK] at hn
    simp only [aqs,al4,kK,vK,aah,aab,aad,aae]
    refine (amg (fn:=Iv.aap) hs (by omega) [] lk hks rfl (by omega) (fun x k' hk'=>hrec x k' (by have:=memK hk'; rw [nodesK]; omega))).trans ?_
    rw [acq]
    cases ks.all Iv.aap with
    | false=>rfl
    | true =>
      simp only [if_true,Bool.true_and,ieq,hpl,hin,aag,pK_p,aai,hs.slK,h1,natof,aen]
      unfold swK
      by_cases c1:f=1
      · subst c1; rfl
      by_cases c2:f=2
      · subst c2; rfl
      by_cases c3:f=3
      · subst c3; rfl
      by_cases c4:f=4
      · subst c4; rfl
      by_cases c5:f=5
      · subst c5; rfl
      by_cases c6:f=6
      · subst c6; rfl
      have d:∀ m:Nat,f ≠ (m:Int)→decide (f=Int.ofNat m)=false:=fun m h=>decide_eq_false h
      rw [d 1 c1,d 2 c2,d 3 c3,d 4 c4,d 5 c5,d 6 c6]
      simp [c1,c2,c3,c4,c5,c6]
theorem amh {k:Nat} {rec:Rec1} {ts:Tds} {kx:agc→Option AVal} {kd n:Int} {t:List Nat} {p:PVal} {xs:List PVal} {fn:Iv.V→Bool} (hs:IsSl p xs) (hx:xs.length < 100000) :
    ∀ {xs2:List PVal} {ks2:List Iv.V} (xs1:List PVal) (j:Nat),IsVs xs2 ks2→xs=xs1 ++ xs2→xs2.length < j →
      (∀ x k',k' ∈ ks2→IsV x k' → rec adz [x]=rB (fn k')) →
      aco k rec ts kx j (.a (Int.ofNat xs1.length) kd n t p)=if ks2.all fn then kx (.b kd n t p) else kx .a
  | [],_,xs1,j, .nil,he,hj,_=>by
    obtain ⟨j,rfl⟩:∃ j',j=j' + 1:=⟨j - 1,by omega⟩
    subst he
    simp only [aco,afX,hs.slK,dlt,List.append_nil,Nat.lt_irrefl,decide_false,ifB_f,List.all_nil,if_true]
  | x :: xs2,k2 :: ks2,xs1,j, .cons hk hr,he,hj,hrec=>by
    obtain ⟨j,rfl⟩:∃ j',j=j' + 1:=⟨j - 1,by omega⟩
    have hlt:xs1.length < xs.length:=by rw [he]; simp
    have hr1:=hrec x k2 (by simp) hk
    have ih:=amh (k:=k) (rec:=rec) (ts:=ts) (kx:=kx) (kd:=kd) (n:=n) (t:=t) (fn:=fn) hs hx (xs1 ++ [x]) j hr (by rw [he]; simp) (by simp at hj; omega) (fun x k' h=>hrec x k' (List.mem_cons_of_mem _ h))
    rw [List.length_append,List.length_singleton] at ih
    cases hk with
    | mk hs2 hk2 =>
      simp only [aco,afX,hs.slK,dlt,hlt,decide_true,ifB_t,aal,aao (abf he),kK,vK,aah,aab,aad,aam,aae,hr1,aag,pK_p,aai,List.all_cons]
      rw [aax (by omega),ih]
      exact alG
theorem anG {k:Nat} {rec:Rec1} {ts:Tds} {kx:agb→Option AVal} {kd n:Int} {t:List Nat} {p:PVal} {xs:List PVal} (hs:IsSl p xs) (hx:xs.length < 100000) :
    ∀ {x:PVal} {v:Iv.V} {xs2:List PVal} {ks2:List Iv.V} (xs1:List PVal) (j:Nat),IsV x v→IsVs xs2 ks2→xs=xs1 ++ x :: xs2→xs2.length < j →
      (∀ x y k' m',k' ∈ v :: ks2→m' ∈ v :: ks2→IsV x k' → IsV y m' → rec aaV [x,y]=rI (Iv.cmp k' m')) →
      abU k rec ts kx j (.a (Int.ofNat (xs1.length + 1)) kd n t p)=if Iv.rising (v :: ks2) then kx (.b kd n t p) else kx .a
  | x,v,[],_,xs1,j,hv, .nil,he,hj,_=>by
    obtain ⟨j,rfl⟩:∃ j',j=j' + 1:=⟨j - 1,by omega⟩
    subst he
    simp only [abU,aeb,hs.slK,dlt,List.length_append,List.length_singleton,Nat.lt_irrefl,decide_false,ifB_f,Iv.rising,if_true]
  | x,v,y :: xs2,w :: ks2,xs1,j,hv, .cons hk hr,he,hj,hrec=>by
    obtain ⟨j,rfl⟩:∃ j',j=j' + 1:=⟨j - 1,by omega⟩
    have hlt:xs1.length + 1 < xs.length:=by rw [he]; simp
    have hr1:=hrec x y v w (by simp) (by simp) hv hk
    have ih:=anG (k:=k) (rec:=rec) (ts:=ts) (kx:=kx) (kd:=kd) (n:=n) (t:=t) hs hx (xs1 ++ [x]) j hk hr (by rw [he]; simp) (by simp at hj; omega)
      (fun x y k' m' h h'=>hrec x y k' m' (List.mem_cons_of_mem _ h) (List.mem_cons_of_mem _ h'))
    rw [List.length_append,List.length_singleton] at ih
    have g2:xs[xs1.length + 1]? = some y:=by rw [he]; simp
    have hw1:IntKind.wrap .i64 (Int.ofNat (xs1.length + 1) - Int.ofNat 1)=Int.ofNat xs1.length:=by
      rw [acJ (by simp <;> omega) (by simp <;> omega)]
      simp only [Int.ofNat_eq_natCast]; omega
    cases hv with
    | mk hs2 hk2 =>
      cases hk with
      | mk ht2 hm2 =>
        simp only [abU,aeb,hs.slK,dlt,hlt,decide_true,ifB_t,hw1,aal,aao (abf he),aao g2,kK,vK,aah,aab,aad,aam,aae,hr1,aag,pK_p]
        rw [aax (by omega),ih,Iv.rising]
        rename_i ka na ta pa xsa vsa kb nb tb pb xsb vsb
        by_cases h:Iv.cmp (.mk ka na ta vsa) (.mk kb nb tb vsb) < 0
        · have:decide (Iv.cmp (.mk ka na ta vsa) (.mk kb nb tb vsb) ≥ Int.ofNat 0)=false:=by
            apply decide_eq_false; simp only [Int.ofNat_eq_natCast]; omega
          rw [this]; simp [h]
        · have:decide (Iv.cmp (.mk ka na ta vsa) (.mk kb nb tb vsb) ≥ Int.ofNat 0)=true:=by
            apply decide_eq_true; simp only [Int.ofNat_eq_natCast]; omega
          rw [this]; simp [h]
def swV (k n:Int) (t:List Nat) (ks:List Iv.V):Bool :=
  if k=1 then Iv.inR n (-1000000000) 1000000000 && (decide (t = []) && decide (ks.length=0))
  else if k=2 then Iv.inR n 0 1 && (decide (t = []) && decide (ks.length=0))
  else if k=3 then decide (n=0) && (Iv.alx t && decide (ks.length=0))
  else if k=4 then decide (n=0) && (decide (t = []) && Iv.inR ks.length 2 6)
  else if k=5 then Iv.rising ks && (decide (n=0) && decide (t = []))
  else false
theorem isE' (l:List Nat):l.isEmpty=decide (l = []):=by cases l <;> rfl
theorem shapedV_sw {k n:Int} {t:List Nat} {ks:List Iv.V}:Iv.aaS (.mk k n t ks)=(ks.all Iv.aaS && swV k n t ks):=by
  unfold Iv.aaS swV
  rw [agk,isE' t,isE ks]
  congr 1
  simp only [Bool.and_assoc]
theorem shaped1_F {lk:Nat} {rec:Rec1} {x:PVal} {k:Iv.V} (hk:IsV x k) (hn:k.nodes < 1000) (ht:k.txt.length < 1000) (hl:1000 < lk)
    (hin:∀ a b c,rec i_ain [I a,I b,I c]=rB (Iv.inR a b c)) (hle:∀ t:List Nat,t.length < 1000→rec ae1 [.str t]=rB (Iv.alx t))
    (hcmp:∀ x y k' m',k' ∈ k.parts→m' ∈ k.parts→IsV x k' → IsV y m' → rec aaV [x,y]=rI (Iv.cmp k' m'))
    (hrec:∀ x k',k' ∈ k.parts→IsV x k' → rec adz [x]=rB (Iv.aaS k')):aqw lk rec x=rB (Iv.aaS k):=by
  cases hk with
  | mk hs hks =>
    rename_i kd n t p xs ks
    have h1:=hks.len
    have h2:=lenV (l:=ks)
    rw [nodesV] at hn
    have hle:=hle t ht
    simp only [aqw,al8,kK,vK,aah,aab,aad,aam,aae]
    refine (amh (fn:=Iv.aaS) hs (by omega) [] lk hks rfl (by omega) (fun x k' hk'=>hrec x k' hk')).trans ?_
    rw [shapedV_sw]
    cases ks.all Iv.aaS with
    | false=>rfl
    | true =>
      simp only [if_true,Bool.true_and,ieq,hle,hin,aag,pK_p,aai,hs.slK,h1,natof,adM,aen]
      unfold swV
      by_cases c1:kd=1
      · subst c1; rfl
      by_cases c2:kd=2
      · subst c2; rfl
      by_cases c3:kd=3
      · subst c3; rfl
      by_cases c4:kd=4
      · subst c4; rfl
      have d:∀ m:Nat,kd ≠ (m:Int)→decide (kd=Int.ofNat m)=false:=fun m h=>decide_eq_false h
      rw [d 1 c1,d 2 c2,d 3 c3,d 4 c4]
      by_cases c5:kd=5
      · subst c5
        simp only [ifB_f,show decide ((5:Int)=Int.ofNat 5)=true from rfl,ifB_t,c1,c2,c3,c4,if_false,if_true]
        cases hks with
        | nil =>
          obtain ⟨lk,rfl⟩:∃ l,lk=l + 1:=⟨lk - 1,by omega⟩
          simp only [abU,aeb,hs.slK]
          rfl
        | cons hv hr =>
          refine (anG hs (by omega) [] lk hv hr rfl (by simp at h1; simp at h2; omega) hcmp).trans ?_
          cases Iv.rising _ <;> rfl
      · rw [d 5 c5]
        simp [c1,c2,c3,c4,c5]
end Go.Proofs.YtdnbnpknpejpdaaGreatDoor
namespace Go.Proofs.YtdnbnpknpejpdaaGreatDoor
open Go Go.Proofs.YtdnbnpknpejpdaaGreatDoor.Sw
theorem is1_loop {k:Nat} {rec:Rec1} {ts:Tds} {kx:ExeIs_1→Option AVal} {z1 z2 z3 z4 z5 z6:Int} {t:List Nat} {p q:PVal} {xs ys:List PVal} (hs:IsSl p xs) (ht:IsSl q ys) (hx:ys.length < 100000) :
    ∀ {xs2 ys2:List PVal} {ks2:List Iv.K} {vs2:List Iv.V} (xs1 ys1:List PVal) (j:Nat),IsKs xs2 ks2→IsVs ys2 vs2→xs=xs1 ++ xs2→ys=ys1 ++ ys2→xs1.length=ys1.length→xs2.length=ys2.length→ys2.length < j →
      (∀ x y k' v',k' ∈ ks2→v' ∈ vs2→IsK x k' → IsV y v' → rec i_eIs [x,y]=rB (Iv.isV k' v')) →
      ai3 k rec ts kx j (.a (Int.ofNat ys1.length) z1 z2 z3 z4 p z5 z6 t q)=if Iv.isVL ks2 vs2 then kx .b else kx .a
  | [],ys2,_,vs2,xs1,ys1,j, .nil,hm,he,he2,hl,hl2,hj,_=>by
    obtain ⟨j,rfl⟩:∃ j',j=j' + 1:=⟨j - 1,by omega⟩
    have:ys2 = []:=List.eq_nil_of_length_eq_zero hl2.symm
    subst this
    cases hm
    subst he2
    simp only [ai3,S_eIs_1,ht.slK,dlt,List.append_nil,Nat.lt_irrefl,decide_false,ifB_f,Iv.isVL,if_true]
  | x :: xs2,ys2,k2 :: ks2,vs2,xs1,ys1,j, .cons hk hr,hm,he,he2,hl,hl2,hj,hrec=>by
    obtain ⟨j,rfl⟩:∃ j',j=j' + 1:=⟨j - 1,by omega⟩
    cases hm with
    | nil=>simp at hl2
    | @cons y m2 ys2 ms2 hm hmr =>
      have hlt:ys1.length < ys.length:=by rw [he2]; simp
      have hr1:=hrec x y k2 m2 (by simp) (by simp) hk hm
      have ih:=is1_loop (k:=k) (rec:=rec) (ts:=ts) (kx:=kx) (z1:=z1) (z2:=z2) (z3:=z3) (z4:=z4) (z5:=z5) (z6:=z6) (t:=t) hs ht hx (xs1 ++ [x]) (ys1 ++ [y]) j hr hmr (by rw [he]; simp) (by rw [he2]; simp) (by simp [hl]) (by simpa using hl2) (by simp at hj; omega)
        (fun x y k' m' h h'=>hrec x y k' m' (List.mem_cons_of_mem _ h) (List.mem_cons_of_mem _ h'))
      rw [List.length_append,List.length_singleton] at ih
      cases hk with
      | mk hs2 hk2 =>
        cases hm with
        | mk ht2 hm2 =>
          simp only [ai3,S_eIs_1,hs.slK,ht.slK,dlt,hlt,decide_true,ifB_t,aal,aao (ang he hl.symm),aao (abf he2),kK,vK,aah,aab,aad,aam,aae,hr1,aag,pK_p,aai,Iv.isVL]
          rw [aax (by omega),ih]
          exact alG
theorem is3_loop {k:Nat} {rec:Rec1} {ts:Tds} {kx:ExeIs_3→Option AVal} {z1 z2 z3 z4 z5 z6:Int} {t:List Nat} {p q:PVal} {x:PVal} {xr ys:List PVal} {k0:Iv.K} (hs:IsSl p (x :: xr)) (hk0:IsK x k0) (ht:IsSl q ys) (hx:ys.length < 100000) :
    ∀ {ys2:List PVal} {vs2:List Iv.V} (ys1:List PVal) (j:Nat),IsVs ys2 vs2→ys=ys1 ++ ys2→ys2.length < j →
      (∀ y v',v' ∈ vs2→IsV y v' → rec i_eIs [x,y]=rB (Iv.isV k0 v')) →
      ai2 k rec ts kx j (.a (Int.ofNat ys1.length) z1 z2 z3 z4 p z5 z6 t q)=if vs2.all (Iv.isV k0) then kx .b else kx .a
  | [],_,ys1,j, .nil,he,hj,_=>by
    obtain ⟨j,rfl⟩:∃ j',j=j' + 1:=⟨j - 1,by omega⟩
    subst he
    simp only [ai2,S_eIs_3,ht.slK,dlt,List.append_nil,Nat.lt_irrefl,decide_false,ifB_f,List.all_nil,if_true]
  | y :: ys2,v2 :: vs2,ys1,j, .cons hv hr,he,hj,hrec=>by
    obtain ⟨j,rfl⟩:∃ j',j=j' + 1:=⟨j - 1,by omega⟩
    have hlt:ys1.length < ys.length:=by rw [he]; simp
    have hr1:=hrec y v2 (by simp) hv
    have ih:=is3_loop (k:=k) (rec:=rec) (ts:=ts) (kx:=kx) (z1:=z1) (z2:=z2) (z3:=z3) (z4:=z4) (z5:=z5) (z6:=z6) (t:=t) hs hk0 ht hx (ys1 ++ [y]) j hr (by rw [he]; simp) (by simp at hj; omega) (fun y v' h=>hrec y v' (List.mem_cons_of_mem _ h))
    rw [List.length_append,List.length_singleton] at ih
    cases hk0 with
    | mk hs2 hk2 =>
      cases hv with
      | mk ht2 hm2 =>
        simp only [ai2,S_eIs_3,hs.slK,ht.slK,dlt,hlt,decide_true,ifB_t,aal,aao (show (_ :: xr)[0]? = some _ from rfl),aao (abf he),kK,vK,aah,aab,aad,aam,aae,hr1,aag,pK_p,aai,List.all_cons]
        rw [aax (by omega),ih]
        exact alG
theorem is_F {lk:Nat} {rec:Rec1} {x y:PVal} {k:Iv.K} {v:Iv.V} (hk:IsK x k) (hv:IsV y v) (hn:v.nodes < 1000) (hl:1000 < lk) (hsh:Iv.aap k=true)
    (hin:∀ a b c,rec i_ein [I a,I b,I c]=rB (Iv.inR a b c))
    (hrec:∀ x y k' v',k'.nodes < k.nodes→Iv.aap k' = true→v' ∈ v.parts→IsK x k' → IsV y v' → rec i_eIs [x,y]=rB (Iv.isV k' v')):F_eIs lk rec x y=rB (Iv.isV k v):=by
  cases hk with
  | mk hs hks =>
    cases hv with
    | mk ht hvs =>
      rename_i f lo hi mo p xs ks kd n t q ys vs
      have e1:=hks.len
      have e2:=hvs.len
      have h2:=lenV (l:=vs)
      rw [nodesV] at hn
      rw [acq,Bool.and_eq_true,List.all_eq_true] at hsh
      have hrec2:∀ x y k' v',k' ∈ ks→v' ∈ vs→IsK x k' → IsV y v' → rec i_eIs [x,y]=rB (Iv.isV k' v'):=fun x y k' v' hk' hv'=>hrec x y k' v' (by have:=memK hk'; rw [nodesK]; omega) (hsh.1 k' hk') hv'
      simp only [F_eIs,FF_eIs,kK,vK,aah,aab,aad,aam,aae,ieq,intne,natdec,hin,aag,pK_p,aai,hs.slK,ht.slK,e1,e2,Iv.isV]
      have d:∀ m:Nat,f ≠ (m:Int)→decide (f=Int.ofNat m)=false:=fun m h=>decide_eq_false h
      by_cases c2:f=2
      · subst c2
        simp only [show decide ((2:Int)=Int.ofNat 2)=true from rfl,ifB_t,if_true,aen]
        rfl
      rw [d 2 c2]
      by_cases c3:f=3
      · subst c3
        simp only [show decide ((3:Int)=Int.ofNat 3)=true from rfl,ifB_t,ifB_f,c2,if_true,if_false]
        rfl
      rw [d 3 c3]
      by_cases c4:f=4
      · subst c4
        simp only [show decide ((4:Int)=Int.ofNat 4)=true from rfl,ifB_t,ifB_f,c2,c3,if_true,if_false]
        rfl
      rw [d 4 c4]
      by_cases c5:f=5
      · subst c5
        simp only [show decide ((5:Int)=Int.ofNat 5)=true from rfl,ifB_t,ifB_f,c2,c3,c4,if_true,if_false,ifB_not]
        by_cases h1:vs.length=ks.length
        · have:=is1_loop (k:=lk) (rec:=rec) (ts:=tds lk rec lk) (kx:=fun x=>match x with | .a=>some (.p (.bool false)) | .b=>some (.p (.bool true))) (z1:=5) (z2:=lo) (z3:=hi) (z4:=mo) (z5:=kd) (z6:=n) (t:=t) hs ht (by omega) [] [] lk hks hvs rfl rfl rfl (by omega) (by omega) hrec2
          simp only [h1,decide_true,ifB_t,Bool.and_true]
          refine (congrArg (fun X=>ifB (decide (kd=Int.ofNat 4)) X (some (AVal.p (PVal.bool false)))) this).trans ?_
          show _=rB (decide (kd=4) && Iv.isVL ks vs)
          cases Iv.isVL ks vs with
          | true=>exact (aen (a:=decide (kd=Int.ofNat 4)) (b:=true)).trans rfl
          | false=>exact (aen (a:=decide (kd=Int.ofNat 4)) (b:=false)).trans rfl
        · simp only [h1,decide_false,ifB_f,Bool.and_false,Bool.false_and]
          cases decide (kd=Int.ofNat 4) <;> rfl
      rw [d 5 c5]
      by_cases c6:f=6
      · subst c6
        have hlen:ks.length=1:=by
          have:=hsh.2
          unfold swK at this
          simp at this
          exact this.2.2.2
        cases hks with
        | nil=>simp at hlen
        | @cons x k0 xr kr hk0 hkr =>
          have:=is3_loop (k:=lk) (rec:=rec) (ts:=tds lk rec lk) (kx:=fun x=>match x with | .a=>some (.p (.bool false)) | .b=>some (.p (.bool true))) (z1:=6) (z2:=lo) (z3:=hi) (z4:=mo) (z5:=kd) (z6:=n) (t:=t) hs hk0 ht (by omega) [] lk hvs rfl (by omega) (fun y v' h hv=>hrec2 x y k0 v' (by simp) h hk0 hv)
          simp only [show decide ((6:Int)=Int.ofNat 6)=true from rfl,ifB_t,ifB_f,c2,c3,c4,c5,if_true,if_false,ifB_not,Iv.isVS]
          have hgt:decide (((vs.length:Nat):Int) > mo) = !decide ((vs.length:Int)≤mo):=by
            by_cases h:(vs.length:Int)≤mo
            · simp [h]
            · simp [h]; omega
          rw [hgt,ifB_not]
          refine (congrArg (fun X=>ifB (decide (kd=Int.ofNat 5)) (ifB (decide ((vs.length:Int)≤mo)) X (some (AVal.p (PVal.bool false)))) (some (AVal.p (PVal.bool false)))) this).trans ?_
          show _=rB (decide (kd=5) && decide ((vs.length:Int)≤mo) && vs.all fun v=>Iv.isV k0 v)
          have e:(vs.all fun v=>Iv.isV k0 v)=vs.all (Iv.isV k0):=rfl
          rw [e]
          cases vs.all (Iv.isV k0) <;> cases decide ((vs.length:Int)≤mo) <;> simp only [if_true,ifB_t,ifB_f,aen,Bool.and_true,Bool.and_false] <;> first | rfl | (cases decide (kd=Int.ofNat 5) <;> rfl)
      rw [d 6 c6]
      simp only [ifB_f,c2,c3,c4,c5,c6,if_false]
end Go.Proofs.YtdnbnpknpejpdaaGreatDoor
namespace Go.Proofs.YtdnbnpknpejpdaaGreatDoor
open Go Go.Proofs.YtdnbnpknpejpdaaGreatDoor.Sw
abbrev rT (z:Int) (b:Bool):Option AVal:=some (.p (.tup [.int .i64 z, .bool b]))
theorem count_in:∀ (m:Nat) (k:Iv.K),k.nodes≤m→Iv.aap k=true→(Iv.count k).2=true→0≤(Iv.count k).1∧(Iv.count k).1≤1000000000
  | 0, .mk f lo hi mo p,hm,_,_=>by rw [nodesK] at hm; omega
  | m + 1, .mk f lo hi mo p,hm,hs,hc=>by
    rw [acq,Bool.and_eq_true] at hs
    unfold Iv.count at hc ⊢
    by_cases h1:f=1
    · rw [if_pos h1]; decide
    rw [if_neg h1] at hc ⊢
    by_cases h3:f=3
    · rw [if_pos h3]; decide
    rw [if_neg h3] at hc ⊢
    by_cases h2:f=2
    · rw [if_pos h2] at hc ⊢
      have hs:=hs.2
      subst h2
      unfold swK at hs
      rw [if_neg (by decide),if_pos rfl] at hs
      simp only [Bool.and_eq_true,Iv.agM] at hs
      simp only [decide_eq_true_eq] at hc
      show 0≤hi - lo + 1∧hi - lo + 1≤1000000000
      omega
    rw [if_neg h2] at hc ⊢
    by_cases h5:f=5
    · rw [if_pos h5] at hc ⊢
      have key:∀ (em:Bool) (p:List Iv.K) (n:Int),(Iv.countL em p n).2=true→(∀ k ∈ p,(Iv.count k).2=true→0≤(Iv.count k).1)→0≤n→n≤1000000000→0≤(Iv.countL em p n).1∧(Iv.countL em p n).1≤1000000000:=by
        intro em p
        induction p with
        | nil=>intro n _ _ h0 h1; unfold Iv.countL; exact ⟨h0,h1⟩
        | cons k r ih =>
          intro n hc hk h0 h1
          unfold Iv.countL at hc ⊢
          by_cases hq:(Iv.count k).2=false ∨ (1000000000 < n * (Iv.count k).1∧em=false)
          · rw [if_pos hq] at hc; simp at hc
          · rw [if_neg hq] at hc ⊢
            have hk1:=hk k (by simp) (by cases e:(Iv.count k).2 <;> simp_all)
            have:=Int.mul_nonneg h0 hk1
            exact ih _ hc (fun k hk'=>hk k (List.mem_cons_of_mem _ hk')) (by omega) (by omega)
      refine key _ p 1 hc (fun k hk h=>(count_in m k ?_ (List.all_eq_true.1 hs.1 k hk) h).1) (by decide) (by decide)
      have:=memK hk
      rw [nodesK] at hm
      omega
    · rw [if_neg h5] at hc; simp at hc
theorem empty_loop {k:Nat} {rec:Rec1} {ts:Tds} {kx:ahV→Option AVal} {f lo hi mo:Int} {p:PVal} {xs:List PVal} (hs:IsSl p xs) (hx:xs.length < 100000) :
    ∀ {xs2:List PVal} {ks2:List Iv.K} (xs1:List PVal) (j:Nat),IsKs xs2 ks2→xs=xs1 ++ xs2→xs2.length < j →
      (∀ x k',k' ∈ ks2→IsK x k' → rec acf [x]=rT (Iv.count k').1 (Iv.count k').2) →
      adi k rec ts kx j (.a (Int.ofNat xs1.length) f lo hi mo p)=if Iv.emptyL ks2 then kx .a else kx .b
  | [],_,xs1,j, .nil,he,hj,_=>by
    obtain ⟨j,rfl⟩:∃ j',j=j' + 1:=⟨j - 1,by omega⟩
    subst he
    simp only [adi,ahO,hs.slK,dlt,List.append_nil,Nat.lt_irrefl,decide_false,ifB_f,Iv.emptyL]
    rfl
  | x :: xs2,k2 :: ks2,xs1,j, .cons hk hr,he,hj,hrec=>by
    obtain ⟨j,rfl⟩:∃ j',j=j' + 1:=⟨j - 1,by omega⟩
    have hlt:xs1.length < xs.length:=by rw [he]; simp
    have hr1:=hrec x k2 (by simp) hk
    have ih:=empty_loop (k:=k) (rec:=rec) (ts:=ts) (kx:=kx) (f:=f) (lo:=lo) (hi:=hi) (mo:=mo) hs hx (xs1 ++ [x]) j hr (by rw [he]; simp) (by simp at hj; omega) (fun x k' h=>hrec x k' (List.mem_cons_of_mem _ h))
    rw [List.length_append,List.length_singleton] at ih
    rw [Iv.emptyL]
    generalize Iv.count k2=c at hr1
    cases hk with
    | mk hs2 hk2 =>
      simp only [adi,ahO,hs.slK,dlt,hlt,decide_true,ifB_t,aal,aao (abf he),kK,vK,aah,aab,aad,aae,hr1,aag,pK_p,acL,aai,ieq]
      rw [aax (by omega),ih]
      show ifB c.2 (ifB (decide (c.1=0)) _ _) _=_
      cases c.2 <;> cases decide (c.1=0) <;> simp
theorem empty_F {lk:Nat} {rec:Rec1} {x:PVal} {f lo hi mo:Int} {ks:List Iv.K} (hk:IsK x (.mk f lo hi mo ks)) (hn:ks.length < 1000) (hl:1000 < lk)
    (hrec:∀ x k',k' ∈ ks→IsK x k' → rec acf [x]=rT (Iv.count k').1 (Iv.count k').2):F_eempty lk rec x=rB (Iv.emptyL ks):=by
  cases hk with
  | mk hs hks =>
    have e1:=hks.len
    simp only [F_eempty,aqz,kK,vK,aah,aab,aad,aae]
    refine (empty_loop hs (by omega) [] lk hks rfl (by omega) hrec).trans ?_
    cases Iv.emptyL ks <;> rfl
theorem minT (A:Int):(Decidable.rec (fun _=>A) (fun _=>(Int.ofNat 1000000000)) (Int.neg.match_1 (fun y43=>(Decidable (Int.NonNeg y43))) (A - (Int.ofNat 1000000001)) (fun y43=>(Decidable.isTrue (Int.NonNeg.mk y43))) (fun y43=>(Decidable.isFalse (Int.decNonneg._proof_1 y43)))):Int)=min A 1000000000:=by
  have h:(Decidable.rec (fun _=>A) (fun _=>(Int.ofNat 1000000000)) (Int.neg.match_1 (fun y43=>(Decidable (Int.NonNeg y43))) (A - (Int.ofNat 1000000001)) (fun y43=>(Decidable.isTrue (Int.NonNeg.mk y43))) (fun y43=>(Decidable.isFalse (Int.decNonneg._proof_1 y43)))):Int)=if (1000000000:Int) < A then 1000000000 else A:=rfl
  rw [h]
  split <;> omega
theorem count_loop {k:Nat} {rec:Rec1} {ts:Tds} {kx:ahX→Option AVal} {f lo hi mo:Int} {p:PVal} {xs:List PVal} {em:Bool} (hs:IsSl p xs) (hx:xs.length < 100000)
    (hem:rec aj5 [.agg [I f,I lo,I hi,I mo,p]]=rB em) :
    ∀ {xs2:List PVal} {ks2:List Iv.K} (xs1:List PVal) (j:Nat) (n:Int),IsKs xs2 ks2→xs=xs1 ++ xs2→xs2.length < j→0≤n→n≤1000000000 →
      (∀ x k',k' ∈ ks2→IsK x k' → rec acf [x]=rT (Iv.count k').1 (Iv.count k').2)→(∀ k' ∈ ks2,(Iv.count k').2=true→0≤(Iv.count k').1∧(Iv.count k').1≤1000000000) →
      adk k rec ts kx j (.a n (Int.ofNat xs1.length) f lo hi mo p)=if (Iv.countL em ks2 n).2 then kx (.b (Iv.countL em ks2 n).1) else kx (.a (Iv.countL em ks2 n).1)
  | [],_,xs1,j,n, .nil,he,hj,_,_,_,_=>by
    obtain ⟨j,rfl⟩:∃ j',j=j' + 1:=⟨j - 1,by omega⟩
    subst he
    simp only [adk,ahQ,hs.slK,dlt,List.append_nil,Nat.lt_irrefl,decide_false,ifB_f,Iv.countL,if_true]
  | x :: xs2,k2 :: ks2,xs1,j,n, .cons hk hr,he,hj,h0,h1,hrec,hcin=>by
    obtain ⟨j,rfl⟩:∃ j',j=j' + 1:=⟨j - 1,by omega⟩
    have hlt:xs1.length < xs.length:=by rw [he]; simp
    have hr1:=hrec x k2 (by simp) hk
    have hc1:=hcin k2 (by simp)
    have ih:=fun n h0 h1=>count_loop (k:=k) (rec:=rec) (ts:=ts) (kx:=kx) (f:=f) (lo:=lo) (hi:=hi) (mo:=mo) hs hx hem (xs1 ++ [x]) j n hr (by rw [he]; simp) (by simp at hj; omega) h0 h1 (fun x k' h=>hrec x k' (List.mem_cons_of_mem _ h)) (fun k' h=>hcin k' (List.mem_cons_of_mem _ h))
    rw [List.length_append,List.length_singleton] at ih
    rw [Iv.countL]
    generalize Iv.count k2=c at hr1 hc1
    obtain ⟨m,b⟩:=c
    cases hk with
    | mk hs2 hk2 =>
      simp only [adk,ahQ,hs.slK,dlt,hlt,decide_true,ifB_t,aal,aao (abf he),kK,vK,aah,aab,aad,aae,hr1,aag,pK_p,acL,aai,hem,minT]
      cases b with
      | false=>simp
      | true =>
        obtain ⟨m0,m1⟩:=hc1 rfl
        have hnm:0≤n * m:=Int.mul_nonneg h0 m0
        have hnm2:n * m≤1000000000 * 1000000000:=Int.mul_le_mul h1 m1 m0 (by decide)
        have hw:IntKind.wrap .i64 (n * m)=n * m:=acJ (by omega) (by omega)
        rw [aax (by omega)]
        simp only [Bool.not_true,ifB_f,hw]
        have ih:=ih (min (n * m) 1000000000) (by omega) (by omega)
        rw [ih]
        by_cases hg:1000000000 < n * m
        · have:decide (n * m > Int.ofNat 1000000000)=true:=decide_eq_true hg
          rw [this]
          cases em with
          | false=>simp [hg]
          | true=>simp
        · have:decide (n * m > Int.ofNat 1000000000)=false:=decide_eq_false hg
          rw [this]
          simp [hg]
theorem count_F {lk:Nat} {rec:Rec1} {x:PVal} {k:Iv.K} (hk:IsK x k) (hn:k.nodes < 1000) (hl:1000 < lk) (hsh:Iv.aap k=true)
    (hem:∀ x f lo hi mo ks,k = .mk f lo hi mo ks→IsK x (.mk f lo hi mo ks)→rec aj5 [x]=rB (Iv.emptyL ks))
    (hrec:∀ x k',k'.nodes < k.nodes→Iv.aap k' = true→IsK x k' → rec acf [x]=rT (Iv.count k').1 (Iv.count k').2):F_eCount lk rec x=rT (Iv.count k).1 (Iv.count k).2:=by
  have hem1:=fun f lo hi mo ks=>hem x f lo hi mo ks
  cases hk with
  | mk hs hks =>
    rename_i f lo hi mo p xs ks
    have hem2:=hem1 f lo hi mo ks rfl (.mk hs hks)
    have e1:=hks.len
    have h2:=lenK (l:=ks)
    rw [nodesK] at hn
    rw [acq,Bool.and_eq_true,List.all_eq_true] at hsh
    have hrec2:∀ x k',k' ∈ ks→IsK x k' → rec acf [x]=rT (Iv.count k').1 (Iv.count k').2:=fun x k' hk'=>hrec x k' (by have:=memK hk'; rw [nodesK]; omega) (hsh.1 k' hk')
    simp only [F_eCount,aqD,kK,vK,aah,aab,aad,aae,ieq,Iv.count]
    have d:∀ m:Nat,f ≠ (m:Int)→decide (f=Int.ofNat m)=false:=fun m h=>decide_eq_false h
    by_cases c1:f=1
    · subst c1; rfl
    rw [d 1 c1]
    by_cases c3:f=3
    · subst c3; rfl
    rw [d 3 c3]
    by_cases c2:f=2
    · subst c2
      have h:=hsh.2
      unfold swK at h
      rw [if_neg (by decide),if_pos rfl] at h
      simp only [Bool.and_eq_true,Iv.agM] at h
      rw [show IntKind.wrap .i64 (hi - lo)=hi - lo from acJ (by omega) (by omega),show IntKind.wrap .i64 (hi - lo + Int.ofNat 1)=hi - lo + 1 from acJ (by simp only [Int.ofNat_eq_natCast]; omega) (by simp only [Int.ofNat_eq_natCast]; omega)]
      rfl
    rw [d 2 c2]
    by_cases c5:f=5
    · subst c5
      simp only [show decide ((5:Int)=Int.ofNat 5)=true from rfl,ifB_t,ifB_f,c1,c2,c3,if_true,if_false]
      refine (count_loop hs (by omega) hem2 [] lk 1 hks rfl (by omega) (by decide) (by decide) hrec2 (fun k' hk' h=>count_in _ k' (Nat.le_refl _) (hsh.1 k' hk') h)).trans ?_
      generalize Iv.countL (Iv.emptyL ks) ks 1=c
      obtain ⟨z,b⟩:=c
      cases b <;> rfl
    rw [d 5 c5]
    simp only [ifB_f,c1,c2,c3,c5,if_false]
    rfl
end Go.Proofs.YtdnbnpknpejpdaaGreatDoor
namespace Go.Proofs.YtdnbnpknpejpdaaGreatDoor
open Go Go.Proofs.YtdnbnpknpejpdaaGreatDoor.Sw
theorem kn_loop {k:Nat} {rec:Rec1} {ts:Tds} {kx:adv→Option AVal} {d:Int} {p:PVal} {xs:List PVal} (hs:IsSl p xs) (hd : -1000≤d∧d≤1000) (hx:xs.length < 100000) (ha:∀ z,kx (.a z)=rI z) (hb:∀ z,kx (.b z)=rI z) :
    ∀ {xs2:List PVal} {ks2:List Iv.K} (xs1:List PVal) (j:Nat) (l:Int),IsKs xs2 ks2→xs=xs1 ++ xs2→xs2.length < j→0≤l→l≤1000 →
      (∀ x k',k' ∈ ks2→IsK x k' → ∀ l, -1≤l→l≤1000→rec abn [x,I l,I (d - 1)]=rI (weighK k' l (d - 1))) →
      abg k rec ts kx j (.a l d p ((xs.length:Nat):Int) (Int.ofNat xs1.length))=rI (abr ks2 l (d - 1))
  | [],_,xs1,j,l, .nil,he,hj,hl,_,_=>by
    obtain ⟨j,rfl⟩:∃ j',j=j' + 1:=⟨j - 1,by omega⟩
    subst he
    simp only [abg,adt,dlt,List.append_nil,Nat.lt_irrefl,decide_false,ifB_f,hb,abr]
  | x :: xs2,k2 :: ks2,xs1,j,l, .cons hk hr,he,hj,hl,hl2,hrec=>by
    obtain ⟨j,rfl⟩:∃ j',j=j' + 1:=⟨j - 1,by omega⟩
    have hlt:xs1.length < xs.length:=by rw [he]; simp
    have hr1:=hrec x k2 (by simp) hk l (by omega) hl2
    have hw:=anq k2 l (d - 1)
    have hw2:=hw.2 hl
    have ih:=fun h0=>kn_loop (k:=k) (rec:=rec) (ts:=ts) (kx:=kx) hs hd hx ha hb (xs1 ++ [x]) j (weighK k2 l (d - 1)) hr (by rw [he]; simp) (by simp at hj; omega) h0 (by omega) (fun x k' h=>hrec x k' (List.mem_cons_of_mem _ h))
    rw [List.length_append,List.length_singleton] at ih
    rw [abr,if_pos hl]
    generalize weighK k2 l (d - 1)=z at hr1 hw hw2 ih
    cases hk with
    | mk hs2 hk2 =>
      simp only [abg,adt,hs.slK,dlt,hlt,decide_true,ifB_t,aal,aao (abf he),kK,vK,aah,aab,aad,aae]
      rw [show IntKind.wrap .i64 (d - Int.ofNat 1)=d - 1 from acJ (by simp only [Int.ofNat_eq_natCast]; omega) (by simp only [Int.ofNat_eq_natCast]; omega),hr1]
      simp only [aag,pK_p,aad]
      rw [aax (by omega)]
      by_cases hz:0≤z
      · have:decide (z < Int.ofNat 0)=false:=decide_eq_false (by simp only [Int.ofNat_eq_natCast]; omega)
        rw [this,ifB_f,ih hz]
      · have hz1:z = -1:=by omega
        subst hz1
        have:decide ((-1:Int) < Int.ofNat 0)=true:=rfl
        rw [this,ifB_t,ha]
        cases ks2 <;> rfl
theorem kindNodes_F {lk:Nat} {rec:Rec1} {x:PVal} {k:Iv.K} {l d:Int} (hk:IsK x k) (hl : -1≤l) (hl2:l≤1000) (hd : -999≤d∧d≤1000) (hn:k.nodes < 1000) (hlk:1000 < lk)
    (hrec:∀ x k',k'.nodes < k.nodes→IsK x k' → ∀ l, -1≤l→l≤1000→rec abn [x,I l,I (d - 1)]=rI (weighK k' l (d - 1))):ag2 lk rec x (I l) (I d)=rI (weighK k l d):=by
  cases hk with
  | mk hs hks =>
    rename_i f lo hi mo p xs ks
    have e1:=hks.len
    have h2:=lenK (l:=ks)
    rw [nodesK] at hn
    simp only [ag2,af0,kK,vK,aah,aab,aad,aae,weighK,dlt1,hs.slK]
    by_cases h1:l < 1
    · simp only [h1,decide_true,ifB_t,if_true]; rfl
    · by_cases h2' : d < 1
      · simp only [h1,h2',decide_true,decide_false,ifB_t,ifB_f,if_true,if_false]; rfl
      · simp only [h1,h2',decide_false,ifB_f,if_false]
        rw [show IntKind.wrap .i64 (l - Int.ofNat 1)=l - 1 from acJ (by simp only [Int.ofNat_eq_natCast]; omega) (by simp only [Int.ofNat_eq_natCast]; omega)]
        exact kn_loop hs (by omega) (by omega) (fun z=>rfl) (fun z=>rfl) [] lk (l - 1) hks rfl (by omega) (by omega) (by omega) (fun x k' hk'=>hrec x k' (by have:=memK hk'; rw [nodesK]; omega))
theorem isForm1_F {lk:Nat} {rec:Rec1} {x:PVal} {k:Iv.K} {b:Bool} (hk:IsK x k) (hrec:rec ad0 [x]=rB b):ai9 lk rec x=rB (!b):=by
  cases hk with
  | mk hs hks=>simp only [ai9,ahb,kK,vK,aah,aab,aad,aae,hrec,aag,pK_p,aai]
def idxK:List Iv.K→Nat→Int
  | [],_=>-1
  | k :: r,n=>if Iv.aap k then idxK r (n + 1) else Int.ofNat n
theorem idxK_pos:∀ (l:List Iv.K) (n:Nat),decide (idxK l n ≥ Int.ofNat 0) = !l.all Iv.aap
  | [],n=>rfl
  | k :: r,n=>by
    unfold idxK
    cases h:Iv.aap k with
    | true=>simp only [if_true,idxK_pos r (n + 1),List.all_cons,h,Bool.true_and]
    | false=>simp [h]
theorem idx_loop {k:Nat} {rec:Rec1} {ts:Tds} {kx:ExXFK_0→Option AVal} {p:PVal} {xs:List PVal} (hs:IsSl p xs) (hx:xs.length < 100000) (ha:∀ z,kx (.a z)=rI z) (hb:kx .b=rI (-1)) :
    ∀ {xs2:List PVal} {ks2:List Iv.K} (xs1:List PVal) (j:Nat),IsKs xs2 ks2→xs=xs1 ++ xs2→xs2.length < j→(∀ x k',k' ∈ ks2→IsK x k' → rec aaQ [x]=rB (!Iv.aap k')) →
      ai6 k rec ts kx j (.a p (.fn (.func aaQ) []) ((xs.length:Nat):Int) (Int.ofNat xs1.length))=rI (idxK ks2 xs1.length)
  | [],_,xs1,j, .nil,he,hj,_=>by
    obtain ⟨j,rfl⟩:∃ j',j=j' + 1:=⟨j - 1,by omega⟩
    subst he
    simp only [ai6,S_XFK_0,dlt,List.append_nil,Nat.lt_irrefl,decide_false,ifB_f,hb,idxK]
  | x :: xs2,k2 :: ks2,xs1,j, .cons hk hr,he,hj,hrec=>by
    obtain ⟨j,rfl⟩:∃ j',j=j' + 1:=⟨j - 1,by omega⟩
    have hlt:xs1.length < xs.length:=by rw [he]; simp
    have hr1:=hrec x k2 (by simp) hk
    have ih:=idx_loop (k:=k) (rec:=rec) (ts:=ts) (kx:=kx) hs hx ha hb (xs1 ++ [x]) j hr (by rw [he]; simp) (by simp at hj; omega) (fun x k' h=>hrec x k' (List.mem_cons_of_mem _ h))
    rw [List.length_append,List.length_singleton] at ih
    rw [idxK]
    generalize Iv.aap k2=b at hr1
    cases hk with
    | mk hs2 hk2 =>
      simp only [ai6,S_XFK_0,hs.slK,dlt,hlt,decide_true,ifB_t,aal,aao (abf he),kK,vK,aah,aab,aad,aae,fnK_fn,show xi aaQ=false from rfl,Bool.not_false,chk_t,List.append_nil,hr1,aag,pK_p,aai]
      rw [aax (by omega),ih,ha]
      cases b <;> rfl
theorem idx_F {lk:Nat} {rec:Rec1} {p:PVal} {xs:List PVal} {ks:List Iv.K} (hs:IsSl p xs) (hks:IsKs xs ks) (hn:ks.length < 1000) (hl:1000 < lk) (hrec:∀ x k',k' ∈ ks→IsK x k' → rec aaQ [x]=rB (!Iv.aap k')) :
    F_XFK lk rec p (.fn (.func aaQ) [])=rI (idxK ks 0):=by
  have e1:=hks.len
  simp only [F_XFK,FF_XFK,hs.slK]
  exact idx_loop hs (by omega) (fun z=>rfl) rfl [] lk hks rfl (by omega) hrec
theorem contains_F {lk:Nat} {rec:Rec1} {p:PVal} {ks:List Iv.K} (hrec:rec i_XFK [p, .fn (.func aaQ) []]=rI (idxK ks 0)) :
    F_CFK lk rec p (.fn (.func aaQ) [])=rB (!ks.all Iv.aap):=by
  simp only [F_CFK,FF_CFK,hrec,aag,pK_p,aad,idxK_pos]
theorem isKind_F {lk:Nat} {rec:Rec1} {x:PVal} {k:Iv.K} (hk:IsK x k) (h1:rec abn [x,I 20,I 6]=rI (weighK k 20 6)) (h2:rec ad0 [x]=rB (Iv.aap k)) :
    aqq lk rec x=rB (decide (0≤weighK k 20 6) && Iv.aap k):=by
  cases hk with
  | mk hs hks =>
    rename_i f lo hi mo p xs ks
    simp only [aqq,al2,kK,vK,aah,aab,aad,aae]
    rw [show (Int.ofNat 20)=20 from rfl,show (Int.ofNat 6)=6 from rfl,h1]
    simp only [aag,pK_p,aad,dge0,h2,aai,aen]
theorem checkKind_F {lk:Nat} {rec:Rec1} {x:PVal} {k:Iv.K} {b:Bool} (hk:IsK x k) (h1:rec aj4 [x]=rB b) (h2:rec ae0 [.bool b]=rI (if b then 0 else 2)):ag3 lk rec x=rI (if b then 0 else 2):=by
  cases hk with
  | mk hs hks=>simp only [ag3,af1,kK,vK,aah,aab,aad,aae,h1,h2,aag,pK_p,aai]
theorem kvalid_F {lk:Nat} {rec:Rec1} {x:PVal} {k:Iv.K} {b:Bool} (hk:IsK x k) (h1:rec aeo [x]=rI (if b then 0 else 2)):ag4 lk rec x=rB b:=by
  cases hk with
  | mk hs hks =>
    simp only [ag4,af2,kK,vK,aah,aab,aad,aae,h1,aag,pK_p]
    cases b <;> rfl
theorem kcheck_F {lk:Nat} {rec:Rec1} {x:PVal} {k:Iv.K} {b:Bool} (hk:IsK x k) (h1:rec aep [x]=rB b):ag5 lk rec x=rI (if b then 0 else 2):=by
  cases hk with
  | mk hs hks =>
    simp only [ag5,af3,kK,vK,aah,aab,aad,aae,h1,aag,pK_p,aai]
    cases b <;> rfl
end Go.Proofs.YtdnbnpknpejpdaaGreatDoor
namespace Go.Proofs.YtdnbnpknpejpdaaGreatDoor
open Go Go.Proofs.YtdnbnpknpejpdaaGreatDoor.Sw
theorem sw2_eq {lo hi:Int} {c d:Bool}:(Iv.inR lo (-1000000000) 1000000000 && (Iv.inR hi (-1000000000) 1000000000 && (decide (lo≤hi) && (c && d))))=(Iv.inR lo (-1000000000) 1000000000 && (Iv.inR hi lo 1000000000 && (c && d))):=by
  unfold Iv.inR
  by_cases h1 : -1000000000≤lo <;> by_cases h2:lo≤1000000000 <;> by_cases h3:hi≤1000000000 <;> by_cases h4:lo≤hi <;> by_cases h5 : -1000000000≤hi <;> simp [h1,h2,h3,h4,h5] <;> omega
set_option maxHeartbeats 1000000 in
theorem isForm_F {lk:Nat} {rec:Rec1} {x:PVal} {k:Iv.K} (hk:IsK x k)
    (hin:∀ a b c,rec i_xin [I a,I b,I c]=rB (Iv.inR a b c)) (hint:∀ a,rec aaO [I a]=rB (Iv.inR a (-1000000000) 1000000000))
    (hc:∀ p xs ks,IsSl p xs→IsKs xs ks→ks.length < k.nodes→(∀ k' ∈ ks,k'.nodes < k.nodes)→rec i_CFK [p, .fn (.func aaQ) []]=rB (!ks.all Iv.aap)):aqr lk rec x=rB (Iv.aap k):=by
  cases hk with
  | mk hs hks =>
    rename_i f lo hi mo p xs ks
    have e1:=hks.len
    have hc1:=hc p xs ks hs hks (by have:=lenK (l:=ks); rw [nodesK]; omega) (fun k' hk'=>by have:=memK hk'; rw [nodesK]; omega)
    simp only [aqr,al3,kK,vK,aah,aab,aad,aae,ieq,hc1,hin,hint,aag,pK_p,aai,hs.slK,e1,natof,aen,acq]
    have s2:=@sw2_eq lo hi (decide (mo=0)) (decide (ks.length=0))
    unfold swK
    by_cases c1:f=1
    · subst c1
      cases ks.all Iv.aap <;> (show ifB (decide (lo=0)) (ifB (decide (hi=0)) _ _) _=rB (_ && (decide (lo=0) && decide (hi=0) && decide (mo=0) && decide (ks.length=0)))) <;> cases decide (lo=0) <;> cases decide (hi=0) <;> rfl
    by_cases c3:f=3
    · subst c3
      cases ks.all Iv.aap <;> (show ifB (decide (lo=0)) (ifB (decide (hi=0)) _ _) _=rB (_ && (decide (lo=0) && decide (hi=0) && decide (mo=0) && decide (ks.length=0)))) <;> cases decide (lo=0) <;> cases decide (hi=0) <;> rfl
    by_cases c4:f=4
    · subst c4
      cases ks.all Iv.aap <;> (show ifB (decide (lo=0)) (ifB (decide (hi=0)) _ _) _=rB (_ && (decide (lo=0) && decide (hi=0) && decide (mo=0) && decide (ks.length=0)))) <;> cases decide (lo=0) <;> cases decide (hi=0) <;> rfl
    by_cases c2:f=2
    · subst c2
      rw [if_neg (by decide),if_pos rfl, ← s2]
      cases ks.all Iv.aap <;> (show ifB (decide (lo=0)) (ifB (decide (hi=0)) _ _) _=rB (_ && (Iv.inR lo (-1000000000) 1000000000 && (Iv.inR hi (-1000000000) 1000000000 && (decide (lo≤hi) && (decide (mo=0) && decide (ks.length=0))))))) <;> cases decide (lo=0) <;> cases decide (hi=0) <;> rfl
    by_cases c5:f=5
    · subst c5
      cases ks.all Iv.aap <;> (show ifB (decide (lo=0)) (ifB (decide (hi=0)) _ _) _=rB (_ && (decide (lo=0) && decide (hi=0) && decide (mo=0) && Iv.inR ks.length 2 6))) <;> cases decide (lo=0) <;> cases decide (hi=0) <;> rfl
    by_cases c6:f=6
    · subst c6
      cases ks.all Iv.aap <;> (show ifB (decide (lo=0)) (ifB (decide (hi=0)) _ _) _=rB (_ && (decide (lo=0) && (decide (hi=0) && (Iv.inR mo 0 199 && decide (ks.length=1)))))) <;> cases decide (lo=0) <;> cases decide (hi=0) <;> rfl
    have d:∀ m:Nat,f ≠ (m:Int)→decide (f=Int.ofNat m)=false:=fun m h=>decide_eq_false h
    rw [d 1 c1,d 2 c2,d 3 c3,d 4 c4,d 5 c5,d 6 c6]
    simp only [ifB_f,c1,c2,c3,c4,c5,c6,or_self,if_false,Bool.and_false]
    cases ks.all Iv.aap <;> cases decide (lo=Int.ofNat 0) <;> cases decide (hi=Int.ofNat 0) <;> rfl
end Go.Proofs.YtdnbnpknpejpdaaGreatDoor
namespace Go.Proofs.YtdnbnpknpejpdaaGreatDoor
open Go Go.Proofs.YtdnbnpknpejpdaaGreatDoor.Sw
theorem weighKs_neg:∀ (p:List Iv.K) (d:Int),abr p (-1) d = -1
  | [],_=>by unfold abr; rfl
  | _ :: _,_=>by unfold abr; rfl
theorem weighVs_neg:∀ (p:List Iv.V) (d:Int),ab5 p (-1) d = -1
  | [],_=>by unfold ab5; rfl
  | _ :: _,_=>by unfold ab5; rfl
mutual
theorem weighK_eq:∀ (k:Iv.K) (l d:Int),weighK k l d=if (k.nodes:Int)≤l∧(k.hgt:Int)≤d then l - k.nodes else -1
  | .mk f lo hi mo p,l,d=>by
    unfold weighK Iv.K.nodes Iv.K.hgt
    by_cases h1:l < 1
    · rw [if_pos h1,if_neg (by omega)]
    rw [if_neg h1]
    by_cases h2:d < 1
    · rw [if_pos h2,if_neg (by omega)]
    rw [if_neg h2,weighKs_eq p (l - 1) (d - 1) (by omega) (by omega)]
    by_cases h3:(Iv.K.nodesL p:Int)≤l - 1∧(Iv.K.hgtL p:Int)≤d - 1
    · rw [if_pos h3,if_pos (by omega)]; omega
    · rw [if_neg h3,if_neg (by omega)]
theorem weighKs_eq:∀ (p:List Iv.K) (l d:Int),0≤l→0≤d→abr p l d=if (Iv.K.nodesL p:Int)≤l∧(Iv.K.hgtL p:Int)≤d then l - Iv.K.nodesL p else -1
  | [],l,d,h,hd=>by
    unfold abr Iv.K.nodesL Iv.K.hgtL
    rw [if_pos (by omega)]; omega
  | k :: r,l,d,h,hd=>by
    unfold abr Iv.K.nodesL Iv.K.hgtL
    rw [if_pos h,weighK_eq k l d]
    by_cases h1:(k.nodes:Int)≤l∧(k.hgt:Int)≤d
    · rw [if_pos h1,weighKs_eq r _ d (by omega) hd]
      by_cases h2:(Iv.K.nodesL r:Int)≤l - k.nodes∧(Iv.K.hgtL r:Int)≤d
      · rw [if_pos h2,if_pos (by omega)]; omega
      · rw [if_neg h2,if_neg (by omega)]
    · rw [if_neg h1,weighKs_neg,if_neg (by omega)]
end
mutual
theorem anp:∀ (k:Iv.V) (l d:Int),weighV k l d=if (k.nodes:Int)≤l∧(k.hgt:Int)≤d then l - k.nodes else -1
  | .mk f lo hi p,l,d=>by
    unfold weighV Iv.V.nodes Iv.V.hgt
    by_cases h1:l < 1
    · rw [if_pos h1,if_neg (by omega)]
    rw [if_neg h1]
    by_cases h2:d < 1
    · rw [if_pos h2,if_neg (by omega)]
    rw [if_neg h2,weighVs_eq p (l - 1) (d - 1) (by omega) (by omega)]
    by_cases h3:(Iv.V.nodesL p:Int)≤l - 1∧(Iv.V.hgtL p:Int)≤d - 1
    · rw [if_pos h3,if_pos (by omega)]; omega
    · rw [if_neg h3,if_neg (by omega)]
theorem weighVs_eq:∀ (p:List Iv.V) (l d:Int),0≤l→0≤d→ab5 p l d=if (Iv.V.nodesL p:Int)≤l∧(Iv.V.hgtL p:Int)≤d then l - Iv.V.nodesL p else -1
  | [],l,d,h,hd=>by
    unfold ab5 Iv.V.nodesL Iv.V.hgtL
    rw [if_pos (by omega)]; omega
  | k :: r,l,d,h,hd=>by
    unfold ab5 Iv.V.nodesL Iv.V.hgtL
    rw [if_pos h,anp k l d]
    by_cases h1:(k.nodes:Int)≤l∧(k.hgt:Int)≤d
    · rw [if_pos h1,weighVs_eq r _ d (by omega) hd]
      by_cases h2:(Iv.V.nodesL r:Int)≤l - k.nodes∧(Iv.V.hgtL r:Int)≤d
      · rw [if_pos h2,if_pos (by omega)]; omega
      · rw [if_neg h2,if_neg (by omega)]
    · rw [if_neg h1,weighVs_neg,if_neg (by omega)]
end
theorem weighK_pos {k:Iv.K} {a b:Nat}:decide (0≤weighK k a b)=(decide (k.nodes≤a) && decide (k.hgt≤b)):=by
  rw [weighK_eq]
  by_cases h1:k.nodes≤a <;> by_cases h2:k.hgt≤b <;> simp [h1,h2] <;> omega
theorem weighV_pos {k:Iv.V} {a b:Nat}:decide (0≤weighV k a b)=(decide (k.nodes≤a) && decide (k.hgt≤b)):=by
  rw [anp]
  by_cases h1:k.nodes≤a <;> by_cases h2:k.hgt≤b <;> simp [h1,h2] <;> omega
mutual
def encF:Iv.K→PVal
  | .mk f lo hi mo p =>
    if f=2 then .iface 139 (.agg [.int .i64 lo, .int .i64 hi])
    else if f=3 then .iface 141 (.agg [])
    else if f=5 then .iface 144 (.agg [encS (encFs p)])
    else if f=6 then .iface 150 (.agg [.int .i64 mo,(encFs p).headD .nilp])
    else if f=1 then .iface 152 (.agg [])
    else .iface 153 (.agg [])
def encFs:List Iv.K→List PVal
  | []=>[]
  | k :: r=>encF k :: encFs r
end
theorem ap7 (k:Iv.K):∃ t v,encF k = .iface t v:=by
  cases k
  unfold encF
  repeat' split
  all_goals exact ⟨_,_,rfl⟩
theorem akb:∀ {l:List Iv.K},(encFs l).length=l.length
  | []=>rfl
  | k :: r=>by simp [encFs,akb (l:=r)]
theorem apN {k:Nat} {rec:Rec1} {ts:Tds} {kx:af9→Option AVal} {p:PVal} {xs:List PVal} (hs:IsSl p xs) (hx:xs.length < 100000) :
    ∀ {xs2:List PVal} {ks2:List Iv.K} (xs1:List PVal) (acc:List PVal) (j:Nat),IsKs xs2 ks2→xs=xs1 ++ xs2→xs2.length < j→acc.length=xs1.length →
      (∀ x k',k' ∈ ks2→IsK x k' → rec abD [x]=some (.p (encF k'))) →
      abB k rec ts kx j (.b p ((xs.length:Nat):Int) (Int.ofNat xs1.length) acc.length acc)=kx (.b (acc ++ encFs ks2).length (acc ++ encFs ks2))
  | [],_,xs1,acc,j, .nil,he,hj,ha,_=>by
    obtain ⟨j,rfl⟩:∃ j',j=j' + 1:=⟨j - 1,by omega⟩
    subst he
    simp only [abB,ad9,dlt,List.append_nil,Nat.lt_irrefl,decide_false,ifB_f,encFs]
  | x :: xs2,k2 :: ks2,xs1,acc,j, .cons hk hr,he,hj,ha,hrec=>by
    obtain ⟨j,rfl⟩:∃ j',j=j' + 1:=⟨j - 1,by omega⟩
    have hlt:xs1.length < xs.length:=by rw [he]; simp
    have hr1:=hrec x k2 (by simp) hk
    have ih:=apN (k:=k) (rec:=rec) (ts:=ts) (kx:=kx) hs hx (xs1 ++ [x]) (acc ++ [encF k2]) j hr (by rw [he]; simp) (by simp at hj; omega) (by simp [ha]) (fun x k' h=>hrec x k' (List.mem_cons_of_mem _ h))
    rw [List.length_append,List.length_singleton,List.length_append,List.length_singleton] at ih
    rw [encFs]
    obtain ⟨t,v,hif⟩:=ap7 k2
    rw [hif] at ih hr1 ⊢
    cases hk with
    | mk hs2 hk2 =>
      simp only [abB,ad9,hs.slK,dlt,hlt,decide_true,ifB_t,aal,aao (abf he),kK,vK,aah,aab,aad,aae,hr1,aag,pK_p]
      rw [aax (by omega),ih]
      have hb:Nat.ble ((acc.length + 1) * 16) 1099511627776=true:=ble_of (by omega)
      rw [hb,ad5]
      show kx _=_
      simp
theorem formed_F {lk:Nat} {rec:Rec1} {x:PVal} {k:Iv.K} (hk:IsK x k) (hn:k.nodes < 1000) (hl:1000 < lk) (hsh:Iv.aap k=true)
    (hrec:∀ x k',k'.nodes < k.nodes→Iv.aap k' = true→IsK x k' → rec abD [x]=some (.p (encF k'))):aqu lk rec x=some (.p (encF k)):=by
  cases hk with
  | mk hs hks =>
    rename_i f lo hi mo p xs ks
    have e1:=hks.len
    have h2:=lenK (l:=ks)
    rw [nodesK] at hn
    rw [acq,Bool.and_eq_true,List.all_eq_true] at hsh
    have hrec2:∀ x k',k' ∈ ks→IsK x k' → rec abD [x]=some (.p (encF k')):=fun x k' hk'=>hrec x k' (by have:=memK hk'; rw [nodesK]; omega) (hsh.1 k' hk')
    simp only [aqu,al6,kK,vK,aah,aab,aad,aae,ieq,hs.slK,encF]
    have d:∀ m:Nat,f ≠ (m:Int)→decide (f=Int.ofNat m)=false:=fun m h=>decide_eq_false h
    by_cases c2:f=2
    · subst c2; rfl
    rw [d 2 c2]
    by_cases c3:f=3
    · subst c3; rfl
    rw [d 3 c3]
    by_cases c5:f=5
    · subst c5
      simp only [show decide ((5:Int)=Int.ofNat 5)=true from rfl,ifB_t,ifB_f,c2,c3,if_true,if_false]
      cases hks with
      | nil =>
        obtain ⟨lk,rfl⟩:∃ l,lk=l + 1:=⟨lk - 1,by omega⟩
        rfl
      | @cons y k0 xr kr hk0 hkr =>
        obtain ⟨lk',rfl⟩:∃ l,lk=l + 1:=⟨lk - 1,by omega⟩
        have hr1:=hrec2 y k0 (by simp) hk0
        have lp:=apN (k:=lk' + 1) (rec:=rec) (ts:=tds (lk' + 1) rec (lk' + 1)) (kx:=fun x=>match x with
          | .a=>(some (.p (.iface 144 (.agg [.nils]))))
          | .b n17 l18=>(chk (Nat.ble (0 + n17) (List.length l18)) (some (.p (.iface 144 (.agg [(.sl (List.take n17 (List.drop 0 l18)))])))))) hs (by omega) [y] [encF k0] lk' hkr rfl (by simp at e1; simp at h2; omega) rfl (fun x k' h=>hrec2 x k' (List.mem_cons_of_mem _ h))
        obtain ⟨t,v,hif⟩:=ap7 k0
        rw [hif] at lp hr1
        rw [abB]
        rw [encFs,hif]
        cases hk0 with
        | mk hs2 hk2 =>
          have hlt:∀ y:PVal,decide (Int.ofNat 0 < (((y :: xr).length:Nat):Int))=true:=fun y=>dlt.trans (by simp)
          simp only [ad9,hs.slK,hlt,ifB_t,aal,aao (show (_ :: xr)[0]? = some _ from rfl),kK,vK,aah,aab,aad,aae,hr1,aag,pK_p]
          refine (show _=abB _ _ _ _ _ _ from rfl).trans (lp.trans ?_)
          simp only [List.drop_zero,List.take_length,Nat.zero_add,ble_of (Nat.le_refl _),chk_t]
          rfl
    rw [d 5 c5]
    by_cases c6:f=6
    · subst c6
      have hlen:ks.length=1:=by
        have:=hsh.2
        unfold swK at this
        simp at this
        exact this.2.2.2
      cases hks with
      | nil=>simp at hlen
      | @cons y k0 xr kr hk0 hkr =>
        have hr1:=hrec2 y k0 (by simp) hk0
        obtain ⟨t,v,hif⟩:=ap7 k0
        rw [hif] at hr1
        rw [encFs,hif]
        cases hk0 with
        | mk hs2 hk2 =>
          simp only [show decide ((6:Int)=Int.ofNat 6)=true from rfl,ifB_t,ifB_f,c2,c3,c5,if_true,if_false,aao (show (_ :: xr)[0]? = some _ from rfl),kK,vK,aah,aab,aad,aae,hr1,aag,pK_p]
          rfl
    rw [d 6 c6]
    by_cases c1:f=1
    · subst c1; rfl
    rw [d 1 c1]
    simp only [ifB_f,c1,c2,c3,c5,c6,if_false]
end Go.Proofs.YtdnbnpknpejpdaaGreatDoor
namespace Go.Proofs.YtdnbnpknpejpdaaGreatDoor
open Go Go.Proofs.YtdnbnpknpejpdaaGreatDoor.Sw
theorem law1_F {lk:Nat} {rec:Rec1} {x y:PVal} {a v:Iv.V} (ha:IsV x a) (hv:IsV y v) (hrec:rec aer [x,y]=rB (eqV a v)):F_lIV_1 lk rec x (.ip y)=rB (eqV a v):=by
  cases ha with
  | mk hs hk =>
    cases hv with
    | mk ht hm =>
      simp only [F_lIV_1,FF_lIV_1,kK,vK,aah,aab,aad,aam,aae,ipK_ip]
      show chk (Nat.beq 4 4) _=_
      simp only [ad5,chk_t,hrec,aag,pK_p,aai]
def idxV (v:Iv.V):List Iv.V→Nat→Int
  | [],_=>-1
  | a :: r,n=>if eqV a v then Int.ofNat n else idxV v r (n + 1)
theorem idxV_pos (v:Iv.V):∀ (l:List Iv.V) (n:Nat),decide (idxV v l n ≥ Int.ofNat 0)=l.any fun a=>eqV a v
  | [],n=>rfl
  | a :: r,n=>by
    unfold idxV
    cases h:eqV a v with
    | true=>simp [h]
    | false=>simp only [Bool.false_eq_true,if_false,idxV_pos v r (n + 1),List.any_cons,h,Bool.false_or]
theorem idxV_loop {k:Nat} {rec:Rec1} {ts:Tds} {kx:ExXFV_0→Option AVal} {p y:PVal} {xs:List PVal} {v:Iv.V} (hs:IsSl p xs) (hx:xs.length < 100000) (ha:∀ z,kx (.a z)=rI z) (hb:kx .b=rI (-1)) :
    ∀ {xs2:List PVal} {ks2:List Iv.V} (xs1:List PVal) (j:Nat),IsVs xs2 ks2→xs=xs1 ++ xs2→xs2.length < j→(∀ x k',k' ∈ ks2→IsV x k' → rec acR [x, .ip y]=rB (eqV k' v)) →
      ai4 k rec ts kx j (.a p (.fn (.func acR) [.ip y]) ((xs.length:Nat):Int) (Int.ofNat xs1.length))=rI (idxV v ks2 xs1.length)
  | [],_,xs1,j, .nil,he,hj,_=>by
    obtain ⟨j,rfl⟩:∃ j',j=j' + 1:=⟨j - 1,by omega⟩
    subst he
    simp only [ai4,S_XFV_0,dlt,List.append_nil,Nat.lt_irrefl,decide_false,ifB_f,hb,idxV]
  | x :: xs2,k2 :: ks2,xs1,j, .cons hk hr,he,hj,hrec=>by
    obtain ⟨j,rfl⟩:∃ j',j=j' + 1:=⟨j - 1,by omega⟩
    have hlt:xs1.length < xs.length:=by rw [he]; simp
    have hr1:=hrec x k2 (by simp) hk
    have ih:=idxV_loop (k:=k) (rec:=rec) (ts:=ts) (kx:=kx) (y:=y) (v:=v) hs hx ha hb (xs1 ++ [x]) j hr (by rw [he]; simp) (by simp at hj; omega) (fun x k' h=>hrec x k' (List.mem_cons_of_mem _ h))
    rw [List.length_append,List.length_singleton] at ih
    rw [idxV]
    generalize eqV k2 v=b at hr1
    cases hk with
    | mk hs2 hk2 =>
      simp only [ai4,S_XFV_0,hs.slK,dlt,hlt,decide_true,ifB_t,aal,aao (abf he),kK,vK,aah,aab,aad,aam,aae,fnK_fn,show xi acR=false from rfl,Bool.not_false,chk_t,List.cons_append,List.nil_append,hr1,aag,pK_p,aai]
      rw [aax (by omega),ih,ha]
      cases b <;> rfl
theorem idxV_F {lk:Nat} {rec:Rec1} {p y:PVal} {xs:List PVal} {l:List Iv.V} {v:Iv.V} (hs:IsSl p xs) (hl:IsVs xs l) (hn:l.length < 1000) (hlk:1000 < lk) (hrec:∀ x k',k' ∈ l→IsV x k' → rec acR [x, .ip y]=rB (eqV k' v)) :
    F_XFV lk rec p (.fn (.func acR) [.ip y])=rI (idxV v l 0):=by
  have e1:=hl.len
  simp only [F_XFV,FF_XFV,hs.slK]
  exact idxV_loop hs (by omega) (fun z=>rfl) rfl [] lk hl rfl (by omega) hrec
theorem containsV_F {lk:Nat} {rec:Rec1} {p y:PVal} {l:List Iv.V} {v:Iv.V} (hrec:rec i_XFV [p, .fn (.func acR) [.ip y]]=rI (idxV v l 0)) :
    F_CFV lk rec p (.fn (.func acR) [.ip y])=rB (l.any fun a=>eqV a v):=by
  simp only [F_CFV,FF_CFV,hrec,aag,pK_p,aad,idxV_pos]
theorem law_tail {k:Nat} {rec:Rec1} {ts:Tds} {kx:aqM→Option AVal} {f lo hi mo kd n:Int} {t:List Nat} {p pv q:PVal} {xs:List PVal} (hs:IsSl q xs) (hx:xs.length < 100000)
    (h1:∀ x v',IsV x v' → rec adr [x]=rB true∧rec abZ [x]=rB true∧rec i_eIs [.agg [I f,I lo,I hi,I mo,p],x]=rB true ∨ True) :
    ∀ {y:PVal} {w:Iv.V} {xs2:List PVal} {vs2:List Iv.V} (xs0:List PVal) (j:Nat),IsV y w→IsVs xs2 vs2→xs=xs0 ++ y :: xs2→xs2.length < j →
      (∀ x v',v' ∈ vs2→IsV x v' → rec adr [x]=rB true∧rec abZ [x]=rB true∧rec i_eIs [.agg [I f,I lo,I hi,I mo,p],x]=rB true) →
      (∀ x y a b,a ∈ w :: vs2→b ∈ w :: vs2→IsV x a→IsV y b→rec aaV [x,y]=rI (Iv.cmp a b))→(w :: vs2).Pairwise Iv.lt →
      aed k rec ts kx j (.a q q ((xs.length:Nat):Int) (Int.ofNat (xs0.length + 1)) f lo hi mo p kd n t pv)=kx (.b q f lo hi mo p kd n t pv)
  | y,w,[],_,xs0,j,hw, .nil,he,hj,_,_,_=>by
    obtain ⟨j,rfl⟩:∃ j',j=j' + 1:=⟨j - 1,by omega⟩
    subst he
    simp only [aed,aqm,dlt,List.length_append,List.length_singleton,Nat.lt_irrefl,decide_false,ifB_f]
  | y,w,x :: xs2,v :: vs2,xs0,j,hw, .cons hv hr,he,hj,hall,hcmp,hp=>by
    obtain ⟨j,rfl⟩:∃ j',j=j' + 1:=⟨j - 1,by omega⟩
    have hlt:xs0.length + 1 < xs.length:=by rw [he]; simp
    obtain ⟨a1,a2,a3⟩:=hall x v (by simp) hv
    have ac:=hcmp y x w v (by simp) (by simp) hw hv
    have hl:Iv.cmp w v < 0:=(List.pairwise_cons.1 hp).1 v (by simp)
    have ih:=law_tail (k:=k) (rec:=rec) (ts:=ts) (kx:=kx) (kd:=kd) (n:=n) (t:=t) (pv:=pv) hs hx h1 (xs0 ++ [y]) j hv hr (by rw [he]; simp) (by simp at hj; omega) (fun x v' h=>hall x v' (List.mem_cons_of_mem _ h))
      (fun x y a b h h'=>hcmp x y a b (List.mem_cons_of_mem _ h) (List.mem_cons_of_mem _ h')) (List.pairwise_cons.1 hp).2
    rw [List.length_append,List.length_singleton] at ih
    have g2:xs[xs0.length + 1]? = some x:=by rw [he]; simp
    have hw1:IntKind.wrap .i64 (Int.ofNat (xs0.length + 1) - Int.ofNat 1)=Int.ofNat xs0.length:=by
      rw [acJ (by simp only [Int.ofNat_eq_natCast]; omega) (by simp only [Int.ofNat_eq_natCast]; omega)]
      simp only [Int.ofNat_eq_natCast]; omega
    have hgt:decide (Int.ofNat (xs0.length + 1) > Int.ofNat 0)=true:=by apply decide_eq_true; simp only [Int.ofNat_eq_natCast]; omega
    have hge:decide (Iv.cmp w v ≥ Int.ofNat 0)=false:=by apply decide_eq_false; simp only [Int.ofNat_eq_natCast]; omega
    generalize Iv.cmp w v=c at ac hge
    cases hw with
    | mk hs1 hk1 =>
      cases hv with
      | mk hs2 hk2 =>
        simp only [aed,aqm,hs.slK,dlt,hlt,decide_true,ifB_t,aal,aao g2,kK,vK,aah,aab,aad,aam,aae,a1,a2,a3,aag,pK_p,aai,Bool.not_true,ifB_f,hgt,hw1,aao (abf he),ac,hge]
        rw [aax (by omega),ih]
theorem law_loop {k:Nat} {rec:Rec1} {ts:Tds} {kx:aqM→Option AVal} {f lo hi mo kd n:Int} {t:List Nat} {p pv q:PVal} {xs:List PVal} {l:List Iv.V} (hs:IsSl q xs) (hl:IsVs xs l) (hx:xs.length < 1000) (hk:1001 < k)
    (hall:∀ x v',v' ∈ l→IsV x v' → rec adr [x]=rB true∧rec abZ [x]=rB true∧rec i_eIs [.agg [I f,I lo,I hi,I mo,p],x]=rB true)
    (hcmp:∀ x y a b,a ∈ l→b ∈ l→IsV x a→IsV y b→rec aaV [x,y]=rI (Iv.cmp a b)) (hp:l.Pairwise Iv.lt) :
    aed k rec ts kx k (.a q q ((xs.length:Nat):Int) (Int.ofNat 0) f lo hi mo p kd n t pv)=kx (.b q f lo hi mo p kd n t pv):=by
  have key:∀ j,1001 < j→aed k rec ts kx j (.a q q ((xs.length:Nat):Int) (Int.ofNat 0) f lo hi mo p kd n t pv)=kx (.b q f lo hi mo p kd n t pv):=by
    intro j hj
    obtain ⟨j,rfl⟩:∃ j',j=j' + 1:=⟨j - 1,by omega⟩
    cases hl with
    | nil=>rfl
    | @cons x v xr vr hv hr =>
      obtain ⟨a1,a2,a3⟩:=hall x v (by simp) hv
      have tl:=law_tail (k:=k) (rec:=rec) (ts:=ts) (kx:=kx) (kd:=kd) (n:=n) (t:=t) (pv:=pv) hs (by omega) (fun _ _ _=>.inr trivial) [] j hv hr rfl (by simp at hx; omega) (fun x v' h=>hall x v' (List.mem_cons_of_mem _ h)) hcmp hp
      have hlt:∀ y:PVal,decide (Int.ofNat 0 < (((y :: xr).length:Nat):Int))=true:=fun y=>dlt.trans (by simp)
      cases hv with
      | mk hs2 hk2 =>
        simp only [aed,aqm,hs.slK,hlt,ifB_t,aal,aao (show (_ :: xr)[0]? = some _ from rfl),kK,vK,aah,aab,aad,aam,aae,a1,a2,a3,aag,pK_p,aai,Bool.not_true,ifB_f]
        exact tl
  exact key k hk
end Go.Proofs.YtdnbnpknpejpdaaGreatDoor
namespace Go.Proofs.YtdnbnpknpejpdaaGreatDoor
open Go Go.Proofs.YtdnbnpknpejpdaaGreatDoor.Sw
structure LawFacts (rec:Rec1) (x:PVal) (k:Iv.K) (y:PVal) (v:Iv.V):Prop where
  small5:rec anc [x]=rB (decide (0≤weighK k 30 9))
  small1:rec adr [y]=rB (decide (0≤weighV v 260 12) && briefV v)
  valid5:k.nodes≤30→rec anb [x]=rB (decide (0≤weighK k 20 6) && Iv.aap k)
  known:rec i_lKn []=rB true
  none:Iv.validK k=true→Iv.vals k=none→rec ad1 [x]=some (.p (.tup [.nils,I 3]))
  some:Iv.validK k=true → ∀ l,Iv.vals k=some l → ∃ q xs,IsSl q xs∧IsVs xs l∧rec ad1 [x]=some (.p (.tup [q,I 0]))
  count:Iv.validK k=true→rec acf [x]=rT (Iv.count k).1 (Iv.count k).2
  each:Iv.validK k=true → ∀ z u,IsV z u→Iv.validV u=true→briefV u=true→rec adr [z]=rB true∧rec abZ [z]=rB true∧rec i_eIs [x,z]=rB (Iv.isV k u)
  cmp:∀ z z' a b,Iv.validV a=true→Iv.validV b=true→IsV z a→IsV z' b→rec aaV [z,z']=rI (Iv.cmp a b)
  valid1:v.nodes≤260→briefV v=true→rec abZ [y]=rB (Iv.validV v)
  is1:Iv.validK k=true→v.nodes≤260→rec i_eIs [x,y]=rB (Iv.isV k v)
  contains:v.nodes≤260 → ∀ q xs l,IsSl q xs→IsVs xs l→l.length≤32→(∀ u ∈ l,Iv.validV u=true)→rec i_CFV [q, .fn (.func acR) [.ip y]]=rB (l.any fun a=>eqV a v)
mutual
theorem agW:∀ (v:Iv.V),Iv.aaS v=true→briefV v=true
  | .mk k n t p,h=>by
    rw [shapedV_sw,Bool.and_eq_true] at h
    unfold briefV
    rw [Bool.and_eq_true]
    refine ⟨agd p (by rw [agk]; exact h.1), ?_⟩
    have h:=h.2
    unfold swV at h
    split at h
    · simp only [Bool.and_eq_true,decide_eq_true_eq] at h; simp [h.2.1]
    · split at h
      · simp only [Bool.and_eq_true,decide_eq_true_eq] at h; simp [h.2.1]
      · split at h
        · simp only [Bool.and_eq_true,decide_eq_true_eq,Iv.alx] at h
          simp; omega
        · split at h
          · simp only [Bool.and_eq_true,decide_eq_true_eq] at h; simp [h.2.1]
          · split at h
            · simp only [Bool.and_eq_true,decide_eq_true_eq] at h; simp [h.2.2]
            · simp at h
theorem agd:∀ (l:List Iv.V),Iv.aaX l=true→alW l=true
  | [],_=>rfl
  | v :: r,h=>by
    simp only [Iv.aaX,Bool.and_eq_true] at h
    simp only [alW,Bool.and_eq_true]
    exact ⟨agW v h.1,agd r h.2⟩
end
theorem bindK_eq {α β:Type} {x:Option β} {v:β} (h:x=some v) (K:β→Option α):bindK x K=K v:=by rw [h]; rfl
theorem afT {α:Type} {x:Option AVal} {b:Bool} (h:x=rB b) (K:Bool→Option α):bindK x (fun x1=>pK x1 fun x2=>boolK x2 K)=K b:=by rw [h]; rfl
theorem law_fin {rec:Rec1} {q p pv:PVal} {f lo hi mo kd n:Int} {t:List Nat} (h1:rec i_lKn []=rB true) {b4 b5 b6:Bool} (h4:rec abZ [.agg [I kd,I n, .str t,pv]]=rB b4)
    (h5:b4=true→rec i_CFV [q, .fn (.func acR) [.ip (ipOf [I kd,I n, .str t,pv])]]=rB b5)
    (h6:b4=true→rec i_eIs [.agg [I f,I lo,I hi,I mo,p], .agg [I kd,I n, .str t,pv]]=rB b6) (he:b4=true→b5=b6) :
    (bindK (rec abZ [.agg [I kd,I n, .str t,pv]]) fun x80=>(pK x80 fun x81=>(boolK x81 fun b82=>(ifB (!b82)
      (bindK (rec i_lKn []) fun x83=>(pK x83 fun x84=>(boolK x84 fun b85=>(some (.p (.bool b85))))))
      (bindK (rec i_CFV (q :: [(.fn (.func acR) [(.ip (ipOf [I kd,I n, .str t,pv]))])])) fun x86=>(pK x86 fun x87=>(boolK x87 fun b88 =>
      (bindK (rec i_eIs ((.agg [I f,I lo,I hi,I mo,p]) :: [(.agg [I kd,I n, .str t,pv])])) fun x89=>(pK x89 fun x90=>(boolK x90 fun b91 =>
      (ifB (b88 == b91) (bindK (rec i_lKn []) fun x92=>(pK x92 fun x93=>(boolK x93 fun b94=>(some (.p (.bool b94)))))) (some (.p (.bool false))))))))))))))=rB true:=by
  rw [h4,h1]
  cases b4 with
  | false=>rfl
  | true =>
    have h5:=h5 rfl
    have h6:=h6 rfl
    have he:=he rfl
    subst he
    simp only [aag,pK_p,aai,Bool.not_true,ifB_f,h5,h6]
    cases b5 <;> rfl
theorem posK {k:Iv.K} {a b:Nat} {x y:Int} (hx:x=a) (hy:y=b):decide (0≤weighK k x y)=(decide (k.nodes≤a) && decide (k.hgt≤b)):=by rw [hx,hy]; exact weighK_pos
theorem posV {k:Iv.V} {a b:Nat} {x y:Int} (hx:x=a) (hy:y=b):decide (0≤weighV k x y)=(decide (k.nodes≤a) && decide (k.hgt≤b)):=by rw [hx,hy]; exact weighV_pos
theorem law_any {k:Iv.K} {v:Iv.V} {l:List Iv.V} (hiff:v ∈ l ↔ Iv.isV k v=true):(l.any fun a=>eqV a v)=Iv.isV k v:=by
  cases h5:Iv.isV k v with
  | true=>exact List.any_eq_true.2 ⟨_,hiff.2 h5,(eqV_iff _ _).2 rfl⟩
  | false =>
    cases h6:l.any fun a=>eqV a v with
    | false=>rfl
    | true =>
      obtain ⟨a,ha,he⟩:=List.any_eq_true.1 h6
      rw [(eqV_iff _ _).1 he] at ha
      rw [hiff.1 ha] at h5
      simp at h5
theorem law_F {lk:Nat} {rec:Rec1} {x y:PVal} {k:Iv.K} {v:Iv.V} (hk:IsK x k) (hv:IsV y v) (hl:1001 < lk) (F:LawFacts rec x k y v):F_lIV lk rec x y=rB true:=by
  obtain ⟨f1,f2,f3,f4,f5,f6,f7,f8,f9,f10,f11,f12⟩:=F
  cases hk with
  | mk hs hks =>
    cases hv with
    | mk ht hvs =>
      rename_i f lo hi mo p ps ks kd n t pv qs vs
      have p30:=posK (k:=.mk f lo hi mo ks) (a:=30) (b:=9) (x:=30) (y:=9) rfl rfl
      have p20:=posK (k:=.mk f lo hi mo ks) (a:=20) (b:=6) (x:=20) (y:=6) rfl rfl
      have p26:=posV (k:=.mk kd n t vs) (a:=260) (b:=12) (x:=260) (y:=12) rfl rfl
      unfold F_lIV FF_lIV
      rw [kK_agg]
      rw [vK_agg]
      refine (afT f1 _).trans ?_
      cases b1:decide (0≤weighK (.mk f lo hi mo ks) 30 9) with
      | false=>exact afT f4 _
      | true =>
        rw [p30,Bool.and_eq_true,decide_eq_true_eq,decide_eq_true_eq] at b1
        refine (ifB_f _ _).trans ?_
        refine (afT f2 _).trans ?_
        cases b2:decide (0≤weighV (.mk kd n t vs) 260 12) && briefV (.mk kd n t vs) with
        | false=>exact afT f4 _
        | true =>
          rw [p26] at b2
          simp only [Bool.and_eq_true,decide_eq_true_eq] at b2
          refine (ifB_f _ _).trans ?_
          have hvk:(decide (0≤weighK (.mk f lo hi mo ks) 20 6) && Iv.aap (.mk f lo hi mo ks))=Iv.validK (.mk f lo hi mo ks):=by
            rw [p20]; rfl
          have f3:=f3 b1.1
          rw [hvk] at f3
          refine (afT f3 _).trans ?_
          cases b3:Iv.validK (.mk f lo hi mo ks) with
          | false=>exact afT f4 _
          | true =>
            refine (ifB_f _ _).trans ?_
            cases hvals:Iv.vals (.mk f lo hi mo ks) with
            | none=>exact (bindK_eq (f5 b3 hvals) _).trans (afT f4 _)
            | some l =>
              obtain ⟨q,xs,hq,hxs,hval⟩:=f6 b3 l hvals
              have e1:=hxs.len
              have hlen:=Iv.am5 _ hvals
              have hvv:=Iv.aku b3 hvals
              have hlt:=Iv.vals_lt _ hvals
              have hc:=Iv.vals_many b3 hvals
              have hiff:=Iv.vals_iff b3 hvals (v:=.mk kd n t vs)
              have hsh:∀ u ∈ l,Iv.aaS u=true:=fun u hu=>by
                have:=(hvv u hu).1
                unfold Iv.validV at this
                simp only [Bool.and_eq_true] at this
                exact this.2
              have hall:∀ z u,u ∈ l→IsV z u→rec adr [z]=rB true∧rec abZ [z]=rB true∧rec i_eIs [.agg [I f,I lo,I hi,I mo,p],z]=rB true:=fun z u hu hz=>by
                have:=f8 b3 z u hz (hvv u hu).1 (agW u (hsh u hu))
                rw [(hvv u hu).2] at this
                exact this
              have hcmp:∀ z z' a b,a ∈ l→b ∈ l→IsV z a→IsV z' b→rec aaV [z,z']=rI (Iv.cmp a b):=fun z z' a b ha hb=>f9 z z' a b (hvv a ha).1 (hvv b hb).1
              have lp:=fun kx=>law_loop (k:=lk) (rec:=rec) (ts:=tds lk rec lk) (kx:=kx) (f:=f) (lo:=lo) (hi:=hi) (mo:=mo) (kd:=kd) (n:=n) (t:=t) (p:=p) (pv:=pv) hq hxs (by omega) hl hall hcmp hlt
              have hgt:decide (((xs.length:Nat):Int) > Int.ofNat 32)=false:=by apply decide_eq_false; simp only [Int.ofNat_eq_natCast]; omega
              have fin:=law_fin (rec:=rec) (q:=q) (p:=p) (pv:=pv) (f:=f) (lo:=lo) (hi:=hi) (mo:=mo) (kd:=kd) (n:=n) (t:=t) f4 (f10 b2.1.1 b2.2)
                (fun _=>f12 b2.1.1 q xs l hq hxs hlen (fun u hu=>(hvv u hu).1)) (fun _=>f11 b3 b2.1.1) (fun h=>law_any (hiff h))
              refine (bindK_eq hval _).trans ?_
              rw [pK_p,acL,aab,aab,aad,aae]
              refine (ifB_f _ _).trans ?_
              refine (bindK_eq (f7 b3) _).trans ?_
              rw [pK_p,acL,aab,aad,aab,aai,aae]
              cases b6:(Iv.count (.mk f lo hi mo ks)).2 with
              | true =>
                have hc:=hc b6
                have hne:((Iv.count (.mk f lo hi mo ks)).1 != ((xs.length:Nat):Int))=false:=by rw [hc,e1]; simp
                refine (ifB_t _ _).trans ?_
                rw [hq.slK,hne]
                refine (ifB_f _ _).trans ?_
                rw [hq.slK,hgt]
                refine (ifB_f _ _).trans ?_
                rw [hq.slK]
                exact (lp _).trans fin
              | false =>
                refine (ifB_f _ _).trans ?_
                rw [hq.slK,hgt]
                refine (ifB_f _ _).trans ?_
                rw [hq.slK]
                exact (lp _).trans fin
end Go.Proofs.YtdnbnpknpejpdaaGreatDoor
namespace Go.Proofs.YtdnbnpknpejpdaaGreatDoor
open Go Go.Proofs.YtdnbnpknpejpdaaGreatDoor.Sw
mutual
def encV:Iv.V→PVal
  | .mk k n t p=>.agg [I k,I n, .str t,encS (encVs p)]
def encVs:List Iv.V→List PVal
  | []=>[]
  | v :: r=>encV v :: encVs r
end
mutual
theorem encV_is:∀ (v:Iv.V),IsV (encV v) v
  | .mk k n t p=>by unfold encV; exact .mk (agS _) (ani p)
theorem ani:∀ (l:List Iv.V),IsVs (encVs l) l
  | []=>.nil
  | v :: r=>.cons (encV_is v) (ani r)
end
theorem ap6:∀ (l:List Iv.V),encVs l=l.map encV
  | []=>rfl
  | v :: r=>by simp [encVs,ap6 r]
theorem encFs_map:∀ (l:List Iv.K),encFs l=l.map encF
  | []=>rfl
  | v :: r=>by simp [encFs,encFs_map r]
theorem fresh_loop {k:Nat} {rec:Rec1} {ts:Tds} {kx:ahY→Option AVal} {p:PVal} {xs:List PVal} (hs:IsSl p xs) (hx:xs.length < 100000) :
    ∀ {xs2:List PVal} {ks2:List Iv.V} (xs1:List PVal) (acc:List PVal) (j:Nat),IsVs xs2 ks2→xs=xs1 ++ xs2→xs2.length < j→acc.length=xs1.length →
      (∀ x k',k' ∈ ks2→IsV x k' → rec abE [x]=some (.p (encV k'))) →
      ab4 k rec ts kx j (.b acc.length p ((xs.length:Nat):Int) (Int.ofNat xs1.length) acc)=kx (.b (acc ++ encVs ks2).length (acc ++ encVs ks2))
  | [],_,xs1,acc,j, .nil,he,hj,ha,_=>by
    obtain ⟨j,rfl⟩:∃ j',j=j' + 1:=⟨j - 1,by omega⟩
    subst he
    simp only [ab4,afb,dlt,List.append_nil,Nat.lt_irrefl,decide_false,ifB_f,encVs]
  | x :: xs2,k2 :: ks2,xs1,acc,j, .cons hk hr,he,hj,ha,hrec=>by
    obtain ⟨j,rfl⟩:∃ j',j=j' + 1:=⟨j - 1,by omega⟩
    have hlt:xs1.length < xs.length:=by rw [he]; simp
    have hr1:=hrec x k2 (by simp) hk
    have ih:=fresh_loop (k:=k) (rec:=rec) (ts:=ts) (kx:=kx) hs hx (xs1 ++ [x]) (acc ++ [encV k2]) j hr (by rw [he]; simp) (by simp at hj; omega) (by simp [ha]) (fun x k' h=>hrec x k' (List.mem_cons_of_mem _ h))
    rw [List.length_append,List.length_singleton,List.length_append,List.length_singleton] at ih
    rw [encVs]
    cases k2 with
    | mk kk nn tt pp =>
    rw [encV] at hr1 ih ⊢
    cases hk with
    | mk hs2 hk2 =>
      simp only [ab4,afb,hs.slK,dlt,hlt,decide_true,ifB_t,aal,aao (abf he),kK,vK,aah,aab,aad,aam,aae,hr1,aag,pK_p]
      rw [aax (by omega),ih]
      have hb:Nat.ble ((acc.length + 1) * 56) 1099511627776=true:=ble_of (by omega)
      rw [hb,ad5]
      show kx _=_
      simp
theorem fresh_F {lk:Nat} {rec:Rec1} {p:PVal} {xs:List PVal} {l:List Iv.V} (hs:IsSl p xs) (hl:IsVs xs l) (hn:l.length < 1000) (hlk:1000 < lk)
    (hrec:∀ x k',k' ∈ l→IsV x k' → rec abE [x]=some (.p (encV k'))):F_dfresh lk rec p=some (.p (encS (encVs l))):=by
  have e1:=hl.len
  simp only [F_dfresh,aqE,hs.slK]
  obtain ⟨lk',rfl⟩:∃ l,lk=l + 1:=⟨lk - 1,by omega⟩
  cases hl with
  | nil=>rfl
  | @cons y k0 xr kr hk0 hkr =>
    have hr1:=hrec y k0 (by simp) hk0
    have lp:=fun kx=>fresh_loop (k:=lk' + 1) (rec:=rec) (ts:=tds (lk' + 1) rec (lk' + 1)) (kx:=kx) hs (by omega) [y] [encV k0] lk' hkr rfl (by simp at e1 hn; omega) rfl (fun x k' h=>hrec x k' (List.mem_cons_of_mem _ h))
    rw [encVs]
    cases k0 with
    | mk kk nn tt pp =>
    rw [encV] at hr1 lp ⊢
    cases hk0 with
    | mk hs2 hk2 =>
      have hlt:∀ y:PVal,decide (Int.ofNat 0 < (((y :: xr).length:Nat):Int))=true:=fun y=>dlt.trans (by simp)
      rw [ab4]
      simp only [afb,hs.slK,hlt,ifB_t,aal,aao (show (_ :: xr)[0]? = some _ from rfl),kK,vK,aah,aab,aad,aam,aae,hr1,aag,pK_p]
      refine (show _=ab4 _ _ _ _ _ _ from rfl).trans ((lp _).trans ?_)
      simp only [List.drop_zero,List.take_length,Nat.zero_add,ble_of (Nat.le_refl _),chk_t]
      rfl
theorem wholeFew_F {lk:Nat} {rec:Rec1} {a b:Int} (ha : -1000000000≤a∧a≤1000000000) (hb : -1000000000≤b∧b≤1000000000):ag6 lk rec (.agg [I a,I b])=rB (decide (b - a < 32)):=by
  simp only [ag6,af4,kK,vK,aah,aab,aad,aae]
  rw [acJ (by omega) (by omega)]
  rfl
theorem truthFew_F {lk:Nat} {rec:Rec1}:amG lk rec (.agg [])=rB true:=rfl
theorem emptyFew_F {lk:Nat} {rec:Rec1}:amI lk rec (.agg [])=rB true:=rfl
theorem textsFew_F {lk:Nat} {rec:Rec1}:amH lk rec (.agg [])=rB false:=rfl
def toldL (o:Option (List Iv.V)) (r:Option AVal):Prop:=match o with
  | none=>r=some (.p (.tup [.nils, .bool false]))
  | some l=>∃ q xs,r=some (.p (.tup [q, .bool true]))∧IsSl q xs∧IsVs xs l
theorem groupFew_F {lk:Nat} {rec:Rec1} {n:Int} {x q:PVal} {b:Bool} (h:rec aaI [x]=some (.p (.tup [q, .bool b]))):ag9 lk rec (.agg [I n,x])=rB b:=by
  simp only [ag9,af7,kK,vK,aah,aab,aad,aae,h,aag,pK_p,acL,aai]
theorem tupleFew1_F {lk:Nat} {rec:Rec1} {x q:PVal} {b:Bool} (h:rec aaI [x]=some (.p (.tup [q, .bool b]))):aeS lk rec x=rB (!b):=by
  simp only [aeS,aee,aab,aae,h,aag,pK_p,acL,aai]
theorem tupleFew_F {lk:Nat} {rec:Rec1} {x:PVal} {b:Bool} (h:rec i_CFF [x, .fn (.func aaG) []]=rB b):ag7 lk rec (.agg [x])=rB (!b):=by
  simp only [ag7,af5,kK,vK,aah,aab,aae,h,aag,pK_p,aai]
def idxF:List Iv.K→Nat→Int
  | [],_=>-1
  | k :: r,n=>if (Iv.vals k).isSome then idxF r (n + 1) else Int.ofNat n
theorem idxF_pos:∀ (l:List Iv.K) (n:Nat),decide (idxF l n ≥ Int.ofNat 0) = !l.all fun k=>(Iv.vals k).isSome
  | [],n=>rfl
  | k :: r,n=>by
    unfold idxF
    cases h:(Iv.vals k).isSome with
    | true=>simp only [if_true,idxF_pos r (n + 1),List.all_cons,h,Bool.true_and]
    | false=>simp [h]
theorem idxF_loop {k:Nat} {rec:Rec1} {ts:Tds} {kx:ExXFF_0→Option AVal} {p:PVal} {xs:List PVal} (hs:IsSl p xs) (hx:xs.length < 100000) (ha:∀ z,kx (.a z)=rI z) (hb:kx .b=rI (-1)) :
    ∀ (ks2:List Iv.K) (xs1:List PVal) (j:Nat),xs=xs1 ++ encFs ks2→ks2.length < j→(∀ k' ∈ ks2,rec aaG [encF k']=rB (!(Iv.vals k').isSome)) →
      ai7 k rec ts kx j (.a p (.fn (.func aaG) []) ((xs.length:Nat):Int) (Int.ofNat xs1.length))=rI (idxF ks2 xs1.length)
  | [],xs1,j,he,hj,_=>by
    obtain ⟨j,rfl⟩:∃ j',j=j' + 1:=⟨j - 1,by omega⟩
    subst he
    simp only [ai7,S_XFF_0,dlt,encFs,List.append_nil,Nat.lt_irrefl,decide_false,ifB_f,hb,idxF]
  | k2 :: ks2,xs1,j,he,hj,hrec=>by
    obtain ⟨j,rfl⟩:∃ j',j=j' + 1:=⟨j - 1,by omega⟩
    rw [encFs] at he
    have hlt:xs1.length < xs.length:=by rw [he]; simp
    have hr1:=hrec k2 (by simp)
    have ih:=idxF_loop (k:=k) (rec:=rec) (ts:=ts) (kx:=kx) hs hx ha hb ks2 (xs1 ++ [encF k2]) j (by rw [he]; simp) (by simp at hj; omega) (fun k' h=>hrec k' (List.mem_cons_of_mem _ h))
    rw [List.length_append,List.length_singleton] at ih
    rw [idxF]
    generalize (Iv.vals k2).isSome=b at hr1
    obtain ⟨t,v,hif⟩:=ap7 k2
    rw [hif] at he hr1
    simp only [ai7,S_XFF_0,hs.slK,dlt,hlt,decide_true,ifB_t,aal,aao (abf he),fnK_fn,show xi aaG=false from rfl,Bool.not_false,chk_t,List.append_nil,hr1,aag,pK_p,aai]
    rw [aax (by omega),ih,ha]
    cases b <;> rfl
theorem idxF_F {lk:Nat} {rec:Rec1} {p:PVal} {ks:List Iv.K} (hs:IsSl p (encFs ks)) (hn:ks.length < 1000) (hl:1000 < lk) (hrec:∀ k' ∈ ks,rec aaG [encF k']=rB (!(Iv.vals k').isSome)) :
    F_XFF lk rec p (.fn (.func aaG) [])=rI (idxF ks 0):=by
  have e1:=akb (l:=ks)
  simp only [F_XFF,FF_XFF,hs.slK]
  exact idxF_loop hs (by omega) (fun z=>rfl) rfl ks [] lk rfl (by omega) hrec
theorem containsF_F {lk:Nat} {rec:Rec1} {p:PVal} {ks:List Iv.K} (hrec:rec i_XFF [p, .fn (.func aaG) []]=rI (idxF ks 0)) :
    F_CFF lk rec p (.fn (.func aaG) [])=rB (!ks.all fun k=>(Iv.vals k).isSome):=by
  simp only [F_CFF,FF_CFF,hrec,aag,pK_p,aad,idxF_pos]
theorem values_none {lk:Nat} {rec:Rec1} {x:PVal} {k:Iv.K} (hk:IsK x k) (h1:rec acs [x]=rI 0) (h2:rec abD [x]=some (.p (encF k))) (h3:toldL none (rec aaI [encF k])) :
    aha lk rec x=some (.p (.tup [.nils,I 3])):=by
  cases hk with
  | mk hs hks =>
    simp only [aha,ahU,kK,vK,aah,aab,aad,aae,h1,aag,pK_p,show ((0:Int) != Int.ofNat 0)=false from rfl,ifB_f,h2,show rec aaI [encF _]=_ from h3,acL,aai,Bool.not_false,ifB_t]
    rfl
theorem values_some {lk:Nat} {rec:Rec1} {x q y:PVal} {k:Iv.K} (hk:IsK x k) (h1:rec acs [x]=rI 0) (h2:rec abD [x]=some (.p (encF k))) (h3:rec aaI [encF k]=some (.p (.tup [q, .bool true]))) (h4:rec aj6 [q]=some (.p y)) :
    aha lk rec x=some (.p (.tup [y,I 0])):=by
  cases hk with
  | mk hs hks =>
    simp only [aha,ahU,kK,vK,aah,aab,aad,aae,h1,aag,pK_p,show ((0:Int) != Int.ofNat 0)=false from rfl,ifB_f,h2,h3,acL,aai,Bool.not_true,h4]
    rfl
end Go.Proofs.YtdnbnpknpejpdaaGreatDoor
