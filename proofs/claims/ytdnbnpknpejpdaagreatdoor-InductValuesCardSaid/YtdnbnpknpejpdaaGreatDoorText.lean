/- What each function returns, as a plain function; that it does. -/
import Derived.Test.YtdnbnpknpejpdaaGreatDoorBase
set_option linter.unusedVariables false
set_option linter.unusedSimpArgs false
set_option linter.unusedSectionVars false
namespace Go.Proofs.YtdnbnpknpejpdaaGreatDoor
open Go Go.Proofs.YtdnbnpknpejpdaaGreatDoor.Sw
set_option maxRecDepth 100000
noncomputable section
instance sites:Sites:=⟨siteOf [(0,siteAt [2,3,5] 107 98 (bd acA)),(1,siteAt [2,3,5] 107 71 (bd acA))]⟩
def rpsdlisted_98:List Nat:=(Sites.site 0).ps
def rasdlisted_98:Code:=(Sites.site 0).assign
def rbddlisted_98:Code:=(Sites.site 0).body
def rpsdlisted_71:List Nat:=(Sites.site 1).ps
def rasdlisted_71:Code:=(Sites.site 1).assign
def rbddlisted_71:Code:=(Sites.site 1).body
inductive In_f75 where
  | a (a0 a1:Int) (a2:List Nat) (a3:PVal)
  | b (a0 a1:Int) (a2:List Nat) (a3:PVal) (a4:Nat) (a5:List PVal)
inductive aec where
  | a (a0:Nat) (a1:List PVal)
  | b (a0:Bool) (a1:Nat) (a2:List PVal)
def alo (s:In_f75):XC:=match s with
  | .a v0 v1 v2 v3=>(XC.mk [(.p (.agg [(.int .i64 v0),(.int .i64 v1),(.str v2),v3])),(.box 0 0)] [(.box [(.p .nils)])])
  | .b v0 v1 v2 v3 v4 v5=>(XC.mk [(.p (.agg [(.int .i64 v0),(.int .i64 v1),(.str v2),v3])),(.box 0 0)] [(.box [(.arr 1 0 0 v4 false)]),(.arr 4 v5 0 0 0)])
def aon {α:Type} (c:XC) (K:In_f75→Option α) (e:Unit→Option α):Option α:=match c with
  | (XC.mk [(.p (.agg [(.int .i64 v0),(.int .i64 v1),(.str v2),v3])),(.box 0 0)] [(.box [(.p .nils)])])=>K (.a v0 v1 v2 v3)
  | _=>e ()
theorem rdi_f75_a_some:RdS alo @aon:=fun h=>by unfold aon at h; split at h <;> first | exact .inl ⟨_,rfl,h⟩ | exact .inr h
def aom {α:Type} (c:XC) (K:In_f75→Option α) (e:Unit→Option α):Option α:=match c with
  | (XC.mk [(.p (.agg [(.int .i64 v0),(.int .i64 v1),(.str v2),v3])),(.box 0 0)] [(.box [(.arr 1 0 0 v4 false)]),(.arr 4 v5 0 0 0)])=>K (.b v0 v1 v2 v3 v4 v5)
  | _=>e ()
theorem rdi_f75_b_some:RdS alo @aom:=fun h=>by unfold aom at h; split at h <;> first | exact .inl ⟨_,rfl,h⟩ | exact .inr h
def rdi_f75 {α:Type} (c:XC) (K:In_f75→Option α):Option α:=aon c K fun _=>aom c K fun _=>none
theorem amp:RdT alo @rdi_f75:=fun h=>(rdi_f75_a_some h).elim id fun h=>(rdi_f75_b_some h).elim id fun h=>absurd h (by simp)
def adI (s:aec):XRes:=match s with
  | .a v0 v1=>(XRes.mk (.p (.bool true)) [(.box [(.arr 1 0 0 v0 false)]),(.arr 4 v1 0 0 0)])
  | .b v0 v1 v2=>(XRes.mk (.p (.bool v0)) [(.box [(.arr 1 0 0 v1 false)]),(.arr 4 v2 0 0 0)])
def anS {α:Type} (c:XRes) (K:aec→Option α) (e:Unit→Option α):Option α:=match c with
  | (XRes.mk (.p (.bool true)) [(.box [(.arr 1 0 0 v0 false)]),(.arr 4 v1 0 0 0)])=>K (.a v0 v1)
  | _=>e ()
theorem rdo_f75_a_some:RdS adI @anS:=fun h=>by unfold anS at h; split at h <;> first | exact .inl ⟨_,rfl,h⟩ | exact .inr h
def anR {α:Type} (c:XRes) (K:aec→Option α) (e:Unit→Option α):Option α:=match c with
  | (XRes.mk (.p (.bool v0)) [(.box [(.arr 1 0 0 v1 false)]),(.arr 4 v2 0 0 0)])=>K (.b v0 v1 v2)
  | _=>e ()
theorem rdo_f75_b_some:RdS adI @anR:=fun h=>by unfold anR at h; split at h <;> first | exact .inl ⟨_,rfl,h⟩ | exact .inr h
def abk {α:Type} (c:XRes) (K:aec→Option α):Option α:=anS c K fun _=>anR c K fun _=>none
theorem aml:RdT adI @abk:=fun h=>(rdo_f75_a_some h).elim id fun h=>(rdo_f75_b_some h).elim id fun h=>absurd h (by simp)
def ko_f75 {α:Type} (K:XRes→Option α) (s:aec):Option α:=match s with
  | .a v0 v1=>K (adI (.a v0 v1))
  | .b v0 v1 v2=>K (adI (.b v0 v1 v2))
theorem ko_f75_eq {α:Type} (K:XRes→Option α) (s:aec):ko_f75 K s=K (adI s):=by cases s <;> rfl
inductive In_f79 where
  | a (a0:PVal) (a1:Int)
inductive ai0 where
  | a (a0:Int) (a1:PVal)
def apa (s:In_f79):XC:=match s with
  | .a v0 v1=>(XC.mk [(.p v0),(.p (.int .i64 v1))] [])
def aoj {α:Type} (c:XC) (K:In_f79→Option α) (e:Unit→Option α):Option α:=match c with
  | (XC.mk [(.p v0),(.p (.int .i64 v1))] [])=>K (.a v0 v1)
  | _=>e ()
theorem rdi_f79_a_some:RdS apa @aoj:=fun h=>by unfold aoj at h; split at h <;> first | exact .inl ⟨_,rfl,h⟩ | exact .inr h
def rdi_f79 {α:Type} (c:XC) (K:In_f79→Option α):Option α:=aoj c K fun _=>none
theorem amn:RdT apa @rdi_f79:=fun h=>(rdi_f79_a_some h).elim id fun h=>absurd h (by simp)
def aeM (s:ai0):XRes:=match s with
  | .a v0 v1=>(XRes.mk (.fn (.func 126) [(.box 0 0),(.box 1 0)]) [(.box [(.p (.int .i64 v0))]),(.box [(.p v1)])])
def anM {α:Type} (c:XRes) (K:ai0→Option α) (e:Unit→Option α):Option α:=match c with
  | (XRes.mk (.fn (.func 126) [(.box 0 0),(.box 1 0)]) [(.box [(.p (.int .i64 v0))]),(.box [(.p v1)])])=>K (.a v0 v1)
  | _=>e ()
theorem rdo_f79_a_some:RdS aeM @anM:=fun h=>by unfold anM at h; split at h <;> first | exact .inl ⟨_,rfl,h⟩ | exact .inr h
def anN {α:Type} (c:XRes) (K:ai0→Option α):Option α:=anM c K fun _=>none
theorem amj:RdT aeM @anN:=fun h=>(rdo_f79_a_some h).elim id fun h=>absurd h (by simp)
def ko_f79 {α:Type} (K:XRes→Option α) (s:ai0):Option α:=match s with
  | .a v0 v1=>K (aeM (.a v0 v1))
theorem ko_f79_eq {α:Type} (K:XRes→Option α) (s:ai0):ko_f79 K s=K (aeM s):=by cases s <;> rfl
inductive In_f77 where
  | a
  | b (a0:Nat) (a1:List PVal)
inductive agZ where
  | a
  | b (a0:List PVal) (a1:Nat)
def aln (s:In_f77):XC:=match s with
  | .a=>(XC.mk [(.p .nils)] [])
  | .b v0 v1=>(XC.mk [(.arr 0 0 0 v0 false)] [(.arr 1 v1 0 0 0)])
def aol {α:Type} (c:XC) (K:In_f77→Option α) (e:Unit→Option α):Option α:=match c with
  | (XC.mk [(.p .nils)] [])=>K (.a)
  | _=>e ()
theorem rdi_f77_a_some:RdS aln @aol:=fun h=>by unfold aol at h; split at h <;> first | exact .inl ⟨_,rfl,h⟩ | exact .inr h
def aok {α:Type} (c:XC) (K:In_f77→Option α) (e:Unit→Option α):Option α:=match c with
  | (XC.mk [(.arr 0 0 0 v0 false)] [(.arr 1 v1 0 0 0)])=>K (.b v0 v1)
  | _=>e ()
theorem rdi_f77_b_some:RdS aln @aok:=fun h=>by unfold aok at h; split at h <;> first | exact .inl ⟨_,rfl,h⟩ | exact .inr h
def rdi_f77 {α:Type} (c:XC) (K:In_f77→Option α):Option α:=aol c K fun _=>aok c K fun _=>none
theorem amo:RdT aln @rdi_f77:=fun h=>(rdi_f77_a_some h).elim id fun h=>(rdi_f77_b_some h).elim id fun h=>absurd h (by simp)
def adH (s:agZ):XRes:=match s with
  | .a=>(XRes.mk (.fn (.func 120) [(.box 0 0)]) [(.box [(.p .nils)])])
  | .b v0 v1=>(XRes.mk (.fn (.func 120) [(.box 1 0)]) [(.arr 1 v0 0 0 0),(.box [(.arr 0 0 0 v1 false)])])
def anP {α:Type} (c:XRes) (K:agZ→Option α) (e:Unit→Option α):Option α:=match c with
  | (XRes.mk (.fn (.func 120) [(.box 0 0)]) [(.box [(.p .nils)])])=>K (.a)
  | _=>e ()
theorem rdo_f77_a_some:RdS adH @anP:=fun h=>by unfold anP at h; split at h <;> first | exact .inl ⟨_,rfl,h⟩ | exact .inr h
def anO {α:Type} (c:XRes) (K:agZ→Option α) (e:Unit→Option α):Option α:=match c with
  | (XRes.mk (.fn (.func 120) [(.box 1 0)]) [(.arr 1 v0 0 0 0),(.box [(.arr 0 0 0 v1 false)])])=>K (.b v0 v1)
  | _=>e ()
theorem rdo_f77_b_some:RdS adH @anO:=fun h=>by unfold anO at h; split at h <;> first | exact .inl ⟨_,rfl,h⟩ | exact .inr h
def anQ {α:Type} (c:XRes) (K:agZ→Option α):Option α:=anP c K fun _=>anO c K fun _=>none
theorem amk:RdT adH @anQ:=fun h=>(rdo_f77_a_some h).elim id fun h=>(rdo_f77_b_some h).elim id fun h=>absurd h (by simp)
def ko_f77 {α:Type} (K:XRes→Option α) (s:agZ):Option α:=match s with
  | .a=>K (adH .a)
  | .b v0 v1=>K (adH (.b v0 v1))
theorem ko_f77_eq {α:Type} (K:XRes→Option α) (s:agZ):ko_f77 K s=K (adH s):=by cases s <;> rfl
inductive ag0 where
  | a (a0:Int) (a1:PVal) (a2:Bool)
  | b (a0:Int) (a1:PVal) (a2:Bool) (a3:Nat) (a4:List PVal)
inductive adu where
  | a (a0:Int) (a1:PVal) (a2:Bool) (a3:Nat) (a4:List PVal)
  | b (a0:Int) (a1:PVal) (a2:Bool) (a3:Nat) (a4:List PVal)
  | c (a0:Int) (a1:PVal) (a2:Bool)
def ahr (s:ag0):XC:=match s with
  | .a v0 v1 v2=>(XC.mk [(.rf Rk.yld 0),(.box 1 0),(.box 2 0)] [(.lp 0 [(.box 3 0),(.box 4 0),(.box 5 0)] LoopState.ready none),(.box [(.p (.int .i64 v0))]),(.box [(.p v1)]),(.box [(.p .nils)]),(.box [(.p (.bool v2))]),(.box [(.fn (.func 75) [(.box 6 0)])]),(.box [(.p .nils)])])
  | .b v0 v1 v2 v3 v4=>(XC.mk [(.rf Rk.yld 0),(.box 1 0),(.box 2 0)] [(.lp 0 [(.box 3 0),(.box 4 0),(.box 5 0)] LoopState.ready none),(.box [(.p (.int .i64 v0))]),(.box [(.p v1)]),(.box [(.p .nils)]),(.box [(.p (.bool v2))]),(.box [(.fn (.func 75) [(.box 6 0)])]),(.box [(.arr 7 0 0 v3 false)]),(.arr 4 v4 0 0 0)])
def ak0 {α:Type} (c:XC) (K:ag0→Option α) (e:Unit→Option α):Option α:=match c with
  | (XC.mk [(.rf Rk.yld 0),(.box 1 0),(.box 2 0)] [(.lp 0 [(.box 3 0),(.box 4 0),(.box 5 0)] LoopState.ready none),(.box [(.p (.int .i64 v0))]),(.box [(.p v1)]),(.box [(.p .nils)]),(.box [(.p (.bool v2))]),(.box [(.fn (.func 75) [(.box 6 0)])]),(.box [(.p .nils)])])=>K (.a v0 v1 v2)
  | _=>e ()
theorem aot:RdS ahr @ak0:=fun h=>by unfold ak0 at h; split at h <;> first | exact .inl ⟨_,rfl,h⟩ | exact .inr h
def akZ {α:Type} (c:XC) (K:ag0→Option α) (e:Unit→Option α):Option α:=match c with
  | (XC.mk [(.rf Rk.yld 0),(.box 1 0),(.box 2 0)] [(.lp 0 [(.box 3 0),(.box 4 0),(.box 5 0)] LoopState.ready none),(.box [(.p (.int .i64 v0))]),(.box [(.p v1)]),(.box [(.p .nils)]),(.box [(.p (.bool v2))]),(.box [(.fn (.func 75) [(.box 6 0)])]),(.box [(.arr 7 0 0 v3 false)]),(.arr 4 v4 0 0 0)])=>K (.b v0 v1 v2 v3 v4)
  | _=>e ()
theorem aos:RdS ahr @akZ:=fun h=>by unfold akZ at h; split at h <;> first | exact .inl ⟨_,rfl,h⟩ | exact .inr h
def rdi_f126 {α:Type} (c:XC) (K:ag0→Option α):Option α:=ak0 c K fun _=>akZ c K fun _=>none
theorem ajA:RdT ahr @rdi_f126:=fun h=>(aot h).elim id fun h=>(aos h).elim id fun h=>absurd h (by simp)
def aaZ (s:adu):XRes:=match s with
  | .a v0 v1 v2 v3 v4=>(XRes.mk (.p (.tup [])) [(.lp 0 [(.box 3 0),(.box 4 0),(.box 5 0)] LoopState.ready none),(.box [(.p (.int .i64 v0))]),(.box [(.p v1)]),(.box [(.p .nils)]),(.box [(.p (.bool v2))]),(.box [(.fn (.func 75) [(.box 6 0)])]),(.box [(.arr 7 0 0 v3 false)]),(.arr 4 v4 0 0 0)])
  | .b v0 v1 v2 v3 v4=>(XRes.mk (.p (.tup [])) [(.lp 0 [(.box 3 0),(.box 4 0),(.box 5 0)] LoopState.done (some Code.ret)),(.box [(.p (.int .i64 v0))]),(.box [(.p v1)]),(.box [(.p .nils)]),(.box [(.p (.bool v2))]),(.box [(.fn (.func 75) [(.box 6 0)])]),(.box [(.arr 7 0 0 v3 false)]),(.arr 4 v4 0 0 0)])
  | .c v0 v1 v2=>(XRes.mk (.p (.tup [])) [(.lp 0 [(.box 3 0),(.box 4 0),(.box 5 0)] LoopState.ready none),(.box [(.p (.int .i64 v0))]),(.box [(.p v1)]),(.box [(.p .nils)]),(.box [(.p (.bool v2))]),(.box [(.fn (.func 75) [(.box 6 0)])]),(.box [(.p .nils)])])
def akG {α:Type} (c:XRes) (K:adu→Option α) (e:Unit→Option α):Option α:=match c with
  | (XRes.mk (.p (.tup [])) [(.lp 0 [(.box 3 0),(.box 4 0),(.box 5 0)] LoopState.ready none),(.box [(.p (.int .i64 v0))]),(.box [(.p v1)]),(.box [(.p .nils)]),(.box [(.p (.bool v2))]),(.box [(.fn (.func 75) [(.box 6 0)])]),(.box [(.arr 7 0 0 v3 false)]),(.arr 4 v4 0 0 0)])=>K (.a v0 v1 v2 v3 v4)
  | _=>e ()
theorem an1:RdS aaZ @akG:=fun h=>by unfold akG at h; split at h <;> first | exact .inl ⟨_,rfl,h⟩ | exact .inr h
def akF {α:Type} (c:XRes) (K:adu→Option α) (e:Unit→Option α):Option α:=match c with
  | (XRes.mk (.p (.tup [])) [(.lp 0 [(.box 3 0),(.box 4 0),(.box 5 0)] LoopState.done (some Code.ret)),(.box [(.p (.int .i64 v0))]),(.box [(.p v1)]),(.box [(.p .nils)]),(.box [(.p (.bool v2))]),(.box [(.fn (.func 75) [(.box 6 0)])]),(.box [(.arr 7 0 0 v3 false)]),(.arr 4 v4 0 0 0)])=>K (.b v0 v1 v2 v3 v4)
  | _=>e ()
theorem an0:RdS aaZ @akF:=fun h=>by unfold akF at h; split at h <;> first | exact .inl ⟨_,rfl,h⟩ | exact .inr h
def akE {α:Type} (c:XRes) (K:adu→Option α) (e:Unit→Option α):Option α:=match c with
  | (XRes.mk (.p (.tup [])) [(.lp 0 [(.box 3 0),(.box 4 0),(.box 5 0)] LoopState.ready none),(.box [(.p (.int .i64 v0))]),(.box [(.p v1)]),(.box [(.p .nils)]),(.box [(.p (.bool v2))]),(.box [(.fn (.func 75) [(.box 6 0)])]),(.box [(.p .nils)])])=>K (.c v0 v1 v2)
  | _=>e ()
theorem anZ:RdS aaZ @akE:=fun h=>by unfold akE at h; split at h <;> first | exact .inl ⟨_,rfl,h⟩ | exact .inr h
def ajw {α:Type} (c:XRes) (K:adu→Option α):Option α:=akG c K fun _=>akF c K fun _=>akE c K fun _=>none
theorem ajv:RdT aaZ @ajw:=fun h=>(an1 h).elim id fun h=>(an0 h).elim id fun h=>(anZ h).elim id fun h=>absurd h (by simp)
def ko_f126 {α:Type} (K:XRes→Option α) (s:adu):Option α:=match s with
  | .a v0 v1 v2 v3 v4=>K (aaZ (.a v0 v1 v2 v3 v4))
  | .b v0 v1 v2 v3 v4=>K (aaZ (.b v0 v1 v2 v3 v4))
  | .c v0 v1 v2=>K (aaZ (.c v0 v1 v2))
theorem ko_f126_eq {α:Type} (K:XRes→Option α) (s:adu):ko_f126 K s=K (aaZ s):=by cases s <;> rfl
inductive aeQ where
  | a (a0 a1:Int) (a2:PVal) (a3:Bool)
  | b (a0:Nat) (a1:Int) (a2:List PVal) (a3:Int) (a4:PVal) (a5:Bool)
  | c (a0:Nat) (a1:Int) (a2:List PVal) (a3:Int) (a4:PVal) (a5:Bool) (a6:Nat) (a7:List PVal)
  | d (a0 a1:Int) (a2:PVal) (a3:Bool) (a4:Nat) (a5:List PVal)
inductive ab2 where
  | a (a0:Int) (a1:PVal) (a2:Bool) (a3:Nat) (a4:List PVal)
  | b (a0:Int) (a1:PVal) (a2:Bool) (a3:Nat) (a4:List PVal)
  | c (a0:Int) (a1:PVal) (a2:Bool)
  | d (a0:List PVal) (a1:Nat) (a2:Int) (a3:PVal) (a4:Bool) (a5:Nat) (a6:List PVal)
  | e (a0:List PVal) (a1:Nat) (a2:Int) (a3:PVal) (a4:Bool) (a5:Nat) (a6:List PVal)
  | f (a0:List PVal) (a1:Nat) (a2:Int) (a3:PVal) (a4:Bool)
def ael (s:aeQ):XC:=match s with
  | .a v0 v1 v2 v3=>(XC.mk [(.p .nils),(.p (.int .i64 v0)),(.box 0 0),(.box 1 0),(.box 2 0),(.box 3 0)] [(.box [(.p (.int .i64 v1))]),(.box [(.rf Rk.yld 4)]),(.box [(.p v2)]),(.box [(.fn (.func 127) [(.box 0 0),(.box 1 0),(.box 2 0),(.box 3 0)])]),(.lp 0 [(.box 5 0),(.box 6 0),(.box 7 0)] LoopState.ready none),(.box [(.p .nils)]),(.box [(.p (.bool v3))]),(.box [(.fn (.func 75) [(.box 8 0)])]),(.box [(.p .nils)])])
  | .b v0 v1 v2 v3 v4 v5=>(XC.mk [(.arr 0 0 0 v0 false),(.p (.int .i64 v1)),(.box 1 0),(.box 2 0),(.box 3 0),(.box 4 0)] [(.arr 4 v2 0 0 0),(.box [(.p (.int .i64 v3))]),(.box [(.rf Rk.yld 5)]),(.box [(.p v4)]),(.box [(.fn (.func 127) [(.box 1 0),(.box 2 0),(.box 3 0),(.box 4 0)])]),(.lp 0 [(.box 6 0),(.box 7 0),(.box 8 0)] LoopState.ready none),(.box [(.p .nils)]),(.box [(.p (.bool v5))]),(.box [(.fn (.func 75) [(.box 9 0)])]),(.box [(.p .nils)])])
  | .c v0 v1 v2 v3 v4 v5 v6 v7=>(XC.mk [(.arr 0 0 0 v0 false),(.p (.int .i64 v1)),(.box 1 0),(.box 2 0),(.box 3 0),(.box 4 0)] [(.arr 4 v2 0 0 0),(.box [(.p (.int .i64 v3))]),(.box [(.rf Rk.yld 5)]),(.box [(.p v4)]),(.box [(.fn (.func 127) [(.box 1 0),(.box 2 0),(.box 3 0),(.box 4 0)])]),(.lp 0 [(.box 6 0),(.box 7 0),(.box 8 0)] LoopState.ready none),(.box [(.p .nils)]),(.box [(.p (.bool v5))]),(.box [(.fn (.func 75) [(.box 9 0)])]),(.box [(.arr 10 0 0 v6 false)]),(.arr 4 v7 0 0 0)])
  | .d v0 v1 v2 v3 v4 v5=>(XC.mk [(.p .nils),(.p (.int .i64 v0)),(.box 0 0),(.box 1 0),(.box 2 0),(.box 3 0)] [(.box [(.p (.int .i64 v1))]),(.box [(.rf Rk.yld 4)]),(.box [(.p v2)]),(.box [(.fn (.func 127) [(.box 0 0),(.box 1 0),(.box 2 0),(.box 3 0)])]),(.lp 0 [(.box 5 0),(.box 6 0),(.box 7 0)] LoopState.ready none),(.box [(.p .nils)]),(.box [(.p (.bool v3))]),(.box [(.fn (.func 75) [(.box 8 0)])]),(.box [(.arr 9 0 0 v4 false)]),(.arr 4 v5 0 0 0)])
def akY {α:Type} (c:XC) (K:aeQ→Option α) (e:Unit→Option α):Option α:=match c with
  | (XC.mk [(.p .nils),(.p (.int .i64 v0)),(.box 0 0),(.box 1 0),(.box 2 0),(.box 3 0)] [(.box [(.p (.int .i64 v1))]),(.box [(.rf Rk.yld 4)]),(.box [(.p v2)]),(.box [(.fn (.func 127) [(.box 0 0),(.box 1 0),(.box 2 0),(.box 3 0)])]),(.lp 0 [(.box 5 0),(.box 6 0),(.box 7 0)] LoopState.ready none),(.box [(.p .nils)]),(.box [(.p (.bool v3))]),(.box [(.fn (.func 75) [(.box 8 0)])]),(.box [(.p .nils)])])=>K (.a v0 v1 v2 v3)
  | _=>e ()
theorem aor:RdS ael @akY:=fun h=>by unfold akY at h; split at h <;> first | exact .inl ⟨_,rfl,h⟩ | exact .inr h
def akX {α:Type} (c:XC) (K:aeQ→Option α) (e:Unit→Option α):Option α:=match c with
  | (XC.mk [(.arr 0 0 0 v0 false),(.p (.int .i64 v1)),(.box 1 0),(.box 2 0),(.box 3 0),(.box 4 0)] [(.arr 4 v2 0 0 0),(.box [(.p (.int .i64 v3))]),(.box [(.rf Rk.yld 5)]),(.box [(.p v4)]),(.box [(.fn (.func 127) [(.box 1 0),(.box 2 0),(.box 3 0),(.box 4 0)])]),(.lp 0 [(.box 6 0),(.box 7 0),(.box 8 0)] LoopState.ready none),(.box [(.p .nils)]),(.box [(.p (.bool v5))]),(.box [(.fn (.func 75) [(.box 9 0)])]),(.box [(.p .nils)])])=>K (.b v0 v1 v2 v3 v4 v5)
  | _=>e ()
theorem aoq:RdS ael @akX:=fun h=>by unfold akX at h; split at h <;> first | exact .inl ⟨_,rfl,h⟩ | exact .inr h
def akW {α:Type} (c:XC) (K:aeQ→Option α) (e:Unit→Option α):Option α:=match c with
  | (XC.mk [(.arr 0 0 0 v0 false),(.p (.int .i64 v1)),(.box 1 0),(.box 2 0),(.box 3 0),(.box 4 0)] [(.arr 4 v2 0 0 0),(.box [(.p (.int .i64 v3))]),(.box [(.rf Rk.yld 5)]),(.box [(.p v4)]),(.box [(.fn (.func 127) [(.box 1 0),(.box 2 0),(.box 3 0),(.box 4 0)])]),(.lp 0 [(.box 6 0),(.box 7 0),(.box 8 0)] LoopState.ready none),(.box [(.p .nils)]),(.box [(.p (.bool v5))]),(.box [(.fn (.func 75) [(.box 9 0)])]),(.box [(.arr 10 0 0 v6 false)]),(.arr 4 v7 0 0 0)])=>K (.c v0 v1 v2 v3 v4 v5 v6 v7)
  | _=>e ()
theorem aop:RdS ael @akW:=fun h=>by unfold akW at h; split at h <;> first | exact .inl ⟨_,rfl,h⟩ | exact .inr h
def akV {α:Type} (c:XC) (K:aeQ→Option α) (e:Unit→Option α):Option α:=match c with
  | (XC.mk [(.p .nils),(.p (.int .i64 v0)),(.box 0 0),(.box 1 0),(.box 2 0),(.box 3 0)] [(.box [(.p (.int .i64 v1))]),(.box [(.rf Rk.yld 4)]),(.box [(.p v2)]),(.box [(.fn (.func 127) [(.box 0 0),(.box 1 0),(.box 2 0),(.box 3 0)])]),(.lp 0 [(.box 5 0),(.box 6 0),(.box 7 0)] LoopState.ready none),(.box [(.p .nils)]),(.box [(.p (.bool v3))]),(.box [(.fn (.func 75) [(.box 8 0)])]),(.box [(.arr 9 0 0 v4 false)]),(.arr 4 v5 0 0 0)])=>K (.d v0 v1 v2 v3 v4 v5)
  | _=>e ()
theorem aoo:RdS ael @akV:=fun h=>by unfold akV at h; split at h <;> first | exact .inl ⟨_,rfl,h⟩ | exact .inr h
def rdi_f127 {α:Type} (c:XC) (K:aeQ→Option α):Option α:=akY c K fun _=>akX c K fun _=>akW c K fun _=>akV c K fun _=>none
theorem ajz:RdT ael @rdi_f127:=fun h=>(aor h).elim id fun h=>(aoq h).elim id fun h=>(aop h).elim id fun h=>(aoo h).elim id fun h=>absurd h (by simp)
def aaq (s:ab2):XRes:=match s with
  | .a v0 v1 v2 v3 v4=>(XRes.mk (.p (.bool true)) [(.box [(.p (.int .i64 v0))]),(.box [(.rf Rk.yld 4)]),(.box [(.p v1)]),(.box [(.fn (.func 127) [(.box 0 0),(.box 1 0),(.box 2 0),(.box 3 0)])]),(.lp 0 [(.box 5 0),(.box 6 0),(.box 7 0)] LoopState.ready none),(.box [(.p .nils)]),(.box [(.p (.bool v2))]),(.box [(.fn (.func 75) [(.box 8 0)])]),(.box [(.arr 9 0 0 v3 false)]),(.arr 4 v4 0 0 0)])
  | .b v0 v1 v2 v3 v4=>(XRes.mk (.p (.bool false)) [(.box [(.p (.int .i64 v0))]),(.box [(.rf Rk.yld 4)]),(.box [(.p v1)]),(.box [(.fn (.func 127) [(.box 0 0),(.box 1 0),(.box 2 0),(.box 3 0)])]),(.lp 0 [(.box 5 0),(.box 6 0),(.box 7 0)] LoopState.done (some Code.ret)),(.box [(.p .nils)]),(.box [(.p (.bool v2))]),(.box [(.fn (.func 75) [(.box 8 0)])]),(.box [(.arr 9 0 0 v3 false)]),(.arr 4 v4 0 0 0)])
  | .c v0 v1 v2=>(XRes.mk (.p (.bool true)) [(.box [(.p (.int .i64 v0))]),(.box [(.rf Rk.yld 4)]),(.box [(.p v1)]),(.box [(.fn (.func 127) [(.box 0 0),(.box 1 0),(.box 2 0),(.box 3 0)])]),(.lp 0 [(.box 5 0),(.box 6 0),(.box 7 0)] LoopState.ready none),(.box [(.p .nils)]),(.box [(.p (.bool v2))]),(.box [(.fn (.func 75) [(.box 8 0)])]),(.box [(.p .nils)])])
  | .d v0 v1 v2 v3 v4 v5 v6=>(XRes.mk (.p (.bool true)) [(.arr 4 v0 0 0 v1),(.box [(.p (.int .i64 v2))]),(.box [(.rf Rk.yld 5)]),(.box [(.p v3)]),(.box [(.fn (.func 127) [(.box 1 0),(.box 2 0),(.box 3 0),(.box 4 0)])]),(.lp 0 [(.box 6 0),(.box 7 0),(.box 8 0)] LoopState.ready none),(.box [(.p .nils)]),(.box [(.p (.bool v4))]),(.box [(.fn (.func 75) [(.box 9 0)])]),(.box [(.arr 10 0 0 v5 false)]),(.arr 4 v6 0 0 0)])
  | .e v0 v1 v2 v3 v4 v5 v6=>(XRes.mk (.p (.bool false)) [(.arr 4 v0 0 0 v1),(.box [(.p (.int .i64 v2))]),(.box [(.rf Rk.yld 5)]),(.box [(.p v3)]),(.box [(.fn (.func 127) [(.box 1 0),(.box 2 0),(.box 3 0),(.box 4 0)])]),(.lp 0 [(.box 6 0),(.box 7 0),(.box 8 0)] LoopState.done (some Code.ret)),(.box [(.p .nils)]),(.box [(.p (.bool v4))]),(.box [(.fn (.func 75) [(.box 9 0)])]),(.box [(.arr 10 0 0 v5 false)]),(.arr 4 v6 0 0 0)])
  | .f v0 v1 v2 v3 v4=>(XRes.mk (.p (.bool true)) [(.arr 4 v0 0 0 v1),(.box [(.p (.int .i64 v2))]),(.box [(.rf Rk.yld 5)]),(.box [(.p v3)]),(.box [(.fn (.func 127) [(.box 1 0),(.box 2 0),(.box 3 0),(.box 4 0)])]),(.lp 0 [(.box 6 0),(.box 7 0),(.box 8 0)] LoopState.ready none),(.box [(.p .nils)]),(.box [(.p (.bool v4))]),(.box [(.fn (.func 75) [(.box 9 0)])]),(.box [(.p .nils)])])
def akD {α:Type} (c:XRes) (K:ab2→Option α) (e:Unit→Option α):Option α:=match c with
  | (XRes.mk (.p (.bool true)) [(.box [(.p (.int .i64 v0))]),(.box [(.rf Rk.yld 4)]),(.box [(.p v1)]),(.box [(.fn (.func 127) [(.box 0 0),(.box 1 0),(.box 2 0),(.box 3 0)])]),(.lp 0 [(.box 5 0),(.box 6 0),(.box 7 0)] LoopState.ready none),(.box [(.p .nils)]),(.box [(.p (.bool v2))]),(.box [(.fn (.func 75) [(.box 8 0)])]),(.box [(.arr 9 0 0 v3 false)]),(.arr 4 v4 0 0 0)])=>K (.a v0 v1 v2 v3 v4)
  | _=>e ()
theorem anY:RdS aaq @akD:=fun h=>by unfold akD at h; split at h <;> first | exact .inl ⟨_,rfl,h⟩ | exact .inr h
def akC {α:Type} (c:XRes) (K:ab2→Option α) (e:Unit→Option α):Option α:=match c with
  | (XRes.mk (.p (.bool false)) [(.box [(.p (.int .i64 v0))]),(.box [(.rf Rk.yld 4)]),(.box [(.p v1)]),(.box [(.fn (.func 127) [(.box 0 0),(.box 1 0),(.box 2 0),(.box 3 0)])]),(.lp 0 [(.box 5 0),(.box 6 0),(.box 7 0)] LoopState.done (some Code.ret)),(.box [(.p .nils)]),(.box [(.p (.bool v2))]),(.box [(.fn (.func 75) [(.box 8 0)])]),(.box [(.arr 9 0 0 v3 false)]),(.arr 4 v4 0 0 0)])=>K (.b v0 v1 v2 v3 v4)
  | _=>e ()
theorem anX:RdS aaq @akC:=fun h=>by unfold akC at h; split at h <;> first | exact .inl ⟨_,rfl,h⟩ | exact .inr h
def akB {α:Type} (c:XRes) (K:ab2→Option α) (e:Unit→Option α):Option α:=match c with
  | (XRes.mk (.p (.bool true)) [(.box [(.p (.int .i64 v0))]),(.box [(.rf Rk.yld 4)]),(.box [(.p v1)]),(.box [(.fn (.func 127) [(.box 0 0),(.box 1 0),(.box 2 0),(.box 3 0)])]),(.lp 0 [(.box 5 0),(.box 6 0),(.box 7 0)] LoopState.ready none),(.box [(.p .nils)]),(.box [(.p (.bool v2))]),(.box [(.fn (.func 75) [(.box 8 0)])]),(.box [(.p .nils)])])=>K (.c v0 v1 v2)
  | _=>e ()
theorem anW:RdS aaq @akB:=fun h=>by unfold akB at h; split at h <;> first | exact .inl ⟨_,rfl,h⟩ | exact .inr h
def akA {α:Type} (c:XRes) (K:ab2→Option α) (e:Unit→Option α):Option α:=match c with
  | (XRes.mk (.p (.bool true)) [(.arr 4 v0 0 0 v1),(.box [(.p (.int .i64 v2))]),(.box [(.rf Rk.yld 5)]),(.box [(.p v3)]),(.box [(.fn (.func 127) [(.box 1 0),(.box 2 0),(.box 3 0),(.box 4 0)])]),(.lp 0 [(.box 6 0),(.box 7 0),(.box 8 0)] LoopState.ready none),(.box [(.p .nils)]),(.box [(.p (.bool v4))]),(.box [(.fn (.func 75) [(.box 9 0)])]),(.box [(.arr 10 0 0 v5 false)]),(.arr 4 v6 0 0 0)])=>K (.d v0 v1 v2 v3 v4 v5 v6)
  | _=>e ()
theorem anV:RdS aaq @akA:=fun h=>by unfold akA at h; split at h <;> first | exact .inl ⟨_,rfl,h⟩ | exact .inr h
def akz {α:Type} (c:XRes) (K:ab2→Option α) (e:Unit→Option α):Option α:=match c with
  | (XRes.mk (.p (.bool false)) [(.arr 4 v0 0 0 v1),(.box [(.p (.int .i64 v2))]),(.box [(.rf Rk.yld 5)]),(.box [(.p v3)]),(.box [(.fn (.func 127) [(.box 1 0),(.box 2 0),(.box 3 0),(.box 4 0)])]),(.lp 0 [(.box 6 0),(.box 7 0),(.box 8 0)] LoopState.done (some Code.ret)),(.box [(.p .nils)]),(.box [(.p (.bool v4))]),(.box [(.fn (.func 75) [(.box 9 0)])]),(.box [(.arr 10 0 0 v5 false)]),(.arr 4 v6 0 0 0)])=>K (.e v0 v1 v2 v3 v4 v5 v6)
  | _=>e ()
theorem anU:RdS aaq @akz:=fun h=>by unfold akz at h; split at h <;> first | exact .inl ⟨_,rfl,h⟩ | exact .inr h
def aky {α:Type} (c:XRes) (K:ab2→Option α) (e:Unit→Option α):Option α:=match c with
  | (XRes.mk (.p (.bool true)) [(.arr 4 v0 0 0 v1),(.box [(.p (.int .i64 v2))]),(.box [(.rf Rk.yld 5)]),(.box [(.p v3)]),(.box [(.fn (.func 127) [(.box 1 0),(.box 2 0),(.box 3 0),(.box 4 0)])]),(.lp 0 [(.box 6 0),(.box 7 0),(.box 8 0)] LoopState.ready none),(.box [(.p .nils)]),(.box [(.p (.bool v4))]),(.box [(.fn (.func 75) [(.box 9 0)])]),(.box [(.p .nils)])])=>K (.f v0 v1 v2 v3 v4)
  | _=>e ()
theorem anT:RdS aaq @aky:=fun h=>by unfold aky at h; split at h <;> first | exact .inl ⟨_,rfl,h⟩ | exact .inr h
def aba {α:Type} (c:XRes) (K:ab2→Option α):Option α:=akD c K fun _=>akC c K fun _=>akB c K fun _=>akA c K fun _=>akz c K fun _=>aky c K fun _=>none
theorem aju:RdT aaq @aba:=fun h=>(anY h).elim id fun h=>(anX h).elim id fun h=>(anW h).elim id fun h=>(anV h).elim id fun h=>(anU h).elim id fun h=>(anT h).elim id fun h=>absurd h (by simp)
def ko_f127 {α:Type} (K:XRes→Option α) (s:ab2):Option α:=match s with
  | .a v0 v1 v2 v3 v4=>K (aaq (.a v0 v1 v2 v3 v4))
  | .b v0 v1 v2 v3 v4=>K (aaq (.b v0 v1 v2 v3 v4))
  | .c v0 v1 v2=>K (aaq (.c v0 v1 v2))
  | .d v0 v1 v2 v3 v4 v5 v6=>K (aaq (.d v0 v1 v2 v3 v4 v5 v6))
  | .e v0 v1 v2 v3 v4 v5 v6=>K (aaq (.e v0 v1 v2 v3 v4 v5 v6))
  | .f v0 v1 v2 v3 v4=>K (aaq (.f v0 v1 v2 v3 v4))
theorem ko_f127_eq {α:Type} (K:XRes→Option α) (s:ab2):ko_f127 K s=K (aaq s):=by cases s <;> rfl
inductive In_r0 where
  | a (a0:Bool)
  | b (a0:Nat) (a1:List PVal) (a2:Bool)
  | c (a0:Nat) (a1:List PVal) (a2:Bool) (a3:Nat) (a4:List PVal)
  | d (a0:Bool) (a1:Nat) (a2:List PVal)
inductive Out_r0 where
  | a (a0:Bool) (a1:Nat) (a2:List PVal)
  | b (a0:Bool) (a1:Nat) (a2:List PVal)
  | c (a0:List PVal) (a1:Nat) (a2:Bool) (a3:Nat) (a4:List PVal)
  | d (a0:List PVal) (a1:Nat) (a2:Bool) (a3:Nat) (a4:List PVal)
def mki_r0 (s:In_r0):XC:=match s with
  | .a v0=>(XC.mk [(.rf Rk.yld 0),(.p .nils)] [(.lp 0 [(.box 1 0),(.box 2 0),(.box 3 0)] LoopState.ready none),(.box [(.p .nils)]),(.box [(.p (.bool v0))]),(.box [(.fn (.func 75) [(.box 4 0)])]),(.box [(.p .nils)])])
  | .b v0 v1 v2=>(XC.mk [(.rf Rk.yld 0),(.arr 1 0 0 v0 false)] [(.lp 0 [(.box 2 0),(.box 3 0),(.box 4 0)] LoopState.ready none),(.arr 4 v1 0 0 0),(.box [(.p .nils)]),(.box [(.p (.bool v2))]),(.box [(.fn (.func 75) [(.box 5 0)])]),(.box [(.p .nils)])])
  | .c v0 v1 v2 v3 v4=>(XC.mk [(.rf Rk.yld 0),(.arr 1 0 0 v0 false)] [(.lp 0 [(.box 2 0),(.box 3 0),(.box 4 0)] LoopState.ready none),(.arr 4 v1 0 0 0),(.box [(.p .nils)]),(.box [(.p (.bool v2))]),(.box [(.fn (.func 75) [(.box 5 0)])]),(.box [(.arr 6 0 0 v3 false)]),(.arr 4 v4 0 0 0)])
  | .d v0 v1 v2=>(XC.mk [(.rf Rk.yld 0),(.p .nils)] [(.lp 0 [(.box 1 0),(.box 2 0),(.box 3 0)] LoopState.ready none),(.box [(.p .nils)]),(.box [(.p (.bool v0))]),(.box [(.fn (.func 75) [(.box 4 0)])]),(.box [(.arr 5 0 0 v1 false)]),(.arr 4 v2 0 0 0)])
def rdi_r0_a {α:Type} (c:XC) (K:In_r0→Option α) (e:Unit→Option α):Option α:=match c with
  | (XC.mk [(.rf Rk.yld 0),(.p .nils)] [(.lp 0 [(.box 1 0),(.box 2 0),(.box 3 0)] LoopState.ready none),(.box [(.p .nils)]),(.box [(.p (.bool v0))]),(.box [(.fn (.func 75) [(.box 4 0)])]),(.box [(.p .nils)])])=>K (.a v0)
  | _=>e ()
theorem rdi_r0_a_some:RdS mki_r0 @rdi_r0_a:=fun h=>by unfold rdi_r0_a at h; split at h <;> first | exact .inl ⟨_,rfl,h⟩ | exact .inr h
def rdi_r0_b {α:Type} (c:XC) (K:In_r0→Option α) (e:Unit→Option α):Option α:=match c with
  | (XC.mk [(.rf Rk.yld 0),(.arr 1 0 0 v0 false)] [(.lp 0 [(.box 2 0),(.box 3 0),(.box 4 0)] LoopState.ready none),(.arr 4 v1 0 0 0),(.box [(.p .nils)]),(.box [(.p (.bool v2))]),(.box [(.fn (.func 75) [(.box 5 0)])]),(.box [(.p .nils)])])=>K (.b v0 v1 v2)
  | _=>e ()
theorem rdi_r0_b_some:RdS mki_r0 @rdi_r0_b:=fun h=>by unfold rdi_r0_b at h; split at h <;> first | exact .inl ⟨_,rfl,h⟩ | exact .inr h
def rdi_r0_c {α:Type} (c:XC) (K:In_r0→Option α) (e:Unit→Option α):Option α:=match c with
  | (XC.mk [(.rf Rk.yld 0),(.arr 1 0 0 v0 false)] [(.lp 0 [(.box 2 0),(.box 3 0),(.box 4 0)] LoopState.ready none),(.arr 4 v1 0 0 0),(.box [(.p .nils)]),(.box [(.p (.bool v2))]),(.box [(.fn (.func 75) [(.box 5 0)])]),(.box [(.arr 6 0 0 v3 false)]),(.arr 4 v4 0 0 0)])=>K (.c v0 v1 v2 v3 v4)
  | _=>e ()
theorem rdi_r0_c_some:RdS mki_r0 @rdi_r0_c:=fun h=>by unfold rdi_r0_c at h; split at h <;> first | exact .inl ⟨_,rfl,h⟩ | exact .inr h
def rdi_r0_d {α:Type} (c:XC) (K:In_r0→Option α) (e:Unit→Option α):Option α:=match c with
  | (XC.mk [(.rf Rk.yld 0),(.p .nils)] [(.lp 0 [(.box 1 0),(.box 2 0),(.box 3 0)] LoopState.ready none),(.box [(.p .nils)]),(.box [(.p (.bool v0))]),(.box [(.fn (.func 75) [(.box 4 0)])]),(.box [(.arr 5 0 0 v1 false)]),(.arr 4 v2 0 0 0)])=>K (.d v0 v1 v2)
  | _=>e ()
theorem rdi_r0_d_some:RdS mki_r0 @rdi_r0_d:=fun h=>by unfold rdi_r0_d at h; split at h <;> first | exact .inl ⟨_,rfl,h⟩ | exact .inr h
def rdi_r0 {α:Type} (c:XC) (K:In_r0→Option α):Option α:=rdi_r0_a c K fun _=>rdi_r0_b c K fun _=>rdi_r0_c c K fun _=>rdi_r0_d c K fun _=>none
theorem aoi:RdT mki_r0 @rdi_r0:=fun h=>(rdi_r0_a_some h).elim id fun h=>(rdi_r0_b_some h).elim id fun h=>(rdi_r0_c_some h).elim id fun h=>(rdi_r0_d_some h).elim id fun h=>absurd h (by simp)
def mko_r0 (s:Out_r0):XRes:=match s with
  | .a v0 v1 v2=>(XRes.mk (.p (.bool true)) [(.lp 0 [(.box 1 0),(.box 2 0),(.box 3 0)] LoopState.ready none),(.box [(.p .nils)]),(.box [(.p (.bool v0))]),(.box [(.fn (.func 75) [(.box 4 0)])]),(.box [(.arr 5 0 0 v1 false)]),(.arr 4 v2 0 0 0)])
  | .b v0 v1 v2=>(XRes.mk (.p (.bool false)) [(.lp 0 [(.box 1 0),(.box 2 0),(.box 3 0)] LoopState.done (some Code.ret)),(.box [(.p .nils)]),(.box [(.p (.bool v0))]),(.box [(.fn (.func 75) [(.box 4 0)])]),(.box [(.arr 5 0 0 v1 false)]),(.arr 4 v2 0 0 0)])
  | .c v0 v1 v2 v3 v4=>(XRes.mk (.p (.bool true)) [(.lp 0 [(.box 2 0),(.box 3 0),(.box 4 0)] LoopState.ready none),(.arr 4 v0 0 0 v1),(.box [(.p .nils)]),(.box [(.p (.bool v2))]),(.box [(.fn (.func 75) [(.box 5 0)])]),(.box [(.arr 6 0 0 v3 false)]),(.arr 4 v4 0 0 0)])
  | .d v0 v1 v2 v3 v4=>(XRes.mk (.p (.bool false)) [(.lp 0 [(.box 2 0),(.box 3 0),(.box 4 0)] LoopState.done (some Code.ret)),(.arr 4 v0 0 0 v1),(.box [(.p .nils)]),(.box [(.p (.bool v2))]),(.box [(.fn (.func 75) [(.box 5 0)])]),(.box [(.arr 6 0 0 v3 false)]),(.arr 4 v4 0 0 0)])
def rdo_r0_a {α:Type} (c:XRes) (K:Out_r0→Option α) (e:Unit→Option α):Option α:=match c with
  | (XRes.mk (.p (.bool true)) [(.lp 0 [(.box 1 0),(.box 2 0),(.box 3 0)] LoopState.ready none),(.box [(.p .nils)]),(.box [(.p (.bool v0))]),(.box [(.fn (.func 75) [(.box 4 0)])]),(.box [(.arr 5 0 0 v1 false)]),(.arr 4 v2 0 0 0)])=>K (.a v0 v1 v2)
  | _=>e ()
theorem rdo_r0_a_some:RdS mko_r0 @rdo_r0_a:=fun h=>by unfold rdo_r0_a at h; split at h <;> first | exact .inl ⟨_,rfl,h⟩ | exact .inr h
def rdo_r0_b {α:Type} (c:XRes) (K:Out_r0→Option α) (e:Unit→Option α):Option α:=match c with
  | (XRes.mk (.p (.bool false)) [(.lp 0 [(.box 1 0),(.box 2 0),(.box 3 0)] LoopState.done (some Code.ret)),(.box [(.p .nils)]),(.box [(.p (.bool v0))]),(.box [(.fn (.func 75) [(.box 4 0)])]),(.box [(.arr 5 0 0 v1 false)]),(.arr 4 v2 0 0 0)])=>K (.b v0 v1 v2)
  | _=>e ()
theorem rdo_r0_b_some:RdS mko_r0 @rdo_r0_b:=fun h=>by unfold rdo_r0_b at h; split at h <;> first | exact .inl ⟨_,rfl,h⟩ | exact .inr h
def rdo_r0_c {α:Type} (c:XRes) (K:Out_r0→Option α) (e:Unit→Option α):Option α:=match c with
  | (XRes.mk (.p (.bool true)) [(.lp 0 [(.box 2 0),(.box 3 0),(.box 4 0)] LoopState.ready none),(.arr 4 v0 0 0 v1),(.box [(.p .nils)]),(.box [(.p (.bool v2))]),(.box [(.fn (.func 75) [(.box 5 0)])]),(.box [(.arr 6 0 0 v3 false)]),(.arr 4 v4 0 0 0)])=>K (.c v0 v1 v2 v3 v4)
  | _=>e ()
theorem rdo_r0_c_some:RdS mko_r0 @rdo_r0_c:=fun h=>by unfold rdo_r0_c at h; split at h <;> first | exact .inl ⟨_,rfl,h⟩ | exact .inr h
def rdo_r0_d {α:Type} (c:XRes) (K:Out_r0→Option α) (e:Unit→Option α):Option α:=match c with
  | (XRes.mk (.p (.bool false)) [(.lp 0 [(.box 2 0),(.box 3 0),(.box 4 0)] LoopState.done (some Code.ret)),(.arr 4 v0 0 0 v1),(.box [(.p .nils)]),(.box [(.p (.bool v2))]),(.box [(.fn (.func 75) [(.box 5 0)])]),(.box [(.arr 6 0 0 v3 false)]),(.arr 4 v4 0 0 0)])=>K (.d v0 v1 v2 v3 v4)
  | _=>e ()
theorem rdo_r0_d_some:RdS mko_r0 @rdo_r0_d:=fun h=>by unfold rdo_r0_d at h; split at h <;> first | exact .inl ⟨_,rfl,h⟩ | exact .inr h
def rdo_r0 {α:Type} (c:XRes) (K:Out_r0→Option α):Option α:=rdo_r0_a c K fun _=>rdo_r0_b c K fun _=>rdo_r0_c c K fun _=>rdo_r0_d c K fun _=>none
theorem anK:RdT mko_r0 @rdo_r0:=fun h=>(rdo_r0_a_some h).elim id fun h=>(rdo_r0_b_some h).elim id fun h=>(rdo_r0_c_some h).elim id fun h=>(rdo_r0_d_some h).elim id fun h=>absurd h (by simp)
def ko_r0 {α:Type} (K:XRes→Option α) (s:Out_r0):Option α:=match s with
  | .a v0 v1 v2=>K (mko_r0 (.a v0 v1 v2))
  | .b v0 v1 v2=>K (mko_r0 (.b v0 v1 v2))
  | .c v0 v1 v2 v3 v4=>K (mko_r0 (.c v0 v1 v2 v3 v4))
  | .d v0 v1 v2 v3 v4=>K (mko_r0 (.d v0 v1 v2 v3 v4))
theorem ko_r0_eq {α:Type} (K:XRes→Option α) (s:Out_r0):ko_r0 K s=K (mko_r0 s):=by cases s <;> rfl
inductive ai8 where
  | a (a0:Bool)
  | b (a0:Nat) (a1:Bool) (a2:List PVal)
inductive ab3 where
  | a (a0:Bool)
  | b (a0:Nat) (a1:Bool) (a2:List PVal)
  | c (a0:Bool) (a1:Nat) (a2:List PVal)
  | d (a0:Bool) (a1:Nat) (a2:List PVal)
  | e (a0:Nat) (a1:Bool) (a2:List PVal) (a3:Nat) (a4:List PVal)
  | f (a0:Nat) (a1:Bool) (a2:List PVal) (a3:Nat) (a4:List PVal)
def ahs (s:ai8):XC:=match s with
  | .a v0=>(XC.mk [(.rf Rk.yld 0),(.box 1 0)] [(.lp 1 [(.box 2 0),(.box 3 0),(.box 4 0)] LoopState.ready none),(.box [(.p .nils)]),(.box [(.p .nils)]),(.box [(.p (.bool v0))]),(.box [(.fn (.func 75) [(.box 5 0)])]),(.box [(.p .nils)])])
  | .b v0 v1 v2=>(XC.mk [(.rf Rk.yld 0),(.box 1 0)] [(.lp 1 [(.box 2 0),(.box 3 0),(.box 4 0)] LoopState.ready none),(.box [(.arr 5 0 0 v0 false)]),(.box [(.p .nils)]),(.box [(.p (.bool v1))]),(.box [(.fn (.func 75) [(.box 6 0)])]),(.arr 1 v2 0 0 0),(.box [(.p .nils)])])
def ak6 {α:Type} (c:XC) (K:ai8→Option α) (e:Unit→Option α):Option α:=match c with
  | (XC.mk [(.rf Rk.yld 0),(.box 1 0)] [(.lp 1 [(.box 2 0),(.box 3 0),(.box 4 0)] LoopState.ready none),(.box [(.p .nils)]),(.box [(.p .nils)]),(.box [(.p (.bool v0))]),(.box [(.fn (.func 75) [(.box 5 0)])]),(.box [(.p .nils)])])=>K (.a v0)
  | _=>e ()
theorem aoz:RdS ahs @ak6:=fun h=>by unfold ak6 at h; split at h <;> first | exact .inl ⟨_,rfl,h⟩ | exact .inr h
def ak5 {α:Type} (c:XC) (K:ai8→Option α) (e:Unit→Option α):Option α:=match c with
  | (XC.mk [(.rf Rk.yld 0),(.box 1 0)] [(.lp 1 [(.box 2 0),(.box 3 0),(.box 4 0)] LoopState.ready none),(.box [(.arr 5 0 0 v0 false)]),(.box [(.p .nils)]),(.box [(.p (.bool v1))]),(.box [(.fn (.func 75) [(.box 6 0)])]),(.arr 1 v2 0 0 0),(.box [(.p .nils)])])=>K (.b v0 v1 v2)
  | _=>e ()
theorem aoy:RdS ahs @ak5:=fun h=>by unfold ak5 at h; split at h <;> first | exact .inl ⟨_,rfl,h⟩ | exact .inr h
def rdi_f120 {α:Type} (c:XC) (K:ai8→Option α):Option α:=ak6 c K fun _=>ak5 c K fun _=>none
theorem ajC:RdT ahs @rdi_f120:=fun h=>(aoz h).elim id fun h=>(aoy h).elim id fun h=>absurd h (by simp)
def aaE (s:ab3):XRes:=match s with
  | .a v0=>(XRes.mk (.p (.tup [])) [(.lp 1 [(.box 2 0),(.box 3 0),(.box 4 0)] LoopState.ready none),(.box [(.p .nils)]),(.box [(.p .nils)]),(.box [(.p (.bool v0))]),(.box [(.fn (.func 75) [(.box 5 0)])]),(.box [(.p .nils)])])
  | .b v0 v1 v2=>(XRes.mk (.p (.tup [])) [(.lp 1 [(.box 2 0),(.box 3 0),(.box 4 0)] LoopState.ready none),(.box [(.arr 5 0 0 v0 false)]),(.box [(.p .nils)]),(.box [(.p (.bool v1))]),(.box [(.fn (.func 75) [(.box 6 0)])]),(.arr 1 v2 0 0 0),(.box [(.p .nils)])])
  | .c v0 v1 v2=>(XRes.mk (.p (.tup [])) [(.lp 1 [(.box 2 0),(.box 3 0),(.box 4 0)] LoopState.ready none),(.box [(.p .nils)]),(.box [(.p .nils)]),(.box [(.p (.bool v0))]),(.box [(.fn (.func 75) [(.box 5 0)])]),(.box [(.arr 6 0 0 v1 false)]),(.arr 4 v2 0 0 0)])
  | .d v0 v1 v2=>(XRes.mk (.p (.tup [])) [(.lp 1 [(.box 2 0),(.box 3 0),(.box 4 0)] LoopState.done (some Code.ret)),(.box [(.p .nils)]),(.box [(.p .nils)]),(.box [(.p (.bool v0))]),(.box [(.fn (.func 75) [(.box 5 0)])]),(.box [(.arr 6 0 0 v1 false)]),(.arr 4 v2 0 0 0)])
  | .e v0 v1 v2 v3 v4=>(XRes.mk (.p (.tup [])) [(.lp 1 [(.box 2 0),(.box 3 0),(.box 4 0)] LoopState.ready none),(.box [(.arr 5 0 0 v0 false)]),(.box [(.p .nils)]),(.box [(.p (.bool v1))]),(.box [(.fn (.func 75) [(.box 6 0)])]),(.arr 1 v2 0 0 0),(.box [(.arr 7 0 0 v3 false)]),(.arr 4 v4 0 0 0)])
  | .f v0 v1 v2 v3 v4=>(XRes.mk (.p (.tup [])) [(.lp 1 [(.box 2 0),(.box 3 0),(.box 4 0)] LoopState.done (some Code.ret)),(.box [(.arr 5 0 0 v0 false)]),(.box [(.p .nils)]),(.box [(.p (.bool v1))]),(.box [(.fn (.func 75) [(.box 6 0)])]),(.arr 1 v2 0 0 0),(.box [(.arr 7 0 0 v3 false)]),(.arr 4 v4 0 0 0)])
def akU {α:Type} (c:XRes) (K:ab3→Option α) (e:Unit→Option α):Option α:=match c with
  | (XRes.mk (.p (.tup [])) [(.lp 1 [(.box 2 0),(.box 3 0),(.box 4 0)] LoopState.ready none),(.box [(.p .nils)]),(.box [(.p .nils)]),(.box [(.p (.bool v0))]),(.box [(.fn (.func 75) [(.box 5 0)])]),(.box [(.p .nils)])])=>K (.a v0)
  | _=>e ()
theorem aof:RdS aaE @akU:=fun h=>by unfold akU at h; split at h <;> first | exact .inl ⟨_,rfl,h⟩ | exact .inr h
def akT {α:Type} (c:XRes) (K:ab3→Option α) (e:Unit→Option α):Option α:=match c with
  | (XRes.mk (.p (.tup [])) [(.lp 1 [(.box 2 0),(.box 3 0),(.box 4 0)] LoopState.ready none),(.box [(.arr 5 0 0 v0 false)]),(.box [(.p .nils)]),(.box [(.p (.bool v1))]),(.box [(.fn (.func 75) [(.box 6 0)])]),(.arr 1 v2 0 0 0),(.box [(.p .nils)])])=>K (.b v0 v1 v2)
  | _=>e ()
theorem aoe:RdS aaE @akT:=fun h=>by unfold akT at h; split at h <;> first | exact .inl ⟨_,rfl,h⟩ | exact .inr h
def akS {α:Type} (c:XRes) (K:ab3→Option α) (e:Unit→Option α):Option α:=match c with
  | (XRes.mk (.p (.tup [])) [(.lp 1 [(.box 2 0),(.box 3 0),(.box 4 0)] LoopState.ready none),(.box [(.p .nils)]),(.box [(.p .nils)]),(.box [(.p (.bool v0))]),(.box [(.fn (.func 75) [(.box 5 0)])]),(.box [(.arr 6 0 0 v1 false)]),(.arr 4 v2 0 0 0)])=>K (.c v0 v1 v2)
  | _=>e ()
theorem aod:RdS aaE @akS:=fun h=>by unfold akS at h; split at h <;> first | exact .inl ⟨_,rfl,h⟩ | exact .inr h
def akR {α:Type} (c:XRes) (K:ab3→Option α) (e:Unit→Option α):Option α:=match c with
  | (XRes.mk (.p (.tup [])) [(.lp 1 [(.box 2 0),(.box 3 0),(.box 4 0)] LoopState.done (some Code.ret)),(.box [(.p .nils)]),(.box [(.p .nils)]),(.box [(.p (.bool v0))]),(.box [(.fn (.func 75) [(.box 5 0)])]),(.box [(.arr 6 0 0 v1 false)]),(.arr 4 v2 0 0 0)])=>K (.d v0 v1 v2)
  | _=>e ()
theorem aoc:RdS aaE @akR:=fun h=>by unfold akR at h; split at h <;> first | exact .inl ⟨_,rfl,h⟩ | exact .inr h
def akQ {α:Type} (c:XRes) (K:ab3→Option α) (e:Unit→Option α):Option α:=match c with
  | (XRes.mk (.p (.tup [])) [(.lp 1 [(.box 2 0),(.box 3 0),(.box 4 0)] LoopState.ready none),(.box [(.arr 5 0 0 v0 false)]),(.box [(.p .nils)]),(.box [(.p (.bool v1))]),(.box [(.fn (.func 75) [(.box 6 0)])]),(.arr 1 v2 0 0 0),(.box [(.arr 7 0 0 v3 false)]),(.arr 4 v4 0 0 0)])=>K (.e v0 v1 v2 v3 v4)
  | _=>e ()
theorem aob:RdS aaE @akQ:=fun h=>by unfold akQ at h; split at h <;> first | exact .inl ⟨_,rfl,h⟩ | exact .inr h
def akP {α:Type} (c:XRes) (K:ab3→Option α) (e:Unit→Option α):Option α:=match c with
  | (XRes.mk (.p (.tup [])) [(.lp 1 [(.box 2 0),(.box 3 0),(.box 4 0)] LoopState.done (some Code.ret)),(.box [(.arr 5 0 0 v0 false)]),(.box [(.p .nils)]),(.box [(.p (.bool v1))]),(.box [(.fn (.func 75) [(.box 6 0)])]),(.arr 1 v2 0 0 0),(.box [(.arr 7 0 0 v3 false)]),(.arr 4 v4 0 0 0)])=>K (.f v0 v1 v2 v3 v4)
  | _=>e ()
theorem aoa:RdS aaE @akP:=fun h=>by unfold akP at h; split at h <;> first | exact .inl ⟨_,rfl,h⟩ | exact .inr h
def ahp {α:Type} (c:XRes) (K:ab3→Option α):Option α:=akU c K fun _=>akT c K fun _=>akS c K fun _=>akR c K fun _=>akQ c K fun _=>akP c K fun _=>none
theorem ajy:RdT aaE @ahp:=fun h=>(aof h).elim id fun h=>(aoe h).elim id fun h=>(aod h).elim id fun h=>(aoc h).elim id fun h=>(aob h).elim id fun h=>(aoa h).elim id fun h=>absurd h (by simp)
def ko_f120 {α:Type} (K:XRes→Option α) (s:ab3):Option α:=match s with
  | .a v0=>K (aaE (.a v0))
  | .b v0 v1 v2=>K (aaE (.b v0 v1 v2))
  | .c v0 v1 v2=>K (aaE (.c v0 v1 v2))
  | .d v0 v1 v2=>K (aaE (.d v0 v1 v2))
  | .e v0 v1 v2 v3 v4=>K (aaE (.e v0 v1 v2 v3 v4))
  | .f v0 v1 v2 v3 v4=>K (aaE (.f v0 v1 v2 v3 v4))
theorem ko_f120_eq {α:Type} (K:XRes→Option α) (s:ab3):ko_f120 K s=K (aaE s):=by cases s <;> rfl
inductive aeR where
  | a (a0:Bool)
  | b (a0:Nat) (a1:List PVal) (a2:Bool)
  | c (a0:Nat) (a1:List PVal) (a2:Nat) (a3:List PVal) (a4:Bool)
  | d (a0:Nat) (a1:List PVal) (a2:Nat) (a3:List PVal) (a4:Bool) (a5:Nat) (a6:List PVal)
inductive aby where
  | a (a0:Bool) (a1:Nat) (a2:List PVal)
  | b (a0:Bool) (a1:Nat) (a2:List PVal)
  | c (a0:Nat) (a1:List PVal) (a2:Bool) (a3:Nat) (a4:List PVal)
  | d (a0:Nat) (a1:List PVal) (a2:Bool) (a3:Nat) (a4:List PVal)
  | e (a0:Nat) (a1:List PVal) (a2:Bool)
  | f (a0:List PVal) (a1 a2:Nat) (a3:List PVal) (a4:Bool) (a5:Nat) (a6:List PVal)
  | g (a0:List PVal) (a1 a2:Nat) (a3:List PVal) (a4:Bool) (a5:Nat) (a6:List PVal)
  | h (a0:List PVal) (a1 a2:Nat) (a3:List PVal) (a4:Bool)
def aem (s:aeR):XC:=match s with
  | .a v0=>(XC.mk [(.p .nils),(.box 0 0),(.box 1 0),(.box 2 0)] [(.box [(.p .nils)]),(.box [(.rf Rk.yld 3)]),(.box [(.fn (.func 123) [(.box 0 0),(.box 1 0),(.box 2 0)])]),(.lp 1 [(.box 4 0),(.box 5 0),(.box 6 0)] LoopState.ready none),(.box [(.p .nils)]),(.box [(.p (.bool v0))]),(.box [(.fn (.func 75) [(.box 7 0)])]),(.box [(.p .nils)])])
  | .b v0 v1 v2=>(XC.mk [(.p .nils),(.box 0 0),(.box 1 0),(.box 2 0)] [(.box [(.arr 3 0 0 v0 false)]),(.box [(.rf Rk.yld 4)]),(.box [(.fn (.func 123) [(.box 0 0),(.box 1 0),(.box 2 0)])]),(.arr 1 v1 0 0 0),(.lp 1 [(.box 5 0),(.box 6 0),(.box 7 0)] LoopState.ready none),(.box [(.p .nils)]),(.box [(.p (.bool v2))]),(.box [(.fn (.func 75) [(.box 8 0)])]),(.box [(.p .nils)])])
  | .c v0 v1 v2 v3 v4=>(XC.mk [(.arr 0 0 0 v0 false),(.box 1 0),(.box 2 0),(.box 3 0)] [(.arr 4 v1 0 0 0),(.box [(.arr 4 0 0 v2 false)]),(.box [(.rf Rk.yld 5)]),(.box [(.fn (.func 123) [(.box 1 0),(.box 2 0),(.box 3 0)])]),(.arr 1 v3 0 0 0),(.lp 1 [(.box 6 0),(.box 7 0),(.box 8 0)] LoopState.ready none),(.box [(.p .nils)]),(.box [(.p (.bool v4))]),(.box [(.fn (.func 75) [(.box 9 0)])]),(.box [(.p .nils)])])
  | .d v0 v1 v2 v3 v4 v5 v6=>(XC.mk [(.arr 0 0 0 v0 false),(.box 1 0),(.box 2 0),(.box 3 0)] [(.arr 4 v1 0 0 0),(.box [(.arr 4 0 0 v2 false)]),(.box [(.rf Rk.yld 5)]),(.box [(.fn (.func 123) [(.box 1 0),(.box 2 0),(.box 3 0)])]),(.arr 1 v3 0 0 0),(.lp 1 [(.box 6 0),(.box 7 0),(.box 8 0)] LoopState.ready none),(.box [(.p .nils)]),(.box [(.p (.bool v4))]),(.box [(.fn (.func 75) [(.box 9 0)])]),(.box [(.arr 10 0 0 v5 false)]),(.arr 4 v6 0 0 0)])
def ak4 {α:Type} (c:XC) (K:aeR→Option α) (e:Unit→Option α):Option α:=match c with
  | (XC.mk [(.p .nils),(.box 0 0),(.box 1 0),(.box 2 0)] [(.box [(.p .nils)]),(.box [(.rf Rk.yld 3)]),(.box [(.fn (.func 123) [(.box 0 0),(.box 1 0),(.box 2 0)])]),(.lp 1 [(.box 4 0),(.box 5 0),(.box 6 0)] LoopState.ready none),(.box [(.p .nils)]),(.box [(.p (.bool v0))]),(.box [(.fn (.func 75) [(.box 7 0)])]),(.box [(.p .nils)])])=>K (.a v0)
  | _=>e ()
theorem aox:RdS aem @ak4:=fun h=>by unfold ak4 at h; split at h <;> first | exact .inl ⟨_,rfl,h⟩ | exact .inr h
def ak3 {α:Type} (c:XC) (K:aeR→Option α) (e:Unit→Option α):Option α:=match c with
  | (XC.mk [(.p .nils),(.box 0 0),(.box 1 0),(.box 2 0)] [(.box [(.arr 3 0 0 v0 false)]),(.box [(.rf Rk.yld 4)]),(.box [(.fn (.func 123) [(.box 0 0),(.box 1 0),(.box 2 0)])]),(.arr 1 v1 0 0 0),(.lp 1 [(.box 5 0),(.box 6 0),(.box 7 0)] LoopState.ready none),(.box [(.p .nils)]),(.box [(.p (.bool v2))]),(.box [(.fn (.func 75) [(.box 8 0)])]),(.box [(.p .nils)])])=>K (.b v0 v1 v2)
  | _=>e ()
theorem aow:RdS aem @ak3:=fun h=>by unfold ak3 at h; split at h <;> first | exact .inl ⟨_,rfl,h⟩ | exact .inr h
def ak2 {α:Type} (c:XC) (K:aeR→Option α) (e:Unit→Option α):Option α:=match c with
  | (XC.mk [(.arr 0 0 0 v0 false),(.box 1 0),(.box 2 0),(.box 3 0)] [(.arr 4 v1 0 0 0),(.box [(.arr 4 0 0 v2 false)]),(.box [(.rf Rk.yld 5)]),(.box [(.fn (.func 123) [(.box 1 0),(.box 2 0),(.box 3 0)])]),(.arr 1 v3 0 0 0),(.lp 1 [(.box 6 0),(.box 7 0),(.box 8 0)] LoopState.ready none),(.box [(.p .nils)]),(.box [(.p (.bool v4))]),(.box [(.fn (.func 75) [(.box 9 0)])]),(.box [(.p .nils)])])=>K (.c v0 v1 v2 v3 v4)
  | _=>e ()
theorem aov:RdS aem @ak2:=fun h=>by unfold ak2 at h; split at h <;> first | exact .inl ⟨_,rfl,h⟩ | exact .inr h
def ak1 {α:Type} (c:XC) (K:aeR→Option α) (e:Unit→Option α):Option α:=match c with
  | (XC.mk [(.arr 0 0 0 v0 false),(.box 1 0),(.box 2 0),(.box 3 0)] [(.arr 4 v1 0 0 0),(.box [(.arr 4 0 0 v2 false)]),(.box [(.rf Rk.yld 5)]),(.box [(.fn (.func 123) [(.box 1 0),(.box 2 0),(.box 3 0)])]),(.arr 1 v3 0 0 0),(.lp 1 [(.box 6 0),(.box 7 0),(.box 8 0)] LoopState.ready none),(.box [(.p .nils)]),(.box [(.p (.bool v4))]),(.box [(.fn (.func 75) [(.box 9 0)])]),(.box [(.arr 10 0 0 v5 false)]),(.arr 4 v6 0 0 0)])=>K (.d v0 v1 v2 v3 v4 v5 v6)
  | _=>e ()
theorem aou:RdS aem @ak1:=fun h=>by unfold ak1 at h; split at h <;> first | exact .inl ⟨_,rfl,h⟩ | exact .inr h
def rdi_f123 {α:Type} (c:XC) (K:aeR→Option α):Option α:=ak4 c K fun _=>ak3 c K fun _=>ak2 c K fun _=>ak1 c K fun _=>none
theorem ajB:RdT aem @rdi_f123:=fun h=>(aox h).elim id fun h=>(aow h).elim id fun h=>(aov h).elim id fun h=>(aou h).elim id fun h=>absurd h (by simp)
def aaj (s:aby):XRes:=match s with
  | .a v0 v1 v2=>(XRes.mk (.p (.bool true)) [(.box [(.p .nils)]),(.box [(.rf Rk.yld 3)]),(.box [(.fn (.func 123) [(.box 0 0),(.box 1 0),(.box 2 0)])]),(.lp 1 [(.box 4 0),(.box 5 0),(.box 6 0)] LoopState.ready none),(.box [(.p .nils)]),(.box [(.p (.bool v0))]),(.box [(.fn (.func 75) [(.box 7 0)])]),(.box [(.arr 8 0 0 v1 false)]),(.arr 4 v2 0 0 0)])
  | .b v0 v1 v2=>(XRes.mk (.p (.bool false)) [(.box [(.p .nils)]),(.box [(.rf Rk.yld 3)]),(.box [(.fn (.func 123) [(.box 0 0),(.box 1 0),(.box 2 0)])]),(.lp 1 [(.box 4 0),(.box 5 0),(.box 6 0)] LoopState.done (some Code.ret)),(.box [(.p .nils)]),(.box [(.p (.bool v0))]),(.box [(.fn (.func 75) [(.box 7 0)])]),(.box [(.arr 8 0 0 v1 false)]),(.arr 4 v2 0 0 0)])
  | .c v0 v1 v2 v3 v4=>(XRes.mk (.p (.bool true)) [(.box [(.arr 3 0 0 v0 false)]),(.box [(.rf Rk.yld 4)]),(.box [(.fn (.func 123) [(.box 0 0),(.box 1 0),(.box 2 0)])]),(.arr 1 v1 0 0 0),(.lp 1 [(.box 5 0),(.box 6 0),(.box 7 0)] LoopState.ready none),(.box [(.p .nils)]),(.box [(.p (.bool v2))]),(.box [(.fn (.func 75) [(.box 8 0)])]),(.box [(.arr 9 0 0 v3 false)]),(.arr 4 v4 0 0 0)])
  | .d v0 v1 v2 v3 v4=>(XRes.mk (.p (.bool false)) [(.box [(.arr 3 0 0 v0 false)]),(.box [(.rf Rk.yld 4)]),(.box [(.fn (.func 123) [(.box 0 0),(.box 1 0),(.box 2 0)])]),(.arr 1 v1 0 0 0),(.lp 1 [(.box 5 0),(.box 6 0),(.box 7 0)] LoopState.done (some Code.ret)),(.box [(.p .nils)]),(.box [(.p (.bool v2))]),(.box [(.fn (.func 75) [(.box 8 0)])]),(.box [(.arr 9 0 0 v3 false)]),(.arr 4 v4 0 0 0)])
  | .e v0 v1 v2=>(XRes.mk (.p (.bool true)) [(.box [(.arr 3 0 0 v0 false)]),(.box [(.rf Rk.yld 4)]),(.box [(.fn (.func 123) [(.box 0 0),(.box 1 0),(.box 2 0)])]),(.arr 1 v1 0 0 0),(.lp 1 [(.box 5 0),(.box 6 0),(.box 7 0)] LoopState.ready none),(.box [(.p .nils)]),(.box [(.p (.bool v2))]),(.box [(.fn (.func 75) [(.box 8 0)])]),(.box [(.p .nils)])])
  | .f v0 v1 v2 v3 v4 v5 v6=>(XRes.mk (.p (.bool true)) [(.arr 4 v0 0 0 v1),(.box [(.arr 4 0 0 v2 false)]),(.box [(.rf Rk.yld 5)]),(.box [(.fn (.func 123) [(.box 1 0),(.box 2 0),(.box 3 0)])]),(.arr 1 v3 0 0 0),(.lp 1 [(.box 6 0),(.box 7 0),(.box 8 0)] LoopState.ready none),(.box [(.p .nils)]),(.box [(.p (.bool v4))]),(.box [(.fn (.func 75) [(.box 9 0)])]),(.box [(.arr 10 0 0 v5 false)]),(.arr 4 v6 0 0 0)])
  | .g v0 v1 v2 v3 v4 v5 v6=>(XRes.mk (.p (.bool false)) [(.arr 4 v0 0 0 v1),(.box [(.arr 4 0 0 v2 false)]),(.box [(.rf Rk.yld 5)]),(.box [(.fn (.func 123) [(.box 1 0),(.box 2 0),(.box 3 0)])]),(.arr 1 v3 0 0 0),(.lp 1 [(.box 6 0),(.box 7 0),(.box 8 0)] LoopState.done (some Code.ret)),(.box [(.p .nils)]),(.box [(.p (.bool v4))]),(.box [(.fn (.func 75) [(.box 9 0)])]),(.box [(.arr 10 0 0 v5 false)]),(.arr 4 v6 0 0 0)])
  | .h v0 v1 v2 v3 v4=>(XRes.mk (.p (.bool true)) [(.arr 4 v0 0 0 v1),(.box [(.arr 4 0 0 v2 false)]),(.box [(.rf Rk.yld 5)]),(.box [(.fn (.func 123) [(.box 1 0),(.box 2 0),(.box 3 0)])]),(.arr 1 v3 0 0 0),(.lp 1 [(.box 6 0),(.box 7 0),(.box 8 0)] LoopState.ready none),(.box [(.p .nils)]),(.box [(.p (.bool v4))]),(.box [(.fn (.func 75) [(.box 9 0)])]),(.box [(.p .nils)])])
def akO {α:Type} (c:XRes) (K:aby→Option α) (e:Unit→Option α):Option α:=match c with
  | (XRes.mk (.p (.bool true)) [(.box [(.p .nils)]),(.box [(.rf Rk.yld 3)]),(.box [(.fn (.func 123) [(.box 0 0),(.box 1 0),(.box 2 0)])]),(.lp 1 [(.box 4 0),(.box 5 0),(.box 6 0)] LoopState.ready none),(.box [(.p .nils)]),(.box [(.p (.bool v0))]),(.box [(.fn (.func 75) [(.box 7 0)])]),(.box [(.arr 8 0 0 v1 false)]),(.arr 4 v2 0 0 0)])=>K (.a v0 v1 v2)
  | _=>e ()
theorem an9:RdS aaj @akO:=fun h=>by unfold akO at h; split at h <;> first | exact .inl ⟨_,rfl,h⟩ | exact .inr h
def akN {α:Type} (c:XRes) (K:aby→Option α) (e:Unit→Option α):Option α:=match c with
  | (XRes.mk (.p (.bool false)) [(.box [(.p .nils)]),(.box [(.rf Rk.yld 3)]),(.box [(.fn (.func 123) [(.box 0 0),(.box 1 0),(.box 2 0)])]),(.lp 1 [(.box 4 0),(.box 5 0),(.box 6 0)] LoopState.done (some Code.ret)),(.box [(.p .nils)]),(.box [(.p (.bool v0))]),(.box [(.fn (.func 75) [(.box 7 0)])]),(.box [(.arr 8 0 0 v1 false)]),(.arr 4 v2 0 0 0)])=>K (.b v0 v1 v2)
  | _=>e ()
theorem an8:RdS aaj @akN:=fun h=>by unfold akN at h; split at h <;> first | exact .inl ⟨_,rfl,h⟩ | exact .inr h
def akM {α:Type} (c:XRes) (K:aby→Option α) (e:Unit→Option α):Option α:=match c with
  | (XRes.mk (.p (.bool true)) [(.box [(.arr 3 0 0 v0 false)]),(.box [(.rf Rk.yld 4)]),(.box [(.fn (.func 123) [(.box 0 0),(.box 1 0),(.box 2 0)])]),(.arr 1 v1 0 0 0),(.lp 1 [(.box 5 0),(.box 6 0),(.box 7 0)] LoopState.ready none),(.box [(.p .nils)]),(.box [(.p (.bool v2))]),(.box [(.fn (.func 75) [(.box 8 0)])]),(.box [(.arr 9 0 0 v3 false)]),(.arr 4 v4 0 0 0)])=>K (.c v0 v1 v2 v3 v4)
  | _=>e ()
theorem an7:RdS aaj @akM:=fun h=>by unfold akM at h; split at h <;> first | exact .inl ⟨_,rfl,h⟩ | exact .inr h
def akL {α:Type} (c:XRes) (K:aby→Option α) (e:Unit→Option α):Option α:=match c with
  | (XRes.mk (.p (.bool false)) [(.box [(.arr 3 0 0 v0 false)]),(.box [(.rf Rk.yld 4)]),(.box [(.fn (.func 123) [(.box 0 0),(.box 1 0),(.box 2 0)])]),(.arr 1 v1 0 0 0),(.lp 1 [(.box 5 0),(.box 6 0),(.box 7 0)] LoopState.done (some Code.ret)),(.box [(.p .nils)]),(.box [(.p (.bool v2))]),(.box [(.fn (.func 75) [(.box 8 0)])]),(.box [(.arr 9 0 0 v3 false)]),(.arr 4 v4 0 0 0)])=>K (.d v0 v1 v2 v3 v4)
  | _=>e ()
theorem an6:RdS aaj @akL:=fun h=>by unfold akL at h; split at h <;> first | exact .inl ⟨_,rfl,h⟩ | exact .inr h
def akK {α:Type} (c:XRes) (K:aby→Option α) (e:Unit→Option α):Option α:=match c with
  | (XRes.mk (.p (.bool true)) [(.box [(.arr 3 0 0 v0 false)]),(.box [(.rf Rk.yld 4)]),(.box [(.fn (.func 123) [(.box 0 0),(.box 1 0),(.box 2 0)])]),(.arr 1 v1 0 0 0),(.lp 1 [(.box 5 0),(.box 6 0),(.box 7 0)] LoopState.ready none),(.box [(.p .nils)]),(.box [(.p (.bool v2))]),(.box [(.fn (.func 75) [(.box 8 0)])]),(.box [(.p .nils)])])=>K (.e v0 v1 v2)
  | _=>e ()
theorem an5:RdS aaj @akK:=fun h=>by unfold akK at h; split at h <;> first | exact .inl ⟨_,rfl,h⟩ | exact .inr h
def akJ {α:Type} (c:XRes) (K:aby→Option α) (e:Unit→Option α):Option α:=match c with
  | (XRes.mk (.p (.bool true)) [(.arr 4 v0 0 0 v1),(.box [(.arr 4 0 0 v2 false)]),(.box [(.rf Rk.yld 5)]),(.box [(.fn (.func 123) [(.box 1 0),(.box 2 0),(.box 3 0)])]),(.arr 1 v3 0 0 0),(.lp 1 [(.box 6 0),(.box 7 0),(.box 8 0)] LoopState.ready none),(.box [(.p .nils)]),(.box [(.p (.bool v4))]),(.box [(.fn (.func 75) [(.box 9 0)])]),(.box [(.arr 10 0 0 v5 false)]),(.arr 4 v6 0 0 0)])=>K (.f v0 v1 v2 v3 v4 v5 v6)
  | _=>e ()
theorem an4:RdS aaj @akJ:=fun h=>by unfold akJ at h; split at h <;> first | exact .inl ⟨_,rfl,h⟩ | exact .inr h
def akI {α:Type} (c:XRes) (K:aby→Option α) (e:Unit→Option α):Option α:=match c with
  | (XRes.mk (.p (.bool false)) [(.arr 4 v0 0 0 v1),(.box [(.arr 4 0 0 v2 false)]),(.box [(.rf Rk.yld 5)]),(.box [(.fn (.func 123) [(.box 1 0),(.box 2 0),(.box 3 0)])]),(.arr 1 v3 0 0 0),(.lp 1 [(.box 6 0),(.box 7 0),(.box 8 0)] LoopState.done (some Code.ret)),(.box [(.p .nils)]),(.box [(.p (.bool v4))]),(.box [(.fn (.func 75) [(.box 9 0)])]),(.box [(.arr 10 0 0 v5 false)]),(.arr 4 v6 0 0 0)])=>K (.g v0 v1 v2 v3 v4 v5 v6)
  | _=>e ()
theorem an3:RdS aaj @akI:=fun h=>by unfold akI at h; split at h <;> first | exact .inl ⟨_,rfl,h⟩ | exact .inr h
def akH {α:Type} (c:XRes) (K:aby→Option α) (e:Unit→Option α):Option α:=match c with
  | (XRes.mk (.p (.bool true)) [(.arr 4 v0 0 0 v1),(.box [(.arr 4 0 0 v2 false)]),(.box [(.rf Rk.yld 5)]),(.box [(.fn (.func 123) [(.box 1 0),(.box 2 0),(.box 3 0)])]),(.arr 1 v3 0 0 0),(.lp 1 [(.box 6 0),(.box 7 0),(.box 8 0)] LoopState.ready none),(.box [(.p .nils)]),(.box [(.p (.bool v4))]),(.box [(.fn (.func 75) [(.box 9 0)])]),(.box [(.p .nils)])])=>K (.h v0 v1 v2 v3 v4)
  | _=>e ()
theorem an2:RdS aaj @akH:=fun h=>by unfold akH at h; split at h <;> first | exact .inl ⟨_,rfl,h⟩ | exact .inr h
def abu {α:Type} (c:XRes) (K:aby→Option α):Option α:=akO c K fun _=>akN c K fun _=>akM c K fun _=>akL c K fun _=>akK c K fun _=>akJ c K fun _=>akI c K fun _=>akH c K fun _=>none
theorem ajx:RdT aaj @abu:=fun h=>(an9 h).elim id fun h=>(an8 h).elim id fun h=>(an7 h).elim id fun h=>(an6 h).elim id fun h=>(an5 h).elim id fun h=>(an4 h).elim id fun h=>(an3 h).elim id fun h=>(an2 h).elim id fun h=>absurd h (by simp)
def ko_f123 {α:Type} (K:XRes→Option α) (s:aby):Option α:=match s with
  | .a v0 v1 v2=>K (aaj (.a v0 v1 v2))
  | .b v0 v1 v2=>K (aaj (.b v0 v1 v2))
  | .c v0 v1 v2 v3 v4=>K (aaj (.c v0 v1 v2 v3 v4))
  | .d v0 v1 v2 v3 v4=>K (aaj (.d v0 v1 v2 v3 v4))
  | .e v0 v1 v2=>K (aaj (.e v0 v1 v2))
  | .f v0 v1 v2 v3 v4 v5 v6=>K (aaj (.f v0 v1 v2 v3 v4 v5 v6))
  | .g v0 v1 v2 v3 v4 v5 v6=>K (aaj (.g v0 v1 v2 v3 v4 v5 v6))
  | .h v0 v1 v2 v3 v4=>K (aaj (.h v0 v1 v2 v3 v4))
theorem ko_f123_eq {α:Type} (K:XRes→Option α) (s:aby):ko_f123 K s=K (aaj s):=by cases s <;> rfl
inductive In_r1 where
  | a (a0:PVal) (a1:Bool)
  | b (a0:PVal) (a1:Bool) (a2:Nat) (a3:List PVal)
inductive Out_r1 where
  | a (a0:Bool) (a1:Nat) (a2:List PVal)
  | b (a0:Bool) (a1:Nat) (a2:List PVal)
def mki_r1 (s:In_r1):XC:=match s with
  | .a v0 v1=>(XC.mk [(.rf Rk.yld 0),(.p v0)] [(.lp 1 [(.box 1 0),(.box 2 0),(.box 3 0)] LoopState.ready none),(.box [(.p .nils)]),(.box [(.p (.bool v1))]),(.box [(.fn (.func 75) [(.box 4 0)])]),(.box [(.p .nils)])])
  | .b v0 v1 v2 v3=>(XC.mk [(.rf Rk.yld 0),(.p v0)] [(.lp 1 [(.box 1 0),(.box 2 0),(.box 3 0)] LoopState.ready none),(.box [(.p .nils)]),(.box [(.p (.bool v1))]),(.box [(.fn (.func 75) [(.box 4 0)])]),(.box [(.arr 5 0 0 v2 false)]),(.arr 4 v3 0 0 0)])
def rdi_r1_a {α:Type} (c:XC) (K:In_r1→Option α) (e:Unit→Option α):Option α:=match c with
  | (XC.mk [(.rf Rk.yld 0),(.p v0)] [(.lp 1 [(.box 1 0),(.box 2 0),(.box 3 0)] LoopState.ready none),(.box [(.p .nils)]),(.box [(.p (.bool v1))]),(.box [(.fn (.func 75) [(.box 4 0)])]),(.box [(.p .nils)])])=>K (.a v0 v1)
  | _=>e ()
theorem rdi_r1_a_some:RdS mki_r1 @rdi_r1_a:=fun h=>by unfold rdi_r1_a at h; split at h <;> first | exact .inl ⟨_,rfl,h⟩ | exact .inr h
def rdi_r1_b {α:Type} (c:XC) (K:In_r1→Option α) (e:Unit→Option α):Option α:=match c with
  | (XC.mk [(.rf Rk.yld 0),(.p v0)] [(.lp 1 [(.box 1 0),(.box 2 0),(.box 3 0)] LoopState.ready none),(.box [(.p .nils)]),(.box [(.p (.bool v1))]),(.box [(.fn (.func 75) [(.box 4 0)])]),(.box [(.arr 5 0 0 v2 false)]),(.arr 4 v3 0 0 0)])=>K (.b v0 v1 v2 v3)
  | _=>e ()
theorem rdi_r1_b_some:RdS mki_r1 @rdi_r1_b:=fun h=>by unfold rdi_r1_b at h; split at h <;> first | exact .inl ⟨_,rfl,h⟩ | exact .inr h
def rdi_r1 {α:Type} (c:XC) (K:In_r1→Option α):Option α:=rdi_r1_a c K fun _=>rdi_r1_b c K fun _=>none
theorem aoh:RdT mki_r1 @rdi_r1:=fun h=>(rdi_r1_a_some h).elim id fun h=>(rdi_r1_b_some h).elim id fun h=>absurd h (by simp)
def mko_r1 (s:Out_r1):XRes:=match s with
  | .a v0 v1 v2=>(XRes.mk (.p (.bool true)) [(.lp 1 [(.box 1 0),(.box 2 0),(.box 3 0)] LoopState.ready none),(.box [(.p .nils)]),(.box [(.p (.bool v0))]),(.box [(.fn (.func 75) [(.box 4 0)])]),(.box [(.arr 5 0 0 v1 false)]),(.arr 4 v2 0 0 0)])
  | .b v0 v1 v2=>(XRes.mk (.p (.bool false)) [(.lp 1 [(.box 1 0),(.box 2 0),(.box 3 0)] LoopState.done (some Code.ret)),(.box [(.p .nils)]),(.box [(.p (.bool v0))]),(.box [(.fn (.func 75) [(.box 4 0)])]),(.box [(.arr 5 0 0 v1 false)]),(.arr 4 v2 0 0 0)])
def rdo_r1_a {α:Type} (c:XRes) (K:Out_r1→Option α) (e:Unit→Option α):Option α:=match c with
  | (XRes.mk (.p (.bool true)) [(.lp 1 [(.box 1 0),(.box 2 0),(.box 3 0)] LoopState.ready none),(.box [(.p .nils)]),(.box [(.p (.bool v0))]),(.box [(.fn (.func 75) [(.box 4 0)])]),(.box [(.arr 5 0 0 v1 false)]),(.arr 4 v2 0 0 0)])=>K (.a v0 v1 v2)
  | _=>e ()
theorem rdo_r1_a_some:RdS mko_r1 @rdo_r1_a:=fun h=>by unfold rdo_r1_a at h; split at h <;> first | exact .inl ⟨_,rfl,h⟩ | exact .inr h
def rdo_r1_b {α:Type} (c:XRes) (K:Out_r1→Option α) (e:Unit→Option α):Option α:=match c with
  | (XRes.mk (.p (.bool false)) [(.lp 1 [(.box 1 0),(.box 2 0),(.box 3 0)] LoopState.done (some Code.ret)),(.box [(.p .nils)]),(.box [(.p (.bool v0))]),(.box [(.fn (.func 75) [(.box 4 0)])]),(.box [(.arr 5 0 0 v1 false)]),(.arr 4 v2 0 0 0)])=>K (.b v0 v1 v2)
  | _=>e ()
theorem rdo_r1_b_some:RdS mko_r1 @rdo_r1_b:=fun h=>by unfold rdo_r1_b at h; split at h <;> first | exact .inl ⟨_,rfl,h⟩ | exact .inr h
def rdo_r1 {α:Type} (c:XRes) (K:Out_r1→Option α):Option α:=rdo_r1_a c K fun _=>rdo_r1_b c K fun _=>none
theorem anJ:RdT mko_r1 @rdo_r1:=fun h=>(rdo_r1_a_some h).elim id fun h=>(rdo_r1_b_some h).elim id fun h=>absurd h (by simp)
def ko_r1 {α:Type} (K:XRes→Option α) (s:Out_r1):Option α:=match s with
  | .a v0 v1 v2=>K (mko_r1 (.a v0 v1 v2))
  | .b v0 v1 v2=>K (mko_r1 (.b v0 v1 v2))
theorem ko_r1_eq {α:Type} (K:XRes→Option α) (s:Out_r1):ko_r1 K s=K (mko_r1 s):=by cases s <;> rfl
structure Tds where
  t_f75:In_f75→OX
  t_f79:In_f79→OX
  t_f77:In_f77→OX
  t_f126:ag0→OX
  t_f127:aeQ→OX
  t_r0:In_r0→OX
  t_f120:ai8→OX
  t_f123:aeR→OX
  t_r1:In_r1→OX
def td (ts:Tds):Sw.Told:=(tellFn 75 rdi_f75 ts.t_f75 abk ko_f75 (tellFn 79 rdi_f79 ts.t_f79 anN ko_f79 (tellFn 77 rdi_f77 ts.t_f77 anQ ko_f77 (tellFn 126 rdi_f126 ts.t_f126 ajw ko_f126 (tellFn 127 rdi_f127 ts.t_f127 aba ko_f127 (tellRd 0 rdi_r0 ts.t_r0 rdo_r0 ko_r0 (tellFn 120 rdi_f120 ts.t_f120 ahp ko_f120 (tellFn 123 rdi_f123 ts.t_f123 abu ko_f123 (tellRd 1 rdi_r1 ts.t_r1 rdo_r1 ko_r1 noTold)))))))))
def FF_ein (k:Nat) (rec:Rec1) (ts:Tds) (p0 p1 p2:PVal):OA :=
 (intK .i64 p0 fun z1=>intK .i64 p1 fun z2=>intK .i64 p2 fun z3=>ifB (decide (z1 ≥ z2)) (some (.p (.bool (decide (z1≤z3))))) (some (.p (.bool false))))
def FF_ain (k:Nat) (rec:Rec1) (ts:Tds) (p0 p1 p2:PVal):OA :=
 (intK .i64 p0 fun z1=>intK .i64 p1 fun z2=>intK .i64 p2 fun z3=>ifB (decide (z1 ≥ z2)) (some (.p (.bool (decide (z1≤z3))))) (some (.p (.bool false))))
def aqF (k:Nat) (rec:Rec1) (ts:Tds) (p0 p1:PVal):OA :=
 (intK .i64 p0 fun z1=>intK .i64 p1 fun z2=>ifB (decide (z1 < z2)) (some (.p (.int .i64 (Int.negSucc 0)))) (ifB (decide (z1 > z2)) (some (.p (.int .i64 (Int.ofNat 1)))) (some (.p (.int .i64 (Int.ofNat 0))))))
def aqy (k:Nat) (rec:Rec1) (ts:Tds) (p0:PVal):OA :=
 (kK p0 fun z4 z7 a b c=>ifB (z7 == (Int.ofNat 0)) (ifB (a == (Int.ofNat 0)) (some (.p (.bool (b == (Int.ofNat 0))))) (some (.p (.bool false)))) (some (.p (.bool false))))
def aqg:Code:=sb 0 (bd aiR)
inductive ab0 where
  | a (a0:List Nat) (a1:Int)
inductive aeD where
  | a
  | b (a0:List Nat)
def agG (s:ab0):XC:=match s with
  | .a v0 v1=>(XC.mk [(.p (.str v0)),(.p (.int .i64 v1))] [])
def aeH {α:Type} (c:XC) (K:ab0→Option α) (e:Unit→Option α):Option α:=match c with
  | (XC.mk [(.p (.str v0)),(.p (.int .i64 v1))] [])=>K (.a v0 v1)
  | _=>e ()
theorem ais:RdS agG @aeH:=fun h=>by unfold aeH at h; split at h <;> first | exact .inl ⟨_,rfl,h⟩ | exact .inr h
def amq {α:Type} (c:XC) (K:ab0→Option α):Option α:=aeH c K fun _=>none
theorem alc:RdT agG @amq:=fun h=>(ais h).elim id fun h=>absurd h (by simp)
def aeJ:XE→List Nat:=(outsOf [(0,[0])] [2])
def agI (K:KX AVal) (x:aeD):OA:=match x with
  | .a=>kq K XE.ret aeJ XE.ret (XC.mk [(.p (.bool false))] [])
  | .b v0=>kq K XE.normal aeJ (XE.exit 0) (XC.mk [(.p (.str v0))] [])
def aeB (k:Nat) (rec:Rec1) (ts:Tds) (kn:ab0→OA) (kx:aeD→OA) (s:ab0):OA:=match s with
  | .a s3 z4=>(ifB (decide (z4 < (((List.length s3):Nat):Int))) (natK z4 fun n5=>nthK s3 n5 fun n6=>ifB (decide ((Int.ofNat n6) < (Int.ofNat 32))) (kx .a) (natK z4 fun n7=>nthK s3 n7 fun n8=>ifB (decide ((Int.ofNat n8) > (Int.ofNat 126))) (kx .a) (natK z4 fun n9=>nthK s3 n9 fun c=>ifB ((Int.ofNat c) == (Int.ofNat 34)) (kx .a) (natK z4 fun d=>nthK s3 d fun e=>ifB ((Int.ofNat e) == (Int.ofNat 92)) (kx .a) (kn (.a s3 (IntKind.wrap .i64 (z4 + (Int.ofNat 1))))))))) (kx (.b s3)))
def abV (k:Nat) (rec:Rec1) (ts:Tds) (kx:aeD→OA):Nat→ab0→OA
  | 0,_=>none
  | j + 1,s=>aeB k rec ts (abV k rec ts kx j) kx s
def ajc (k:Nat) (rec:Rec1) (ts:Tds) (p0:PVal):OA :=
 (strK p0 fun l1=>abV k rec ts (fun x=>match x with | .a=>(some (.p (.bool false))) | .b s2=>some (.p (.bool (decide ((((List.length s2):Nat):Int)≤(Int.ofNat 20)))))) k (.a l1 (Int.ofNat 0)))
def loaletters (k:Nat) (rec:Rec1) (ts:Tds):Loops AVal:=(lo1 0 0 [0,3] amq (fun K=>abV k rec ts (agI K) k) lo0)
def FF_xin (k:Nat) (rec:Rec1) (ts:Tds) (p0 p1 p2:PVal):OA :=
 (intK .i64 p0 fun z1=>intK .i64 p1 fun z2=>intK .i64 p2 fun z3=>ifB (decide (z1 ≥ z2)) (some (.p (.bool (decide (z1≤z3))))) (some (.p (.bool false))))
def aqx (k:Nat) (rec:Rec1) (ts:Tds) (p0:PVal):OA :=
 (intK .i64 p0 fun z1=>bindK (rec i_xin [(.int .i64 z1),(.int .i64 (Int.negSucc 999999999)),(.int .i64 (Int.ofNat 1000000000))]) fun x2=>pK x2 fun x3=>boolK x3 fun b4=>some (.p (.bool b4)))
def ajb (k:Nat) (rec:Rec1) (ts:Tds) (p0:PVal):OA :=
 (boolK p0 fun b1=>ifB b1 (some (.p (.int .i64 (Int.ofNat 0)))) (some (.p (.int .i64 (Int.ofNat 2)))))
def beWeigh_0:Code:=sb 0 (bd apP)
inductive ada where
  | a (a0 a1 a2 a3 a4 a5 a6:Int) (a7:PVal)
inductive ahW where
  | a (a0:Int)
def alq (s:ada):XC:=match s with
  | .a v0 v1 v2 v3 v4 v5 v6 v7=>(XC.mk [(.p (.int .i64 v0)),(.p (.int .i64 v1)),(.box 0 0),(.p (.int .i64 v2))] [(.box [(.p (.int .i64 v3)),(.p (.int .i64 v4)),(.p (.int .i64 v5)),(.p (.int .i64 v6)),(.p v7)])])
def agp {α:Type} (c:XC) (K:ada→Option α) (e:Unit→Option α):Option α:=match c with
  | (XC.mk [(.p (.int .i64 v0)),(.p (.int .i64 v1)),(.box 0 0),(.p (.int .i64 v2))] [(.box [(.p (.int .i64 v3)),(.p (.int .i64 v4)),(.p (.int .i64 v5)),(.p (.int .i64 v6)),(.p v7)])])=>K (.a v0 v1 v2 v3 v4 v5 v6 v7)
  | _=>e ()
theorem ak8:RdS alq @agp:=fun h=>by unfold agp at h; split at h <;> first | exact .inl ⟨_,rfl,h⟩ | exact .inr h
def rdeWeigh_0 {α:Type} (c:XC) (K:ada→Option α):Option α:=agp c K fun _=>none
theorem aoC:RdT alq @rdeWeigh_0:=fun h=>(ak8 h).elim id fun h=>absurd h (by simp)
def amt:XE→List Nat:=(outsOf [(0,[1])] [6])
def alz (K:KX AVal) (x:ahW):OA:=match x with
  | .a v0=>kq K XE.normal amt (XE.exit 0) (XC.mk [(.p (.int .i64 v0))] [])
def ahP (k:Nat) (rec:Rec1) (ts:Tds) (kn:ada→OA) (kx:ahW→OA) (s:ada):OA:=match s with
  | .a b c d e f g h i=>(slK i fun j=>ifB (decide (d < (((List.length j):Nat):Int))) (ifB (decide (b ≥ (Int.ofNat 0))) (slK i fun l=>natK d fun m=>nthK l m fun n=>kK n fun o p q r t=>bindK (rec adp ((.agg [(.int .i64 o),(.int .i64 p),(.int .i64 q),(.int .i64 r),t]) :: ((.int .i64 b) :: [(.int .i64 (IntKind.wrap .i64 (c - (Int.ofNat 1))))]))) fun u=>pK u fun v=>intK .i64 v fun w=>kn (.a w c (IntKind.wrap .i64 (d + (Int.ofNat 1))) e f g h i)) (kx (.a b))) (kx (.a b)))
def adj (k:Nat) (rec:Rec1) (ts:Tds) (kx:ahW→OA):Nat→ada→OA
  | 0,_=>none
  | j + 1,s=>ahP k rec ts (adj k rec ts kx j) kx s
def aqA (k:Nat) (rec:Rec1) (ts:Tds) (p0 p1 p2:PVal):OA :=
 (kK p0 fun z4 z7 b c d=>intK .i64 p1 fun e=>intK .i64 p2 fun f=>ifB (decide (e < (Int.ofNat 1))) (some (.p (.int .i64 (Int.negSucc 0)))) (ifB (decide (f < (Int.ofNat 1))) (some (.p (.int .i64 (Int.negSucc 0)))) (adj k rec ts (fun x=>match x with | .a g=>some (.p (.int .i64 g))) k (.a (IntKind.wrap .i64 (e - (Int.ofNat 1))) f (Int.ofNat 0) z4 z7 b c d))))
def loeWeigh (k:Nat) (rec:Rec1) (ts:Tds):Loops AVal:=(lo1 0 0 [1,2,3,7] rdeWeigh_0 (fun K=>adj k rec ts (alz K) k) lo0)
def baWeigh_0:Code:=sb 0 (bd apU)
inductive adf where
  | a (a0 a1 a2 a3 a4:Int) (a5:List Nat) (a6:PVal)
inductive ah0 where
  | a (a0:Int)
def alu (s:adf):XC:=match s with
  | .a v0 v1 v2 v3 v4 v5 v6=>(XC.mk [(.p (.int .i64 v0)),(.p (.int .i64 v1)),(.box 0 0),(.p (.int .i64 v2))] [(.box [(.p (.int .i64 v3)),(.p (.int .i64 v4)),(.p (.str v5)),(.p v6)])])
def agu {α:Type} (c:XC) (K:adf→Option α) (e:Unit→Option α):Option α:=match c with
  | (XC.mk [(.p (.int .i64 v0)),(.p (.int .i64 v1)),(.box 0 0),(.p (.int .i64 v2))] [(.box [(.p (.int .i64 v3)),(.p (.int .i64 v4)),(.p (.str v5)),(.p v6)])])=>K (.a v0 v1 v2 v3 v4 v5 v6)
  | _=>e ()
theorem ale:RdS alu @agu:=fun h=>by unfold agu at h; split at h <;> first | exact .inl ⟨_,rfl,h⟩ | exact .inr h
def rdaWeigh_0 {α:Type} (c:XC) (K:adf→Option α):Option α:=agu c K fun _=>none
theorem aoP:RdT alu @rdaWeigh_0:=fun h=>(ale h).elim id fun h=>absurd h (by simp)
def amu:XE→List Nat:=(outsOf [(0,[1])] [6])
def alD (K:KX AVal) (x:ah0):OA:=match x with
  | .a v0=>kq K XE.normal amu (XE.exit 0) (XC.mk [(.p (.int .i64 v0))] [])
def ahS (k:Nat) (rec:Rec1) (ts:Tds) (kn:adf→OA) (kx:ah0→OA) (s:adf):OA:=match s with
  | .a b c d e f g h=>(slK h fun i=>ifB (decide (d < (((List.length i):Nat):Int))) (ifB (decide (b ≥ (Int.ofNat 0))) (slK h fun j=>natK d fun l=>nthK j l fun m=>vK m fun n o p q=>bindK (rec adq ((.agg [(.int .i64 n),(.int .i64 o),(.str p),q]) :: ((.int .i64 b) :: [(.int .i64 (IntKind.wrap .i64 (c - (Int.ofNat 1))))]))) fun r=>pK r fun t=>intK .i64 t fun u=>kn (.a u c (IntKind.wrap .i64 (d + (Int.ofNat 1))) e f g h)) (kx (.a b))) (kx (.a b)))
def adm (k:Nat) (rec:Rec1) (ts:Tds) (kx:ah0→OA):Nat→adf→OA
  | 0,_=>none
  | j + 1,s=>ahS k rec ts (adm k rec ts kx j) kx s
def aqH (k:Nat) (rec:Rec1) (ts:Tds) (p0 p1 p2:PVal):OA :=
 (vK p0 fun z4 z7 b c=>intK .i64 p1 fun d=>intK .i64 p2 fun e=>ifB (decide (d < (Int.ofNat 1))) (some (.p (.int .i64 (Int.negSucc 0)))) (ifB (decide (e < (Int.ofNat 1))) (some (.p (.int .i64 (Int.negSucc 0)))) (adm k rec ts (fun x=>match x with | .a f=>some (.p (.int .i64 f))) k (.a (IntKind.wrap .i64 (d - (Int.ofNat 1))) e (Int.ofNat 0) z4 z7 b c))))
def loaWeigh (k:Nat) (rec:Rec1) (ts:Tds):Loops AVal:=(lo1 0 0 [1,2,3,7] rdaWeigh_0 (fun K=>adm k rec ts (alD K) k) lo0)
def babrief_0:Code:=sb 0 (bd apT)
inductive ade where
  | a (a0 a1 a2:Int) (a3:List Nat) (a4:PVal)
inductive ahZ where
  | a
  | b (a0 a1:Int) (a2:List Nat) (a3:PVal)
def als (s:ade):XC:=match s with
  | .a v0 v1 v2 v3 v4=>(XC.mk [(.box 0 0),(.p (.int .i64 v0))] [(.box [(.p (.int .i64 v1)),(.p (.int .i64 v2)),(.p (.str v3)),(.p v4)])])
def agt {α:Type} (c:XC) (K:ade→Option α) (e:Unit→Option α):Option α:=match c with
  | (XC.mk [(.box 0 0),(.p (.int .i64 v0))] [(.box [(.p (.int .i64 v1)),(.p (.int .i64 v2)),(.p (.str v3)),(.p v4)])])=>K (.a v0 v1 v2 v3 v4)
  | _=>e ()
theorem ald:RdS als @agt:=fun h=>by unfold agt at h; split at h <;> first | exact .inl ⟨_,rfl,h⟩ | exact .inr h
def rdabrief_0 {α:Type} (c:XC) (K:ade→Option α):Option α:=agt c K fun _=>none
theorem aoO:RdT als @rdabrief_0:=fun h=>(ald h).elim id fun h=>absurd h (by simp)
def agB:XE→List Nat:=(outsOf [(0,[1])] [2])
def alC (K:KX AVal) (x:ahZ):OA:=match x with
  | .a=>kq K XE.ret agB XE.ret (XC.mk [(.p (.bool false))] [])
  | .b v0 v1 v2 v3=>kq K XE.normal agB (XE.exit 0) (XC.mk [(.box 0 0)] [(.box [(.p (.int .i64 v0)),(.p (.int .i64 v1)),(.p (.str v2)),(.p v3)])])
def ahR (k:Nat) (rec:Rec1) (ts:Tds) (kn:ade→OA) (kx:ahZ→OA) (s:ade):OA:=match s with
  | .a c d e f g=>(slK g fun h=>ifB (decide (c < (((List.length h):Nat):Int))) (slK g fun i=>natK c fun j=>nthK i j fun l=>vK l fun m n o p=>bindK (rec aeq [(.agg [(.int .i64 m),(.int .i64 n),(.str o),p])]) fun q=>pK q fun r=>boolK r fun t=>ifB (!t) (kx .a) (kn (.a (IntKind.wrap .i64 (c + (Int.ofNat 1))) d e f g))) (kx (.b d e f g)))
def adl (k:Nat) (rec:Rec1) (ts:Tds) (kx:ahZ→OA):Nat→ade→OA
  | 0,_=>none
  | j + 1,s=>ahR k rec ts (adl k rec ts kx j) kx s
def aqG (k:Nat) (rec:Rec1) (ts:Tds) (p0:PVal):OA :=
 (vK p0 fun z4 z7 c d=>adl k rec ts (fun x=>match x with | .a=>(some (.p (.bool false))) | .b e f g h=>some (.p (.bool (decide ((((List.length g):Nat):Int)≤(Int.ofNat 30)))))) k (.a (Int.ofNat 0) z4 z7 c d))
def loabrief (k:Nat) (rec:Rec1) (ts:Tds):Loops AVal:=(lo1 0 0 [1,3] rdabrief_0 (fun K=>adl k rec ts (alC K) k) lo0)
def beshaped_0:Code:=sb 0 (bd alL)
inductive acF where
  | a (a0 a1 a2 a3 a4:Int) (a5:PVal)
inductive af8 where
  | a
  | b (a0 a1 a2 a3:Int) (a4:PVal)
def aiC (s:acF):XC:=match s with
  | .a v0 v1 v2 v3 v4 v5=>(XC.mk [(.box 0 0),(.p (.int .i64 v0))] [(.box [(.p (.int .i64 v1)),(.p (.int .i64 v2)),(.p (.int .i64 v3)),(.p (.int .i64 v4)),(.p v5)])])
def afi {α:Type} (c:XC) (K:acF→Option α) (e:Unit→Option α):Option α:=match c with
  | (XC.mk [(.box 0 0),(.p (.int .i64 v0))] [(.box [(.p (.int .i64 v1)),(.p (.int .i64 v2)),(.p (.int .i64 v3)),(.p (.int .i64 v4)),(.p v5)])])=>K (.a v0 v1 v2 v3 v4 v5)
  | _=>e ()
theorem ajD:RdS aiC @afi:=fun h=>by unfold afi at h; split at h <;> first | exact .inl ⟨_,rfl,h⟩ | exact .inr h
def aoA {α:Type} (c:XC) (K:acF→Option α):Option α:=afi c K fun _=>none
theorem amU:RdT aiC @aoA:=fun h=>(ajD h).elim id fun h=>absurd h (by simp)
def afz:XE→List Nat:=(outsOf [(0,[1])] [2])
def aiF (K:KX AVal) (x:af8):OA:=match x with
  | .a=>kq K XE.ret afz XE.ret (XC.mk [(.p (.bool false))] [])
  | .b v0 v1 v2 v3 v4=>kq K XE.normal afz (XE.exit 0) (XC.mk [(.box 0 0)] [(.box [(.p (.int .i64 v0)),(.p (.int .i64 v1)),(.p (.int .i64 v2)),(.p (.int .i64 v3)),(.p v4)])])
def afW (k:Nat) (rec:Rec1) (ts:Tds) (kn:acF→OA) (kx:af8→OA) (s:acF):OA:=match s with
  | .a c d e f g h=>(slK h fun i=>ifB (decide (c < (((List.length i):Nat):Int))) (slK h fun j=>natK c fun l=>nthK j l fun m=>kK m fun n o p q r=>bindK (rec ady [(.agg [(.int .i64 n),(.int .i64 o),(.int .i64 p),(.int .i64 q),r])]) fun t=>pK t fun u=>boolK u fun v=>ifB (!v) (kx .a) (kn (.a (IntKind.wrap .i64 (c + (Int.ofNat 1))) d e f g h))) (kx (.b d e f g h)))
def acn (k:Nat) (rec:Rec1) (ts:Tds) (kx:af8→OA):Nat→acF→OA
  | 0,_=>none
  | j + 1,s=>afW k rec ts (acn k rec ts kx j) kx s
def al4 (k:Nat) (rec:Rec1) (ts:Tds) (p0:PVal):OA :=
 (kK p0 fun z4 z7 c d e=>acn k rec ts (fun x=>match x with | .a=>(some (.p (.bool false))) | .b f g h i j=>ifB (f == (Int.ofNat 1)) (ifB (f == (Int.ofNat 1)) (bindK (rec ado [(.agg [(.int .i64 f),(.int .i64 g),(.int .i64 h),(.int .i64 i),j])]) fun l=>pK l fun m=>boolK m fun n=>ifB n (slK j fun o=>some (.p (.bool ((((List.length o):Nat):Int) == (Int.ofNat 0))))) (some (.p (.bool false)))) (ifB (f == (Int.ofNat 2)) (bindK (rec i_ein [(.int .i64 g),(.int .i64 (Int.negSucc 999999999)),(.int .i64 (Int.ofNat 1000000000))]) fun q=>pK q fun r=>boolK r fun t=>ifB t (bindK (rec i_ein ((.int .i64 h) :: [(.int .i64 g),(.int .i64 (Int.ofNat 1000000000))])) fun u=>pK u fun v=>boolK v fun w=>ifB w (ifB (i == (Int.ofNat 0)) (slK j fun y=>some (.p (.bool ((((List.length y):Nat):Int) == (Int.ofNat 0))))) (some (.p (.bool false)))) (some (.p (.bool false)))) (some (.p (.bool false)))) (ifB (f == (Int.ofNat 5)) (bindK (rec ado [(.agg [(.int .i64 f),(.int .i64 g),(.int .i64 h),(.int .i64 i),j])]) fun z=>pK z fun a0=>boolK a0 fun b0=>ifB b0 (slK j fun c0=>bindK (rec i_ein [(.int .i64 (((List.length c0):Nat):Int)),(.int .i64 (Int.ofNat 2)),(.int .i64 (Int.ofNat 6))]) fun d0=>pK d0 fun e0=>boolK e0 fun f0=>some (.p (.bool f0))) (some (.p (.bool false)))) (ifB (f == (Int.ofNat 6)) (ifB (g == (Int.ofNat 0)) (ifB (h == (Int.ofNat 0)) (bindK (rec i_ein [(.int .i64 i),(.int .i64 (Int.ofNat 0)),(.int .i64 (Int.ofNat 199))]) fun g0=>pK g0 fun h0=>boolK h0 fun i0=>ifB i0 (slK j fun j0=>some (.p (.bool ((((List.length j0):Nat):Int) == (Int.ofNat 1))))) (some (.p (.bool false)))) (some (.p (.bool false)))) (some (.p (.bool false)))) (some (.p (.bool false))))))) (ifB (f == (Int.ofNat 3)) (ifB (f == (Int.ofNat 3)) (bindK (rec ado [(.agg [(.int .i64 f),(.int .i64 g),(.int .i64 h),(.int .i64 i),j])]) fun l0=>pK l0 fun m0=>boolK m0 fun n0=>ifB n0 (slK j fun o0=>some (.p (.bool ((((List.length o0):Nat):Int) == (Int.ofNat 0))))) (some (.p (.bool false)))) (ifB (f == (Int.ofNat 2)) (bindK (rec i_ein [(.int .i64 g),(.int .i64 (Int.negSucc 999999999)),(.int .i64 (Int.ofNat 1000000000))]) fun q0=>pK q0 fun r0=>boolK r0 fun t0=>ifB t0 (bindK (rec i_ein ((.int .i64 h) :: [(.int .i64 g),(.int .i64 (Int.ofNat 1000000000))])) fun u0=>pK u0 fun v0=>boolK v0 fun w0=>ifB w0 (ifB (i == (Int.ofNat 0)) (slK j fun x0=>some (.p (.bool ((((List.length x0):Nat):Int) == (Int.ofNat 0))))) (some (.p (.bool false)))) (some (.p (.bool false)))) (some (.p (.bool false)))) (ifB (f == (Int.ofNat 5)) (bindK (rec ado [(.agg [(.int .i64 f),(.int .i64 g),(.int .i64 h),(.int .i64 i),j])]) fun y0=>pK y0 fun z0=>boolK z0 fun a1=>ifB a1 (slK j fun b1=>bindK (rec i_ein [(.int .i64 (((List.length b1):Nat):Int)),(.int .i64 (Int.ofNat 2)),(.int .i64 (Int.ofNat 6))]) fun c1=>pK c1 fun d1=>boolK d1 fun e1=>some (.p (.bool e1))) (some (.p (.bool false)))) (ifB (f == (Int.ofNat 6)) (ifB (g == (Int.ofNat 0)) (ifB (h == (Int.ofNat 0)) (bindK (rec i_ein [(.int .i64 i),(.int .i64 (Int.ofNat 0)),(.int .i64 (Int.ofNat 199))]) fun f1=>pK f1 fun g1=>boolK g1 fun h1=>ifB h1 (slK j fun i1=>some (.p (.bool ((((List.length i1):Nat):Int) == (Int.ofNat 1))))) (some (.p (.bool false)))) (some (.p (.bool false)))) (some (.p (.bool false)))) (some (.p (.bool false))))))) (ifB (f == (Int.ofNat 4)) (bindK (rec ado [(.agg [(.int .i64 f),(.int .i64 g),(.int .i64 h),(.int .i64 i),j])]) fun j1=>pK j1 fun l1=>boolK l1 fun m1=>ifB m1 (slK j fun n1=>some (.p (.bool ((((List.length n1):Nat):Int) == (Int.ofNat 0))))) (some (.p (.bool false)))) (ifB (f == (Int.ofNat 2)) (bindK (rec i_ein [(.int .i64 g),(.int .i64 (Int.negSucc 999999999)),(.int .i64 (Int.ofNat 1000000000))]) fun o1=>pK o1 fun p1=>boolK p1 fun q1=>ifB q1 (bindK (rec i_ein ((.int .i64 h) :: [(.int .i64 g),(.int .i64 (Int.ofNat 1000000000))])) fun r1=>pK r1 fun t1=>boolK t1 fun u1=>ifB u1 (ifB (i == (Int.ofNat 0)) (slK j fun v1=>some (.p (.bool ((((List.length v1):Nat):Int) == (Int.ofNat 0))))) (some (.p (.bool false)))) (some (.p (.bool false)))) (some (.p (.bool false)))) (ifB (f == (Int.ofNat 5)) (bindK (rec ado [(.agg [(.int .i64 f),(.int .i64 g),(.int .i64 h),(.int .i64 i),j])]) fun w1=>pK w1 fun x1=>boolK x1 fun y1=>ifB y1 (slK j fun z1=>bindK (rec i_ein [(.int .i64 (((List.length z1):Nat):Int)),(.int .i64 (Int.ofNat 2)),(.int .i64 (Int.ofNat 6))]) fun a2=>pK a2 fun b2=>boolK b2 fun c2=>some (.p (.bool c2))) (some (.p (.bool false)))) (ifB (f == (Int.ofNat 6)) (ifB (g == (Int.ofNat 0)) (ifB (h == (Int.ofNat 0)) (bindK (rec i_ein [(.int .i64 i),(.int .i64 (Int.ofNat 0)),(.int .i64 (Int.ofNat 199))]) fun d2=>pK d2 fun e2=>boolK e2 fun f2=>ifB f2 (slK j fun g2=>some (.p (.bool ((((List.length g2):Nat):Int) == (Int.ofNat 1))))) (some (.p (.bool false)))) (some (.p (.bool false)))) (some (.p (.bool false)))) (some (.p (.bool false))))))))) k (.a (Int.ofNat 0) z4 z7 c d e))
def loeshaped (k:Nat) (rec:Rec1) (ts:Tds):Loops AVal:=(lo1 0 0 [1,3] aoA (fun K=>acn k rec ts (aiF K) k) lo0)
def aqC (k:Nat) (rec:Rec1) (ts:Tds) (p0:PVal):OA :=
 (kK p0 fun z4 z7 a b c=>bindK (rec adp [(.agg [(.int .i64 z4),(.int .i64 z7),(.int .i64 a),(.int .i64 b),c]),(.int .i64 (Int.ofNat 30)),(.int .i64 (Int.ofNat 9))]) fun d=>pK d fun e=>intK .i64 e fun f=>some (.p (.bool (decide (f ≥ (Int.ofNat 0))))))
def aqJ (k:Nat) (rec:Rec1) (ts:Tds) (p0:PVal):OA :=
 (vK p0 fun z4 z7 a b=>bindK (rec adq [(.agg [(.int .i64 z4),(.int .i64 z7),(.str a),b]),(.int .i64 (Int.ofNat 260)),(.int .i64 (Int.ofNat 12))]) fun c=>pK c fun d=>intK .i64 d fun e=>ifB (decide (e ≥ (Int.ofNat 0))) (bindK (rec aeq [(.agg [(.int .i64 z4),(.int .i64 z7),(.str a),b])]) fun f=>pK f fun g=>boolK g fun h=>some (.p (.bool h))) (some (.p (.bool false))))
def aqB (k:Nat) (rec:Rec1) (ts:Tds) (p0:PVal):OA :=
 (kK p0 fun z4 z7 a b c=>bindK (rec adp [(.agg [(.int .i64 z4),(.int .i64 z7),(.int .i64 a),(.int .i64 b),c]),(.int .i64 (Int.ofNat 20)),(.int .i64 (Int.ofNat 6))]) fun d=>pK d fun e=>intK .i64 e fun f=>ifB (decide (f ≥ (Int.ofNat 0))) (bindK (rec ady [(.agg [(.int .i64 z4),(.int .i64 z7),(.int .i64 a),(.int .i64 b),c])]) fun g=>pK g fun h=>boolK h fun i=>some (.p (.bool i))) (some (.p (.bool false))))
def beempty_0:Code:=sb 0 (bd apO)
inductive ac9 where
  | a (a0 a1 a2 a3 a4:Int) (a5:PVal)
inductive ahV where
  | a
  | b
def alp (s:ac9):XC:=match s with
  | .a v0 v1 v2 v3 v4 v5=>(XC.mk [(.box 0 0),(.p (.int .i64 v0))] [(.box [(.p (.int .i64 v1)),(.p (.int .i64 v2)),(.p (.int .i64 v3)),(.p (.int .i64 v4)),(.p v5)])])
def ago {α:Type} (c:XC) (K:ac9→Option α) (e:Unit→Option α):Option α:=match c with
  | (XC.mk [(.box 0 0),(.p (.int .i64 v0))] [(.box [(.p (.int .i64 v1)),(.p (.int .i64 v2)),(.p (.int .i64 v3)),(.p (.int .i64 v4)),(.p v5)])])=>K (.a v0 v1 v2 v3 v4 v5)
  | _=>e ()
theorem ak7:RdS alp @ago:=fun h=>by unfold ago at h; split at h <;> first | exact .inl ⟨_,rfl,h⟩ | exact .inr h
def rdeempty_0 {α:Type} (c:XC) (K:ac9→Option α):Option α:=ago c K fun _=>none
theorem aoB:RdT alp @rdeempty_0:=fun h=>(ak7 h).elim id fun h=>absurd h (by simp)
def agy:XE→List Nat:=(outsOf [(0,[])] [2])
def aly (K:KX AVal) (x:ahV):OA:=match x with
  | .a=>kq K XE.ret agy XE.ret (XC.mk [(.p (.bool true))] [])
  | .b=>kq K XE.normal agy (XE.exit 0) (XC.mk [] [])
def ahO (k:Nat) (rec:Rec1) (ts:Tds) (kn:ac9→OA) (kx:ahV→OA) (s:ac9):OA:=match s with
  | .a c d e f g h=>(slK h fun i=>ifB (decide (c < (((List.length i):Nat):Int))) (slK h fun j=>natK c fun l=>nthK j l fun m=>kK m fun n o p q r=>bindK (rec acf [(.agg [(.int .i64 n),(.int .i64 o),(.int .i64 p),(.int .i64 q),r])]) fun t=>pK t fun u=>tupK u fun v=>consK v fun w x=>intK .i64 w fun y=>consK x fun z a0=>boolK z fun b0=>endK a0 (ifB b0 (ifB (y == (Int.ofNat 0)) (kx .a) (kn (.a (IntKind.wrap .i64 (c + (Int.ofNat 1))) d e f g h))) (kn (.a (IntKind.wrap .i64 (c + (Int.ofNat 1))) d e f g h)))) (kx .b))
def adi (k:Nat) (rec:Rec1) (ts:Tds) (kx:ahV→OA):Nat→ac9→OA
  | 0,_=>none
  | j + 1,s=>ahO k rec ts (adi k rec ts kx j) kx s
def aqz (k:Nat) (rec:Rec1) (ts:Tds) (p0:PVal):OA :=
 (kK p0 fun z4 z7 c d e=>adi k rec ts (fun x=>match x with | .a=>(some (.p (.bool true))) | .b=>some (.p (.bool false))) k (.a (Int.ofNat 0) z4 z7 c d e))
def loeempty (k:Nat) (rec:Rec1) (ts:Tds):Loops AVal:=(lo1 0 0 [1,3] rdeempty_0 (fun K=>adi k rec ts (aly K) k) lo0)
def beCount_1:Code:=sb 1 (bd apQ)
inductive adb where
  | a (a0 a1 a2 a3 a4 a5:Int) (a6:PVal)
inductive ahX where
  | a (a0:Int)
  | b (a0:Int)
def alr (s:adb):XC:=match s with
  | .a v0 v1 v2 v3 v4 v5 v6=>(XC.mk [(.box 0 0),(.p (.int .i64 v0)),(.p (.int .i64 v1))] [(.box [(.p (.int .i64 v2)),(.p (.int .i64 v3)),(.p (.int .i64 v4)),(.p (.int .i64 v5)),(.p v6)])])
def agq {α:Type} (c:XC) (K:adb→Option α) (e:Unit→Option α):Option α:=match c with
  | (XC.mk [(.box 0 0),(.p (.int .i64 v0)),(.p (.int .i64 v1))] [(.box [(.p (.int .i64 v2)),(.p (.int .i64 v3)),(.p (.int .i64 v4)),(.p (.int .i64 v5)),(.p v6)])])=>K (.a v0 v1 v2 v3 v4 v5 v6)
  | _=>e ()
theorem ak9:RdS alr @agq:=fun h=>by unfold agq at h; split at h <;> first | exact .inl ⟨_,rfl,h⟩ | exact .inr h
def rdeCount_1 {α:Type} (c:XC) (K:adb→Option α):Option α:=agq c K fun _=>none
theorem aoF:RdT alr @rdeCount_1:=fun h=>(ak9 h).elim id fun h=>absurd h (by simp)
def agz:XE→List Nat:=(outsOf [(1,[5]),(0,[])] [2,3])
def alA (K:KX AVal) (x:ahX):OA:=match x with
  | .a v0=>kq K XE.ret agz XE.ret (XC.mk [(.p (.int .i64 v0)),(.p (.bool false))] [])
  | .b v0=>kq K XE.normal agz (XE.exit 1) (XC.mk [(.p (.int .i64 v0))] [])
def ahQ (k:Nat) (rec:Rec1) (ts:Tds) (kn:adb→OA) (kx:ahX→OA) (s:adb):OA:=match s with
  | .a c d e f g h i=>(slK i fun j=>ifB (decide (d < (((List.length j):Nat):Int))) (slK i fun l=>natK d fun m=>nthK l m fun n=>kK n fun o p q r t=>bindK (rec acf [(.agg [(.int .i64 o),(.int .i64 p),(.int .i64 q),(.int .i64 r),t])]) fun u=>pK u fun v=>tupK v fun w=>consK w fun x y=>intK .i64 x fun z=>consK y fun a0 b0=>boolK a0 fun c0=>endK b0 (ifB (!c0) (kx (.a (Int.ofNat 0))) (ifB (decide ((IntKind.wrap .i64 (c * z)) > (Int.ofNat 1000000000))) (bindK (rec aj5 [(.agg [(.int .i64 e),(.int .i64 f),(.int .i64 g),(.int .i64 h),i])]) fun d0=>pK d0 fun e0=>boolK e0 fun f0=>ifB (!f0) (kx (.a (Int.ofNat 0))) (kn (.a (Decidable.rec (fun g0=>IntKind.wrap .i64 (c * z)) (fun g0=>Int.ofNat 1000000000) (Int.neg.match_1 (fun g0=>Decidable (Int.NonNeg g0)) ((IntKind.wrap .i64 (c * z)) - (Int.ofNat 1000000001)) (fun g0=>Decidable.isTrue (Int.NonNeg.mk g0)) (fun g0=>Decidable.isFalse (Int.decNonneg._proof_1 g0)))) (IntKind.wrap .i64 (d + (Int.ofNat 1))) e f g h i))) (kn (.a (Decidable.rec (fun h0=>IntKind.wrap .i64 (c * z)) (fun h0=>Int.ofNat 1000000000) (Int.neg.match_1 (fun h0=>Decidable (Int.NonNeg h0)) ((IntKind.wrap .i64 (c * z)) - (Int.ofNat 1000000001)) (fun h0=>Decidable.isTrue (Int.NonNeg.mk h0)) (fun h0=>Decidable.isFalse (Int.decNonneg._proof_1 h0)))) (IntKind.wrap .i64 (d + (Int.ofNat 1))) e f g h i))))) (kx (.b c)))
def adk (k:Nat) (rec:Rec1) (ts:Tds) (kx:ahX→OA):Nat→adb→OA
  | 0,_=>none
  | j + 1,s=>ahQ k rec ts (adk k rec ts kx j) kx s
def aqD (k:Nat) (rec:Rec1) (ts:Tds) (p0:PVal):OA :=
 (kK p0 fun z4 z7 c d e=>ifB (z4 == (Int.ofNat 1)) (some (.p (.tup [(.int .i64 (Int.ofNat 0)),(.bool true)]))) (ifB (z4 == (Int.ofNat 3)) (some (.p (.tup [(.int .i64 (Int.ofNat 2)),(.bool true)]))) (ifB (z4 == (Int.ofNat 2)) (some (.p (.tup [(.int .i64 (IntKind.wrap .i64 ((IntKind.wrap .i64 (c - z7)) + (Int.ofNat 1)))),(.bool (decide ((IntKind.wrap .i64 ((IntKind.wrap .i64 (c - z7)) + (Int.ofNat 1)))≤(Int.ofNat 1000000000))))]))) (ifB (z4 == (Int.ofNat 5)) (adk k rec ts (fun x=>match x with | .a f=>(some (.p (.tup [(.int .i64 f),(.bool false)]))) | .b g=>some (.p (.tup [(.int .i64 g),(.bool true)]))) k (.a (Int.ofNat 1) (Int.ofNat 0) z4 z7 c d e)) (some (.p (.tup [(.int .i64 (Int.ofNat 0)),(.bool false)])))))))
def loeCount (k:Nat) (rec:Rec1) (ts:Tds):Loops AVal:=(lo1 1 0 [1,5,6] rdeCount_1 (fun K=>adk k rec ts (alA K) k) lo0)
def aqh:Code:=sb 0 (bd aiS)
inductive ab1 where
  | a (a0 a1 a2:Int) (a3:List Nat) (a4:PVal) (a5 a6:Int) (a7:List Nat) (a8:PVal)
inductive aeE where
  | a (a0:Int)
  | b
def agH (s:ab1):XC:=match s with
  | .a v0 v1 v2 v3 v4 v5 v6 v7 v8=>(XC.mk [(.box 0 0),(.box 1 0),(.p (.int .i64 v0))] [(.box [(.p (.int .i64 v1)),(.p (.int .i64 v2)),(.p (.str v3)),(.p v4)]),(.box [(.p (.int .i64 v5)),(.p (.int .i64 v6)),(.p (.str v7)),(.p v8)])])
def aeI {α:Type} (c:XC) (K:ab1→Option α) (e:Unit→Option α):Option α:=match c with
  | (XC.mk [(.box 0 0),(.box 1 0),(.p (.int .i64 v0))] [(.box [(.p (.int .i64 v1)),(.p (.int .i64 v2)),(.p (.str v3)),(.p v4)]),(.box [(.p (.int .i64 v5)),(.p (.int .i64 v6)),(.p (.str v7)),(.p v8)])])=>K (.a v0 v1 v2 v3 v4 v5 v6 v7 v8)
  | _=>e ()
theorem ait:RdS agH @aeI:=fun h=>by unfold aeI at h; split at h <;> first | exact .inl ⟨_,rfl,h⟩ | exact .inr h
def amr {α:Type} (c:XC) (K:ab1→Option α):Option α:=aeI c K fun _=>none
theorem alg:RdT agH @amr:=fun h=>(ait h).elim id fun h=>absurd h (by simp)
def aeK:XE→List Nat:=(outsOf [(0,[])] [4])
def agJ (K:KX AVal) (x:aeE):OA:=match x with
  | .a v0=>kq K XE.ret aeK XE.ret (XC.mk [(.p (.int .i64 v0))] [])
  | .b=>kq K XE.normal aeK (XE.exit 0) (XC.mk [] [])
def aeC (k:Nat) (rec:Rec1) (ts:Tds) (kn:ab1→OA) (kx:aeE→OA) (s:ab1):OA:=match s with
  | .a c d e f g h i j l=>(slK g fun m=>ifB (decide (c < (((List.length m):Nat):Int))) (slK g fun n=>natK c fun o=>nthK n o fun p=>vK p fun q r t u=>slK l fun v=>natK c fun w=>nthK v w fun x=>vK x fun y z a0 b0=>bindK (rec aaV ((.agg [(.int .i64 q),(.int .i64 r),(.str t),u]) :: [(.agg [(.int .i64 y),(.int .i64 z),(.str a0),b0])])) fun c0=>pK c0 fun d0=>intK .i64 d0 fun e0=>ifB (e0 != (Int.ofNat 0)) (kx (.a e0)) (kn (.a (IntKind.wrap .i64 (c + (Int.ofNat 1))) d e f g h i j l))) (kx .b))
def abW (k:Nat) (rec:Rec1) (ts:Tds) (kx:aeE→OA):Nat→ab1→OA
  | 0,_=>none
  | j + 1,s=>aeC k rec ts (abW k rec ts kx j) kx s
def ajd (k:Nat) (rec:Rec1) (ts:Tds) (p0 p1:PVal):OA :=
 (vK p0 fun z4 z7 c d=>vK p1 fun e f g h=>ifB (z4 != e) (bindK (rec acS ((.int .i64 z4) :: [(.int .i64 e)])) fun i=>pK i fun j=>intK .i64 j fun l=>some (.p (.int .i64 l))) (ifB (z4 == (Int.ofNat 3)) (ifB (aaC c g) (some (.p (.int .i64 (Int.ofNat 0)))) (ifB (bytesLess c g) (some (.p (.int .i64 (Int.negSucc 0)))) (some (.p (.int .i64 (Int.ofNat 1)))))) (ifB (z4 == (Int.ofNat 1)) (bindK (rec acS ((.int .i64 z7) :: [(.int .i64 f)])) fun m=>pK m fun n=>intK .i64 n fun o=>slK d fun q=>slK h fun r=>bindK (rec acS ((.int .i64 (((List.length q):Nat):Int)) :: [(.int .i64 (((List.length r):Nat):Int))])) fun t=>pK t fun u=>intK .i64 u fun v=>some (.p (.int .i64 (IntKind.wrap .i64 (o + v))))) (ifB (z4 == (Int.ofNat 2)) (bindK (rec acS ((.int .i64 z7) :: [(.int .i64 f)])) fun w=>pK w fun y=>intK .i64 y fun z=>slK d fun a0=>slK h fun b0=>bindK (rec acS ((.int .i64 (((List.length a0):Nat):Int)) :: [(.int .i64 (((List.length b0):Nat):Int))])) fun c0=>pK c0 fun d0=>intK .i64 d0 fun e0=>some (.p (.int .i64 (IntKind.wrap .i64 (z + e0))))) (slK d fun f0=>slK h fun g0=>ifB ((((List.length f0):Nat):Int) != (((List.length g0):Nat):Int)) (bindK (rec acS ((.int .i64 z7) :: [(.int .i64 f)])) fun h0=>pK h0 fun i0=>intK .i64 i0 fun j0=>slK d fun l0=>slK h fun m0=>bindK (rec acS ((.int .i64 (((List.length l0):Nat):Int)) :: [(.int .i64 (((List.length m0):Nat):Int))])) fun n0=>pK n0 fun o0=>intK .i64 o0 fun q0=>some (.p (.int .i64 (IntKind.wrap .i64 (j0 + q0))))) (abW k rec ts (fun x=>match x with | .a r0=>(some (.p (.int .i64 r0))) | .b=>some (.p (.int .i64 (Int.ofNat 0)))) k (.a (Int.ofNat 0) z4 z7 c d e f g h)))))))
def loaCompare (k:Nat) (rec:Rec1) (ts:Tds):Loops AVal:=(lo1 0 0 [2,3,5] amr (fun K=>abW k rec ts (agJ K) k) lo0)
def bashaped_3:Code:=sb 3 (bd ahw)
inductive acG where
  | a (a0 a1 a2:Int) (a3:List Nat) (a4:PVal)
inductive agb where
  | a
  | b (a0 a1:Int) (a2:List Nat) (a3:PVal)
def aiD (s:acG):XC:=match s with
  | .a v0 v1 v2 v3 v4=>(XC.mk [(.box 0 0),(.p (.int .i64 v0))] [(.box [(.p (.int .i64 v1)),(.p (.int .i64 v2)),(.p (.str v3)),(.p v4)])])
def aft {α:Type} (c:XC) (K:acG→Option α) (e:Unit→Option α):Option α:=match c with
  | (XC.mk [(.box 0 0),(.p (.int .i64 v0))] [(.box [(.p (.int .i64 v1)),(.p (.int .i64 v2)),(.p (.str v3)),(.p v4)])])=>K (.a v0 v1 v2 v3 v4)
  | _=>e ()
theorem ajO:RdS aiD @aft:=fun h=>by unfold aft at h; split at h <;> first | exact .inl ⟨_,rfl,h⟩ | exact .inr h
def aoM {α:Type} (c:XC) (K:acG→Option α):Option α:=aft c K fun _=>none
theorem am0:RdT aiD @aoM:=fun h=>(ajO h).elim id fun h=>absurd h (by simp)
def afE:XE→List Nat:=(outsOf [(3,[1]),(2,[])] [2])
def aiL (K:KX AVal) (x:agb):OA:=match x with
  | .a=>kq K XE.ret afE XE.ret (XC.mk [(.p (.bool false))] [])
  | .b v0 v1 v2 v3=>kq K XE.normal afE (XE.exit 3) (XC.mk [(.box 0 0)] [(.box [(.p (.int .i64 v0)),(.p (.int .i64 v1)),(.p (.str v2)),(.p v3)])])
def aeb (k:Nat) (rec:Rec1) (ts:Tds) (kn:acG→OA) (kx:agb→OA) (s:acG):OA:=match s with
  | .a c d e f g=>(slK g fun h=>ifB (decide (c < (((List.length h):Nat):Int))) (slK g fun i=>natK (IntKind.wrap .i64 (c - (Int.ofNat 1))) fun j=>nthK i j fun l=>vK l fun m n o p=>slK g fun q=>natK c fun r=>nthK q r fun t=>vK t fun u v w x=>bindK (rec aaV ((.agg [(.int .i64 m),(.int .i64 n),(.str o),p]) :: [(.agg [(.int .i64 u),(.int .i64 v),(.str w),x])])) fun y=>pK y fun z=>intK .i64 z fun a0=>ifB (decide (a0 ≥ (Int.ofNat 0))) (kx .a) (kn (.a (IntKind.wrap .i64 (c + (Int.ofNat 1))) d e f g))) (kx (.b d e f g)))
def abU (k:Nat) (rec:Rec1) (ts:Tds) (kx:agb→OA):Nat→acG→OA
  | 0,_=>none
  | j + 1,s=>aeb k rec ts (abU k rec ts kx j) kx s
def bashaped_0:Code:=sb 0 (bd ahw)
inductive acH where
  | a (a0 a1 a2:Int) (a3:List Nat) (a4:PVal)
inductive agc where
  | a
  | b (a0 a1:Int) (a2:List Nat) (a3:PVal)
def aiE (s:acH):XC:=match s with
  | .a v0 v1 v2 v3 v4=>(XC.mk [(.box 0 0),(.p (.int .i64 v0))] [(.box [(.p (.int .i64 v1)),(.p (.int .i64 v2)),(.p (.str v3)),(.p v4)])])
def afu {α:Type} (c:XC) (K:acH→Option α) (e:Unit→Option α):Option α:=match c with
  | (XC.mk [(.box 0 0),(.p (.int .i64 v0))] [(.box [(.p (.int .i64 v1)),(.p (.int .i64 v2)),(.p (.str v3)),(.p v4)])])=>K (.a v0 v1 v2 v3 v4)
  | _=>e ()
theorem ajP:RdS aiE @afu:=fun h=>by unfold afu at h; split at h <;> first | exact .inl ⟨_,rfl,h⟩ | exact .inr h
def aoN {α:Type} (c:XC) (K:acH→Option α):Option α:=afu c K fun _=>none
theorem am1:RdT aiE @aoN:=fun h=>(ajP h).elim id fun h=>absurd h (by simp)
def afF:XE→List Nat:=(outsOf [(0,[1])] [2])
def aiM (K:KX AVal) (x:agc):OA:=match x with
  | .a=>kq K XE.ret afF XE.ret (XC.mk [(.p (.bool false))] [])
  | .b v0 v1 v2 v3=>kq K XE.normal afF (XE.exit 0) (XC.mk [(.box 0 0)] [(.box [(.p (.int .i64 v0)),(.p (.int .i64 v1)),(.p (.str v2)),(.p v3)])])
def afX (k:Nat) (rec:Rec1) (ts:Tds) (kn:acH→OA) (kx:agc→OA) (s:acH):OA:=match s with
  | .a c d e f g=>(slK g fun h=>ifB (decide (c < (((List.length h):Nat):Int))) (slK g fun i=>natK c fun j=>nthK i j fun l=>vK l fun m n o p=>bindK (rec adz [(.agg [(.int .i64 m),(.int .i64 n),(.str o),p])]) fun q=>pK q fun r=>boolK r fun t=>ifB (!t) (kx .a) (kn (.a (IntKind.wrap .i64 (c + (Int.ofNat 1))) d e f g))) (kx (.b d e f g)))
def aco (k:Nat) (rec:Rec1) (ts:Tds) (kx:agc→OA):Nat→acH→OA
  | 0,_=>none
  | j + 1,s=>afX k rec ts (aco k rec ts kx j) kx s
def al8 (k:Nat) (rec:Rec1) (ts:Tds) (p0:PVal):OA :=
 (vK p0 fun z4 z7 c d=>aco k rec ts (fun x=>match x with | .a=>(some (.p (.bool false))) | .b e f g h=>ifB (e == (Int.ofNat 1)) (bindK (rec i_ain [(.int .i64 f),(.int .i64 (Int.negSucc 999999999)),(.int .i64 (Int.ofNat 1000000000))]) fun i=>pK i fun j=>boolK j fun l=>ifB l (ifB (aaC g []) (slK h fun m=>some (.p (.bool ((((List.length m):Nat):Int) == (Int.ofNat 0))))) (some (.p (.bool false)))) (some (.p (.bool false)))) (ifB (e == (Int.ofNat 2)) (bindK (rec i_ain [(.int .i64 f),(.int .i64 (Int.ofNat 0)),(.int .i64 (Int.ofNat 1))]) fun n=>pK n fun o=>boolK o fun q=>ifB q (ifB (aaC g []) (slK h fun r=>some (.p (.bool ((((List.length r):Nat):Int) == (Int.ofNat 0))))) (some (.p (.bool false)))) (some (.p (.bool false)))) (ifB (e == (Int.ofNat 3)) (ifB (f == (Int.ofNat 0)) (bindK (rec ae1 [(.str g)]) fun t=>pK t fun u=>boolK u fun v=>ifB v (slK h fun w=>some (.p (.bool ((((List.length w):Nat):Int) == (Int.ofNat 0))))) (some (.p (.bool false)))) (some (.p (.bool false)))) (ifB (e == (Int.ofNat 4)) (ifB (f == (Int.ofNat 0)) (ifB (aaC g []) (slK h fun y=>bindK (rec i_ain [(.int .i64 (((List.length y):Nat):Int)),(.int .i64 (Int.ofNat 2)),(.int .i64 (Int.ofNat 6))]) fun z=>pK z fun a0=>boolK a0 fun b0=>some (.p (.bool b0))) (some (.p (.bool false)))) (some (.p (.bool false)))) (ifB (e == (Int.ofNat 5)) (abU k rec ts (fun x=>match x with | .a=>(some (.p (.bool false))) | .b c0 d0 e0 f0=>ifB (d0 == (Int.ofNat 0)) (some (.p (.bool (aaC e0 [])))) (some (.p (.bool false)))) k (.a (Int.ofNat 1) e f g h)) (some (.p (.bool false)))))))) k (.a (Int.ofNat 0) z4 z7 c d))
def loashaped (k:Nat) (rec:Rec1) (ts:Tds):Loops AVal:=(lo1 3 0 [1,4] aoM (fun K=>abU k rec ts (aiL K) k) (lo1 0 0 [1,3] aoN (fun K=>aco k rec ts (aiM K) k) lo0))
def aqI (k:Nat) (rec:Rec1) (ts:Tds) (p0:PVal):OA :=
 (vK p0 fun z4 z7 a b=>bindK (rec adq [(.agg [(.int .i64 z4),(.int .i64 z7),(.str a),b]),(.int .i64 (Int.ofNat 200)),(.int .i64 (Int.ofNat 8))]) fun c=>pK c fun d=>intK .i64 d fun e=>ifB (decide (e ≥ (Int.ofNat 0))) (bindK (rec adz [(.agg [(.int .i64 z4),(.int .i64 z7),(.str a),b])]) fun f=>pK f fun g=>boolK g fun h=>some (.p (.bool h))) (some (.p (.bool false))))
def beIs_1:Code:=sb 1 (bd fn_eIs)
inductive ahJ where
  | a (a0 a1 a2 a3 a4:Int) (a5:PVal) (a6 a7:Int) (a8:List Nat) (a9:PVal)
inductive ExeIs_1 where
  | a
  | b
def mkeIs_1 (s:ahJ):XC:=match s with
  | .a v0 v1 v2 v3 v4 v5 v6 v7 v8 v9=>(XC.mk [(.box 0 0),(.box 1 0),(.p (.int .i64 v0))] [(.box [(.p (.int .i64 v1)),(.p (.int .i64 v2)),(.p (.int .i64 v3)),(.p (.int .i64 v4)),(.p v5)]),(.box [(.p (.int .i64 v6)),(.p (.int .i64 v7)),(.p (.str v8)),(.p v9)])])
def aoE {α:Type} (c:XC) (K:ahJ→Option α) (e:Unit→Option α):Option α:=match c with
  | (XC.mk [(.box 0 0),(.box 1 0),(.p (.int .i64 v0))] [(.box [(.p (.int .i64 v1)),(.p (.int .i64 v2)),(.p (.int .i64 v3)),(.p (.int .i64 v4)),(.p v5)]),(.box [(.p (.int .i64 v6)),(.p (.int .i64 v7)),(.p (.str v8)),(.p v9)])])=>K (.a v0 v1 v2 v3 v4 v5 v6 v7 v8 v9)
  | _=>e ()
theorem rdeIs_1_a_some:RdS mkeIs_1 @aoE:=fun h=>by unfold aoE at h; split at h <;> first | exact .inl ⟨_,rfl,h⟩ | exact .inr h
def rdeIs_1 {α:Type} (c:XC) (K:ahJ→Option α):Option α:=aoE c K fun _=>none
theorem rdeIs_1_some:RdT mkeIs_1 @rdeIs_1:=fun h=>(rdeIs_1_a_some h).elim id fun h=>absurd h (by simp)
def ao1:XE→List Nat:=(outsOf [(1,[]),(0,[])] [4])
def kxeIs_1 (K:KX AVal) (x:ExeIs_1):OA:=match x with
  | .a=>kq K XE.ret ao1 XE.ret (XC.mk [(.p (.bool false))] [])
  | .b=>kq K XE.normal ao1 (XE.exit 1) (XC.mk [] [])
def S_eIs_1 (k:Nat) (rec:Rec1) (ts:Tds) (kn:ahJ→OA) (kx:ExeIs_1→OA) (s:ahJ):OA:=match s with
  | .a c d e f g h i j l m=>(slK m fun n=>ifB (decide (c < (((List.length n):Nat):Int))) (slK h fun o=>natK c fun p=>nthK o p fun q=>kK q fun r t u v w=>slK m fun x=>natK c fun y=>nthK x y fun z=>vK z fun a0 b0 c0 d0=>bindK (rec i_eIs ((.agg [(.int .i64 r),(.int .i64 t),(.int .i64 u),(.int .i64 v),w]) :: [(.agg [(.int .i64 a0),(.int .i64 b0),(.str c0),d0])])) fun e0=>pK e0 fun f0=>boolK f0 fun g0=>ifB (!g0) (kx .a) (kn (.a (IntKind.wrap .i64 (c + (Int.ofNat 1))) d e f g h i j l m))) (kx .b))
def ai3 (k:Nat) (rec:Rec1) (ts:Tds) (kx:ExeIs_1→OA):Nat→ahJ→OA
  | 0,_=>none
  | j + 1,s=>S_eIs_1 k rec ts (ai3 k rec ts kx j) kx s
def beIs_3:Code:=sb 3 (bd fn_eIs)
inductive ahI where
  | a (a0 a1 a2 a3 a4:Int) (a5:PVal) (a6 a7:Int) (a8:List Nat) (a9:PVal)
inductive ExeIs_3 where
  | a
  | b
def mkeIs_3 (s:ahI):XC:=match s with
  | .a v0 v1 v2 v3 v4 v5 v6 v7 v8 v9=>(XC.mk [(.box 0 0),(.box 1 0),(.p (.int .i64 v0))] [(.box [(.p (.int .i64 v1)),(.p (.int .i64 v2)),(.p (.int .i64 v3)),(.p (.int .i64 v4)),(.p v5)]),(.box [(.p (.int .i64 v6)),(.p (.int .i64 v7)),(.p (.str v8)),(.p v9)])])
def aoD {α:Type} (c:XC) (K:ahI→Option α) (e:Unit→Option α):Option α:=match c with
  | (XC.mk [(.box 0 0),(.box 1 0),(.p (.int .i64 v0))] [(.box [(.p (.int .i64 v1)),(.p (.int .i64 v2)),(.p (.int .i64 v3)),(.p (.int .i64 v4)),(.p v5)]),(.box [(.p (.int .i64 v6)),(.p (.int .i64 v7)),(.p (.str v8)),(.p v9)])])=>K (.a v0 v1 v2 v3 v4 v5 v6 v7 v8 v9)
  | _=>e ()
theorem rdeIs_3_a_some:RdS mkeIs_3 @aoD:=fun h=>by unfold aoD at h; split at h <;> first | exact .inl ⟨_,rfl,h⟩ | exact .inr h
def rdeIs_3 {α:Type} (c:XC) (K:ahI→Option α):Option α:=aoD c K fun _=>none
theorem rdeIs_3_some:RdT mkeIs_3 @rdeIs_3:=fun h=>(rdeIs_3_a_some h).elim id fun h=>absurd h (by simp)
def ao0:XE→List Nat:=(outsOf [(3,[]),(0,[])] [4])
def kxeIs_3 (K:KX AVal) (x:ExeIs_3):OA:=match x with
  | .a=>kq K XE.ret ao0 XE.ret (XC.mk [(.p (.bool false))] [])
  | .b=>kq K XE.normal ao0 (XE.exit 3) (XC.mk [] [])
def S_eIs_3 (k:Nat) (rec:Rec1) (ts:Tds) (kn:ahI→OA) (kx:ExeIs_3→OA) (s:ahI):OA:=match s with
  | .a c d e f g h i j l m=>(slK m fun n=>ifB (decide (c < (((List.length n):Nat):Int))) (slK h fun o=>nthK o 0 fun p=>kK p fun q r t u v=>slK m fun w=>natK c fun x=>nthK w x fun y=>vK y fun z a0 b0 c0=>bindK (rec i_eIs ((.agg [(.int .i64 q),(.int .i64 r),(.int .i64 t),(.int .i64 u),v]) :: [(.agg [(.int .i64 z),(.int .i64 a0),(.str b0),c0])])) fun d0=>pK d0 fun e0=>boolK e0 fun f0=>ifB (!f0) (kx .a) (kn (.a (IntKind.wrap .i64 (c + (Int.ofNat 1))) d e f g h i j l m))) (kx .b))
def ai2 (k:Nat) (rec:Rec1) (ts:Tds) (kx:ExeIs_3→OA):Nat→ahI→OA
  | 0,_=>none
  | j + 1,s=>S_eIs_3 k rec ts (ai2 k rec ts kx j) kx s
def FF_eIs (k:Nat) (rec:Rec1) (ts:Tds) (p0 p1:PVal):OA :=
 (kK p0 fun z4 z7 c d e=>vK p1 fun f g h i=>ifB (z4 == (Int.ofNat 2)) (ifB (f == (Int.ofNat 1)) (bindK (rec i_ein ((.int .i64 g) :: ((.int .i64 z7) :: [(.int .i64 c)]))) fun j=>pK j fun l=>boolK l fun m=>some (.p (.bool m))) (some (.p (.bool false)))) (ifB (z4 == (Int.ofNat 3)) (some (.p (.bool (f == (Int.ofNat 2))))) (ifB (z4 == (Int.ofNat 4)) (some (.p (.bool (f == (Int.ofNat 3))))) (ifB (z4 == (Int.ofNat 5)) (ifB (f != (Int.ofNat 4)) (some (.p (.bool false))) (slK i fun n=>slK e fun o=>ifB ((((List.length n):Nat):Int) != (((List.length o):Nat):Int)) (some (.p (.bool false))) (ai3 k rec ts (fun x=>match x with | .a=>(some (.p (.bool false))) | .b=>some (.p (.bool true))) k (.a (Int.ofNat 0) z4 z7 c d e f g h i)))) (ifB (z4 == (Int.ofNat 6)) (ifB (f != (Int.ofNat 5)) (some (.p (.bool false))) (slK i fun q=>ifB (decide ((((List.length q):Nat):Int) > d)) (some (.p (.bool false))) (ai2 k rec ts (fun x=>match x with | .a=>(some (.p (.bool false))) | .b=>some (.p (.bool true))) k (.a (Int.ofNat 0) z4 z7 c d e f g h i)))) (some (.p (.bool false))))))))
def loeIs (k:Nat) (rec:Rec1) (ts:Tds):Loops AVal:=(lo1 1 0 [2,3,5] rdeIs_1 (fun K=>ai3 k rec ts (kxeIs_1 K) k) (lo1 3 0 [2,3,6] rdeIs_3 (fun K=>ai2 k rec ts (kxeIs_3 K) k) lo0))
def baLists_0:Code:=sb 0 (bd apV)
inductive adg where
  | a (a0 a1:PVal) (a2:Int)
inductive ah1 where
  | a
  | b
def alv (s:adg):XC:=match s with
  | .a v0 v1 v2=>(XC.mk [(.p v0),(.p v1),(.p (.int .i64 v2))] [])
def agv {α:Type} (c:XC) (K:adg→Option α) (e:Unit→Option α):Option α:=match c with
  | (XC.mk [(.p v0),(.p v1),(.p (.int .i64 v2))] [])=>K (.a v0 v1 v2)
  | _=>e ()
theorem alf:RdS alv @agv:=fun h=>by unfold agv at h; split at h <;> first | exact .inl ⟨_,rfl,h⟩ | exact .inr h
def rdaLists_0 {α:Type} (c:XC) (K:adg→Option α):Option α:=agv c K fun _=>none
theorem aoQ:RdT alv @rdaLists_0:=fun h=>(alf h).elim id fun h=>absurd h (by simp)
def agC:XE→List Nat:=(outsOf [(0,[])] [4])
def alE (K:KX AVal) (x:ah1):OA:=match x with
  | .a=>kq K XE.ret agC XE.ret (XC.mk [(.p (.bool false))] [])
  | .b=>kq K XE.normal agC (XE.exit 0) (XC.mk [] [])
def ahT (k:Nat) (rec:Rec1) (ts:Tds) (kn:adg→OA) (kx:ah1→OA) (s:adg):OA:=match s with
  | .a x3 x4 z5=>(slK x3 fun l6=>ifB (decide (z5 < (((List.length l6):Nat):Int))) (slK x3 fun l7=>natK z5 fun n8=>nthK l7 n8 fun x9=>vK x9 fun c d e f=>slK x4 fun g=>natK z5 fun h=>nthK g h fun i=>vK i fun j l m n=>bindK (rec aer ((.agg [(.int .i64 c),(.int .i64 d),(.str e),f]) :: [(.agg [(.int .i64 j),(.int .i64 l),(.str m),n])])) fun o=>pK o fun p=>boolK p fun q=>ifB (!q) (kx .a) (kn (.a x3 x4 (IntKind.wrap .i64 (z5 + (Int.ofNat 1)))))) (kx .b))
def adn (k:Nat) (rec:Rec1) (ts:Tds) (kx:ah1→OA):Nat→adg→OA
  | 0,_=>none
  | j + 1,s=>ahT k rec ts (adn k rec ts kx j) kx s
def aqK (k:Nat) (rec:Rec1) (ts:Tds) (p0 p1:PVal):OA :=
 (slK p0 fun l1=>slK p1 fun l2=>ifB ((((List.length l1):Nat):Int) != (((List.length l2):Nat):Int)) (some (.p (.bool false))) (adn k rec ts (fun x=>match x with | .a=>(some (.p (.bool false))) | .b=>some (.p (.bool true))) k (.a p0 p1 (Int.ofNat 0))))
def loaLists (k:Nat) (rec:Rec1) (ts:Tds):Loops AVal:=(lo1 0 0 [0,1,5] rdaLists_0 (fun K=>adn k rec ts (alE K) k) lo0)
def aqL (k:Nat) (rec:Rec1) (ts:Tds) (p0 p1:PVal):OA :=
 (vK p0 fun z4 z7 a b=>vK p1 fun c d e f=>ifB (z4 != c) (some (.p (.bool false))) (ifB (z7 != d) (some (.p (.bool false))) (ifB (! (aaC a e)) (some (.p (.bool false))) (bindK (rec ane (b :: [f])) fun g=>pK g fun h=>boolK h fun i=>some (.p (.bool i))))))
def akj:Code:=sb 0 (bd afO)
inductive abl where
  | a (a0 a1:Int) (a2:PVal) (a3 a4:Int)
inductive adv where
  | a (a0:Int)
  | b (a0:Int)
def aeL (s:abl):XC:=match s with
  | .a v0 v1 v2 v3 v4=>(XC.mk [(.p (.int .i64 v0)),(.p (.int .i64 v1)),(.p v2),(.p (.int .i64 v3)),(.p (.int .i64 v4))] [])
def adE {α:Type} (c:XC) (K:abl→Option α) (e:Unit→Option α):Option α:=match c with
  | (XC.mk [(.p (.int .i64 v0)),(.p (.int .i64 v1)),(.p v2),(.p (.int .i64 v3)),(.p (.int .i64 v4))] [])=>K (.a v0 v1 v2 v3 v4)
  | _=>e ()
theorem agn:RdS aeL @adE:=fun h=>by unfold adE at h; split at h <;> first | exact .inl ⟨_,rfl,h⟩ | exact .inr h
def ah6 {α:Type} (c:XC) (K:abl→Option α):Option α:=adE c K fun _=>none
theorem aif:RdT aeL @ah6:=fun h=>(agn h).elim id fun h=>absurd h (by simp)
def adF:XE→List Nat:=(outsOf [(0,[1])] [6])
def aeN (K:KX AVal) (x:adv):OA:=match x with
  | .a v0=>kq K XE.ret adF XE.ret (XC.mk [(.p (.int .i64 v0))] [])
  | .b v0=>kq K XE.normal adF (XE.exit 0) (XC.mk [(.p (.int .i64 v0))] [])
def adt (k:Nat) (rec:Rec1) (ts:Tds) (kn:abl→OA) (kx:adv→OA) (s:abl):OA:=match s with
  | .a c d e f g=>(ifB (decide (g < f)) (slK e fun h=>natK g fun i=>nthK h i fun j=>kK j fun l m n o p=>bindK (rec abn ((.agg [(.int .i64 l),(.int .i64 m),(.int .i64 n),(.int .i64 o),p]) :: ((.int .i64 c) :: [(.int .i64 (IntKind.wrap .i64 (d - (Int.ofNat 1))))]))) fun q=>pK q fun r=>intK .i64 r fun t=>ifB (decide (t < (Int.ofNat 0))) (kx (.a (Int.negSucc 0))) (kn (.a t d e f (IntKind.wrap .i64 (g + (Int.ofNat 1)))))) (kx (.b c)))
def abg (k:Nat) (rec:Rec1) (ts:Tds) (kx:adv→OA):Nat→abl→OA
  | 0,_=>none
  | j + 1,s=>adt k rec ts (abg k rec ts kx j) kx s
def af0 (k:Nat) (rec:Rec1) (ts:Tds) (p0 p1 p2:PVal):OA :=
 (kK p0 fun z4 z7 c d e=>intK .i64 p1 fun f=>intK .i64 p2 fun g=>ifB (decide (f < (Int.ofNat 1))) (some (.p (.int .i64 (Int.negSucc 0)))) (ifB (decide (g < (Int.ofNat 1))) (some (.p (.int .i64 (Int.negSucc 0)))) (slK e fun h=>abg k rec ts (fun x=>match x with | .a i=>(some (.p (.int .i64 i))) | .b j=>some (.p (.int .i64 j))) k (.a (IntKind.wrap .i64 (f - (Int.ofNat 1))) g e (((List.length h):Nat):Int) (Int.ofNat 0)))))
def loxkindNodes (k:Nat) (rec:Rec1) (ts:Tds):Loops AVal:=(lo1 0 0 [1,2,18,19,20] ah6 (fun K=>abg k rec ts (aeN K) k) lo0)
def ahb (k:Nat) (rec:Rec1) (ts:Tds) (p0:PVal):OA :=
 (kK p0 fun z4 z7 a b c=>bindK (rec ad0 [(.agg [(.int .i64 z4),(.int .i64 z7),(.int .i64 a),(.int .i64 b),c])]) fun d=>pK d fun e=>boolK e fun f=>some (.p (.bool (!f))))
def bXFK_0:Code:=sb 0 (bd fn_XFK)
inductive ahM where
  | a (a0 a1:PVal) (a2 a3:Int)
inductive ExXFK_0 where
  | a (a0:Int)
  | b
def mkXFK_0 (s:ahM):XC:=match s with
  | .a v0 v1 v2 v3=>(XC.mk [(.p v0),(.p v1),(.p (.int .i64 v2)),(.p (.int .i64 v3))] [])
def aoT {α:Type} (c:XC) (K:ahM→Option α) (e:Unit→Option α):Option α:=match c with
  | (XC.mk [(.p v0),(.p v1),(.p (.int .i64 v2)),(.p (.int .i64 v3))] [])=>K (.a v0 v1 v2 v3)
  | _=>e ()
theorem rdXFK_0_a_some:RdS mkXFK_0 @aoT:=fun h=>by unfold aoT at h; split at h <;> first | exact .inl ⟨_,rfl,h⟩ | exact .inr h
def rdXFK_0 {α:Type} (c:XC) (K:ahM→Option α):Option α:=aoT c K fun _=>none
theorem rdXFK_0_some:RdT mkXFK_0 @rdXFK_0:=fun h=>(rdXFK_0_a_some h).elim id fun h=>absurd h (by simp)
def ao4:XE→List Nat:=(outsOf [(0,[])] [4])
def kxXFK_0 (K:KX AVal) (x:ExXFK_0):OA:=match x with
  | .a v0=>kq K XE.ret ao4 XE.ret (XC.mk [(.p (.int .i64 v0))] [])
  | .b=>kq K XE.normal ao4 (XE.exit 0) (XC.mk [] [])
def S_XFK_0 (k:Nat) (rec:Rec1) (ts:Tds) (kn:ahM→OA) (kx:ExXFK_0→OA) (s:ahM):OA:=match s with
  | .a x3 x4 z5 z6=>(ifB (decide (z6 < z5)) (slK x3 fun l7=>natK z6 fun n8=>nthK l7 n8 fun x9=>kK x9 fun c d e f g=>fnK x4 fun h i=>chk (! (xi h)) (bindK (rec h ([(.agg [(.int .i64 c),(.int .i64 d),(.int .i64 e),(.int .i64 f),g])] ++ i)) fun j=>pK j fun l=>boolK l fun m=>ifB m (kx (.a z6)) (kn (.a x3 x4 z5 (IntKind.wrap .i64 (z6 + (Int.ofNat 1))))))) (kx .b))
def ai6 (k:Nat) (rec:Rec1) (ts:Tds) (kx:ExXFK_0→OA):Nat→ahM→OA
  | 0,_=>none
  | j + 1,s=>S_XFK_0 k rec ts (ai6 k rec ts kx j) kx s
def FF_XFK (k:Nat) (rec:Rec1) (ts:Tds) (p0 p1:PVal):OA :=
 (slK p0 fun l1=>ai6 k rec ts (fun x=>match x with | .a z2=>(some (.p (.int .i64 z2))) | .b=>some (.p (.int .i64 (Int.negSucc 0)))) k (.a p0 p1 (((List.length l1):Nat):Int) (Int.ofNat 0)))
def loXFK (k:Nat) (rec:Rec1) (ts:Tds):Loops AVal:=(lo1 0 0 [0,1,7,8] rdXFK_0 (fun K=>ai6 k rec ts (kxXFK_0 K) k) lo0)
def FF_CFK (k:Nat) (rec:Rec1) (ts:Tds) (p0 p1:PVal):OA :=
 (bindK (rec i_XFK (p0 :: [p1])) fun x1=>pK x1 fun x2=>intK .i64 x2 fun z3=>some (.p (.bool (decide (z3 ≥ (Int.ofNat 0))))))
def al3 (k:Nat) (rec:Rec1) (ts:Tds) (p0:PVal):OA :=
 (kK p0 fun z4 z7 a b c=>ifB (z7 == (Int.ofNat 0)) (ifB (a == (Int.ofNat 0)) (bindK (rec i_CFK [c,(.fn (.func aaQ) [])]) fun d=>pK d fun e=>boolK e fun f=>ifB f (some (.p (.bool false))) (ifB (z4 == (Int.ofNat 1)) (ifB (z4 == (Int.ofNat 1)) (ifB (b == (Int.ofNat 0)) (slK c fun g=>some (.p (.bool ((((List.length g):Nat):Int) == (Int.ofNat 0))))) (some (.p (.bool false)))) (ifB (z4 == (Int.ofNat 2)) (bindK (rec aaO [(.int .i64 z7)]) fun h=>pK h fun i=>boolK i fun j=>ifB j (bindK (rec aaO [(.int .i64 a)]) fun l=>pK l fun m=>boolK m fun n=>ifB n (ifB (decide (z7≤a)) (ifB (b == (Int.ofNat 0)) (slK c fun o=>some (.p (.bool ((((List.length o):Nat):Int) == (Int.ofNat 0))))) (some (.p (.bool false)))) (some (.p (.bool false)))) (some (.p (.bool false)))) (some (.p (.bool false)))) (ifB (z4 == (Int.ofNat 5)) (ifB (b == (Int.ofNat 0)) (slK c fun q=>bindK (rec i_xin [(.int .i64 (((List.length q):Nat):Int)),(.int .i64 (Int.ofNat 2)),(.int .i64 (Int.ofNat 6))]) fun r=>pK r fun t=>boolK t fun u=>some (.p (.bool u))) (some (.p (.bool false)))) (ifB (z4 == (Int.ofNat 6)) (ifB (z7 == (Int.ofNat 0)) (ifB (a == (Int.ofNat 0)) (bindK (rec i_xin [(.int .i64 b),(.int .i64 (Int.ofNat 0)),(.int .i64 (Int.ofNat 199))]) fun v=>pK v fun w=>boolK w fun x=>ifB x (slK c fun y=>some (.p (.bool ((((List.length y):Nat):Int) == (Int.ofNat 1))))) (some (.p (.bool false)))) (some (.p (.bool false)))) (some (.p (.bool false)))) (some (.p (.bool false))))))) (ifB (z4 == (Int.ofNat 3)) (ifB (z4 == (Int.ofNat 3)) (ifB (b == (Int.ofNat 0)) (slK c fun z=>some (.p (.bool ((((List.length z):Nat):Int) == (Int.ofNat 0))))) (some (.p (.bool false)))) (ifB (z4 == (Int.ofNat 2)) (bindK (rec aaO [(.int .i64 z7)]) fun a0=>pK a0 fun b0=>boolK b0 fun c0=>ifB c0 (bindK (rec aaO [(.int .i64 a)]) fun d0=>pK d0 fun e0=>boolK e0 fun f0=>ifB f0 (ifB (decide (z7≤a)) (ifB (b == (Int.ofNat 0)) (slK c fun g0=>some (.p (.bool ((((List.length g0):Nat):Int) == (Int.ofNat 0))))) (some (.p (.bool false)))) (some (.p (.bool false)))) (some (.p (.bool false)))) (some (.p (.bool false)))) (ifB (z4 == (Int.ofNat 5)) (ifB (b == (Int.ofNat 0)) (slK c fun h0=>bindK (rec i_xin [(.int .i64 (((List.length h0):Nat):Int)),(.int .i64 (Int.ofNat 2)),(.int .i64 (Int.ofNat 6))]) fun i0=>pK i0 fun j0=>boolK j0 fun l0=>some (.p (.bool l0))) (some (.p (.bool false)))) (ifB (z4 == (Int.ofNat 6)) (ifB (z7 == (Int.ofNat 0)) (ifB (a == (Int.ofNat 0)) (bindK (rec i_xin [(.int .i64 b),(.int .i64 (Int.ofNat 0)),(.int .i64 (Int.ofNat 199))]) fun m0=>pK m0 fun n0=>boolK n0 fun o0=>ifB o0 (slK c fun q0=>some (.p (.bool ((((List.length q0):Nat):Int) == (Int.ofNat 1))))) (some (.p (.bool false)))) (some (.p (.bool false)))) (some (.p (.bool false)))) (some (.p (.bool false))))))) (ifB (z4 == (Int.ofNat 4)) (ifB (b == (Int.ofNat 0)) (slK c fun r0=>some (.p (.bool ((((List.length r0):Nat):Int) == (Int.ofNat 0))))) (some (.p (.bool false)))) (ifB (z4 == (Int.ofNat 2)) (bindK (rec aaO [(.int .i64 z7)]) fun t0=>pK t0 fun u0=>boolK u0 fun v0=>ifB v0 (bindK (rec aaO [(.int .i64 a)]) fun w0=>pK w0 fun x0=>boolK x0 fun y0=>ifB y0 (ifB (decide (z7≤a)) (ifB (b == (Int.ofNat 0)) (slK c fun z0=>some (.p (.bool ((((List.length z0):Nat):Int) == (Int.ofNat 0))))) (some (.p (.bool false)))) (some (.p (.bool false)))) (some (.p (.bool false)))) (some (.p (.bool false)))) (ifB (z4 == (Int.ofNat 5)) (ifB (b == (Int.ofNat 0)) (slK c fun a1=>bindK (rec i_xin [(.int .i64 (((List.length a1):Nat):Int)),(.int .i64 (Int.ofNat 2)),(.int .i64 (Int.ofNat 6))]) fun b1=>pK b1 fun c1=>boolK c1 fun d1=>some (.p (.bool d1))) (some (.p (.bool false)))) (ifB (z4 == (Int.ofNat 6)) (ifB (z7 == (Int.ofNat 0)) (ifB (a == (Int.ofNat 0)) (bindK (rec i_xin [(.int .i64 b),(.int .i64 (Int.ofNat 0)),(.int .i64 (Int.ofNat 199))]) fun e1=>pK e1 fun f1=>boolK f1 fun g1=>ifB g1 (slK c fun h1=>some (.p (.bool ((((List.length h1):Nat):Int) == (Int.ofNat 1))))) (some (.p (.bool false)))) (some (.p (.bool false)))) (some (.p (.bool false)))) (some (.p (.bool false)))))))))) (bindK (rec i_CFK [c,(.fn (.func aaQ) [])]) fun i1=>pK i1 fun j1=>boolK j1 fun l1=>ifB l1 (some (.p (.bool false))) (ifB (z4 == (Int.ofNat 1)) (ifB (z4 == (Int.ofNat 1)) (some (.p (.bool false))) (ifB (z4 == (Int.ofNat 2)) (bindK (rec aaO [(.int .i64 z7)]) fun m1=>pK m1 fun n1=>boolK n1 fun o1=>ifB o1 (bindK (rec aaO [(.int .i64 a)]) fun p1=>pK p1 fun q1=>boolK q1 fun r1=>ifB r1 (ifB (decide (z7≤a)) (ifB (b == (Int.ofNat 0)) (slK c fun t1=>some (.p (.bool ((((List.length t1):Nat):Int) == (Int.ofNat 0))))) (some (.p (.bool false)))) (some (.p (.bool false)))) (some (.p (.bool false)))) (some (.p (.bool false)))) (ifB (z4 == (Int.ofNat 5)) (some (.p (.bool false))) (ifB (z4 == (Int.ofNat 6)) (ifB (z7 == (Int.ofNat 0)) (ifB (a == (Int.ofNat 0)) (bindK (rec i_xin [(.int .i64 b),(.int .i64 (Int.ofNat 0)),(.int .i64 (Int.ofNat 199))]) fun u1=>pK u1 fun v1=>boolK v1 fun w1=>ifB w1 (slK c fun x1=>some (.p (.bool ((((List.length x1):Nat):Int) == (Int.ofNat 1))))) (some (.p (.bool false)))) (some (.p (.bool false)))) (some (.p (.bool false)))) (some (.p (.bool false))))))) (ifB (z4 == (Int.ofNat 3)) (ifB (z4 == (Int.ofNat 3)) (some (.p (.bool false))) (ifB (z4 == (Int.ofNat 2)) (bindK (rec aaO [(.int .i64 z7)]) fun y1=>pK y1 fun z1=>boolK z1 fun a2=>ifB a2 (bindK (rec aaO [(.int .i64 a)]) fun b2=>pK b2 fun c2=>boolK c2 fun d2=>ifB d2 (ifB (decide (z7≤a)) (ifB (b == (Int.ofNat 0)) (slK c fun e2=>some (.p (.bool ((((List.length e2):Nat):Int) == (Int.ofNat 0))))) (some (.p (.bool false)))) (some (.p (.bool false)))) (some (.p (.bool false)))) (some (.p (.bool false)))) (ifB (z4 == (Int.ofNat 5)) (some (.p (.bool false))) (ifB (z4 == (Int.ofNat 6)) (ifB (z7 == (Int.ofNat 0)) (ifB (a == (Int.ofNat 0)) (bindK (rec i_xin [(.int .i64 b),(.int .i64 (Int.ofNat 0)),(.int .i64 (Int.ofNat 199))]) fun f2=>pK f2 fun g2=>boolK g2 fun h2=>ifB h2 (slK c fun i2=>some (.p (.bool ((((List.length i2):Nat):Int) == (Int.ofNat 1))))) (some (.p (.bool false)))) (some (.p (.bool false)))) (some (.p (.bool false)))) (some (.p (.bool false))))))) (ifB (z4 == (Int.ofNat 4)) (some (.p (.bool false))) (ifB (z4 == (Int.ofNat 2)) (bindK (rec aaO [(.int .i64 z7)]) fun j2=>pK j2 fun l2=>boolK l2 fun m2=>ifB m2 (bindK (rec aaO [(.int .i64 a)]) fun n2=>pK n2 fun o2=>boolK o2 fun p2=>ifB p2 (ifB (decide (z7≤a)) (ifB (b == (Int.ofNat 0)) (slK c fun q2=>some (.p (.bool ((((List.length q2):Nat):Int) == (Int.ofNat 0))))) (some (.p (.bool false)))) (some (.p (.bool false)))) (some (.p (.bool false)))) (some (.p (.bool false)))) (ifB (z4 == (Int.ofNat 5)) (some (.p (.bool false))) (ifB (z4 == (Int.ofNat 6)) (ifB (z7 == (Int.ofNat 0)) (ifB (a == (Int.ofNat 0)) (bindK (rec i_xin [(.int .i64 b),(.int .i64 (Int.ofNat 0)),(.int .i64 (Int.ofNat 199))]) fun r2=>pK r2 fun t2=>boolK t2 fun u2=>ifB u2 (slK c fun v2=>some (.p (.bool ((((List.length v2):Nat):Int) == (Int.ofNat 1))))) (some (.p (.bool false)))) (some (.p (.bool false)))) (some (.p (.bool false)))) (some (.p (.bool false))))))))))) (bindK (rec i_CFK [c,(.fn (.func aaQ) [])]) fun w2=>pK w2 fun x2=>boolK x2 fun y2=>ifB y2 (some (.p (.bool false))) (ifB (z4 == (Int.ofNat 1)) (ifB (z4 == (Int.ofNat 1)) (some (.p (.bool false))) (ifB (z4 == (Int.ofNat 2)) (bindK (rec aaO [(.int .i64 z7)]) fun z2=>pK z2 fun a3=>boolK a3 fun b3=>ifB b3 (bindK (rec aaO [(.int .i64 a)]) fun c3=>pK c3 fun d3=>boolK d3 fun e3=>ifB e3 (ifB (decide (z7≤a)) (ifB (b == (Int.ofNat 0)) (slK c fun f3=>some (.p (.bool ((((List.length f3):Nat):Int) == (Int.ofNat 0))))) (some (.p (.bool false)))) (some (.p (.bool false)))) (some (.p (.bool false)))) (some (.p (.bool false)))) (ifB (z4 == (Int.ofNat 5)) (some (.p (.bool false))) (ifB (z4 == (Int.ofNat 6)) (ifB (z7 == (Int.ofNat 0)) (ifB (a == (Int.ofNat 0)) (bindK (rec i_xin [(.int .i64 b),(.int .i64 (Int.ofNat 0)),(.int .i64 (Int.ofNat 199))]) fun g3=>pK g3 fun h3=>boolK h3 fun i3=>ifB i3 (slK c fun j3=>some (.p (.bool ((((List.length j3):Nat):Int) == (Int.ofNat 1))))) (some (.p (.bool false)))) (some (.p (.bool false)))) (some (.p (.bool false)))) (some (.p (.bool false))))))) (ifB (z4 == (Int.ofNat 3)) (ifB (z4 == (Int.ofNat 3)) (some (.p (.bool false))) (ifB (z4 == (Int.ofNat 2)) (bindK (rec aaO [(.int .i64 z7)]) fun l3=>pK l3 fun m3=>boolK m3 fun n3=>ifB n3 (bindK (rec aaO [(.int .i64 a)]) fun o3=>pK o3 fun p3=>boolK p3 fun q3=>ifB q3 (ifB (decide (z7≤a)) (ifB (b == (Int.ofNat 0)) (slK c fun r3=>some (.p (.bool ((((List.length r3):Nat):Int) == (Int.ofNat 0))))) (some (.p (.bool false)))) (some (.p (.bool false)))) (some (.p (.bool false)))) (some (.p (.bool false)))) (ifB (z4 == (Int.ofNat 5)) (some (.p (.bool false))) (ifB (z4 == (Int.ofNat 6)) (ifB (z7 == (Int.ofNat 0)) (ifB (a == (Int.ofNat 0)) (bindK (rec i_xin [(.int .i64 b),(.int .i64 (Int.ofNat 0)),(.int .i64 (Int.ofNat 199))]) fun t3=>pK t3 fun u3=>boolK u3 fun v3=>ifB v3 (slK c fun w3=>some (.p (.bool ((((List.length w3):Nat):Int) == (Int.ofNat 1))))) (some (.p (.bool false)))) (some (.p (.bool false)))) (some (.p (.bool false)))) (some (.p (.bool false))))))) (ifB (z4 == (Int.ofNat 4)) (some (.p (.bool false))) (ifB (z4 == (Int.ofNat 2)) (bindK (rec aaO [(.int .i64 z7)]) fun x3=>pK x3 fun y3=>boolK y3 fun z3=>ifB z3 (bindK (rec aaO [(.int .i64 a)]) fun a4=>pK a4 fun b4=>boolK b4 fun c4=>ifB c4 (ifB (decide (z7≤a)) (ifB (b == (Int.ofNat 0)) (slK c fun d4=>some (.p (.bool ((((List.length d4):Nat):Int) == (Int.ofNat 0))))) (some (.p (.bool false)))) (some (.p (.bool false)))) (some (.p (.bool false)))) (some (.p (.bool false)))) (ifB (z4 == (Int.ofNat 5)) (some (.p (.bool false))) (ifB (z4 == (Int.ofNat 6)) (ifB (z7 == (Int.ofNat 0)) (ifB (a == (Int.ofNat 0)) (bindK (rec i_xin [(.int .i64 b),(.int .i64 (Int.ofNat 0)),(.int .i64 (Int.ofNat 199))]) fun e4=>pK e4 fun f4=>boolK f4 fun g4=>ifB g4 (slK c fun h4=>some (.p (.bool ((((List.length h4):Nat):Int) == (Int.ofNat 1))))) (some (.p (.bool false)))) (some (.p (.bool false)))) (some (.p (.bool false)))) (some (.p (.bool false)))))))))))
def al2 (k:Nat) (rec:Rec1) (ts:Tds) (p0:PVal):OA :=
 (kK p0 fun z4 z7 a b c=>bindK (rec abn [(.agg [(.int .i64 z4),(.int .i64 z7),(.int .i64 a),(.int .i64 b),c]),(.int .i64 (Int.ofNat 20)),(.int .i64 (Int.ofNat 6))]) fun d=>pK d fun e=>intK .i64 e fun f=>ifB (decide (f ≥ (Int.ofNat 0))) (bindK (rec ad0 [(.agg [(.int .i64 z4),(.int .i64 z7),(.int .i64 a),(.int .i64 b),c])]) fun g=>pK g fun h=>boolK h fun i=>some (.p (.bool i))) (some (.p (.bool false))))
def af1 (k:Nat) (rec:Rec1) (ts:Tds) (p0:PVal):OA :=
 (kK p0 fun z4 z7 a b c=>bindK (rec aj4 [(.agg [(.int .i64 z4),(.int .i64 z7),(.int .i64 a),(.int .i64 b),c])]) fun d=>pK d fun e=>boolK e fun f=>bindK (rec ae0 [(.bool f)]) fun g=>pK g fun h=>intK .i64 h fun i=>some (.p (.int .i64 i)))
def af2 (k:Nat) (rec:Rec1) (ts:Tds) (p0:PVal):OA :=
 (kK p0 fun z4 z7 a b c=>bindK (rec aeo [(.agg [(.int .i64 z4),(.int .i64 z7),(.int .i64 a),(.int .i64 b),c])]) fun d=>pK d fun e=>intK .i64 e fun f=>some (.p (.bool (f == (Int.ofNat 0)))))
def af3 (k:Nat) (rec:Rec1) (ts:Tds) (p0:PVal):OA :=
 (kK p0 fun z4 z7 a b c=>bindK (rec aep [(.agg [(.int .i64 z4),(.int .i64 z7),(.int .i64 a),(.int .i64 b),c])]) fun d=>pK d fun e=>boolK e fun f=>ifB (!f) (some (.p (.int .i64 (Int.ofNat 2)))) (some (.p (.int .i64 (Int.ofNat 0)))))
def bdformed_1:Code:=sb 1 (bd alM)
inductive abQ where
  | a (a0:PVal) (a1 a2:Int)
  | b (a0:PVal) (a1 a2:Int) (a3:Nat) (a4:List PVal)
inductive af9 where
  | a
  | b (a0:Nat) (a1:List PVal)
def afJ (s:abQ):XC:=match s with
  | .a v0 v1 v2=>(XC.mk [(.box 0 0),(.p v0),(.p (.int .i64 v1)),(.p (.int .i64 v2))] [(.box [(.p .nils)])])
  | .b v0 v1 v2 v3 v4=>(XC.mk [(.box 0 0),(.p v0),(.p (.int .i64 v1)),(.p (.int .i64 v2))] [(.box [(.arr 1 0 0 v3 false)]),(.arr 1 v4 0 0 0)])
def afq {α:Type} (c:XC) (K:abQ→Option α) (e:Unit→Option α):Option α:=match c with
  | (XC.mk [(.box 0 0),(.p v0),(.p (.int .i64 v1)),(.p (.int .i64 v2))] [(.box [(.p .nils)])])=>K (.a v0 v1 v2)
  | _=>e ()
theorem ajL:RdS afJ @afq:=fun h=>by unfold afq at h; split at h <;> first | exact .inl ⟨_,rfl,h⟩ | exact .inr h
def afp {α:Type} (c:XC) (K:abQ→Option α) (e:Unit→Option α):Option α:=match c with
  | (XC.mk [(.box 0 0),(.p v0),(.p (.int .i64 v1)),(.p (.int .i64 v2))] [(.box [(.arr 1 0 0 v3 false)]),(.arr 1 v4 0 0 0)])=>K (.b v0 v1 v2 v3 v4)
  | _=>e ()
theorem ajK:RdS afJ @afp:=fun h=>by unfold afp at h; split at h <;> first | exact .inl ⟨_,rfl,h⟩ | exact .inr h
def aoK {α:Type} (c:XC) (K:abQ→Option α):Option α:=afq c K fun _=>afp c K fun _=>none
theorem amY:RdT afJ @aoK:=fun h=>(ajL h).elim id fun h=>(ajK h).elim id fun h=>absurd h (by simp)
def afC:XE→List Nat:=(outsOf [(1,[3]),(0,[])] [2])
def aiJ (K:KX AVal) (x:af9):OA:=match x with
  | .a=>kq K XE.normal afC (XE.exit 1) (XC.mk [(.box 0 0)] [(.box [(.p .nils)])])
  | .b v0 v1=>kq K XE.normal afC (XE.exit 1) (XC.mk [(.box 0 0)] [(.box [(.arr 1 0 0 v0 false)]),(.arr 1 v1 0 0 0)])
def ad9 (k:Nat) (rec:Rec1) (ts:Tds) (kn:abQ→OA) (kx:af9→OA) (s:abQ):OA:=match s with
  | .a c d e=>(ifB (decide (e < d)) (slK c fun f=>natK e fun g=>nthK f g fun h=>kK h fun i j l m n=>bindK (rec abD [(.agg [(.int .i64 i),(.int .i64 j),(.int .i64 l),(.int .i64 m),n])]) fun o=>pK o fun p=>chk (oneP.match_1 (fun q=>Bool) p (fun q=>false) (fun q=>false) (fun q=>true)) (chk (widths false 1 [p]) (kn (.b c d (IntKind.wrap .i64 (e + (Int.ofNat 1))) 1 [p])))) (kx .a))
  | .b r t u v w=>(ifB (decide (u < t)) (slK r fun x=>natK u fun y=>nthK x y fun z=>kK z fun a0 b0 c0 d0 e0=>bindK (rec abD [(.agg [(.int .i64 a0),(.int .i64 b0),(.int .i64 c0),(.int .i64 d0),e0])]) fun f0=>pK f0 fun g0=>chk (oneP.match_1 (fun h0=>Bool) g0 (fun h0=>false) (fun h0=>false) (fun h0=>true)) (chk (widths false 1 [g0]) (chk (Nat.beq v (List.length w)) (chk (Nat.ble ((v + 1) * 16) 1099511627776) (kn (.b r t (IntKind.wrap .i64 (u + (Int.ofNat 1))) (v + 1) (w ++ [g0]))))))) (kx (.b v w)))
def abB (k:Nat) (rec:Rec1) (ts:Tds) (kx:af9→OA):Nat→abQ→OA
  | 0,_=>none
  | j + 1,s=>ad9 k rec ts (abB k rec ts kx j) kx s
def al6 (k:Nat) (rec:Rec1) (ts:Tds) (p0:PVal):OA :=
 (kK p0 fun z4 z7 c d e=>ifB (z4 == (Int.ofNat 2)) (some (.p (.iface 139 (.agg [(.int .i64 z7),(.int .i64 c)])))) (ifB (z4 == (Int.ofNat 3)) (some (.p (.iface 141 (.agg [])))) (ifB (z4 == (Int.ofNat 5)) (slK e fun f=>abB k rec ts (fun x=>match x with | .a=>(some (.p (.iface 144 (.agg [.nils])))) | .b g h=>chk (Nat.ble (0 + g) (List.length h)) (some (.p (.iface 144 (.agg [(.sl (List.take g (List.drop 0 h)))]))))) k (.a e (((List.length f):Nat):Int) (Int.ofNat 0))) (ifB (z4 == (Int.ofNat 6)) (slK e fun i=>nthK i 0 fun j=>kK j fun l m n o q=>bindK (rec abD [(.agg [(.int .i64 l),(.int .i64 m),(.int .i64 n),(.int .i64 o),q])]) fun r=>pK r fun t=>chk (oneP.match_1 (fun u=>Bool) t (fun u=>false) (fun u=>false) (fun u=>true)) (some (.p (.iface 150 (.agg [(.int .i64 d),t]))))) (ifB (z4 == (Int.ofNat 1)) (some (.p (.iface 152 (.agg [])))) (some (.p (.iface 153 (.agg [])))))))))
def lodformed (k:Nat) (rec:Rec1) (ts:Tds):Loops AVal:=(lo1 1 0 [3,23,24,25] aoK (fun K=>abB k rec ts (aiJ K) k) lo0)
def bdfresh_0:Code:=sb 0 (bd apS)
inductive ack where
  | a (a0:PVal) (a1 a2:Int)
  | b (a0:Nat) (a1:PVal) (a2 a3:Int) (a4:List PVal)
inductive ahY where
  | a
  | b (a0:Nat) (a1:List PVal)
def aht (s:ack):XC:=match s with
  | .a v0 v1 v2=>(XC.mk [(.p .nils),(.p v0),(.p (.int .i64 v1)),(.p (.int .i64 v2))] [])
  | .b v0 v1 v2 v3 v4=>(XC.mk [(.arr 0 0 0 v0 false),(.p v1),(.p (.int .i64 v2)),(.p (.int .i64 v3))] [(.arr 4 v4 0 0 0)])
def ags {α:Type} (c:XC) (K:ack→Option α) (e:Unit→Option α):Option α:=match c with
  | (XC.mk [(.p .nils),(.p v0),(.p (.int .i64 v1)),(.p (.int .i64 v2))] [])=>K (.a v0 v1 v2)
  | _=>e ()
theorem alb:RdS aht @ags:=fun h=>by unfold ags at h; split at h <;> first | exact .inl ⟨_,rfl,h⟩ | exact .inr h
def agr {α:Type} (c:XC) (K:ack→Option α) (e:Unit→Option α):Option α:=match c with
  | (XC.mk [(.arr 0 0 0 v0 false),(.p v1),(.p (.int .i64 v2)),(.p (.int .i64 v3))] [(.arr 4 v4 0 0 0)])=>K (.b v0 v1 v2 v3 v4)
  | _=>e ()
theorem ala:RdS aht @agr:=fun h=>by unfold agr at h; split at h <;> first | exact .inl ⟨_,rfl,h⟩ | exact .inr h
def rddfresh_0 {α:Type} (c:XC) (K:ack→Option α):Option α:=ags c K fun _=>agr c K fun _=>none
theorem aoJ:RdT aht @rddfresh_0:=fun h=>(alb h).elim id fun h=>(ala h).elim id fun h=>absurd h (by simp)
def agA:XE→List Nat:=(outsOf [(0,[3])] [2])
def alB (K:KX AVal) (x:ahY):OA:=match x with
  | .a=>kq K XE.normal agA (XE.exit 0) (XC.mk [(.p .nils)] [])
  | .b v0 v1=>kq K XE.normal agA (XE.exit 0) (XC.mk [(.arr 0 0 0 v0 false)] [(.arr 4 v1 0 0 0)])
def afb (k:Nat) (rec:Rec1) (ts:Tds) (kn:ack→OA) (kx:ahY→OA) (s:ack):OA:=match s with
  | .a x4 z5 z6=>(ifB (decide (z6 < z5)) (slK x4 fun l7=>natK z6 fun n8=>nthK l7 n8 fun x9=>vK x9 fun c d e f=>bindK (rec abE [(.agg [(.int .i64 c),(.int .i64 d),(.str e),f])]) fun g=>pK g fun h=>vK h fun i j l m=>kn (.b 1 x4 z5 (IntKind.wrap .i64 (z6 + (Int.ofNat 1))) [(.agg [(.int .i64 i),(.int .i64 j),(.str l),m])])) (kx .a))
  | .b n o p q r=>(ifB (decide (q < p)) (slK o fun t=>natK q fun u=>nthK t u fun v=>vK v fun w x y z=>bindK (rec abE [(.agg [(.int .i64 w),(.int .i64 x),(.str y),z])]) fun a0=>pK a0 fun b0=>vK b0 fun c0 d0 e0 f0=>chk (Nat.beq n (List.length r)) (chk (Nat.ble ((n + 1) * 56) 1099511627776) (kn (.b (n + 1) o p (IntKind.wrap .i64 (q + (Int.ofNat 1))) (r ++ [(.agg [(.int .i64 c0),(.int .i64 d0),(.str e0),f0])]))))) (kx (.b n r)))
def ab4 (k:Nat) (rec:Rec1) (ts:Tds) (kx:ahY→OA):Nat→ack→OA
  | 0,_=>none
  | j + 1,s=>afb k rec ts (ab4 k rec ts kx j) kx s
def aqE (k:Nat) (rec:Rec1) (ts:Tds) (p0:PVal):OA :=
 (slK p0 fun l1=>ab4 k rec ts (fun x=>match x with | .a=>(some (.p .nils)) | .b n2 l3=>chk (Nat.ble (0 + n2) (List.length l3)) (some (.p (.sl (List.take n2 (List.drop 0 l3)))))) k (.a p0 (((List.length l1):Nat):Int) (Int.ofNat 0)))
def lodfresh (k:Nat) (rec:Rec1) (ts:Tds):Loops AVal:=(lo1 0 0 [3,6,7,8] rddfresh_0 (fun K=>ab4 k rec ts (alB K) k) lo0)
def af4 (k:Nat) (rec:Rec1) (ts:Tds) (p0:PVal):OA :=
 (aggK p0 fun l1=>consK l1 fun x2 l3=>intK .i64 x2 fun z4=>consK l3 fun x5 l6=>intK .i64 x5 fun z7=>endK l6 (some (.p (.bool (decide ((IntKind.wrap .i64 (z7 - z4)) < (Int.ofNat 32)))))))
def akq (k:Nat) (rec:Rec1) (ts:Tds) (p0:PVal):OA :=
 (aggK p0 fun l1=>endK l1 (some (.p (.bool true))))
def aee (k:Nat) (rec:Rec1) (ts:Tds) (p0:PVal):OA :=
 (bindK (rec aaI [p0]) fun x1=>pK x1 fun x2=>tupK x2 fun l3=>consK l3 fun x4 l5=>consK l5 fun x6 l7=>boolK x6 fun b8=>endK l7 (some (.p (.bool (!b8)))))
def bXFF_0:Code:=sb 0 (bd fn_XFF)
inductive ahN where
  | a (a0 a1:PVal) (a2 a3:Int)
inductive ExXFF_0 where
  | a (a0:Int)
  | b
def mkXFF_0 (s:ahN):XC:=match s with
  | .a v0 v1 v2 v3=>(XC.mk [(.p v0),(.p v1),(.p (.int .i64 v2)),(.p (.int .i64 v3))] [])
def aoU {α:Type} (c:XC) (K:ahN→Option α) (e:Unit→Option α):Option α:=match c with
  | (XC.mk [(.p v0),(.p v1),(.p (.int .i64 v2)),(.p (.int .i64 v3))] [])=>K (.a v0 v1 v2 v3)
  | _=>e ()
theorem rdXFF_0_a_some:RdS mkXFF_0 @aoU:=fun h=>by unfold aoU at h; split at h <;> first | exact .inl ⟨_,rfl,h⟩ | exact .inr h
def rdXFF_0 {α:Type} (c:XC) (K:ahN→Option α):Option α:=aoU c K fun _=>none
theorem rdXFF_0_some:RdT mkXFF_0 @rdXFF_0:=fun h=>(rdXFF_0_a_some h).elim id fun h=>absurd h (by simp)
def ao5:XE→List Nat:=(outsOf [(0,[])] [4])
def kxXFF_0 (K:KX AVal) (x:ExXFF_0):OA:=match x with
  | .a v0=>kq K XE.ret ao5 XE.ret (XC.mk [(.p (.int .i64 v0))] [])
  | .b=>kq K XE.normal ao5 (XE.exit 0) (XC.mk [] [])
def S_XFF_0 (k:Nat) (rec:Rec1) (ts:Tds) (kn:ahN→OA) (kx:ExXFF_0→OA) (s:ahN):OA:=match s with
  | .a x3 x4 z5 z6=>(ifB (decide (z6 < z5)) (slK x3 fun l7=>natK z6 fun n8=>nthK l7 n8 fun x9=>chk (Nat.beq (List.length (cellsP x9)) 1) (chk (! (isAggP x9)) (fnK x4 fun c d=>chk (! (xi c)) (bindK (rec c ([x9] ++ d)) fun e=>pK e fun f=>boolK f fun g=>ifB g (kx (.a z6)) (kn (.a x3 x4 z5 (IntKind.wrap .i64 (z6 + (Int.ofNat 1))))))))) (kx .b))
def ai7 (k:Nat) (rec:Rec1) (ts:Tds) (kx:ExXFF_0→OA):Nat→ahN→OA
  | 0,_=>none
  | j + 1,s=>S_XFF_0 k rec ts (ai7 k rec ts kx j) kx s
def FF_XFF (k:Nat) (rec:Rec1) (ts:Tds) (p0 p1:PVal):OA :=
 (slK p0 fun l1=>ai7 k rec ts (fun x=>match x with | .a z2=>(some (.p (.int .i64 z2))) | .b=>some (.p (.int .i64 (Int.negSucc 0)))) k (.a p0 p1 (((List.length l1):Nat):Int) (Int.ofNat 0)))
def loXFF (k:Nat) (rec:Rec1) (ts:Tds):Loops AVal:=(lo1 0 0 [0,1,7,8] rdXFF_0 (fun K=>ai7 k rec ts (kxXFF_0 K) k) lo0)
def FF_CFF (k:Nat) (rec:Rec1) (ts:Tds) (p0 p1:PVal):OA :=
 (bindK (rec i_XFF (p0 :: [p1])) fun x1=>pK x1 fun x2=>intK .i64 x2 fun z3=>some (.p (.bool (decide (z3 ≥ (Int.ofNat 0))))))
def af5 (k:Nat) (rec:Rec1) (ts:Tds) (p0:PVal):OA :=
 (aggK p0 fun l1=>consK l1 fun x2 l3=>endK l3 (bindK (rec i_CFF [x2,(.fn (.func aaG) [])]) fun x4=>pK x4 fun x5=>boolK x5 fun b6=>some (.p (.bool (!b6)))))
def af7 (k:Nat) (rec:Rec1) (ts:Tds) (p0:PVal):OA :=
 (aggK p0 fun l1=>consK l1 fun x2 l3=>intK .i64 x2 fun z4=>consK l3 fun x5 l6=>endK l6 (bindK (rec aaI [x5]) fun x7=>pK x7 fun x8=>tupK x8 fun l9=>consK l9 fun a b=>consK b fun c d=>boolK c fun e=>endK d (some (.p (.bool e)))))
def aks (k:Nat) (rec:Rec1) (ts:Tds) (p0:PVal):OA :=
 (aggK p0 fun l1=>endK l1 (some (.p (.bool true))))
def akr (k:Nat) (rec:Rec1) (ts:Tds) (p0:PVal):OA :=
 (aggK p0 fun l1=>endK l1 (some (.p (.bool false))))
def ahU (k:Nat) (rec:Rec1) (ts:Tds) (p0:PVal):OA :=
 (kK p0 fun z4 z7 a b c=>bindK (rec acs [(.agg [(.int .i64 z4),(.int .i64 z7),(.int .i64 a),(.int .i64 b),c])]) fun d=>pK d fun e=>intK .i64 e fun f=>ifB (f != (Int.ofNat 0)) (some (.p (.tup [.nils,(.int .i64 (Int.ofNat 2))]))) (bindK (rec abD [(.agg [(.int .i64 z4),(.int .i64 z7),(.int .i64 a),(.int .i64 b),c])]) fun g=>pK g fun h=>bindK (rec aaI [h]) fun i=>pK i fun j=>tupK j fun l=>consK l fun m n=>consK n fun o q=>boolK o fun r=>endK q (ifB (!r) (some (.p (.tup [.nils,(.int .i64 (Int.ofNat 3))]))) (bindK (rec aj6 [m]) fun t=>pK t fun u=>some (.p (.tup [u,(.int .i64 (Int.ofNat 0))]))))))
def bXFV_0:Code:=sb 0 (bd fn_XFV)
inductive ahK where
  | a (a0 a1:PVal) (a2 a3:Int)
inductive ExXFV_0 where
  | a (a0:Int)
  | b
def mkXFV_0 (s:ahK):XC:=match s with
  | .a v0 v1 v2 v3=>(XC.mk [(.p v0),(.p v1),(.p (.int .i64 v2)),(.p (.int .i64 v3))] [])
def aoR {α:Type} (c:XC) (K:ahK→Option α) (e:Unit→Option α):Option α:=match c with
  | (XC.mk [(.p v0),(.p v1),(.p (.int .i64 v2)),(.p (.int .i64 v3))] [])=>K (.a v0 v1 v2 v3)
  | _=>e ()
theorem rdXFV_0_a_some:RdS mkXFV_0 @aoR:=fun h=>by unfold aoR at h; split at h <;> first | exact .inl ⟨_,rfl,h⟩ | exact .inr h
def rdXFV_0 {α:Type} (c:XC) (K:ahK→Option α):Option α:=aoR c K fun _=>none
theorem rdXFV_0_some:RdT mkXFV_0 @rdXFV_0:=fun h=>(rdXFV_0_a_some h).elim id fun h=>absurd h (by simp)
def ao2:XE→List Nat:=(outsOf [(0,[])] [4])
def kxXFV_0 (K:KX AVal) (x:ExXFV_0):OA:=match x with
  | .a v0=>kq K XE.ret ao2 XE.ret (XC.mk [(.p (.int .i64 v0))] [])
  | .b=>kq K XE.normal ao2 (XE.exit 0) (XC.mk [] [])
def S_XFV_0 (k:Nat) (rec:Rec1) (ts:Tds) (kn:ahK→OA) (kx:ExXFV_0→OA) (s:ahK):OA:=match s with
  | .a x3 x4 z5 z6=>(ifB (decide (z6 < z5)) (slK x3 fun l7=>natK z6 fun n8=>nthK l7 n8 fun x9=>vK x9 fun c d e f=>fnK x4 fun g h=>chk (! (xi g)) (bindK (rec g ([(.agg [(.int .i64 c),(.int .i64 d),(.str e),f])] ++ h)) fun i=>pK i fun j=>boolK j fun l=>ifB l (kx (.a z6)) (kn (.a x3 x4 z5 (IntKind.wrap .i64 (z6 + (Int.ofNat 1))))))) (kx .b))
def ai4 (k:Nat) (rec:Rec1) (ts:Tds) (kx:ExXFV_0→OA):Nat→ahK→OA
  | 0,_=>none
  | j + 1,s=>S_XFV_0 k rec ts (ai4 k rec ts kx j) kx s
def FF_XFV (k:Nat) (rec:Rec1) (ts:Tds) (p0 p1:PVal):OA :=
 (slK p0 fun l1=>ai4 k rec ts (fun x=>match x with | .a z2=>(some (.p (.int .i64 z2))) | .b=>some (.p (.int .i64 (Int.negSucc 0)))) k (.a p0 p1 (((List.length l1):Nat):Int) (Int.ofNat 0)))
def loXFV (k:Nat) (rec:Rec1) (ts:Tds):Loops AVal:=(lo1 0 0 [0,1,7,8] rdXFV_0 (fun K=>ai4 k rec ts (kxXFV_0 K) k) lo0)
def FF_CFV (k:Nat) (rec:Rec1) (ts:Tds) (p0 p1:PVal):OA :=
 (bindK (rec i_XFV (p0 :: [p1])) fun x1=>pK x1 fun x2=>intK .i64 x2 fun z3=>some (.p (.bool (decide (z3 ≥ (Int.ofNat 0))))))
def FF_lIV_1 (k:Nat) (rec:Rec1) (ts:Tds) (p0 p1:PVal):OA :=
 (vK p0 fun z4 z7 a b=>ipK p1 fun c=>aggK c fun d=>chk (Nat.beq (List.length d) 4) (consK d fun e f=>intK .i64 e fun g=>consK f fun h i=>intK .i64 h fun j=>consK i fun l m=>strK l fun n=>consK m fun o q=>endK q (bindK (rec aer ((.agg [(.int .i64 z4),(.int .i64 z7),(.str a),b]) :: [(.agg [(.int .i64 g),(.int .i64 j),(.str n),o])])) fun r=>pK r fun t=>boolK t fun u=>some (.p (.bool u)))))
def blIV_0:Code:=sb 0 (bd fn_lIV)
inductive ahH where
  | a (a0 a1:PVal) (a2 a3 a4 a5 a6 a7:Int) (a8:PVal) (a9 a10:Int) (a11:List Nat) (a12:PVal)
inductive aqM where
  | a
  | b (a0:PVal) (a1 a2 a3 a4:Int) (a5:PVal) (a6 a7:Int) (a8:List Nat) (a9:PVal)
def mklIV_0 (s:ahH):XC:=match s with
  | .a v0 v1 v2 v3 v4 v5 v6 v7 v8 v9 v10 v11 v12=>(XC.mk [(.box 0 0),(.box 1 0),(.p v0),(.p v1),(.p (.int .i64 v2)),(.p (.int .i64 v3))] [(.box [(.p (.int .i64 v4)),(.p (.int .i64 v5)),(.p (.int .i64 v6)),(.p (.int .i64 v7)),(.p v8)]),(.box [(.p (.int .i64 v9)),(.p (.int .i64 v10)),(.p (.str v11)),(.p v12)])])
def aog {α:Type} (c:XC) (K:ahH→Option α) (e:Unit→Option α):Option α:=match c with
  | (XC.mk [(.box 0 0),(.box 1 0),(.p v0),(.p v1),(.p (.int .i64 v2)),(.p (.int .i64 v3))] [(.box [(.p (.int .i64 v4)),(.p (.int .i64 v5)),(.p (.int .i64 v6)),(.p (.int .i64 v7)),(.p v8)]),(.box [(.p (.int .i64 v9)),(.p (.int .i64 v10)),(.p (.str v11)),(.p v12)])])=>K (.a v0 v1 v2 v3 v4 v5 v6 v7 v8 v9 v10 v11 v12)
  | _=>e ()
theorem rdlIV_0_a_some:RdS mklIV_0 @aog:=fun h=>by unfold aog at h; split at h <;> first | exact .inl ⟨_,rfl,h⟩ | exact .inr h
def rdlIV_0 {α:Type} (c:XC) (K:ahH→Option α):Option α:=aog c K fun _=>none
theorem rdlIV_0_some:RdT mklIV_0 @rdlIV_0:=fun h=>(rdlIV_0_a_some h).elim id fun h=>absurd h (by simp)
def aoZ:XE→List Nat:=(outsOf [(0,[2,3,5])] [4])
def kxlIV_0 (K:KX AVal) (x:aqM):OA:=match x with
  | .a=>kq K XE.ret aoZ XE.ret (XC.mk [(.p (.bool false))] [])
  | .b v0 v1 v2 v3 v4 v5 v6 v7 v8 v9=>kq K XE.normal aoZ (XE.exit 0) (XC.mk [(.box 0 0),(.box 1 0),(.p v0)] [(.box [(.p (.int .i64 v1)),(.p (.int .i64 v2)),(.p (.int .i64 v3)),(.p (.int .i64 v4)),(.p v5)]),(.box [(.p (.int .i64 v6)),(.p (.int .i64 v7)),(.p (.str v8)),(.p v9)])])
def aqm (k:Nat) (rec:Rec1) (ts:Tds) (kn:ahH→OA) (kx:aqM→OA) (s:ahH):OA:=match s with
  | .a c d e f g h i j l m n o p=>(ifB (decide (f < e)) (slK d fun q=>natK f fun r=>nthK q r fun t=>vK t fun u v w x=>bindK (rec adr [(.agg [(.int .i64 u),(.int .i64 v),(.str w),x])]) fun y=>pK y fun z=>boolK z fun a0=>ifB (!a0) (kx .a) (bindK (rec abZ [(.agg [(.int .i64 u),(.int .i64 v),(.str w),x])]) fun b0=>pK b0 fun c0=>boolK c0 fun d0=>ifB (!d0) (kx .a) (bindK (rec i_eIs ((.agg [(.int .i64 g),(.int .i64 h),(.int .i64 i),(.int .i64 j),l]) :: [(.agg [(.int .i64 u),(.int .i64 v),(.str w),x])])) fun e0=>pK e0 fun f0=>boolK f0 fun g0=>ifB (!g0) (kx .a) (ifB (decide (f > (Int.ofNat 0))) (slK c fun h0=>natK (IntKind.wrap .i64 (f - (Int.ofNat 1))) fun i0=>nthK h0 i0 fun j0=>vK j0 fun l0 m0 n0 o0=>bindK (rec aaV ((.agg [(.int .i64 l0),(.int .i64 m0),(.str n0),o0]) :: [(.agg [(.int .i64 u),(.int .i64 v),(.str w),x])])) fun p0=>pK p0 fun q0=>intK .i64 q0 fun r0=>ifB (decide (r0 ≥ (Int.ofNat 0))) (kx .a) (kn (.a c d e (IntKind.wrap .i64 (f + (Int.ofNat 1))) g h i j l m n o p))) (kn (.a c d e (IntKind.wrap .i64 (f + (Int.ofNat 1))) g h i j l m n o p)))))) (kx (.b c g h i j l m n o p)))
def aed (k:Nat) (rec:Rec1) (ts:Tds) (kx:aqM→OA):Nat→ahH→OA
  | 0,_=>none
  | j + 1,s=>aqm k rec ts (aed k rec ts kx j) kx s
def FF_lIV (k:Nat) (rec:Rec1) (ts:Tds) (p0 p1:PVal):OA :=
 (kK p0 fun z4 z7 c d e=>vK p1 fun f g h i=>bindK (rec anc [(.agg [(.int .i64 z4),(.int .i64 z7),(.int .i64 c),(.int .i64 d),e])]) fun j=>pK j fun l=>boolK l fun m=>ifB (!m) (bindK (rec i_lKn []) fun n=>pK n fun o=>boolK o fun q=>some (.p (.bool q))) (bindK (rec adr [(.agg [(.int .i64 f),(.int .i64 g),(.str h),i])]) fun r=>pK r fun t=>boolK t fun u=>ifB (!u) (bindK (rec i_lKn []) fun v=>pK v fun w=>boolK w fun y=>some (.p (.bool y))) (bindK (rec anb [(.agg [(.int .i64 z4),(.int .i64 z7),(.int .i64 c),(.int .i64 d),e])]) fun z=>pK z fun a0=>boolK a0 fun b0=>ifB (!b0) (bindK (rec i_lKn []) fun c0=>pK c0 fun d0=>boolK d0 fun e0=>some (.p (.bool e0))) (bindK (rec ad1 [(.agg [(.int .i64 z4),(.int .i64 z7),(.int .i64 c),(.int .i64 d),e])]) fun f0=>pK f0 fun g0=>tupK g0 fun h0=>consK h0 fun i0 j0=>consK j0 fun l0 m0=>intK .i64 l0 fun n0=>endK m0 (ifB (n0 != (Int.ofNat 0)) (ifB (n0 == (Int.ofNat 3)) (slK i0 fun o0=>ifB ((((List.length o0):Nat):Int) == (Int.ofNat 0)) (bindK (rec i_lKn []) fun q0=>pK q0 fun r0=>boolK r0 fun t0=>some (.p (.bool t0))) (some (.p (.bool false)))) (some (.p (.bool false)))) (bindK (rec acf [(.agg [(.int .i64 z4),(.int .i64 z7),(.int .i64 c),(.int .i64 d),e])]) fun u0=>pK u0 fun v0=>tupK v0 fun w0=>consK w0 fun x0 y0=>intK .i64 x0 fun z0=>consK y0 fun a1 b1=>boolK a1 fun c1=>endK b1 (ifB c1 (slK i0 fun d1=>ifB (z0 != (((List.length d1):Nat):Int)) (some (.p (.bool false))) (slK i0 fun e1=>ifB (decide ((((List.length e1):Nat):Int) > (Int.ofNat 32))) (some (.p (.bool false))) (slK i0 fun f1=>aed k rec ts (fun x=>match x with | .a=>(some (.p (.bool false))) | .b g1 h1 i1 j1 l1 m1 n1 o1 q1 r1=>bindK (rec abZ [(.agg [(.int .i64 n1),(.int .i64 o1),(.str q1),r1])]) fun t1=>pK t1 fun u1=>boolK u1 fun v1=>ifB (!v1) (bindK (rec i_lKn []) fun w1=>pK w1 fun x1=>boolK x1 fun y1=>some (.p (.bool y1))) (bindK (rec i_CFV (g1 :: [(.fn (.func acR) [(.ip (ipOf [(.int .i64 n1),(.int .i64 o1),(.str q1),r1]))])])) fun z1=>pK z1 fun a2=>boolK a2 fun b2=>bindK (rec i_eIs ((.agg [(.int .i64 h1),(.int .i64 i1),(.int .i64 j1),(.int .i64 l1),m1]) :: [(.agg [(.int .i64 n1),(.int .i64 o1),(.str q1),r1])])) fun c2=>pK c2 fun d2=>boolK d2 fun e2=>ifB (b2 == e2) (bindK (rec i_lKn []) fun f2=>pK f2 fun g2=>boolK g2 fun h2=>some (.p (.bool h2))) (some (.p (.bool false))))) k (.a i0 i0 (((List.length f1):Nat):Int) (Int.ofNat 0) z4 z7 c d e f g h i)))) (slK i0 fun i2=>ifB (decide ((((List.length i2):Nat):Int) > (Int.ofNat 32))) (some (.p (.bool false))) (slK i0 fun j2=>aed k rec ts (fun x=>match x with | .a=>(some (.p (.bool false))) | .b l2 m2 n2 o2 p2 q2 r2 t2 u2 v2=>bindK (rec abZ [(.agg [(.int .i64 r2),(.int .i64 t2),(.str u2),v2])]) fun w2=>pK w2 fun x2=>boolK x2 fun y2=>ifB (!y2) (bindK (rec i_lKn []) fun z2=>pK z2 fun a3=>boolK a3 fun b3=>some (.p (.bool b3))) (bindK (rec i_CFV (l2 :: [(.fn (.func acR) [(.ip (ipOf [(.int .i64 r2),(.int .i64 t2),(.str u2),v2]))])])) fun c3=>pK c3 fun d3=>boolK d3 fun e3=>bindK (rec i_eIs ((.agg [(.int .i64 m2),(.int .i64 n2),(.int .i64 o2),(.int .i64 p2),q2]) :: [(.agg [(.int .i64 r2),(.int .i64 t2),(.str u2),v2])])) fun f3=>pK f3 fun g3=>boolK g3 fun h3=>ifB (e3 == h3) (bindK (rec i_lKn []) fun i3=>pK i3 fun j3=>boolK j3 fun l3=>some (.p (.bool l3))) (some (.p (.bool false))))) k (.a i0 i0 (((List.length j2):Nat):Int) (Int.ofNat 0) z4 z7 c d e f g h i))))))))))
def lolIV (k:Nat) (rec:Rec1) (ts:Tds):Loops AVal:=(lo1 0 0 [2,3,5,59,60,61] rdlIV_0 (fun K=>aed k rec ts (kxlIV_0 K) k) lo0)
def FF_Clp (k:Nat) (rec:Rec1) (ts:Tds) (p0:PVal):OA :=
 (slK p0 fun l1=>slK p0 fun l2=>nslK p0 (chk (Nat.ble (List.length l1) 0) (chk (Nat.beq (List.length l2) (List.length l1)) (some (.p .nils)))) fun l3=>chk (Nat.ble (List.length l1) (List.length l3)) (chk (Nat.beq (List.length l2) (List.length l1)) (chk (wide 4 l3) (some (.cl (List.take ((List.length l1) - 0) (List.drop 0 l3)))))))
def FF_Cln (k:Nat) (rec:Rec1) (ts:Tds) (p0:PVal):OA :=
 (nilSK p0 fun b1=>ifB b1 (some (.p .nils)) (slK p0 fun l2=>chk (widths true 4 l2) (listK l2 (some (.p (.sl []))) fun x3 l4=>chk (Nat.ble ((0 + (List.length (x3 :: l4))) * 56) 1099511627776) (chk (Nat.ble (0 + (0 + (List.length (x3 :: l4)))) (List.length ([] ++ (x3 :: l4)))) (some (.p (.sl (List.take (0 + (List.length (x3 :: l4))) (List.drop 0 ([] ++ (x3 :: l4)))))))))))
def al5 (k:Nat) (rec:Rec1) (ts:Tds) (p0:PVal):OA :=
 (intK .i64 p0 fun z1=>some (.p (.agg [(.int .i64 (Int.ofNat 1)),(.int .i64 z1),(.str []), .nils])))
def af6 (k:Nat) (rec:Rec1) (ts:Tds) (p0:PVal):OA :=
 (slK p0 fun l1=>some (.p (.bool (((List.length l1:Nat):Int) == (Int.ofNat 0)))))
def ahc (k:Nat) (rec:Rec1) (ts:Tds) (p0 p1:PVal):OA :=
 (intK .i64 p0 fun z1=>bindK (rec i_Cln [p1]) fun x2=>pK x2 fun x3=>chk (oneP.match_1 (fun y8=>Bool) x3 (fun y8=>false) (fun y8=>false) (fun y8=>true)) (some (.p (.agg [(.int .i64 z1),(.int .i64 (Int.ofNat 0)),(.str []),x3]))))
def bXFL_0:Code:=sb 0 (bd fn_XFL)
inductive ahL where
  | a (a0 a1:PVal) (a2 a3:Int)
inductive ExXFL_0 where
  | a (a0:Int)
  | b
def mkXFL_0 (s:ahL):XC:=match s with
  | .a v0 v1 v2 v3=>(XC.mk [(.p v0),(.p v1),(.p (.int .i64 v2)),(.p (.int .i64 v3))] [])
def aoS {α:Type} (c:XC) (K:ahL→Option α) (e:Unit→Option α):Option α:=match c with
  | (XC.mk [(.p v0),(.p v1),(.p (.int .i64 v2)),(.p (.int .i64 v3))] [])=>K (.a v0 v1 v2 v3)
  | _=>e ()
theorem rdXFL_0_a_some:RdS mkXFL_0 @aoS:=fun h=>by unfold aoS at h; split at h <;> first | exact .inl ⟨_,rfl,h⟩ | exact .inr h
def rdXFL_0 {α:Type} (c:XC) (K:ahL→Option α):Option α:=aoS c K fun _=>none
theorem rdXFL_0_some:RdT mkXFL_0 @rdXFL_0:=fun h=>(rdXFL_0_a_some h).elim id fun h=>absurd h (by simp)
def ao3:XE→List Nat:=(outsOf [(0,[])] [4])
def kxXFL_0 (K:KX AVal) (x:ExXFL_0):OA:=match x with
  | .a v0=>kq K XE.ret ao3 XE.ret (XC.mk [(.p (.int .i64 v0))] [])
  | .b=>kq K XE.normal ao3 (XE.exit 0) (XC.mk [] [])
def S_XFL_0 (k:Nat) (rec:Rec1) (ts:Tds) (kn:ahL→OA) (kx:ExXFL_0→OA) (s:ahL):OA:=match s with
  | .a x3 x4 z5 z6=>(ifB (decide (z6 < z5)) (slK x3 fun l7=>natK z6 fun n8=>nthK l7 n8 fun x9=>chk (Nat.beq (List.length (cellsP x9)) 1) (chk (! (isAggP x9)) (fnK x4 fun c d=>chk (! (xi c)) (bindK (rec c ([x9] ++ d)) fun e=>pK e fun f=>boolK f fun g=>ifB g (kx (.a z6)) (kn (.a x3 x4 z5 (IntKind.wrap .i64 (z6 + (Int.ofNat 1))))))))) (kx .b))
def ai5 (k:Nat) (rec:Rec1) (ts:Tds) (kx:ExXFL_0→OA):Nat→ahL→OA
  | 0,_=>none
  | j + 1,s=>S_XFL_0 k rec ts (ai5 k rec ts kx j) kx s
def FF_XFL (k:Nat) (rec:Rec1) (ts:Tds) (p0 p1:PVal):OA :=
 (slK p0 fun l1=>ai5 k rec ts (fun x=>match x with | .a z2=>(some (.p (.int .i64 z2))) | .b=>some (.p (.int .i64 (Int.negSucc 0)))) k (.a p0 p1 (((List.length l1):Nat):Int) (Int.ofNat 0)))
def loXFL (k:Nat) (rec:Rec1) (ts:Tds):Loops AVal:=(lo1 0 0 [0,1,7,8] rdXFL_0 (fun K=>ai5 k rec ts (kxXFL_0 K) k) lo0)
def FF_CFL (k:Nat) (rec:Rec1) (ts:Tds) (p0 p1:PVal):OA :=
 (bindK (rec i_XFL (p0 :: [p1])) fun x1=>pK x1 fun x2=>intK .i64 x2 fun z3=>some (.p (.bool (decide (z3 ≥ (Int.ofNat 0))))))
def bdcopied_0:Code:=sb 0 (bd alN)
inductive abR where
  | a (a0:PVal) (a1 a2 a3 a4:Int) (a5:List Nat) (a6:PVal) (a7 a8:Int) (a9:List Nat)
  | b (a0:Nat) (a1:PVal) (a2 a3 a4 a5:Int) (a6:List Nat) (a7:PVal) (a8 a9:Int) (a10:List Nat) (a11:List PVal)
inductive aga where
  | a (a0 a1:Int) (a2:List Nat) (a3:PVal) (a4 a5:Int) (a6:List Nat)
  | b (a0:Nat) (a1 a2:Int) (a3:List Nat) (a4:PVal) (a5 a6:Int) (a7:List Nat) (a8:List PVal)
def afK (s:abR):XC:=match s with
  | .a v0 v1 v2 v3 v4 v5 v6 v7 v8 v9=>(XC.mk [(.box 0 0),(.box 1 0),(.p .nils),(.p v0),(.p (.int .i64 v1)),(.p (.int .i64 v2))] [(.box [(.p (.int .i64 v3)),(.p (.int .i64 v4)),(.p (.str v5)),(.p v6)]),(.box [(.p (.int .i64 v7)),(.p (.int .i64 v8)),(.p (.str v9)),(.p .nils)])])
  | .b v0 v1 v2 v3 v4 v5 v6 v7 v8 v9 v10 v11=>(XC.mk [(.box 0 0),(.box 1 0),(.arr 2 0 0 v0 false),(.p v1),(.p (.int .i64 v2)),(.p (.int .i64 v3))] [(.box [(.p (.int .i64 v4)),(.p (.int .i64 v5)),(.p (.str v6)),(.p v7)]),(.box [(.p (.int .i64 v8)),(.p (.int .i64 v9)),(.p (.str v10)),(.p .nils)]),(.arr 4 v11 0 0 0)])
def afs {α:Type} (c:XC) (K:abR→Option α) (e:Unit→Option α):Option α:=match c with
  | (XC.mk [(.box 0 0),(.box 1 0),(.p .nils),(.p v0),(.p (.int .i64 v1)),(.p (.int .i64 v2))] [(.box [(.p (.int .i64 v3)),(.p (.int .i64 v4)),(.p (.str v5)),(.p v6)]),(.box [(.p (.int .i64 v7)),(.p (.int .i64 v8)),(.p (.str v9)),(.p .nils)])])=>K (.a v0 v1 v2 v3 v4 v5 v6 v7 v8 v9)
  | _=>e ()
theorem ajN:RdS afK @afs:=fun h=>by unfold afs at h; split at h <;> first | exact .inl ⟨_,rfl,h⟩ | exact .inr h
def afr {α:Type} (c:XC) (K:abR→Option α) (e:Unit→Option α):Option α:=match c with
  | (XC.mk [(.box 0 0),(.box 1 0),(.arr 2 0 0 v0 false),(.p v1),(.p (.int .i64 v2)),(.p (.int .i64 v3))] [(.box [(.p (.int .i64 v4)),(.p (.int .i64 v5)),(.p (.str v6)),(.p v7)]),(.box [(.p (.int .i64 v8)),(.p (.int .i64 v9)),(.p (.str v10)),(.p .nils)]),(.arr 4 v11 0 0 0)])=>K (.b v0 v1 v2 v3 v4 v5 v6 v7 v8 v9 v10 v11)
  | _=>e ()
theorem ajM:RdS afK @afr:=fun h=>by unfold afr at h; split at h <;> first | exact .inl ⟨_,rfl,h⟩ | exact .inr h
def aoL {α:Type} (c:XC) (K:abR→Option α):Option α:=afs c K fun _=>afr c K fun _=>none
theorem amZ:RdT afK @aoL:=fun h=>(ajN h).elim id fun h=>(ajM h).elim id fun h=>absurd h (by simp)
def afD:XE→List Nat:=(outsOf [(0,[1,2,3])] [2])
def aiK (K:KX AVal) (x:aga):OA:=match x with
  | .a v0 v1 v2 v3 v4 v5 v6=>kq K XE.normal afD (XE.exit 0) (XC.mk [(.box 0 0),(.box 1 0),(.p .nils)] [(.box [(.p (.int .i64 v0)),(.p (.int .i64 v1)),(.p (.str v2)),(.p v3)]),(.box [(.p (.int .i64 v4)),(.p (.int .i64 v5)),(.p (.str v6)),(.p .nils)])])
  | .b v0 v1 v2 v3 v4 v5 v6 v7 v8=>kq K XE.normal afD (XE.exit 0) (XC.mk [(.box 0 0),(.box 1 0),(.arr 2 0 0 v0 false)] [(.box [(.p (.int .i64 v1)),(.p (.int .i64 v2)),(.p (.str v3)),(.p v4)]),(.box [(.p (.int .i64 v5)),(.p (.int .i64 v6)),(.p (.str v7)),(.p .nils)]),(.arr 4 v8 0 0 0)])
def aea (k:Nat) (rec:Rec1) (ts:Tds) (kn:abR→OA) (kx:aga→OA) (s:abR):OA:=match s with
  | .a c d e f g h i j l m=>(ifB (decide (e < d)) (slK c fun n=>natK e fun o=>nthK n o fun p=>vK p fun q r t u=>bindK (rec abE [(.agg [(.int .i64 q),(.int .i64 r),(.str t),u])]) fun v=>pK v fun w=>vK w fun x y z a0=>kn (.b 1 c d (IntKind.wrap .i64 (e + (Int.ofNat 1))) f g h i j l m [(.agg [(.int .i64 x),(.int .i64 y),(.str z),a0])])) (kx (.a f g h i j l m)))
  | .b b0 c0 d0 e0 f0 g0 h0 i0 j0 l0 m0 n0=>(ifB (decide (e0 < d0)) (slK c0 fun o0=>natK e0 fun p0=>nthK o0 p0 fun q0=>vK q0 fun r0 t0 u0 v0=>bindK (rec abE [(.agg [(.int .i64 r0),(.int .i64 t0),(.str u0),v0])]) fun w0=>pK w0 fun x0=>vK x0 fun y0 z0 a1 b1=>chk (Nat.beq b0 (List.length n0)) (chk (Nat.ble ((b0 + 1) * 56) 1099511627776) (kn (.b (b0 + 1) c0 d0 (IntKind.wrap .i64 (e0 + (Int.ofNat 1))) f0 g0 h0 i0 j0 l0 m0 (n0 ++ [(.agg [(.int .i64 y0),(.int .i64 z0),(.str a1),b1])]))))) (kx (.b b0 f0 g0 h0 i0 j0 l0 m0 n0)))
def abC (k:Nat) (rec:Rec1) (ts:Tds) (kx:aga→OA):Nat→abR→OA
  | 0,_=>none
  | j + 1,s=>aea k rec ts (abC k rec ts kx j) kx s
def al7 (k:Nat) (rec:Rec1) (ts:Tds) (p0:PVal):OA :=
 (vK p0 fun z4 z7 c d=>slK d fun e=>abC k rec ts (fun x=>match x with | .a f g h i j l m=>(some (.p (.agg [(.int .i64 f),(.int .i64 g),(.str h), .nils]))) | .b n o q r t u v w y=>chk (Nat.ble (0 + n) (List.length y)) (some (.p (.agg [(.int .i64 o),(.int .i64 q),(.str r),(.sl (List.take n (List.drop 0 y)))])))) k (.a d (((List.length e):Nat):Int) (Int.ofNat 0) z4 z7 c d (Int.ofNat 0) (Int.ofNat 0) []))
def lodcopied (k:Nat) (rec:Rec1) (ts:Tds):Loops AVal:=(lo1 0 0 [1,2,3,7,8,9] aoL (fun K=>abC k rec ts (aiK K) k) lo0)
def akf:Cfg:={ shs:=shOf prog,res:=sitesOf prog [(40,4),(39,29),(49,4),(46,4),(76,4),(75,29),(71,146),(62,78),(103,4),(102,29),(98,146),(84,78),(22,4)] [] [],imp:=xi,gl:=gl,m:=0,rd:=false,sk:=Sw.keyOf [(98,0),(71,1)],ro:=ajQ [(71,XE.normal,[2,3,4]),(98,XE.normal,[2,3,4,5,17,92,93]),(98,XE.ret,[2,3]),(71,XE.ret,[2,3])] }
def bdlisted_1:Code:=sb 1 (bd acA)
inductive abq where
  | a (a0:Int) (a1:Bool) (a2 a3:Int)
  | b (a0:Int) (a1:Bool) (a2:Nat) (a3 a4:Int) (a5:List PVal)
inductive aeh where
  | a (a0:Bool)
  | b (a0:Bool) (a1:Nat) (a2:List PVal)
def afI (s:abq):XC:=match s with
  | .a v0 v1 v2 v3=>(XC.mk [(.box 0 0),(.box 1 0),(.box 2 0),(.box 3 0),(.box 4 0),(.p (.int .i64 v0))] [(.box [(.p .nils)]),(.box [(.p (.bool v1))]),(.box [(.p .nils)]),(.box [(.fn (.func 75) [(.box 2 0)])]),(.box [(.p (.int .i64 v2)),(.p (.int .i64 v3))])])
  | .b v0 v1 v2 v3 v4 v5=>(XC.mk [(.box 0 0),(.box 1 0),(.box 2 0),(.box 3 0),(.box 4 0),(.p (.int .i64 v0))] [(.box [(.p .nils)]),(.box [(.p (.bool v1))]),(.box [(.arr 5 0 0 v2 false)]),(.box [(.fn (.func 75) [(.box 2 0)])]),(.box [(.p (.int .i64 v3)),(.p (.int .i64 v4))]),(.arr 4 v5 0 0 0)])
def afo {α:Type} (c:XC) (K:abq→Option α) (e:Unit→Option α):Option α:=match c with
  | (XC.mk [(.box 0 0),(.box 1 0),(.box 2 0),(.box 3 0),(.box 4 0),(.p (.int .i64 v0))] [(.box [(.p .nils)]),(.box [(.p (.bool v1))]),(.box [(.p .nils)]),(.box [(.fn (.func 75) [(.box 2 0)])]),(.box [(.p (.int .i64 v2)),(.p (.int .i64 v3))])])=>K (.a v0 v1 v2 v3)
  | _=>e ()
theorem ajJ:RdS afI @afo:=fun h=>by unfold afo at h; split at h <;> first | exact .inl ⟨_,rfl,h⟩ | exact .inr h
def afn {α:Type} (c:XC) (K:abq→Option α) (e:Unit→Option α):Option α:=match c with
  | (XC.mk [(.box 0 0),(.box 1 0),(.box 2 0),(.box 3 0),(.box 4 0),(.p (.int .i64 v0))] [(.box [(.p .nils)]),(.box [(.p (.bool v1))]),(.box [(.arr 5 0 0 v2 false)]),(.box [(.fn (.func 75) [(.box 2 0)])]),(.box [(.p (.int .i64 v3)),(.p (.int .i64 v4))]),(.arr 4 v5 0 0 0)])=>K (.b v0 v1 v2 v3 v4 v5)
  | _=>e ()
theorem ajI:RdS afI @afn:=fun h=>by unfold afn at h; split at h <;> first | exact .inl ⟨_,rfl,h⟩ | exact .inr h
def aoI {α:Type} (c:XC) (K:abq→Option α):Option α:=afo c K fun _=>afn c K fun _=>none
theorem amX:RdT afI @aoI:=fun h=>(ajJ h).elim id fun h=>(ajI h).elim id fun h=>absurd h (by simp)
def afB:XE→List Nat:=(outsOf [(1,[2,3,4]),(0,[2,3,4])] [2,3])
def aiI (K:KX AVal) (x:aeh):OA:=match x with
  | .a v0=>kq K XE.normal afB (XE.exit 1) (XC.mk [(.box 0 0),(.box 1 0),(.box 2 0)] [(.box [(.p .nils)]),(.box [(.p (.bool v0))]),(.box [(.p .nils)])])
  | .b v0 v1 v2=>kq K XE.normal afB (XE.exit 1) (XC.mk [(.box 0 0),(.box 1 0),(.box 2 0)] [(.box [(.p .nils)]),(.box [(.p (.bool v0))]),(.box [(.arr 3 0 0 v1 false)]),(.arr 4 v2 0 0 0)])
def ad8 (k:Nat) (rec:Rec1) (ts:Tds) (kn:abq→OA) (kx:aeh→OA) (s:abq):OA:=match s with
  | .a c d e f=>(ifB (decide (c≤f)) (bindK (rec agN [(.int .i64 c)]) fun g=>pK g fun h=>vK h fun i j l m=>bindK (ts.t_f75 (.a i j l m)) fun n=>abk n fun o=>match o with | .a p q=>(kn (.b (IntKind.wrap .i64 (c + (Int.ofNat 1))) d p e f q)) | .b r t u=>kn (.b (IntKind.wrap .i64 (c + (Int.ofNat 1))) d t e f u)) (kx (.a d)))
  | .b v w x y z a0=>(ifB (decide (v≤z)) (bindK (rec agN [(.int .i64 v)]) fun b0=>pK b0 fun c0=>vK c0 fun d0 e0 f0 g0=>bindK (ts.t_f75 (.b d0 e0 f0 g0 x a0)) fun h0=>abk h0 fun i0=>match i0 with | .a j0 l0=>(kn (.b (IntKind.wrap .i64 (v + (Int.ofNat 1))) w j0 y z l0)) | .b m0 n0 o0=>kn (.b (IntKind.wrap .i64 (v + (Int.ofNat 1))) w n0 y z o0)) (kx (.b w x a0)))
def abA (k:Nat) (rec:Rec1) (ts:Tds) (kx:aeh→OA):Nat→abq→OA
  | 0,_=>none
  | j + 1,s=>ad8 k rec ts (abA k rec ts kx j) kx s
def bdlisted_3:Code:=sb 3 (bd acA)
inductive abp where
  | a (a0:PVal) (a1 a2:Int) (a3:Bool)
  | b (a0:Nat) (a1:PVal) (a2 a3:Int) (a4:Bool) (a5:List PVal)
inductive aeg where
  | a (a0:Bool)
  | b (a0:Nat) (a1:Bool) (a2:List PVal)
def afH (s:abp):XC:=match s with
  | .a v0 v1 v2 v3=>(XC.mk [(.box 0 0),(.box 1 0),(.box 2 0),(.box 3 0),(.p .nils),(.p v0),(.p (.int .i64 v1)),(.p (.int .i64 v2))] [(.box [(.p .nils)]),(.box [(.p (.bool v3))]),(.box [(.p .nils)]),(.box [(.fn (.func 75) [(.box 2 0)])])])
  | .b v0 v1 v2 v3 v4 v5=>(XC.mk [(.box 0 0),(.box 1 0),(.box 2 0),(.box 3 0),(.arr 4 0 0 v0 false),(.p v1),(.p (.int .i64 v2)),(.p (.int .i64 v3))] [(.box [(.p .nils)]),(.box [(.p (.bool v4))]),(.box [(.p .nils)]),(.box [(.fn (.func 75) [(.box 2 0)])]),(.arr 1 v5 0 0 0)])
def afm {α:Type} (c:XC) (K:abp→Option α) (e:Unit→Option α):Option α:=match c with
  | (XC.mk [(.box 0 0),(.box 1 0),(.box 2 0),(.box 3 0),(.p .nils),(.p v0),(.p (.int .i64 v1)),(.p (.int .i64 v2))] [(.box [(.p .nils)]),(.box [(.p (.bool v3))]),(.box [(.p .nils)]),(.box [(.fn (.func 75) [(.box 2 0)])])])=>K (.a v0 v1 v2 v3)
  | _=>e ()
theorem ajH:RdS afH @afm:=fun h=>by unfold afm at h; split at h <;> first | exact .inl ⟨_,rfl,h⟩ | exact .inr h
def afl {α:Type} (c:XC) (K:abp→Option α) (e:Unit→Option α):Option α:=match c with
  | (XC.mk [(.box 0 0),(.box 1 0),(.box 2 0),(.box 3 0),(.arr 4 0 0 v0 false),(.p v1),(.p (.int .i64 v2)),(.p (.int .i64 v3))] [(.box [(.p .nils)]),(.box [(.p (.bool v4))]),(.box [(.p .nils)]),(.box [(.fn (.func 75) [(.box 2 0)])]),(.arr 1 v5 0 0 0)])=>K (.b v0 v1 v2 v3 v4 v5)
  | _=>e ()
theorem ajG:RdS afH @afl:=fun h=>by unfold afl at h; split at h <;> first | exact .inl ⟨_,rfl,h⟩ | exact .inr h
def aoH {α:Type} (c:XC) (K:abp→Option α):Option α:=afm c K fun _=>afl c K fun _=>none
theorem amW:RdT afH @aoH:=fun h=>(ajH h).elim id fun h=>(ajG h).elim id fun h=>absurd h (by simp)
def afA:XE→List Nat:=(outsOf [(3,[2,3,4,5,10]),(0,[2,3,4])] [2,3])
def aiH (K:KX AVal) (x:aeg):OA:=match x with
  | .a v0=>kq K XE.normal afA (XE.exit 3) (XC.mk [(.box 0 0),(.box 1 0),(.box 2 0),(.box 3 0),(.p .nils)] [(.box [(.p .nils)]),(.box [(.p (.bool v0))]),(.box [(.p .nils)]),(.box [(.fn (.func 75) [(.box 2 0)])])])
  | .b v0 v1 v2=>kq K XE.normal afA (XE.exit 3) (XC.mk [(.box 0 0),(.box 1 0),(.box 2 0),(.box 3 0),(.arr 4 0 0 v0 false)] [(.box [(.p .nils)]),(.box [(.p (.bool v1))]),(.box [(.p .nils)]),(.box [(.fn (.func 75) [(.box 2 0)])]),(.arr 1 v2 0 0 0)])
def ad7 (k:Nat) (rec:Rec1) (ts:Tds) (kn:abp→OA) (kx:aeg→OA) (s:abp):OA:=match s with
  | .a c d e f=>(ifB (decide (e < d)) (slK c fun g=>natK e fun h=>nthK g h fun i=>chk (Nat.beq (List.length (cellsP i)) 1) (chk (! (isAggP i)) (bindK (rec aaI [i]) fun j=>pK j fun l=>tupK l fun m=>consK m fun n o=>consK o fun p q=>boolK p fun r=>endK q (chk (oneP.match_1 (fun t=>Bool) n (fun t=>false) (fun t=>false) (fun t=>true)) (chk (widths false 1 [n]) (kn (.b 1 c d (IntKind.wrap .i64 (e + (Int.ofNat 1))) f [n]))))))) (kx (.a f)))
  | .b u v w x y z=>(ifB (decide (x < w)) (slK v fun a0=>natK x fun b0=>nthK a0 b0 fun c0=>chk (Nat.beq (List.length (cellsP c0)) 1) (chk (! (isAggP c0)) (bindK (rec aaI [c0]) fun d0=>pK d0 fun e0=>tupK e0 fun f0=>consK f0 fun g0 h0=>consK h0 fun i0 j0=>boolK i0 fun l0=>endK j0 (chk (oneP.match_1 (fun m0=>Bool) g0 (fun m0=>false) (fun m0=>false) (fun m0=>true)) (chk (widths false 1 [g0]) (chk (Nat.beq u (List.length z)) (chk (Nat.ble ((u + 1) * 24) 1099511627776) (kn (.b (u + 1) v w (IntKind.wrap .i64 (x + (Int.ofNat 1))) y (z ++ [g0])))))))))) (kx (.b u y z)))
def abz (k:Nat) (rec:Rec1) (ts:Tds) (kx:aeg→OA):Nat→abp→OA
  | 0,_=>none
  | j + 1,s=>ad7 k rec ts (abz k rec ts kx j) kx s
def alX:Code:=sb 7 (bd acA)
inductive abo where
  | a (a0:PVal) (a1 a2:Int) (a3:Bool)
  | b (a0:PVal) (a1 a2:Int) (a3:Bool) (a4:Nat) (a5:List PVal)
inductive aef where
  | a (a0:Bool)
  | b (a0:Bool)
  | c (a0:Bool) (a1:Nat) (a2:List PVal)
def afG (s:abo):XC:=match s with
  | .a v0 v1 v2 v3=>(XC.mk [(.box 0 0),(.box 1 0),(.box 2 0),(.box 3 0),(.p v0),(.p (.int .i64 v1)),(.p (.int .i64 v2))] [(.box [(.p .nils)]),(.box [(.p (.bool v3))]),(.box [(.p .nils)]),(.box [(.fn (.func 75) [(.box 2 0)])])])
  | .b v0 v1 v2 v3 v4 v5=>(XC.mk [(.box 0 0),(.box 1 0),(.box 2 0),(.box 3 0),(.p v0),(.p (.int .i64 v1)),(.p (.int .i64 v2))] [(.box [(.p .nils)]),(.box [(.p (.bool v3))]),(.box [(.arr 4 0 0 v4 false)]),(.box [(.fn (.func 75) [(.box 2 0)])]),(.arr 4 v5 0 0 0)])
def afk {α:Type} (c:XC) (K:abo→Option α) (e:Unit→Option α):Option α:=match c with
  | (XC.mk [(.box 0 0),(.box 1 0),(.box 2 0),(.box 3 0),(.p v0),(.p (.int .i64 v1)),(.p (.int .i64 v2))] [(.box [(.p .nils)]),(.box [(.p (.bool v3))]),(.box [(.p .nils)]),(.box [(.fn (.func 75) [(.box 2 0)])])])=>K (.a v0 v1 v2 v3)
  | _=>e ()
theorem ajF:RdS afG @afk:=fun h=>by unfold afk at h; split at h <;> first | exact .inl ⟨_,rfl,h⟩ | exact .inr h
def afj {α:Type} (c:XC) (K:abo→Option α) (e:Unit→Option α):Option α:=match c with
  | (XC.mk [(.box 0 0),(.box 1 0),(.box 2 0),(.box 3 0),(.p v0),(.p (.int .i64 v1)),(.p (.int .i64 v2))] [(.box [(.p .nils)]),(.box [(.p (.bool v3))]),(.box [(.arr 4 0 0 v4 false)]),(.box [(.fn (.func 75) [(.box 2 0)])]),(.arr 4 v5 0 0 0)])=>K (.b v0 v1 v2 v3 v4 v5)
  | _=>e ()
theorem ajE:RdS afG @afj:=fun h=>by unfold afj at h; split at h <;> first | exact .inl ⟨_,rfl,h⟩ | exact .inr h
def aoG {α:Type} (c:XC) (K:abo→Option α):Option α:=afk c K fun _=>afj c K fun _=>none
theorem amV:RdT afG @aoG:=fun h=>(ajF h).elim id fun h=>(ajE h).elim id fun h=>absurd h (by simp)
def adP:XE→List Nat:=(outsOf [(7,[2,3,4]),(0,[2,3,4])] [2,3])
def aiG (K:KX AVal) (x:aef):OA:=match x with
  | .a v0=>kq K XE.normal adP (XE.exit 7) (XC.mk [(.box 0 0),(.box 1 0),(.box 2 0)] [(.box [(.p .nils)]),(.box [(.p (.bool v0))]),(.box [(.p .nils)])])
  | .b v0=>kq K XE.ret adP XE.ret (XC.mk [(.box 0 0),(.box 1 0)] [(.box [(.p .nils)]),(.box [(.p (.bool v0))])])
  | .c v0 v1 v2=>kq K XE.normal adP (XE.exit 7) (XC.mk [(.box 0 0),(.box 1 0),(.box 2 0)] [(.box [(.p .nils)]),(.box [(.p (.bool v0))]),(.box [(.arr 3 0 0 v1 false)]),(.arr 4 v2 0 0 0)])
def adh (k:Nat) (rec:Rec1) (ts:Tds) (kn:abo→OA) (kx:aef→OA) (s:abo):OA:=match s with
  | .a d e f g=>(ifB (decide (f < e)) (bindK (ts.t_f79 (.a d f)) fun h=>anN h fun i=>match i with | .a j l=>bindK (ts.t_f126 (.a j l g)) fun m=>ajw m fun n=>match n with | .a o p q r t=>(kn (.b d e (IntKind.wrap .i64 (f + (Int.ofNat 1))) q r t)) | .b u v w x y=>(kx (.b w)) | .c z a0 b0=>kn (.a d e (IntKind.wrap .i64 (f + (Int.ofNat 1))) b0)) (kx (.a g)))
  | .b c0 d0 e0 f0 g0 h0=>(ifB (decide (e0 < d0)) (bindK (ts.t_f79 (.a c0 e0)) fun i0=>anN i0 fun j0=>match j0 with | .a l0 m0=>bindK (ts.t_f126 (.b l0 m0 f0 g0 h0)) fun n0=>ajw n0 fun o0=>match o0 with | .a p0 q0 r0 t0 u0=>(kn (.b c0 d0 (IntKind.wrap .i64 (e0 + (Int.ofNat 1))) r0 t0 u0)) | .b v0 w0 x0 y0 z0=>(kx (.b x0)) | .c a1 b1 c1=>none) (kx (.c f0 g0 h0)))
def abh (k:Nat) (rec:Rec1) (ts:Tds) (kx:aef→OA):Nat→abo→OA
  | 0,_=>none
  | j + 1,s=>adh k rec ts (abh k rec ts kx j) kx s
def acI (k:Nat) (rec:Rec1) (ts:Tds) (p0:PVal):OA :=
 (ifK p0 fun n1 x2=>bindK (methodAt prog n1 "sward/induct.few") fun n3=>chk (! (xi n3)) (bindK (rec n3 [x2]) fun x4=>pK x4 fun x5=>boolK x5 fun b6=>ifB (!b6) (some (.p (.tup [.nils,(.bool false)]))) (ifK p0 fun n7 x8=>ifB (Nat.beq n7 139) (aggK x8 fun l9=>consK l9 fun g h=>intK .i64 g fun i=>consK h fun j l=>intK .i64 j fun m=>endK l (abA k rec ts (fun x=>match x with | .a n=>(some (.p (.tup [.nils,(.bool true)]))) | .b o q r=>chk (Nat.ble (0 + q) (List.length r)) (some (.p (.tup [(.sl (List.take q (List.drop 0 r))),(.bool true)])))) k (.a i false i m))) (ifK p0 fun t u=>ifB (Nat.beq t 141) (aggK u fun v=>endK v (bindK (ts.t_f75 (.a (Int.ofNat 2) (Int.ofNat 0) [] .nils)) fun w=>abk w fun y=>match y with | .a z a0=>(bindK (ts.t_f75 (.b (Int.ofNat 2) (Int.ofNat 1) [] .nils z a0)) fun b0=>abk b0 fun c0=>match c0 with | .a d0 e0=>(chk (Nat.ble (0 + d0) (List.length e0)) (some (.p (.tup [(.sl (List.take d0 (List.drop 0 e0))),(.bool true)])))) | .b f0 g0 h0=>chk (Nat.ble (0 + g0) (List.length h0)) (some (.p (.tup [(.sl (List.take g0 (List.drop 0 h0))),(.bool true)])))) | .b i0 j0 l0=>bindK (ts.t_f75 (.b (Int.ofNat 2) (Int.ofNat 1) [] .nils j0 l0)) fun m0=>abk m0 fun n0=>match n0 with | .a o0 q0=>(chk (Nat.ble (0 + o0) (List.length q0)) (some (.p (.tup [(.sl (List.take o0 (List.drop 0 q0))),(.bool true)])))) | .b r0 t0 u0=>chk (Nat.ble (0 + t0) (List.length u0)) (some (.p (.tup [(.sl (List.take t0 (List.drop 0 u0))),(.bool true)]))))) (ifK p0 fun v0 w0=>ifB (Nat.beq v0 144) (aggK w0 fun x0=>consK x0 fun y0 z0=>endK z0 (slK y0 fun a1=>abz k rec ts (fun x=>match x with | .a b1=>(bindK (ts.t_f77 .a) fun c1=>anQ c1 fun d1=>match d1 with | .a=>(bindK (ts.t_f120 (.a b1)) fun e1=>ahp e1 fun f1=>match f1 with | .a g1=>(some (.p (.tup [.nils,(.bool true)]))) | .b h1 i1 j1=>none | .c l1 m1 o1=>(chk (Nat.ble (0 + m1) (List.length o1)) (some (.p (.tup [(.sl (List.take m1 (List.drop 0 o1))),(.bool true)])))) | .d p1 q1 r1=>(some (.p (.tup [.nils,(.bool p1)]))) | .e t1 u1 v1 w1 x1=>none | .f y1 z1 a2 b2 c2=>none) | .b d2 e2=>bindK (ts.t_f120 (.b e2 b1 d2)) fun f2=>ahp f2 fun g2=>match g2 with | .a h2=>none | .b i2 j2 l2=>(some (.p (.tup [.nils,(.bool true)]))) | .c m2 n2 o2=>none | .d p2 q2 r2=>none | .e t2 u2 v2 w2 y2=>(chk (Nat.ble (0 + w2) (List.length y2)) (some (.p (.tup [(.sl (List.take w2 (List.drop 0 y2))),(.bool true)])))) | .f z2 a3 b3 c3 d3=>some (.p (.tup [.nils,(.bool a3)]))) | .b e3 f3 g3=>bindK (ts.t_f77 (.b e3 g3)) fun h3=>anQ h3 fun i3=>match i3 with | .a=>none | .b j3 l3=>bindK (ts.t_f120 (.b l3 f3 j3)) fun m3=>ahp m3 fun o3=>match o3 with | .a p3=>none | .b q3 r3 t3=>(some (.p (.tup [.nils,(.bool true)]))) | .c u3 v3 w3=>none | .d x3 y3 z3=>none | .e a4 b4 c4 d4 e4=>(chk (Nat.ble (0 + d4) (List.length e4)) (some (.p (.tup [(.sl (List.take d4 (List.drop 0 e4))),(.bool true)])))) | .f f4 g4 h4 i4 j4=>some (.p (.tup [.nils,(.bool g4)]))) k (.a y0 (((List.length a1):Nat):Int) (Int.ofNat 0) false))) (ifK p0 fun l4 m4=>ifB (Nat.beq l4 150) (aggK m4 fun n4=>consK n4 fun o4 p4=>intK .i64 o4 fun q4=>consK p4 fun r4 t4=>endK t4 (bindK (rec aaI [r4]) fun u4=>pK u4 fun v4=>tupK v4 fun w4=>consK w4 fun y4 z4=>consK z4 fun a5 b5=>boolK a5 fun c5=>endK b5 (slK y4 fun d5=>abh k rec ts (fun x=>match x with | .a e5=>(some (.p (.tup [.nils,(.bool true)]))) | .b f5=>(some (.p (.tup [.nils,(.bool f5)]))) | .c g5 h5 i5=>chk (Nat.ble (0 + h5) (List.length i5)) (some (.p (.tup [(.sl (List.take h5 (List.drop 0 i5))),(.bool true)])))) k (.a y4 (IntKind.wrap .i64 ((Decidable.rec (fun j5=>q4) (fun j5=>(((List.length d5):Nat):Int)) (Int.neg.match_1 (fun j5=>Decidable (Int.NonNeg j5)) (q4 - ((((List.length d5):Nat):Int) + (Int.ofNat 1))) (fun j5=>Decidable.isTrue (Int.NonNeg.mk j5)) (fun j5=>Decidable.isFalse (Int.decNonneg._proof_1 j5)))) + (Int.ofNat 1))) (Int.ofNat 0) false)))) (some (.p (.tup [.nils,(.bool true)])))))))))
def lodlisted (k:Nat) (rec:Rec1) (ts:Tds):Loops AVal:=(lo1 1 0 [2,3,4,5,6,7] aoI (fun K=>abA k rec ts (aiI K) k) (lo1 3 0 [2,3,4,5,10,54,55,56] aoH (fun K=>abz k rec ts (aiH K) k) (lo1 7 0 [2,3,4,5,17,92,93] aoG (fun K=>abh k rec ts (aiG K) k) lo0)))
def cl (m:Nat) (r:Bool):Cfg:={ shs:=shOf prog,res:=sitesOf prog [(40,4),(39,29),(49,4),(46,4),(76,4),(75,29),(71,146),(62,78),(103,4),(102,29),(98,146),(84,78),(22,4)] [] [],imp:=xi,gl:=gl,m:=m,rd:=r,sk:=Sw.keyOf [(98,0),(71,1)],ro:=ajQ [(71,XE.normal,[2,3,4]),(98,XE.normal,[2,3,4,5,17,92,93]),(98,XE.ret,[2,3]),(71,XE.ret,[2,3])] }
def TS_f75 (k:Nat) (rec:Rec1) (ts:Tds) (s:In_f75):OX:=match s with
  | .a z1 z2 s3 x4=>(some (adI (.a 1 (List.set [(.agg [(.int .i64 (Int.ofNat 0)),(.int .i64 (Int.ofNat 0)),(.str []), .nils])] 0 (.agg [(.int .i64 z1),(.int .i64 z2),(.str s3),x4])))))
  | .b z1 z2 s3 x4 n5 l6=>(chk (Nat.beq n5 (List.length l6)) (chk (Nat.ble ((n5 + 1) * 56) 1099511627776) (chk (Nat.blt n5 (n5 + 1)) (chk (Nat.blt (0 + n5) (List.length (l6 ++ [(.agg [(.int .i64 (Int.ofNat 0)),(.int .i64 (Int.ofNat 0)),(.str []), .nils])]))) (nthK (l6 ++ [(.agg [(.int .i64 (Int.ofNat 0)),(.int .i64 (Int.ofNat 0)),(.str []), .nils])]) (0 + n5) fun x7=>aggK x7 fun l8=>chk (Nat.beq (List.length l8) 4) (some (adI (.b (decide ((((n5 + 1):Nat):Int)≤(Int.ofNat 32))) (n5 + 1) (List.set (l6 ++ [(.agg [(.int .i64 (Int.ofNat 0)),(.int .i64 (Int.ofNat 0)),(.str []), .nils])]) (0 + n5) (.agg [(.int .i64 z1),(.int .i64 z2),(.str s3),x4]))))))))))
theorem TS_f75_known {k:Nat} {rec:Rec1} {ts:Tds} (h:aaz prog gl rec) (hT:ToldOk prog gl (td ts)) {s:In_f75} {res:XRes} (hr:TS_f75 k rec ts s=some res):KnownT prog gl (.fn 75) (alo s) res:=by
  cases s with
  | a v0 v1 v2 v3=>exact kT (cf:=(cg 1 [] [])) (m:=1) (n:=13) (lo:=lo0) h hT ah9 (by kernel_rfl) rfl rfl rfl rfl (tr0 (by kernel_rfl)) (xl0 (by kernel_rfl)) (by kernel_rfl) hr
  | b v0 v1 v2 v3 v4 v5=>exact kT (cf:=(cg 2 [] [])) (m:=2) (n:=13) (lo:=lo0) h hT ah9 (by kernel_rfl) rfl rfl rfl rfl (tr0 (by kernel_rfl)) (xl0 (by kernel_rfl)) (by kernel_rfl) hr
def TS_f79 (k:Nat) (rec:Rec1) (ts:Tds) (s:In_f79):OX:=match s with
  | .a x1 z2=>(chk (oneP.match_1 (fun y5=>Bool) x1 (fun y5=>false) (fun y5=>false) (fun y5=>true)) (some (aeM (.a z2 x1))))
theorem TS_f79_known {k:Nat} {rec:Rec1} {ts:Tds} (h:aaz prog gl rec) (hT:ToldOk prog gl (td ts)) {s:In_f79} {res:XRes} (hr:TS_f79 k rec ts s=some res):KnownT prog gl (.fn 79) (apa s) res:=by
  cases s with
  | a v0 v1=>exact kT (cf:=(cg 0 [] [])) (m:=0) (n:=6) (lo:=lo0) h hT func_dparts (by kernel_rfl) rfl rfl rfl rfl (tr0 (by kernel_rfl)) (xl0 (by kernel_rfl)) (by kernel_rfl) hr
def TS_f77 (k:Nat) (rec:Rec1) (ts:Tds) (s:In_f77):OX:=match s with
  | .a=>(some (adH .a))
  | .b n1 l2=>(some (adH (.b l2 n1)))
theorem TS_f77_known {k:Nat} {rec:Rec1} {ts:Tds} (h:aaz prog gl rec) (hT:ToldOk prog gl (td ts)) {s:In_f77} {res:XRes} (hr:TS_f77 k rec ts s=some res):KnownT prog gl (.fn 77) (aln s) res:=by
  cases s with
  | a=>exact kT (cf:=(cg 0 [] [])) (m:=0) (n:=4) (lo:=lo0) h hT apI (by kernel_rfl) rfl rfl rfl rfl (tr0 (by kernel_rfl)) (xl0 (by kernel_rfl)) (by kernel_rfl) hr
  | b v0 v1=>exact kT (cf:=(cg 1 [] [])) (m:=1) (n:=4) (lo:=lo0) h hT apI (by kernel_rfl) rfl rfl rfl rfl (tr0 (by kernel_rfl)) (xl0 (by kernel_rfl)) (by kernel_rfl) hr
def aql (k:Nat) (rec:Rec1) (ts:Tds) (s:ag0):OX:=match s with
  | .a z1 x2 b3=>(bindK (ts.t_f127 (.a (Int.ofNat 0) z1 x2 b3)) fun g=>aba g fun h=>match h with | .a z4 x5 b6 n7 l8=>(some (aaZ (.a z4 x5 b6 n7 l8))) | .b z9 i j l m=>(some (aaZ (.b z9 i j l m))) | .c n o p=>(some (aaZ (.c n o p))) | .d q r t u v w x=>none | .e y z a0 b0 c0 d0 e0=>none | .f f0 g0 h0 i0 j0=>none)
  | .b z1 x2 b3 n4 l5=>(bindK (ts.t_f127 (.d (Int.ofNat 0) z1 x2 b3 n4 l5)) fun l0=>aba l0 fun m0=>match m0 with | .a z6 x7 b8 n9 n0=>(some (aaZ (.a z6 x7 b8 n9 n0))) | .b o0 p0 q0 r0 t0=>(some (aaZ (.b o0 p0 q0 r0 t0))) | .c u0 v0 w0=>none | .d x0 y0 z0 a1 b1 c1 d1=>none | .e e1 f1 g1 h1 i1 j1 l1=>none | .f m1 n1 o1 p1 q1=>none)
theorem TS_f126_known {k:Nat} {rec:Rec1} {ts:Tds} (h:aaz prog gl rec) (hT:ToldOk prog gl (td ts)) {s:ag0} {res:XRes} (hr:aql k rec ts s=some res):KnownT prog gl (.fn 126) (ahr s) res:=by
  cases s with
  | a v0 v1 v2=>exact kT (cf:=(cg 7 [(7,4)] [])) (m:=7) (n:=8) (lo:=lo0) h hT aj7 (by kernel_rfl) rfl rfl rfl rfl (tr0 (by kernel_rfl)) (xl0 (by kernel_rfl)) (by kernel_rfl) hr
  | b v0 v1 v2 v3 v4=>exact kT (cf:=(cg 8 [(7,4)] [])) (m:=8) (n:=8) (lo:=lo0) h hT aj7 (by kernel_rfl) rfl rfl rfl rfl (tr0 (by kernel_rfl)) (xl0 (by kernel_rfl)) (by kernel_rfl) hr
def bf127a_0:Code:=sb 0 (bd aa1)
inductive acC where
  | a (a0 a1:Int) (a2:PVal) (a3:Bool)
  | b (a0 a1:Int) (a2:PVal) (a3:Bool) (a4:Nat) (a5:List PVal)
inductive ahg where
  | a (a0:Int) (a1:PVal) (a2:Bool)
  | b (a0:Int) (a1:PVal) (a2:Bool) (a3:Nat) (a4:List PVal)
  | c (a0:Int) (a1:PVal) (a2:Bool) (a3:Nat) (a4:List PVal)
def ajU (s:acC):XC:=match s with
  | .a v0 v1 v2 v3=>(XC.mk [(.p .nils),(.box 2 0),(.box 3 0),(.p (.int .i64 v0))] [(.box [(.p (.int .i64 v1))]),(.box [(.rf Rk.yld 4)]),(.box [(.p v2)]),(.box [(.fn (.func 127) [(.box 0 0),(.box 1 0),(.box 2 0),(.box 3 0)])]),(.lp 0 [(.box 5 0),(.box 6 0),(.box 7 0)] LoopState.ready none),(.box [(.p .nils)]),(.box [(.p (.bool v3))]),(.box [(.fn (.func 75) [(.box 8 0)])]),(.box [(.p .nils)])])
  | .b v0 v1 v2 v3 v4 v5=>(XC.mk [(.p .nils),(.box 2 0),(.box 3 0),(.p (.int .i64 v0))] [(.box [(.p (.int .i64 v1))]),(.box [(.rf Rk.yld 4)]),(.box [(.p v2)]),(.box [(.fn (.func 127) [(.box 0 0),(.box 1 0),(.box 2 0),(.box 3 0)])]),(.lp 0 [(.box 5 0),(.box 6 0),(.box 7 0)] LoopState.ready none),(.box [(.p .nils)]),(.box [(.p (.bool v3))]),(.box [(.fn (.func 75) [(.box 8 0)])]),(.box [(.arr 9 0 0 v4 false)]),(.arr 4 v5 0 0 0)])
def aim {α:Type} (c:XC) (K:acC→Option α) (e:Unit→Option α):Option α:=match c with
  | (XC.mk [(.p .nils),(.box 2 0),(.box 3 0),(.p (.int .i64 v0))] [(.box [(.p (.int .i64 v1))]),(.box [(.rf Rk.yld 4)]),(.box [(.p v2)]),(.box [(.fn (.func 127) [(.box 0 0),(.box 1 0),(.box 2 0),(.box 3 0)])]),(.lp 0 [(.box 5 0),(.box 6 0),(.box 7 0)] LoopState.ready none),(.box [(.p .nils)]),(.box [(.p (.bool v3))]),(.box [(.fn (.func 75) [(.box 8 0)])]),(.box [(.p .nils)])])=>K (.a v0 v1 v2 v3)
  | _=>e ()
theorem amO:RdS ajU @aim:=fun h=>by unfold aim at h; split at h <;> first | exact .inl ⟨_,rfl,h⟩ | exact .inr h
def ail {α:Type} (c:XC) (K:acC→Option α) (e:Unit→Option α):Option α:=match c with
  | (XC.mk [(.p .nils),(.box 2 0),(.box 3 0),(.p (.int .i64 v0))] [(.box [(.p (.int .i64 v1))]),(.box [(.rf Rk.yld 4)]),(.box [(.p v2)]),(.box [(.fn (.func 127) [(.box 0 0),(.box 1 0),(.box 2 0),(.box 3 0)])]),(.lp 0 [(.box 5 0),(.box 6 0),(.box 7 0)] LoopState.ready none),(.box [(.p .nils)]),(.box [(.p (.bool v3))]),(.box [(.fn (.func 75) [(.box 8 0)])]),(.box [(.arr 9 0 0 v4 false)]),(.arr 4 v5 0 0 0)])=>K (.b v0 v1 v2 v3 v4 v5)
  | _=>e ()
theorem amN:RdS ajU @ail:=fun h=>by unfold ail at h; split at h <;> first | exact .inl ⟨_,rfl,h⟩ | exact .inr h
def rdf127a_0 {α:Type} (c:XC) (K:acC→Option α):Option α:=aim c K fun _=>ail c K fun _=>none
theorem rdf127a_0_some:RdT ajU @rdf127a_0:=fun h=>(amO h).elim id fun h=>(amN h).elim id fun h=>absurd h (by simp)
def afw:XE→List Nat:=(outsOf [(0,[])] [8])
def apm (K:KX XRes) (x:ahg):OX:=match x with
  | .a v0 v1 v2=>kq K XE.normal afw (XE.exit 0) (XC.mk [] [(.box [(.p (.int .i64 v0))]),(.box [(.rf Rk.yld 4)]),(.box [(.p v1)]),(.box [(.fn (.func 127) [(.box 0 0),(.box 1 0),(.box 2 0),(.box 3 0)])]),(.lp 0 [(.box 5 0),(.box 6 0),(.box 7 0)] LoopState.ready none),(.box [(.p .nils)]),(.box [(.p (.bool v2))]),(.box [(.fn (.func 75) [(.box 8 0)])]),(.box [(.p .nils)])])
  | .b v0 v1 v2 v3 v4=>kq K XE.ret afw XE.ret (XC.mk [(.p (.bool false))] [(.box [(.p (.int .i64 v0))]),(.box [(.rf Rk.yld 4)]),(.box [(.p v1)]),(.box [(.fn (.func 127) [(.box 0 0),(.box 1 0),(.box 2 0),(.box 3 0)])]),(.lp 0 [(.box 5 0),(.box 6 0),(.box 7 0)] LoopState.done (some Code.ret)),(.box [(.p .nils)]),(.box [(.p (.bool v2))]),(.box [(.fn (.func 75) [(.box 8 0)])]),(.box [(.arr 9 0 0 v3 false)]),(.arr 4 v4 0 0 0)])
  | .c v0 v1 v2 v3 v4=>kq K XE.normal afw (XE.exit 0) (XC.mk [] [(.box [(.p (.int .i64 v0))]),(.box [(.rf Rk.yld 4)]),(.box [(.p v1)]),(.box [(.fn (.func 127) [(.box 0 0),(.box 1 0),(.box 2 0),(.box 3 0)])]),(.lp 0 [(.box 5 0),(.box 6 0),(.box 7 0)] LoopState.ready none),(.box [(.p .nils)]),(.box [(.p (.bool v2))]),(.box [(.fn (.func 75) [(.box 8 0)])]),(.box [(.arr 9 0 0 v3 false)]),(.arr 4 v4 0 0 0)])
def ae8 (k:Nat) (rec:Rec1) (ts:Tds) (kn:acC→OX) (kx:ahg→OX) (s:acC):OX:=match s with
  | .a g h i j=>(slK i fun l=>ifB (decide (g < (((List.length l):Nat):Int))) (bindK (rec i_Clp [.nils]) fun m=>nclK m (slK i fun n=>natK g fun o=>nthK n o fun p=>vK p fun q r t u=>bindK (ts.t_f127 (.b 1 (IntKind.wrap .i64 (g + (Int.ofNat 1))) [(.agg [(.int .i64 q),(.int .i64 r),(.str t),u])] h i j)) fun v=>aba v fun w=>match w with | .a x y z a0 b0=>none | .b c0 d0 e0 f0 g0=>none | .c h0 i0 j0=>none | .d l0 m0 n0 o0 p0 q0 r0=>(kn (.b (IntKind.wrap .i64 (g + (Int.ofNat 1))) n0 o0 p0 q0 r0)) | .e t0 u0 v0 w0 x0 y0 z0=>(kx (.b v0 w0 x0 y0 z0)) | .f a1 b1 c1 d1 e1=>kn (.a (IntKind.wrap .i64 (g + (Int.ofNat 1))) c1 d1 e1)) fun f1=>slK i fun g1=>natK g fun h1=>nthK g1 h1 fun i1=>vK i1 fun j1 l1 m1 n1=>chk (widths true 4 f1) (chk (Nat.ble (((List.length f1) + 1) * 56) 1099511627776) (bindK (ts.t_f127 (.b ((List.length f1) + 1) (IntKind.wrap .i64 (g + (Int.ofNat 1))) (f1 ++ [(.agg [(.int .i64 j1),(.int .i64 l1),(.str m1),n1])]) h i j)) fun o1=>aba o1 fun p1=>match p1 with | .a q1 r1 t1 u1 v1=>none | .b w1 x1 y1 z1 a2=>none | .c b2 c2 d2=>none | .d e2 f2 g2 h2 i2 j2 l2=>(kn (.b (IntKind.wrap .i64 (g + (Int.ofNat 1))) g2 h2 i2 j2 l2)) | .e m2 n2 o2 p2 q2 r2 t2=>(kx (.b o2 p2 q2 r2 t2)) | .f u2 v2 w2 x2 y2=>kn (.a (IntKind.wrap .i64 (g + (Int.ofNat 1))) w2 x2 y2)))) (kx (.a h i j)))
  | .b z2 a3 b3 c3 d3 e3=>(slK b3 fun f3=>ifB (decide (z2 < (((List.length f3):Nat):Int))) (bindK (rec i_Clp [.nils]) fun g3=>nclK g3 (slK b3 fun h3=>natK z2 fun i3=>nthK h3 i3 fun j3=>vK j3 fun l3 m3 n3 o3=>bindK (ts.t_f127 (.c 1 (IntKind.wrap .i64 (z2 + (Int.ofNat 1))) [(.agg [(.int .i64 l3),(.int .i64 m3),(.str n3),o3])] a3 b3 c3 d3 e3)) fun p3=>aba p3 fun q3=>match q3 with | .a r3 t3 u3 v3 w3=>none | .b x3 y3 z3 a4 b4=>none | .c c4 d4 e4=>none | .d f4 g4 h4 i4 j4 l4 m4=>(kn (.b (IntKind.wrap .i64 (z2 + (Int.ofNat 1))) h4 i4 j4 l4 m4)) | .e n4 o4 p4 q4 r4 t4 u4=>(kx (.b p4 q4 r4 t4 u4)) | .f v4 w4 x4 y4 z4=>none) fun a5=>slK b3 fun b5=>natK z2 fun c5=>nthK b5 c5 fun d5=>vK d5 fun e5 f5 g5 h5=>chk (widths true 4 a5) (chk (Nat.ble (((List.length a5) + 1) * 56) 1099511627776) (bindK (ts.t_f127 (.c ((List.length a5) + 1) (IntKind.wrap .i64 (z2 + (Int.ofNat 1))) (a5 ++ [(.agg [(.int .i64 e5),(.int .i64 f5),(.str g5),h5])]) a3 b3 c3 d3 e3)) fun i5=>aba i5 fun j5=>match j5 with | .a l5 m5 n5 o5 p5=>none | .b q5 r5 t5 u5 v5=>none | .c w5 x5 y5=>none | .d z5 a6 b6 c6 d6 e6 f6=>(kn (.b (IntKind.wrap .i64 (z2 + (Int.ofNat 1))) b6 c6 d6 e6 f6)) | .e g6 h6 i6 j6 l6 m6 n6=>(kx (.b i6 j6 l6 m6 n6)) | .f o6 p6 q6 r6 t6=>none))) (kx (.c a3 b3 c3 d3 e3)))
def acb (k:Nat) (rec:Rec1) (ts:Tds) (kx:ahg→OX):Nat→acC→OX
  | 0,_=>none
  | j + 1,s=>ae8 k rec ts (acb k rec ts kx j) kx s
def lof127a (k:Nat) (rec:Rec1) (ts:Tds):Loops XRes:=(lo1 0 9 [0,4,5,9] rdf127a_0 (fun K=>acb k rec ts (apm K) k) lo0)
def bf127b_0:Code:=sb 0 (bd aa1)
inductive acB where
  | a (a0:Nat) (a1:Int) (a2:List PVal) (a3:Nat) (a4:Int) (a5:PVal) (a6:Bool)
  | b (a0:Nat) (a1:Int) (a2:List PVal) (a3:Nat) (a4:Int) (a5:PVal) (a6:Bool) (a7:Nat) (a8:List PVal)
inductive ahf where
  | a (a0:List PVal) (a1:Nat) (a2:Int) (a3:PVal) (a4:Bool)
  | b (a0:List PVal) (a1:Nat) (a2:Int) (a3:PVal) (a4:Bool) (a5:Nat) (a6:List PVal)
  | c (a0:List PVal) (a1:Nat) (a2:Int) (a3:PVal) (a4:Bool) (a5:Nat) (a6:List PVal)
def ajT (s:acB):XC:=match s with
  | .a v0 v1 v2 v3 v4 v5 v6=>(XC.mk [(.arr 0 0 0 v0 false),(.box 3 0),(.box 4 0),(.p (.int .i64 v1))] [(.arr 4 v2 0 0 v3),(.box [(.p (.int .i64 v4))]),(.box [(.rf Rk.yld 5)]),(.box [(.p v5)]),(.box [(.fn (.func 127) [(.box 1 0),(.box 2 0),(.box 3 0),(.box 4 0)])]),(.lp 0 [(.box 6 0),(.box 7 0),(.box 8 0)] LoopState.ready none),(.box [(.p .nils)]),(.box [(.p (.bool v6))]),(.box [(.fn (.func 75) [(.box 9 0)])]),(.box [(.p .nils)])])
  | .b v0 v1 v2 v3 v4 v5 v6 v7 v8=>(XC.mk [(.arr 0 0 0 v0 false),(.box 3 0),(.box 4 0),(.p (.int .i64 v1))] [(.arr 4 v2 0 0 v3),(.box [(.p (.int .i64 v4))]),(.box [(.rf Rk.yld 5)]),(.box [(.p v5)]),(.box [(.fn (.func 127) [(.box 1 0),(.box 2 0),(.box 3 0),(.box 4 0)])]),(.lp 0 [(.box 6 0),(.box 7 0),(.box 8 0)] LoopState.ready none),(.box [(.p .nils)]),(.box [(.p (.bool v6))]),(.box [(.fn (.func 75) [(.box 9 0)])]),(.box [(.arr 10 0 0 v7 false)]),(.arr 4 v8 0 0 0)])
def aik {α:Type} (c:XC) (K:acB→Option α) (e:Unit→Option α):Option α:=match c with
  | (XC.mk [(.arr 0 0 0 v0 false),(.box 3 0),(.box 4 0),(.p (.int .i64 v1))] [(.arr 4 v2 0 0 v3),(.box [(.p (.int .i64 v4))]),(.box [(.rf Rk.yld 5)]),(.box [(.p v5)]),(.box [(.fn (.func 127) [(.box 1 0),(.box 2 0),(.box 3 0),(.box 4 0)])]),(.lp 0 [(.box 6 0),(.box 7 0),(.box 8 0)] LoopState.ready none),(.box [(.p .nils)]),(.box [(.p (.bool v6))]),(.box [(.fn (.func 75) [(.box 9 0)])]),(.box [(.p .nils)])])=>K (.a v0 v1 v2 v3 v4 v5 v6)
  | _=>e ()
theorem amM:RdS ajT @aik:=fun h=>by unfold aik at h; split at h <;> first | exact .inl ⟨_,rfl,h⟩ | exact .inr h
def aij {α:Type} (c:XC) (K:acB→Option α) (e:Unit→Option α):Option α:=match c with
  | (XC.mk [(.arr 0 0 0 v0 false),(.box 3 0),(.box 4 0),(.p (.int .i64 v1))] [(.arr 4 v2 0 0 v3),(.box [(.p (.int .i64 v4))]),(.box [(.rf Rk.yld 5)]),(.box [(.p v5)]),(.box [(.fn (.func 127) [(.box 1 0),(.box 2 0),(.box 3 0),(.box 4 0)])]),(.lp 0 [(.box 6 0),(.box 7 0),(.box 8 0)] LoopState.ready none),(.box [(.p .nils)]),(.box [(.p (.bool v6))]),(.box [(.fn (.func 75) [(.box 9 0)])]),(.box [(.arr 10 0 0 v7 false)]),(.arr 4 v8 0 0 0)])=>K (.b v0 v1 v2 v3 v4 v5 v6 v7 v8)
  | _=>e ()
theorem amL:RdS ajT @aij:=fun h=>by unfold aij at h; split at h <;> first | exact .inl ⟨_,rfl,h⟩ | exact .inr h
def rdf127b_0 {α:Type} (c:XC) (K:acB→Option α):Option α:=aik c K fun _=>aij c K fun _=>none
theorem rdf127b_0_some:RdT ajT @rdf127b_0:=fun h=>(amM h).elim id fun h=>(amL h).elim id fun h=>absurd h (by simp)
def afv:XE→List Nat:=(outsOf [(0,[])] [8])
def apl (K:KX XRes) (x:ahf):OX:=match x with
  | .a v0 v1 v2 v3 v4=>kq K XE.normal afv (XE.exit 0) (XC.mk [] [(.arr 4 v0 0 0 v1),(.box [(.p (.int .i64 v2))]),(.box [(.rf Rk.yld 5)]),(.box [(.p v3)]),(.box [(.fn (.func 127) [(.box 1 0),(.box 2 0),(.box 3 0),(.box 4 0)])]),(.lp 0 [(.box 6 0),(.box 7 0),(.box 8 0)] LoopState.ready none),(.box [(.p .nils)]),(.box [(.p (.bool v4))]),(.box [(.fn (.func 75) [(.box 9 0)])]),(.box [(.p .nils)])])
  | .b v0 v1 v2 v3 v4 v5 v6=>kq K XE.ret afv XE.ret (XC.mk [(.p (.bool false))] [(.arr 4 v0 0 0 v1),(.box [(.p (.int .i64 v2))]),(.box [(.rf Rk.yld 5)]),(.box [(.p v3)]),(.box [(.fn (.func 127) [(.box 1 0),(.box 2 0),(.box 3 0),(.box 4 0)])]),(.lp 0 [(.box 6 0),(.box 7 0),(.box 8 0)] LoopState.done (some Code.ret)),(.box [(.p .nils)]),(.box [(.p (.bool v4))]),(.box [(.fn (.func 75) [(.box 9 0)])]),(.box [(.arr 10 0 0 v5 false)]),(.arr 4 v6 0 0 0)])
  | .c v0 v1 v2 v3 v4 v5 v6=>kq K XE.normal afv (XE.exit 0) (XC.mk [] [(.arr 4 v0 0 0 v1),(.box [(.p (.int .i64 v2))]),(.box [(.rf Rk.yld 5)]),(.box [(.p v3)]),(.box [(.fn (.func 127) [(.box 1 0),(.box 2 0),(.box 3 0),(.box 4 0)])]),(.lp 0 [(.box 6 0),(.box 7 0),(.box 8 0)] LoopState.ready none),(.box [(.p .nils)]),(.box [(.p (.bool v4))]),(.box [(.fn (.func 75) [(.box 9 0)])]),(.box [(.arr 10 0 0 v5 false)]),(.arr 4 v6 0 0 0)])
def ae7 (k:Nat) (rec:Rec1) (ts:Tds) (kn:acB→OX) (kx:ahf→OX) (s:acB):OX:=match s with
  | .a g h i j l m n=>(slK m fun o=>ifB (decide (h < (((List.length o):Nat):Int))) (chk (Nat.ble (0 + g) (List.length i)) (bindK (rec i_Clp [(.sl (List.take g (List.drop 0 i)))]) fun p=>nclK p (slK m fun q=>natK h fun r=>nthK q r fun t=>vK t fun u v w x=>bindK (ts.t_f127 (.b 1 (IntKind.wrap .i64 (h + (Int.ofNat 1))) [(.agg [(.int .i64 u),(.int .i64 v),(.str w),x])] l m n)) fun y=>aba y fun z=>match z with | .a a0 b0 c0 d0 e0=>none | .b f0 g0 h0 i0 j0=>none | .c l0 m0 n0=>none | .d o0 p0 q0 r0 t0 u0 v0=>(kn (.b g (IntKind.wrap .i64 (h + (Int.ofNat 1))) i j q0 r0 t0 u0 v0)) | .e w0 x0 y0 z0 a1 b1 c1=>(kx (.b i j y0 z0 a1 b1 c1)) | .f d1 e1 f1 g1 h1=>kn (.a g (IntKind.wrap .i64 (h + (Int.ofNat 1))) i j f1 g1 h1)) fun i1=>slK m fun j1=>natK h fun l1=>nthK j1 l1 fun m1=>vK m1 fun n1 o1 p1 q1=>chk (widths true 4 i1) (chk (Nat.ble (((List.length i1) + 1) * 56) 1099511627776) (bindK (ts.t_f127 (.b ((List.length i1) + 1) (IntKind.wrap .i64 (h + (Int.ofNat 1))) (i1 ++ [(.agg [(.int .i64 n1),(.int .i64 o1),(.str p1),q1])]) l m n)) fun r1=>aba r1 fun t1=>match t1 with | .a u1 v1 w1 x1 y1=>none | .b z1 a2 b2 c2 d2=>none | .c e2 f2 g2=>none | .d h2 i2 j2 l2 m2 n2 o2=>(kn (.b g (IntKind.wrap .i64 (h + (Int.ofNat 1))) i (List.length i) j2 l2 m2 n2 o2)) | .e p2 q2 r2 t2 u2 v2 w2=>(kx (.b i (List.length i) r2 t2 u2 v2 w2)) | .f x2 y2 z2 a3 b3=>kn (.a g (IntKind.wrap .i64 (h + (Int.ofNat 1))) i (List.length i) z2 a3 b3))))) (kx (.a i j l m n)))
  | .b c3 d3 e3 f3 g3 h3 i3 j3 l3=>(slK h3 fun m3=>ifB (decide (d3 < (((List.length m3):Nat):Int))) (chk (Nat.ble (0 + c3) (List.length e3)) (bindK (rec i_Clp [(.sl (List.take c3 (List.drop 0 e3)))]) fun n3=>nclK n3 (slK h3 fun o3=>natK d3 fun p3=>nthK o3 p3 fun q3=>vK q3 fun r3 t3 u3 v3=>bindK (ts.t_f127 (.c 1 (IntKind.wrap .i64 (d3 + (Int.ofNat 1))) [(.agg [(.int .i64 r3),(.int .i64 t3),(.str u3),v3])] g3 h3 i3 j3 l3)) fun w3=>aba w3 fun x3=>match x3 with | .a y3 z3 a4 b4 c4=>none | .b d4 e4 f4 g4 h4=>none | .c i4 j4 l4=>none | .d m4 n4 o4 p4 q4 r4 t4=>(kn (.b c3 (IntKind.wrap .i64 (d3 + (Int.ofNat 1))) e3 f3 o4 p4 q4 r4 t4)) | .e u4 v4 w4 x4 y4 z4 a5=>(kx (.b e3 f3 w4 x4 y4 z4 a5)) | .f b5 c5 d5 e5 f5=>none) fun g5=>slK h3 fun h5=>natK d3 fun i5=>nthK h5 i5 fun j5=>vK j5 fun l5 m5 n5 o5=>chk (widths true 4 g5) (chk (Nat.ble (((List.length g5) + 1) * 56) 1099511627776) (bindK (ts.t_f127 (.c ((List.length g5) + 1) (IntKind.wrap .i64 (d3 + (Int.ofNat 1))) (g5 ++ [(.agg [(.int .i64 l5),(.int .i64 m5),(.str n5),o5])]) g3 h3 i3 j3 l3)) fun p5=>aba p5 fun q5=>match q5 with | .a r5 t5 u5 v5 w5=>none | .b x5 y5 z5 a6 b6=>none | .c c6 d6 e6=>none | .d f6 g6 h6 i6 j6 l6 m6=>(kn (.b c3 (IntKind.wrap .i64 (d3 + (Int.ofNat 1))) e3 (List.length e3) h6 i6 j6 l6 m6)) | .e n6 o6 p6 q6 r6 t6 u6=>(kx (.b e3 (List.length e3) p6 q6 r6 t6 u6)) | .f v6 w6 x6 y6 z6=>none)))) (kx (.c e3 f3 g3 h3 i3 j3 l3)))
def aca (k:Nat) (rec:Rec1) (ts:Tds) (kx:ahf→OX):Nat→acB→OX
  | 0,_=>none
  | j + 1,s=>ae7 k rec ts (aca k rec ts kx j) kx s
def lof127b (k:Nat) (rec:Rec1) (ts:Tds):Loops XRes:=(lo1 0 10 [0,4,5,9] rdf127b_0 (fun K=>aca k rec ts (apl K) k) lo0)
def bf127c_0:Code:=sb 0 (bd aa1)
inductive adX where
  | a (a0:Nat) (a1:Int) (a2:List PVal) (a3:Nat) (a4:Int) (a5:PVal) (a6:Bool) (a7:Nat) (a8:List PVal)
inductive ahe where
  | a (a0:List PVal) (a1:Nat) (a2:Int) (a3:PVal) (a4:Bool) (a5:Nat) (a6:List PVal)
  | b (a0:List PVal) (a1:Nat) (a2:Int) (a3:PVal) (a4:Bool) (a5:Nat) (a6:List PVal)
def apc (s:adX):XC:=match s with
  | .a v0 v1 v2 v3 v4 v5 v6 v7 v8=>(XC.mk [(.arr 0 0 0 v0 false),(.box 3 0),(.box 4 0),(.p (.int .i64 v1))] [(.arr 4 v2 0 0 v3),(.box [(.p (.int .i64 v4))]),(.box [(.rf Rk.yld 5)]),(.box [(.p v5)]),(.box [(.fn (.func 127) [(.box 1 0),(.box 2 0),(.box 3 0),(.box 4 0)])]),(.lp 0 [(.box 6 0),(.box 7 0),(.box 8 0)] LoopState.ready none),(.box [(.p .nils)]),(.box [(.p (.bool v6))]),(.box [(.fn (.func 75) [(.box 9 0)])]),(.box [(.arr 10 0 0 v7 false)]),(.arr 4 v8 0 0 0)])
def aii {α:Type} (c:XC) (K:adX→Option α) (e:Unit→Option α):Option α:=match c with
  | (XC.mk [(.arr 0 0 0 v0 false),(.box 3 0),(.box 4 0),(.p (.int .i64 v1))] [(.arr 4 v2 0 0 v3),(.box [(.p (.int .i64 v4))]),(.box [(.rf Rk.yld 5)]),(.box [(.p v5)]),(.box [(.fn (.func 127) [(.box 1 0),(.box 2 0),(.box 3 0),(.box 4 0)])]),(.lp 0 [(.box 6 0),(.box 7 0),(.box 8 0)] LoopState.ready none),(.box [(.p .nils)]),(.box [(.p (.bool v6))]),(.box [(.fn (.func 75) [(.box 9 0)])]),(.box [(.arr 10 0 0 v7 false)]),(.arr 4 v8 0 0 0)])=>K (.a v0 v1 v2 v3 v4 v5 v6 v7 v8)
  | _=>e ()
theorem amK:RdS apc @aii:=fun h=>by unfold aii at h; split at h <;> first | exact .inl ⟨_,rfl,h⟩ | exact .inr h
def rdf127c_0 {α:Type} (c:XC) (K:adX→Option α):Option α:=aii c K fun _=>none
theorem rdf127c_0_some:RdT apc @rdf127c_0:=fun h=>(amK h).elim id fun h=>absurd h (by simp)
def aiz:XE→List Nat:=(outsOf [(0,[])] [8])
def apk (K:KX XRes) (x:ahe):OX:=match x with
  | .a v0 v1 v2 v3 v4 v5 v6=>kq K XE.ret aiz XE.ret (XC.mk [(.p (.bool false))] [(.arr 4 v0 0 0 v1),(.box [(.p (.int .i64 v2))]),(.box [(.rf Rk.yld 5)]),(.box [(.p v3)]),(.box [(.fn (.func 127) [(.box 1 0),(.box 2 0),(.box 3 0),(.box 4 0)])]),(.lp 0 [(.box 6 0),(.box 7 0),(.box 8 0)] LoopState.done (some Code.ret)),(.box [(.p .nils)]),(.box [(.p (.bool v4))]),(.box [(.fn (.func 75) [(.box 9 0)])]),(.box [(.arr 10 0 0 v5 false)]),(.arr 4 v6 0 0 0)])
  | .b v0 v1 v2 v3 v4 v5 v6=>kq K XE.normal aiz (XE.exit 0) (XC.mk [] [(.arr 4 v0 0 0 v1),(.box [(.p (.int .i64 v2))]),(.box [(.rf Rk.yld 5)]),(.box [(.p v3)]),(.box [(.fn (.func 127) [(.box 1 0),(.box 2 0),(.box 3 0),(.box 4 0)])]),(.lp 0 [(.box 6 0),(.box 7 0),(.box 8 0)] LoopState.ready none),(.box [(.p .nils)]),(.box [(.p (.bool v4))]),(.box [(.fn (.func 75) [(.box 9 0)])]),(.box [(.arr 10 0 0 v5 false)]),(.arr 4 v6 0 0 0)])
def akm (k:Nat) (rec:Rec1) (ts:Tds) (kn:adX→OX) (kx:ahe→OX) (s:adX):OX:=match s with
  | .a g h i j l m n o p=>(slK m fun q=>ifB (decide (h < (((List.length q):Nat):Int))) (chk (Nat.ble (0 + g) (List.length i)) (bindK (rec i_Clp [(.sl (List.take g (List.drop 0 i)))]) fun r=>nclK r (slK m fun t=>natK h fun u=>nthK t u fun v=>vK v fun w x y z=>bindK (ts.t_f127 (.c 1 (IntKind.wrap .i64 (h + (Int.ofNat 1))) [(.agg [(.int .i64 w),(.int .i64 x),(.str y),z])] l m n o p)) fun a0=>aba a0 fun b0=>match b0 with | .a c0 d0 e0 f0 g0=>none | .b h0 i0 j0 l0 m0=>none | .c n0 o0 p0=>none | .d q0 r0 t0 u0 v0 w0 x0=>(kn (.a g (IntKind.wrap .i64 (h + (Int.ofNat 1))) i j t0 u0 v0 w0 x0)) | .e y0 z0 a1 b1 c1 d1 e1=>(kx (.a i j a1 b1 c1 d1 e1)) | .f f1 g1 h1 i1 j1=>none) fun l1=>slK m fun m1=>natK h fun n1=>nthK m1 n1 fun o1=>vK o1 fun p1 q1 r1 t1=>chk (widths true 4 l1) (chk (Nat.ble (((List.length l1) + 1) * 56) 1099511627776) (bindK (ts.t_f127 (.c ((List.length l1) + 1) (IntKind.wrap .i64 (h + (Int.ofNat 1))) (l1 ++ [(.agg [(.int .i64 p1),(.int .i64 q1),(.str r1),t1])]) l m n o p)) fun u1=>aba u1 fun v1=>match v1 with | .a w1 x1 y1 z1 a2=>none | .b b2 c2 d2 e2 f2=>none | .c g2 h2 i2=>none | .d j2 l2 m2 n2 o2 p2 q2=>(kn (.a g (IntKind.wrap .i64 (h + (Int.ofNat 1))) i (List.length i) m2 n2 o2 p2 q2)) | .e r2 t2 u2 v2 w2 x2 y2=>(kx (.a i (List.length i) u2 v2 w2 x2 y2)) | .f z2 a3 b3 c3 d3=>none)))) (kx (.b i j l m n o p)))
def adD (k:Nat) (rec:Rec1) (ts:Tds) (kx:ahe→OX):Nat→adX→OX
  | 0,_=>none
  | j + 1,s=>akm k rec ts (adD k rec ts kx j) kx s
def lof127c (k:Nat) (rec:Rec1) (ts:Tds):Loops XRes:=(lo1 0 11 [0,4,5,9] rdf127c_0 (fun K=>adD k rec ts (apk K) k) lo0)
def bf127d_0:Code:=sb 0 (bd aa1)
inductive adW where
  | a (a0 a1:Int) (a2:PVal) (a3:Bool) (a4:Nat) (a5:List PVal)
inductive ahd where
  | a (a0:Int) (a1:PVal) (a2:Bool) (a3:Nat) (a4:List PVal)
  | b (a0:Int) (a1:PVal) (a2:Bool) (a3:Nat) (a4:List PVal)
def apb (s:adW):XC:=match s with
  | .a v0 v1 v2 v3 v4 v5=>(XC.mk [(.p .nils),(.box 2 0),(.box 3 0),(.p (.int .i64 v0))] [(.box [(.p (.int .i64 v1))]),(.box [(.rf Rk.yld 4)]),(.box [(.p v2)]),(.box [(.fn (.func 127) [(.box 0 0),(.box 1 0),(.box 2 0),(.box 3 0)])]),(.lp 0 [(.box 5 0),(.box 6 0),(.box 7 0)] LoopState.ready none),(.box [(.p .nils)]),(.box [(.p (.bool v3))]),(.box [(.fn (.func 75) [(.box 8 0)])]),(.box [(.arr 9 0 0 v4 false)]),(.arr 4 v5 0 0 0)])
def aih {α:Type} (c:XC) (K:adW→Option α) (e:Unit→Option α):Option α:=match c with
  | (XC.mk [(.p .nils),(.box 2 0),(.box 3 0),(.p (.int .i64 v0))] [(.box [(.p (.int .i64 v1))]),(.box [(.rf Rk.yld 4)]),(.box [(.p v2)]),(.box [(.fn (.func 127) [(.box 0 0),(.box 1 0),(.box 2 0),(.box 3 0)])]),(.lp 0 [(.box 5 0),(.box 6 0),(.box 7 0)] LoopState.ready none),(.box [(.p .nils)]),(.box [(.p (.bool v3))]),(.box [(.fn (.func 75) [(.box 8 0)])]),(.box [(.arr 9 0 0 v4 false)]),(.arr 4 v5 0 0 0)])=>K (.a v0 v1 v2 v3 v4 v5)
  | _=>e ()
theorem amJ:RdS apb @aih:=fun h=>by unfold aih at h; split at h <;> first | exact .inl ⟨_,rfl,h⟩ | exact .inr h
def rdf127d_0 {α:Type} (c:XC) (K:adW→Option α):Option α:=aih c K fun _=>none
theorem rdf127d_0_some:RdT apb @rdf127d_0:=fun h=>(amJ h).elim id fun h=>absurd h (by simp)
def aiy:XE→List Nat:=(outsOf [(0,[])] [8])
def apj (K:KX XRes) (x:ahd):OX:=match x with
  | .a v0 v1 v2 v3 v4=>kq K XE.ret aiy XE.ret (XC.mk [(.p (.bool false))] [(.box [(.p (.int .i64 v0))]),(.box [(.rf Rk.yld 4)]),(.box [(.p v1)]),(.box [(.fn (.func 127) [(.box 0 0),(.box 1 0),(.box 2 0),(.box 3 0)])]),(.lp 0 [(.box 5 0),(.box 6 0),(.box 7 0)] LoopState.done (some Code.ret)),(.box [(.p .nils)]),(.box [(.p (.bool v2))]),(.box [(.fn (.func 75) [(.box 8 0)])]),(.box [(.arr 9 0 0 v3 false)]),(.arr 4 v4 0 0 0)])
  | .b v0 v1 v2 v3 v4=>kq K XE.normal aiy (XE.exit 0) (XC.mk [] [(.box [(.p (.int .i64 v0))]),(.box [(.rf Rk.yld 4)]),(.box [(.p v1)]),(.box [(.fn (.func 127) [(.box 0 0),(.box 1 0),(.box 2 0),(.box 3 0)])]),(.lp 0 [(.box 5 0),(.box 6 0),(.box 7 0)] LoopState.ready none),(.box [(.p .nils)]),(.box [(.p (.bool v2))]),(.box [(.fn (.func 75) [(.box 8 0)])]),(.box [(.arr 9 0 0 v3 false)]),(.arr 4 v4 0 0 0)])
def akl (k:Nat) (rec:Rec1) (ts:Tds) (kn:adW→OX) (kx:ahd→OX) (s:adW):OX:=match s with
  | .a g h i j l m=>(slK i fun n=>ifB (decide (g < (((List.length n):Nat):Int))) (bindK (rec i_Clp [.nils]) fun o=>nclK o (slK i fun p=>natK g fun q=>nthK p q fun r=>vK r fun t u v w=>bindK (ts.t_f127 (.c 1 (IntKind.wrap .i64 (g + (Int.ofNat 1))) [(.agg [(.int .i64 t),(.int .i64 u),(.str v),w])] h i j l m)) fun x=>aba x fun y=>match y with | .a z a0 b0 c0 d0=>none | .b e0 f0 g0 h0 i0=>none | .c j0 l0 m0=>none | .d n0 o0 p0 q0 r0 t0 u0=>(kn (.a (IntKind.wrap .i64 (g + (Int.ofNat 1))) p0 q0 r0 t0 u0)) | .e v0 w0 x0 y0 z0 a1 b1=>(kx (.a x0 y0 z0 a1 b1)) | .f c1 d1 e1 f1 g1=>none) fun h1=>slK i fun i1=>natK g fun j1=>nthK i1 j1 fun l1=>vK l1 fun m1 n1 o1 p1=>chk (widths true 4 h1) (chk (Nat.ble (((List.length h1) + 1) * 56) 1099511627776) (bindK (ts.t_f127 (.c ((List.length h1) + 1) (IntKind.wrap .i64 (g + (Int.ofNat 1))) (h1 ++ [(.agg [(.int .i64 m1),(.int .i64 n1),(.str o1),p1])]) h i j l m)) fun q1=>aba q1 fun r1=>match r1 with | .a t1 u1 v1 w1 x1=>none | .b y1 z1 a2 b2 c2=>none | .c d2 e2 f2=>none | .d g2 h2 i2 j2 l2 m2 n2=>(kn (.a (IntKind.wrap .i64 (g + (Int.ofNat 1))) i2 j2 l2 m2 n2)) | .e o2 p2 q2 r2 t2 u2 v2=>(kx (.a q2 r2 t2 u2 v2)) | .f w2 x2 y2 z2 a3=>none))) (kx (.b h i j l m)))
def adC (k:Nat) (rec:Rec1) (ts:Tds) (kx:ahd→OX):Nat→adW→OX
  | 0,_=>none
  | j + 1,s=>akl k rec ts (adC k rec ts kx j) kx s
def lof127d (k:Nat) (rec:Rec1) (ts:Tds):Loops XRes:=(lo1 0 10 [0,4,5,9] rdf127d_0 (fun K=>adC k rec ts (apj K) k) lo0)
def adK (k:Nat) (rec:Rec1) (ts:Tds) (s:aeQ):OX:=match s with
  | .a z1 z2 x3 b4=>(ifB ((Int.ofNat 0) == z2) (bindK (ts.t_r0 (.a b4)) fun g=>rdo_r0 g fun h=>match h with | .a b5 n6 l7=>(some (aaq (.a z2 x3 b5 n6 l7))) | .b b8 n9 i=>(some (aaq (.b z2 x3 b8 n9 i))) | .c j l m n o=>none | .d p q r t u=>none) (acb k rec ts (fun x=>match x with | .a v w y=>(some (aaq (.c v w y))) | .b z a0 b0 c0 d0=>(some (aaq (.b z a0 b0 c0 d0))) | .c e0 f0 g0 h0 i0=>some (aaq (.a e0 f0 g0 h0 i0))) k (.a z1 z2 x3 b4)))
  | .b n1 z2 l3 z4 x5 b6=>(ifB (((n1:Nat):Int) == z4) (bindK (ts.t_r0 (.b n1 l3 b6)) fun j0=>rdo_r0 j0 fun l0=>match l0 with | .a b7 n8 l9=>none | .b m0 n0 o0=>none | .c p0 n q0 r0 t0=>(some (aaq (.d p0 n z4 x5 q0 r0 t0))) | .d u0 t v0 w0 x0=>some (aaq (.e u0 t z4 x5 v0 w0 x0))) (aca k rec ts (fun x=>match x with | .a y0 z0 a1 b1 c1=>(some (aaq (.f y0 z0 a1 b1 c1))) | .b d0 d1 e1 f1 g1 h1 i1=>(some (aaq (.e d0 d1 e1 f1 g1 h1 i1))) | .c j1 l1 m1 o1 p1 q1 r1=>some (aaq (.d j1 l1 m1 o1 p1 q1 r1))) k (.a n1 z2 l3 0 z4 x5 b6)))
  | .c n1 z2 l3 z4 x5 b6 n7 l8=>(ifB (((n1:Nat):Int) == z4) (bindK (ts.t_r0 (.c n1 l3 b6 n7 l8)) fun t1=>rdo_r0 t1 fun u1=>match u1 with | .a b9 v1 j=>none | .b w1 x1 y1=>none | .c o r0 a2 b2 c2=>(some (aaq (.d o r0 z4 x5 a2 b2 c2))) | .d u w0 d2 e2 f2=>some (aaq (.e u w0 z4 x5 d2 e2 f2))) (adD k rec ts (fun x=>match x with | .a g2 h2 i2 j2 l2 m2 n2=>(some (aaq (.e g2 h2 i2 j2 l2 m2 n2))) | .b o2 h1 p2 q2 r2 t2 u2=>some (aaq (.d o2 h1 p2 q2 r2 t2 u2))) k (.a n1 z2 l3 0 z4 x5 b6 n7 l8)))
  | .d z1 z2 x3 b4 n5 l6=>(ifB ((Int.ofNat 0) == z2) (bindK (ts.t_r0 (.d b4 n5 l6)) fun j0=>rdo_r0 j0 fun l0=>match l0 with | .a b7 n8 l9=>(some (aaq (.a z2 x3 b7 n8 l9))) | .b m0 n0 o0=>(some (aaq (.b z2 x3 m0 n0 o0))) | .c p0 n q0 r0 t0=>none | .d u0 t v0 w0 x0=>none) (adC k rec ts (fun x=>match x with | .a v2 w2 x2 h2 y2=>(some (aaq (.b v2 w2 x2 h2 y2))) | .b a3 b3 c3 d3 o2=>some (aaq (.a a3 b3 c3 d3 o2))) k (.a z1 z2 x3 b4 n5 l6)))
theorem TS_f127_known {k:Nat} {rec:Rec1} {ts:Tds} (h:aaz prog gl rec) (hT:ToldOk prog gl (td ts)) {s:aeQ} {res:XRes} (hr:adK k rec ts s=some res):KnownT prog gl (.fn 127) (ael s) res:=by
  cases s with
  | a v0 v1 v2 v3=>exact kT (cf:=(cg 9 [(35,4),(26,27),(16,4)] [26])) (m:=9) (n:=37) (lo:=(lof127a k rec ts)) h hT acT (by kernel_rfl) rfl rfl rfl rfl (tr0 (by kernel_rfl)) ⟨_,aar _ (by rw [show aas (bd aa1) = [(0,bf127a_0)] from by kernel_rfl]; simp),(LA (cf:=(cg 9 [(35,4),(26,27),(16,4)] [26])) (T:=td ts) (k:=k) (b:=bf127a_0) (mk:=ajU) (S:=fun q K=>ae8 k rec ts q (apm K)) (L:=fun K=>acb k rec ts (apm K)) h hT aat.none 0 [0,4,5,9] afw rfl (fun _=>rfl) rfl (by kernel_rfl) (tl0 (by kernel_rfl)) (tr0 (by kernel_rfl)) rdf127a_0_some (fun _ _ s=>by cases s <;> kernel_rfl) (fun _ _=>rfl) (fun _ _ _=>rfl) fun _ _ _=>rfl)⟩ (by kernel_rfl) hr
  | b v0 v1 v2 v3 v4 v5=>exact kT (cf:=(cg 10 [(35,4),(26,27),(16,4)] [26])) (m:=10) (n:=37) (lo:=(lof127b k rec ts)) h hT acT (by kernel_rfl) rfl rfl rfl rfl (tr0 (by kernel_rfl)) ⟨_,aar _ (by rw [show aas (bd aa1) = [(0,bf127b_0)] from by kernel_rfl]; simp),(LA (cf:=(cg 10 [(35,4),(26,27),(16,4)] [26])) (T:=td ts) (k:=k) (b:=bf127b_0) (mk:=ajT) (S:=fun q K=>ae7 k rec ts q (apl K)) (L:=fun K=>aca k rec ts (apl K)) h hT aat.none 0 [0,4,5,9] afv rfl (fun _=>rfl) rfl (by kernel_rfl) (tl0 (by kernel_rfl)) (tr0 (by kernel_rfl)) rdf127b_0_some (fun _ _ s=>by cases s <;> kernel_rfl) (fun _ _=>rfl) (fun _ _ _=>rfl) fun _ _ _=>rfl)⟩ (by kernel_rfl) hr
  | c v0 v1 v2 v3 v4 v5 v6 v7=>exact kT (cf:=(cg 11 [(35,4),(26,27),(16,4)] [26])) (m:=11) (n:=37) (lo:=(lof127c k rec ts)) h hT acT (by kernel_rfl) rfl rfl rfl rfl (tr0 (by kernel_rfl)) ⟨_,aar _ (by rw [show aas (bd aa1) = [(0,bf127c_0)] from by kernel_rfl]; simp),(LA (cf:=(cg 11 [(35,4),(26,27),(16,4)] [26])) (T:=td ts) (k:=k) (b:=bf127c_0) (mk:=apc) (S:=fun q K=>akm k rec ts q (apk K)) (L:=fun K=>adD k rec ts (apk K)) h hT aat.none 0 [0,4,5,9] aiz rfl (fun _=>rfl) rfl (by kernel_rfl) (tl0 (by kernel_rfl)) (tr0 (by kernel_rfl)) rdf127c_0_some (fun _ _ s=>by cases s <;> kernel_rfl) (fun _ _=>rfl) (fun _ _ _=>rfl) fun _ _ _=>rfl)⟩ (by kernel_rfl) hr
  | d v0 v1 v2 v3 v4 v5=>exact kT (cf:=(cg 10 [(35,4),(26,27),(16,4)] [26])) (m:=10) (n:=37) (lo:=(lof127d k rec ts)) h hT acT (by kernel_rfl) rfl rfl rfl rfl (tr0 (by kernel_rfl)) ⟨_,aar _ (by rw [show aas (bd aa1) = [(0,bf127d_0)] from by kernel_rfl]; simp),(LA (cf:=(cg 10 [(35,4),(26,27),(16,4)] [26])) (T:=td ts) (k:=k) (b:=bf127d_0) (mk:=apb) (S:=fun q K=>akl k rec ts q (apj K)) (L:=fun K=>adC k rec ts (apj K)) h hT aat.none 0 [0,4,5,9] aiy rfl (fun _=>rfl) rfl (by kernel_rfl) (tl0 (by kernel_rfl)) (tr0 (by kernel_rfl)) rdf127d_0_some (fun _ _ s=>by cases s <;> kernel_rfl) (fun _ _=>rfl) (fun _ _ _=>rfl) fun _ _ _=>rfl)⟩ (by kernel_rfl) hr
def cfr0a:Cfg:=cl 5 true
def cfr0b:Cfg:=cl 6 true
def cfr0c:Cfg:=cl 7 true
def cfr0d:Cfg:=cl 6 true
def TS_r0 (k:Nat) (rec:Rec1) (ts:Tds) (s:In_r0):OX:=match s with
  | .a b1=>(bindK (rec abe [(.int .i64 (Int.ofNat 5)), .nils]) fun x2=>pK x2 fun x3=>vK x3 fun z7 e f g=>bindK (ts.t_f75 (.a z7 e f g)) fun h=>abk h fun i=>match i with | .a j l=>(some (mko_r0 (.a b1 j l))) | .b m n o=>ifB (!m) (some (mko_r0 (.b false n o))) (some (mko_r0 (.a b1 n o))))
  | .b n1 l2 b3=>(chk (Nat.ble (0 + n1) (List.length l2)) (bindK (rec abe ((.int .i64 (Int.ofNat 5)) :: [(.sl (List.take n1 (List.drop 0 l2)))])) fun x4=>pK x4 fun x5=>vK x5 fun z9 p q r=>ifB (flatP (.agg [(.int .i64 z9),(.int .i64 p),(.str q),r])) (bindK (ts.t_f75 (.a z9 p q r)) fun t=>abk t fun u=>match u with | .a v w=>(some (mko_r0 (.c l2 0 b3 v w))) | .b x y z=>ifB (!x) (some (mko_r0 (.d l2 0 false y z))) (some (mko_r0 (.c l2 0 b3 y z)))) (bindK (ts.t_f75 (.a z9 p q r)) fun a0=>abk a0 fun b0=>match b0 with | .a c0 d0=>(some (mko_r0 (.c l2 (List.length l2) b3 c0 d0))) | .b e0 f0 g0=>ifB (!e0) (some (mko_r0 (.d l2 (List.length l2) false f0 g0))) (some (mko_r0 (.c l2 (List.length l2) b3 f0 g0))))))
  | .c n1 l2 b3 n4 l5=>(chk (Nat.ble (0 + n1) (List.length l2)) (bindK (rec abe ((.int .i64 (Int.ofNat 5)) :: [(.sl (List.take n1 (List.drop 0 l2)))])) fun x6=>pK x6 fun x7=>vK x7 fun h0 i0 l j0=>ifB (flatP (.agg [(.int .i64 h0),(.int .i64 i0),(.str l),j0])) (bindK (ts.t_f75 (.b h0 i0 l j0 n4 l5)) fun l0=>abk l0 fun m0=>match m0 with | .a n0 o0=>(some (mko_r0 (.c l2 0 b3 n0 o0))) | .b p0 q0 r0=>ifB (!p0) (some (mko_r0 (.d l2 0 false q0 r0))) (some (mko_r0 (.c l2 0 b3 q0 r0)))) (bindK (ts.t_f75 (.b h0 i0 l j0 n4 l5)) fun t0=>abk t0 fun u0=>match u0 with | .a v0 w0=>(some (mko_r0 (.c l2 (List.length l2) b3 v0 w0))) | .b x0 y0 z0=>ifB (!x0) (some (mko_r0 (.d l2 (List.length l2) false y0 z0))) (some (mko_r0 (.c l2 (List.length l2) b3 y0 z0))))))
  | .d b1 n2 l3=>(bindK (rec abe [(.int .i64 (Int.ofNat 5)), .nils]) fun x4=>pK x4 fun x5=>vK x5 fun z9 p q r=>bindK (ts.t_f75 (.b z9 p q r n2 l3)) fun t=>abk t fun u=>match u with | .a v w=>(some (mko_r0 (.a b1 v w))) | .b x y z=>ifB (!x) (some (mko_r0 (.b false y z))) (some (mko_r0 (.a b1 y z))))
theorem TS_r0_known {k:Nat} {rec:Rec1} {ts:Tds} (h:aaz prog gl rec) (hT:ToldOk prog gl (td ts)) {s:In_r0} {res:XRes} (hr:TS_r0 k rec ts s=some res):KnownT prog gl .yld (mki_r0 s) res:=by
  cases s with
  | a v0=>exact kR (i:=0) (cf:=cfr0a) (m:=5) (n:=107) h hT (by kernel_rfl) rfl rfl rfl rfl rfl (by kernel_rfl) hr
  | b v0 v1 v2=>exact kR (i:=0) (cf:=cfr0b) (m:=6) (n:=107) h hT (by kernel_rfl) rfl rfl rfl rfl rfl (by kernel_rfl) hr
  | c v0 v1 v2 v3 v4=>exact kR (i:=0) (cf:=cfr0c) (m:=7) (n:=107) h hT (by kernel_rfl) rfl rfl rfl rfl rfl (by kernel_rfl) hr
  | d v0 v1 v2=>exact kR (i:=0) (cf:=cfr0d) (m:=6) (n:=107) h hT (by kernel_rfl) rfl rfl rfl rfl rfl (by kernel_rfl) hr
def TS_f120 (k:Nat) (rec:Rec1) (ts:Tds) (s:ai8):OX:=match s with
  | .a b1=>(bindK (rec i_CFL [.nils,(.fn (.func aaF) [])]) fun x2=>pK x2 fun x3=>boolK x3 fun b4=>ifB b4 (some (aaE (.a b1))) (bindK (ts.t_f123 (.a b1)) fun i=>abu i fun j=>match j with | .a b5 n6 l7=>(some (aaE (.c b5 n6 l7))) | .b b8 n9 l=>(some (aaE (.d b8 n9 l))) | .c m n o p q=>none | .d r t u v w=>none | .e x y z=>none | .f a0 b0 c0 d0 e0 f0 g0=>none | .g h0 i0 j0 l0 m0 n0 o0=>none | .h p0 q0 r0 t0 u0=>none))
  | .b n1 b2 l3=>(chk (Nat.ble (0 + n1) (List.length l3)) (bindK (rec i_CFL [(.sl (List.take n1 (List.drop 0 l3))),(.fn (.func aaF) [])]) fun x4=>pK x4 fun x5=>boolK x5 fun b6=>ifB b6 (some (aaE (.b n1 b2 l3))) (bindK (ts.t_f123 (.b n1 l3 b2)) fun v0=>abu v0 fun w0=>match w0 with | .a b7 n8 l9=>none | .b x0 m n=>none | .c y0 z0 a1 r t=>(some (aaE (.e y0 a1 z0 r t))) | .d c1 d1 e1 x y=>(some (aaE (.f c1 e1 d1 x y))) | .e f1 a0 g1=>(some (aaE (.b f1 g1 a0))) | .f h1 i1 j1 l1 m1 o1 p1=>none | .g q1 r1 t1 u1 v1 w1 x1=>none | .h y1 z1 a2 c2 d2=>none)))
theorem TS_f120_known {k:Nat} {rec:Rec1} {ts:Tds} (h:aaz prog gl rec) (hT:ToldOk prog gl (td ts)) {s:ai8} {res:XRes} (hr:TS_f120 k rec ts s=some res):KnownT prog gl (.fn 120) (ahs s) res:=by
  cases s with
  | a v0=>exact kT (cf:=(cg 6 [(8,4),(5,4)] [])) (m:=6) (n:=9) (lo:=lo0) h hT aj8 (by kernel_rfl) rfl rfl rfl rfl (tr0 (by kernel_rfl)) (xl0 (by kernel_rfl)) (by kernel_rfl) hr
  | b v0 v1 v2=>exact kT (cf:=(cg 7 [(8,4),(5,4)] [])) (m:=7) (n:=9) (lo:=lo0) h hT aj8 (by kernel_rfl) rfl rfl rfl rfl (tr0 (by kernel_rfl)) (xl0 (by kernel_rfl)) (by kernel_rfl) hr
def bf123a_0:Code:=sb 0 (bd aa2)
def lof123a (k:Nat) (rec:Rec1) (ts:Tds):Loops XRes:=lo0
def bf123b_0:Code:=sb 0 (bd aa2)
inductive acE where
  | a (a0:PVal) (a1 a2:Int) (a3:Nat) (a4:List PVal) (a5:Bool)
  | b (a0:PVal) (a1 a2:Int) (a3:Nat) (a4:List PVal) (a5:Bool) (a6:Nat) (a7:List PVal)
inductive ahj where
  | a (a0:Nat) (a1:List PVal) (a2:Bool)
  | b (a0:Nat) (a1:List PVal) (a2:Bool) (a3:Nat) (a4:List PVal)
  | c (a0:Nat) (a1:List PVal) (a2:Bool) (a3:Nat) (a4:List PVal)
def ajW (s:acE):XC:=match s with
  | .a v0 v1 v2 v3 v4 v5=>(XC.mk [(.p .nils),(.box 2 0),(.p v0),(.p (.int .i64 v1)),(.p (.int .i64 v2))] [(.box [(.arr 3 0 0 v3 false)]),(.box [(.rf Rk.yld 4)]),(.box [(.fn (.func 123) [(.box 0 0),(.box 1 0),(.box 2 0)])]),(.arr 1 v4 0 0 0),(.lp 1 [(.box 5 0),(.box 6 0),(.box 7 0)] LoopState.ready none),(.box [(.p .nils)]),(.box [(.p (.bool v5))]),(.box [(.fn (.func 75) [(.box 8 0)])]),(.box [(.p .nils)])])
  | .b v0 v1 v2 v3 v4 v5 v6 v7=>(XC.mk [(.p .nils),(.box 2 0),(.p v0),(.p (.int .i64 v1)),(.p (.int .i64 v2))] [(.box [(.arr 3 0 0 v3 false)]),(.box [(.rf Rk.yld 4)]),(.box [(.fn (.func 123) [(.box 0 0),(.box 1 0),(.box 2 0)])]),(.arr 1 v4 0 0 0),(.lp 1 [(.box 5 0),(.box 6 0),(.box 7 0)] LoopState.ready none),(.box [(.p .nils)]),(.box [(.p (.bool v5))]),(.box [(.fn (.func 75) [(.box 8 0)])]),(.box [(.arr 9 0 0 v6 false)]),(.arr 4 v7 0 0 0)])
def air {α:Type} (c:XC) (K:acE→Option α) (e:Unit→Option α):Option α:=match c with
  | (XC.mk [(.p .nils),(.box 2 0),(.p v0),(.p (.int .i64 v1)),(.p (.int .i64 v2))] [(.box [(.arr 3 0 0 v3 false)]),(.box [(.rf Rk.yld 4)]),(.box [(.fn (.func 123) [(.box 0 0),(.box 1 0),(.box 2 0)])]),(.arr 1 v4 0 0 0),(.lp 1 [(.box 5 0),(.box 6 0),(.box 7 0)] LoopState.ready none),(.box [(.p .nils)]),(.box [(.p (.bool v5))]),(.box [(.fn (.func 75) [(.box 8 0)])]),(.box [(.p .nils)])])=>K (.a v0 v1 v2 v3 v4 v5)
  | _=>e ()
theorem amT:RdS ajW @air:=fun h=>by unfold air at h; split at h <;> first | exact .inl ⟨_,rfl,h⟩ | exact .inr h
def aiq {α:Type} (c:XC) (K:acE→Option α) (e:Unit→Option α):Option α:=match c with
  | (XC.mk [(.p .nils),(.box 2 0),(.p v0),(.p (.int .i64 v1)),(.p (.int .i64 v2))] [(.box [(.arr 3 0 0 v3 false)]),(.box [(.rf Rk.yld 4)]),(.box [(.fn (.func 123) [(.box 0 0),(.box 1 0),(.box 2 0)])]),(.arr 1 v4 0 0 0),(.lp 1 [(.box 5 0),(.box 6 0),(.box 7 0)] LoopState.ready none),(.box [(.p .nils)]),(.box [(.p (.bool v5))]),(.box [(.fn (.func 75) [(.box 8 0)])]),(.box [(.arr 9 0 0 v6 false)]),(.arr 4 v7 0 0 0)])=>K (.b v0 v1 v2 v3 v4 v5 v6 v7)
  | _=>e ()
theorem amS:RdS ajW @aiq:=fun h=>by unfold aiq at h; split at h <;> first | exact .inl ⟨_,rfl,h⟩ | exact .inr h
def rdf123b_0 {α:Type} (c:XC) (K:acE→Option α):Option α:=air c K fun _=>aiq c K fun _=>none
theorem rdf123b_0_some:RdT ajW @rdf123b_0:=fun h=>(amT h).elim id fun h=>(amS h).elim id fun h=>absurd h (by simp)
def afy:XE→List Nat:=(outsOf [(0,[])] [5])
def apq (K:KX XRes) (x:ahj):OX:=match x with
  | .a v0 v1 v2=>kq K XE.normal afy (XE.exit 0) (XC.mk [] [(.box [(.arr 3 0 0 v0 false)]),(.box [(.rf Rk.yld 4)]),(.box [(.fn (.func 123) [(.box 0 0),(.box 1 0),(.box 2 0)])]),(.arr 1 v1 0 0 0),(.lp 1 [(.box 5 0),(.box 6 0),(.box 7 0)] LoopState.ready none),(.box [(.p .nils)]),(.box [(.p (.bool v2))]),(.box [(.fn (.func 75) [(.box 8 0)])]),(.box [(.p .nils)])])
  | .b v0 v1 v2 v3 v4=>kq K XE.ret afy XE.ret (XC.mk [(.p (.bool false))] [(.box [(.arr 3 0 0 v0 false)]),(.box [(.rf Rk.yld 4)]),(.box [(.fn (.func 123) [(.box 0 0),(.box 1 0),(.box 2 0)])]),(.arr 1 v1 0 0 0),(.lp 1 [(.box 5 0),(.box 6 0),(.box 7 0)] LoopState.done (some Code.ret)),(.box [(.p .nils)]),(.box [(.p (.bool v2))]),(.box [(.fn (.func 75) [(.box 8 0)])]),(.box [(.arr 9 0 0 v3 false)]),(.arr 4 v4 0 0 0)])
  | .c v0 v1 v2 v3 v4=>kq K XE.normal afy (XE.exit 0) (XC.mk [] [(.box [(.arr 3 0 0 v0 false)]),(.box [(.rf Rk.yld 4)]),(.box [(.fn (.func 123) [(.box 0 0),(.box 1 0),(.box 2 0)])]),(.arr 1 v1 0 0 0),(.lp 1 [(.box 5 0),(.box 6 0),(.box 7 0)] LoopState.ready none),(.box [(.p .nils)]),(.box [(.p (.bool v2))]),(.box [(.fn (.func 75) [(.box 8 0)])]),(.box [(.arr 9 0 0 v3 false)]),(.arr 4 v4 0 0 0)])
def afa (k:Nat) (rec:Rec1) (ts:Tds) (kn:acE→OX) (kx:ahj→OX) (s:acE):OX:=match s with
  | .a i j l m n o=>(ifB (decide (l < j)) (slK i fun p=>natK l fun q=>nthK p q fun r=>vK r fun t u v w=>bindK (rec i_Clp [.nils]) fun x=>nclK x (bindK (ts.t_f123 (.c 1 [(.agg [(.int .i64 t),(.int .i64 u),(.str v),w])] m n o)) fun y=>abu y fun z=>match z with | .a a0 b0 c0=>none | .b d0 e0 f0=>none | .c g0 h0 i0 j0 l0=>none | .d m0 n0 o0 p0 q0=>none | .e r0 t0 u0=>none | .f v0 w0 x0 y0 z0 a1 b1=>(kn (.b i j (IntKind.wrap .i64 (l + (Int.ofNat 1))) x0 y0 z0 a1 b1)) | .g c1 d1 e1 f1 g1 h1 i1=>(kx (.b e1 f1 g1 h1 i1)) | .h j1 l1 m1 n1 o1=>kn (.a i j (IntKind.wrap .i64 (l + (Int.ofNat 1))) m1 n1 o1)) fun p1=>chk (widths true 4 p1) (chk (Nat.ble (((List.length p1) + 1) * 56) 1099511627776) (bindK (ts.t_f123 (.c ((List.length p1) + 1) (p1 ++ [(.agg [(.int .i64 t),(.int .i64 u),(.str v),w])]) m n o)) fun q1=>abu q1 fun r1=>match r1 with | .a t1 u1 v1=>none | .b w1 x1 y1=>none | .c z1 a2 b2 c2 d2=>none | .d e2 f2 g2 h2 i2=>none | .e j2 l2 m2=>none | .f n2 o2 p2 q2 r2 t2 u2=>(kn (.b i j (IntKind.wrap .i64 (l + (Int.ofNat 1))) p2 q2 r2 t2 u2)) | .g v2 w2 x2 y2 z2 a3 b3=>(kx (.b x2 y2 z2 a3 b3)) | .h c3 d3 e3 f3 g3=>kn (.a i j (IntKind.wrap .i64 (l + (Int.ofNat 1))) e3 f3 g3)))) (kx (.a m n o)))
  | .b h3 i3 j3 l3 m3 n3 o3 p3=>(ifB (decide (j3 < i3)) (slK h3 fun q3=>natK j3 fun r3=>nthK q3 r3 fun t3=>vK t3 fun u3 v3 w3 x3=>bindK (rec i_Clp [.nils]) fun y3=>nclK y3 (bindK (ts.t_f123 (.d 1 [(.agg [(.int .i64 u3),(.int .i64 v3),(.str w3),x3])] l3 m3 n3 o3 p3)) fun z3=>abu z3 fun a4=>match a4 with | .a b4 c4 d4=>none | .b e4 f4 g4=>none | .c h4 i4 j4 l4 m4=>none | .d n4 o4 p4 q4 r4=>none | .e t4 u4 v4=>none | .f w4 x4 y4 z4 a5 b5 c5=>(kn (.b h3 i3 (IntKind.wrap .i64 (j3 + (Int.ofNat 1))) y4 z4 a5 b5 c5)) | .g d5 e5 f5 g5 h5 i5 j5=>(kx (.b f5 g5 h5 i5 j5)) | .h l5 m5 n5 o5 p5=>none) fun q5=>chk (widths true 4 q5) (chk (Nat.ble (((List.length q5) + 1) * 56) 1099511627776) (bindK (ts.t_f123 (.d ((List.length q5) + 1) (q5 ++ [(.agg [(.int .i64 u3),(.int .i64 v3),(.str w3),x3])]) l3 m3 n3 o3 p3)) fun r5=>abu r5 fun t5=>match t5 with | .a u5 v5 w5=>none | .b x5 y5 z5=>none | .c a6 b6 c6 d6 e6=>none | .d f6 g6 h6 i6 j6=>none | .e l6 m6 n6=>none | .f o6 p6 q6 r6 t6 u6 v6=>(kn (.b h3 i3 (IntKind.wrap .i64 (j3 + (Int.ofNat 1))) q6 r6 t6 u6 v6)) | .g w6 x6 y6 z6 a7 b7 c7=>(kx (.b y6 z6 a7 b7 c7)) | .h d7 e7 f7 g7 h7=>none))) (kx (.c l3 m3 n3 o3 p3)))
def abT (k:Nat) (rec:Rec1) (ts:Tds) (kx:ahj→OX):Nat→acE→OX
  | 0,_=>none
  | j + 1,s=>afa k rec ts (abT k rec ts kx j) kx s
def lof123b (k:Nat) (rec:Rec1) (ts:Tds):Loops XRes:=(lo1 0 9 [0,3,21,22,23] rdf123b_0 (fun K=>abT k rec ts (apq K) k) lo0)
def bf123c_0:Code:=sb 0 (bd aa2)
inductive acD where
  | a (a0:Nat) (a1:PVal) (a2 a3:Int) (a4:List PVal) (a5 a6:Nat) (a7:List PVal) (a8:Bool)
  | b (a0:Nat) (a1:PVal) (a2 a3:Int) (a4:List PVal) (a5 a6:Nat) (a7:List PVal) (a8:Bool) (a9:Nat) (a10:List PVal)
inductive ahi where
  | a (a0:List PVal) (a1 a2:Nat) (a3:List PVal) (a4:Bool) (a5:Nat) (a6:List PVal)
  | b (a0:List PVal) (a1 a2:Nat) (a3:List PVal) (a4:Bool)
  | c (a0:List PVal) (a1 a2:Nat) (a3:List PVal) (a4:Bool) (a5:Nat) (a6:List PVal)
def ajV (s:acD):XC:=match s with
  | .a v0 v1 v2 v3 v4 v5 v6 v7 v8=>(XC.mk [(.arr 0 0 0 v0 false),(.box 3 0),(.p v1),(.p (.int .i64 v2)),(.p (.int .i64 v3))] [(.arr 4 v4 0 0 v5),(.box [(.arr 4 0 0 v6 false)]),(.box [(.rf Rk.yld 5)]),(.box [(.fn (.func 123) [(.box 1 0),(.box 2 0),(.box 3 0)])]),(.arr 1 v7 0 0 0),(.lp 1 [(.box 6 0),(.box 7 0),(.box 8 0)] LoopState.ready none),(.box [(.p .nils)]),(.box [(.p (.bool v8))]),(.box [(.fn (.func 75) [(.box 9 0)])]),(.box [(.p .nils)])])
  | .b v0 v1 v2 v3 v4 v5 v6 v7 v8 v9 v10=>(XC.mk [(.arr 0 0 0 v0 false),(.box 3 0),(.p v1),(.p (.int .i64 v2)),(.p (.int .i64 v3))] [(.arr 4 v4 0 0 v5),(.box [(.arr 4 0 0 v6 false)]),(.box [(.rf Rk.yld 5)]),(.box [(.fn (.func 123) [(.box 1 0),(.box 2 0),(.box 3 0)])]),(.arr 1 v7 0 0 0),(.lp 1 [(.box 6 0),(.box 7 0),(.box 8 0)] LoopState.ready none),(.box [(.p .nils)]),(.box [(.p (.bool v8))]),(.box [(.fn (.func 75) [(.box 9 0)])]),(.box [(.arr 10 0 0 v9 false)]),(.arr 4 v10 0 0 0)])
def aip {α:Type} (c:XC) (K:acD→Option α) (e:Unit→Option α):Option α:=match c with
  | (XC.mk [(.arr 0 0 0 v0 false),(.box 3 0),(.p v1),(.p (.int .i64 v2)),(.p (.int .i64 v3))] [(.arr 4 v4 0 0 v5),(.box [(.arr 4 0 0 v6 false)]),(.box [(.rf Rk.yld 5)]),(.box [(.fn (.func 123) [(.box 1 0),(.box 2 0),(.box 3 0)])]),(.arr 1 v7 0 0 0),(.lp 1 [(.box 6 0),(.box 7 0),(.box 8 0)] LoopState.ready none),(.box [(.p .nils)]),(.box [(.p (.bool v8))]),(.box [(.fn (.func 75) [(.box 9 0)])]),(.box [(.p .nils)])])=>K (.a v0 v1 v2 v3 v4 v5 v6 v7 v8)
  | _=>e ()
theorem amR:RdS ajV @aip:=fun h=>by unfold aip at h; split at h <;> first | exact .inl ⟨_,rfl,h⟩ | exact .inr h
def aio {α:Type} (c:XC) (K:acD→Option α) (e:Unit→Option α):Option α:=match c with
  | (XC.mk [(.arr 0 0 0 v0 false),(.box 3 0),(.p v1),(.p (.int .i64 v2)),(.p (.int .i64 v3))] [(.arr 4 v4 0 0 v5),(.box [(.arr 4 0 0 v6 false)]),(.box [(.rf Rk.yld 5)]),(.box [(.fn (.func 123) [(.box 1 0),(.box 2 0),(.box 3 0)])]),(.arr 1 v7 0 0 0),(.lp 1 [(.box 6 0),(.box 7 0),(.box 8 0)] LoopState.ready none),(.box [(.p .nils)]),(.box [(.p (.bool v8))]),(.box [(.fn (.func 75) [(.box 9 0)])]),(.box [(.arr 10 0 0 v9 false)]),(.arr 4 v10 0 0 0)])=>K (.b v0 v1 v2 v3 v4 v5 v6 v7 v8 v9 v10)
  | _=>e ()
theorem amQ:RdS ajV @aio:=fun h=>by unfold aio at h; split at h <;> first | exact .inl ⟨_,rfl,h⟩ | exact .inr h
def rdf123c_0 {α:Type} (c:XC) (K:acD→Option α):Option α:=aip c K fun _=>aio c K fun _=>none
theorem rdf123c_0_some:RdT ajV @rdf123c_0:=fun h=>(amR h).elim id fun h=>(amQ h).elim id fun h=>absurd h (by simp)
def afx:XE→List Nat:=(outsOf [(0,[])] [5])
def apo (K:KX XRes) (x:ahi):OX:=match x with
  | .a v0 v1 v2 v3 v4 v5 v6=>kq K XE.ret afx XE.ret (XC.mk [(.p (.bool false))] [(.arr 4 v0 0 0 v1),(.box [(.arr 4 0 0 v2 false)]),(.box [(.rf Rk.yld 5)]),(.box [(.fn (.func 123) [(.box 1 0),(.box 2 0),(.box 3 0)])]),(.arr 1 v3 0 0 0),(.lp 1 [(.box 6 0),(.box 7 0),(.box 8 0)] LoopState.done (some Code.ret)),(.box [(.p .nils)]),(.box [(.p (.bool v4))]),(.box [(.fn (.func 75) [(.box 9 0)])]),(.box [(.arr 10 0 0 v5 false)]),(.arr 4 v6 0 0 0)])
  | .b v0 v1 v2 v3 v4=>kq K XE.normal afx (XE.exit 0) (XC.mk [] [(.arr 4 v0 0 0 v1),(.box [(.arr 4 0 0 v2 false)]),(.box [(.rf Rk.yld 5)]),(.box [(.fn (.func 123) [(.box 1 0),(.box 2 0),(.box 3 0)])]),(.arr 1 v3 0 0 0),(.lp 1 [(.box 6 0),(.box 7 0),(.box 8 0)] LoopState.ready none),(.box [(.p .nils)]),(.box [(.p (.bool v4))]),(.box [(.fn (.func 75) [(.box 9 0)])]),(.box [(.p .nils)])])
  | .c v0 v1 v2 v3 v4 v5 v6=>kq K XE.normal afx (XE.exit 0) (XC.mk [] [(.arr 4 v0 0 0 v1),(.box [(.arr 4 0 0 v2 false)]),(.box [(.rf Rk.yld 5)]),(.box [(.fn (.func 123) [(.box 1 0),(.box 2 0),(.box 3 0)])]),(.arr 1 v3 0 0 0),(.lp 1 [(.box 6 0),(.box 7 0),(.box 8 0)] LoopState.ready none),(.box [(.p .nils)]),(.box [(.p (.bool v4))]),(.box [(.fn (.func 75) [(.box 9 0)])]),(.box [(.arr 10 0 0 v5 false)]),(.arr 4 v6 0 0 0)])
def ae9 (k:Nat) (rec:Rec1) (ts:Tds) (kn:acD→OX) (kx:ahi→OX) (s:acD):OX:=match s with
  | .a i j l m n o p q r=>(ifB (decide (m < l)) (slK j fun t=>natK m fun u=>nthK t u fun v=>vK v fun w x y z=>chk (Nat.ble (0 + i) (List.length n)) (bindK (rec i_Clp [(.sl (List.take i (List.drop 0 n)))]) fun a0=>nclK a0 (bindK (ts.t_f123 (.c 1 [(.agg [(.int .i64 w),(.int .i64 x),(.str y),z])] p q r)) fun b0=>abu b0 fun c0=>match c0 with | .a d0 e0 f0=>none | .b g0 h0 i0=>none | .c j0 l0 m0 n0 o0=>none | .d p0 q0 r0 t0 u0=>none | .e v0 w0 x0=>none | .f y0 z0 a1 b1 c1 d1 e1=>(kn (.b i j l (IntKind.wrap .i64 (m + (Int.ofNat 1))) n o a1 b1 c1 d1 e1)) | .g f1 g1 h1 i1 j1 l1 m1=>(kx (.a n o h1 i1 j1 l1 m1)) | .h n1 o1 p1 q1 r1=>kn (.a i j l (IntKind.wrap .i64 (m + (Int.ofNat 1))) n o p1 q1 r1)) fun t1=>chk (widths true 4 t1) (chk (Nat.ble (((List.length t1) + 1) * 56) 1099511627776) (bindK (ts.t_f123 (.c ((List.length t1) + 1) (t1 ++ [(.agg [(.int .i64 w),(.int .i64 x),(.str y),z])]) p q r)) fun u1=>abu u1 fun v1=>match v1 with | .a w1 x1 y1=>none | .b z1 a2 b2=>none | .c c2 d2 e2 f2 g2=>none | .d h2 i2 j2 l2 m2=>none | .e n2 o2 p2=>none | .f q2 r2 t2 u2 v2 w2 x2=>(kn (.b i j l (IntKind.wrap .i64 (m + (Int.ofNat 1))) n (List.length n) t2 u2 v2 w2 x2)) | .g y2 z2 a3 b3 c3 d3 e3=>(kx (.a n (List.length n) a3 b3 c3 d3 e3)) | .h f3 g3 h3 i3 j3=>kn (.a i j l (IntKind.wrap .i64 (m + (Int.ofNat 1))) n (List.length n) h3 i3 j3))))) (kx (.b n o p q r)))
  | .b l3 m3 n3 o3 p3 q3 r3 t3 u3 v3 w3=>(ifB (decide (o3 < n3)) (slK m3 fun x3=>natK o3 fun y3=>nthK x3 y3 fun z3=>vK z3 fun a4 b4 c4 d4=>chk (Nat.ble (0 + l3) (List.length p3)) (bindK (rec i_Clp [(.sl (List.take l3 (List.drop 0 p3)))]) fun e4=>nclK e4 (bindK (ts.t_f123 (.d 1 [(.agg [(.int .i64 a4),(.int .i64 b4),(.str c4),d4])] r3 t3 u3 v3 w3)) fun f4=>abu f4 fun g4=>match g4 with | .a h4 i4 j4=>none | .b l4 m4 n4=>none | .c o4 p4 q4 r4 t4=>none | .d u4 v4 w4 x4 y4=>none | .e z4 a5 b5=>none | .f c5 d5 e5 f5 g5 h5 i5=>(kn (.b l3 m3 n3 (IntKind.wrap .i64 (o3 + (Int.ofNat 1))) p3 q3 e5 f5 g5 h5 i5)) | .g j5 l5 m5 n5 o5 p5 q5=>(kx (.a p3 q3 m5 n5 o5 p5 q5)) | .h r5 t5 u5 v5 w5=>none) fun x5=>chk (widths true 4 x5) (chk (Nat.ble (((List.length x5) + 1) * 56) 1099511627776) (bindK (ts.t_f123 (.d ((List.length x5) + 1) (x5 ++ [(.agg [(.int .i64 a4),(.int .i64 b4),(.str c4),d4])]) r3 t3 u3 v3 w3)) fun y5=>abu y5 fun z5=>match z5 with | .a a6 b6 c6=>none | .b d6 e6 f6=>none | .c g6 h6 i6 j6 l6=>none | .d m6 n6 o6 p6 q6=>none | .e r6 t6 u6=>none | .f v6 w6 x6 y6 z6 a7 b7=>(kn (.b l3 m3 n3 (IntKind.wrap .i64 (o3 + (Int.ofNat 1))) p3 (List.length p3) x6 y6 z6 a7 b7)) | .g c7 d7 e7 f7 g7 h7 i7=>(kx (.a p3 (List.length p3) e7 f7 g7 h7 i7)) | .h j7 l7 m7 n7 o7=>none)))) (kx (.c p3 q3 r3 t3 u3 v3 w3)))
def abS (k:Nat) (rec:Rec1) (ts:Tds) (kx:ahi→OX):Nat→acD→OX
  | 0,_=>none
  | j + 1,s=>ae9 k rec ts (abS k rec ts kx j) kx s
def lof123c (k:Nat) (rec:Rec1) (ts:Tds):Loops XRes:=(lo1 0 10 [0,3,21,22,23] rdf123c_0 (fun K=>abS k rec ts (apo K) k) lo0)
def bf123d_0:Code:=sb 0 (bd aa2)
inductive adY where
  | a (a0:Nat) (a1:PVal) (a2 a3:Int) (a4:List PVal) (a5 a6:Nat) (a7:List PVal) (a8:Bool) (a9:Nat) (a10:List PVal)
inductive ahh where
  | a (a0:List PVal) (a1 a2:Nat) (a3:List PVal) (a4:Bool) (a5:Nat) (a6:List PVal)
  | b (a0:List PVal) (a1 a2:Nat) (a3:List PVal) (a4:Bool) (a5:Nat) (a6:List PVal)
def apd (s:adY):XC:=match s with
  | .a v0 v1 v2 v3 v4 v5 v6 v7 v8 v9 v10=>(XC.mk [(.arr 0 0 0 v0 false),(.box 3 0),(.p v1),(.p (.int .i64 v2)),(.p (.int .i64 v3))] [(.arr 4 v4 0 0 v5),(.box [(.arr 4 0 0 v6 false)]),(.box [(.rf Rk.yld 5)]),(.box [(.fn (.func 123) [(.box 1 0),(.box 2 0),(.box 3 0)])]),(.arr 1 v7 0 0 0),(.lp 1 [(.box 6 0),(.box 7 0),(.box 8 0)] LoopState.ready none),(.box [(.p .nils)]),(.box [(.p (.bool v8))]),(.box [(.fn (.func 75) [(.box 9 0)])]),(.box [(.arr 10 0 0 v9 false)]),(.arr 4 v10 0 0 0)])
def ain {α:Type} (c:XC) (K:adY→Option α) (e:Unit→Option α):Option α:=match c with
  | (XC.mk [(.arr 0 0 0 v0 false),(.box 3 0),(.p v1),(.p (.int .i64 v2)),(.p (.int .i64 v3))] [(.arr 4 v4 0 0 v5),(.box [(.arr 4 0 0 v6 false)]),(.box [(.rf Rk.yld 5)]),(.box [(.fn (.func 123) [(.box 1 0),(.box 2 0),(.box 3 0)])]),(.arr 1 v7 0 0 0),(.lp 1 [(.box 6 0),(.box 7 0),(.box 8 0)] LoopState.ready none),(.box [(.p .nils)]),(.box [(.p (.bool v8))]),(.box [(.fn (.func 75) [(.box 9 0)])]),(.box [(.arr 10 0 0 v9 false)]),(.arr 4 v10 0 0 0)])=>K (.a v0 v1 v2 v3 v4 v5 v6 v7 v8 v9 v10)
  | _=>e ()
theorem amP:RdS apd @ain:=fun h=>by unfold ain at h; split at h <;> first | exact .inl ⟨_,rfl,h⟩ | exact .inr h
def rdf123d_0 {α:Type} (c:XC) (K:adY→Option α):Option α:=ain c K fun _=>none
theorem rdf123d_0_some:RdT apd @rdf123d_0:=fun h=>(amP h).elim id fun h=>absurd h (by simp)
def aiA:XE→List Nat:=(outsOf [(0,[])] [5])
def apn (K:KX XRes) (x:ahh):OX:=match x with
  | .a v0 v1 v2 v3 v4 v5 v6=>kq K XE.ret aiA XE.ret (XC.mk [(.p (.bool false))] [(.arr 4 v0 0 0 v1),(.box [(.arr 4 0 0 v2 false)]),(.box [(.rf Rk.yld 5)]),(.box [(.fn (.func 123) [(.box 1 0),(.box 2 0),(.box 3 0)])]),(.arr 1 v3 0 0 0),(.lp 1 [(.box 6 0),(.box 7 0),(.box 8 0)] LoopState.done (some Code.ret)),(.box [(.p .nils)]),(.box [(.p (.bool v4))]),(.box [(.fn (.func 75) [(.box 9 0)])]),(.box [(.arr 10 0 0 v5 false)]),(.arr 4 v6 0 0 0)])
  | .b v0 v1 v2 v3 v4 v5 v6=>kq K XE.normal aiA (XE.exit 0) (XC.mk [] [(.arr 4 v0 0 0 v1),(.box [(.arr 4 0 0 v2 false)]),(.box [(.rf Rk.yld 5)]),(.box [(.fn (.func 123) [(.box 1 0),(.box 2 0),(.box 3 0)])]),(.arr 1 v3 0 0 0),(.lp 1 [(.box 6 0),(.box 7 0),(.box 8 0)] LoopState.ready none),(.box [(.p .nils)]),(.box [(.p (.bool v4))]),(.box [(.fn (.func 75) [(.box 9 0)])]),(.box [(.arr 10 0 0 v5 false)]),(.arr 4 v6 0 0 0)])
def akn (k:Nat) (rec:Rec1) (ts:Tds) (kn:adY→OX) (kx:ahh→OX) (s:adY):OX:=match s with
  | .a i j l m n o p q r t u=>(ifB (decide (m < l)) (slK j fun v=>natK m fun w=>nthK v w fun x=>vK x fun y z a0 b0=>chk (Nat.ble (0 + i) (List.length n)) (bindK (rec i_Clp [(.sl (List.take i (List.drop 0 n)))]) fun c0=>nclK c0 (bindK (ts.t_f123 (.d 1 [(.agg [(.int .i64 y),(.int .i64 z),(.str a0),b0])] p q r t u)) fun d0=>abu d0 fun e0=>match e0 with | .a f0 g0 h0=>none | .b i0 j0 l0=>none | .c m0 n0 o0 p0 q0=>none | .d r0 t0 u0 v0 w0=>none | .e x0 y0 z0=>none | .f a1 b1 c1 d1 e1 f1 g1=>(kn (.a i j l (IntKind.wrap .i64 (m + (Int.ofNat 1))) n o c1 d1 e1 f1 g1)) | .g h1 i1 j1 l1 m1 n1 o1=>(kx (.a n o j1 l1 m1 n1 o1)) | .h p1 q1 r1 t1 u1=>none) fun v1=>chk (widths true 4 v1) (chk (Nat.ble (((List.length v1) + 1) * 56) 1099511627776) (bindK (ts.t_f123 (.d ((List.length v1) + 1) (v1 ++ [(.agg [(.int .i64 y),(.int .i64 z),(.str a0),b0])]) p q r t u)) fun w1=>abu w1 fun x1=>match x1 with | .a y1 z1 a2=>none | .b b2 c2 d2=>none | .c e2 f2 g2 h2 i2=>none | .d j2 l2 m2 n2 o2=>none | .e p2 q2 r2=>none | .f t2 u2 v2 w2 x2 y2 z2=>(kn (.a i j l (IntKind.wrap .i64 (m + (Int.ofNat 1))) n (List.length n) v2 w2 x2 y2 z2)) | .g a3 b3 c3 d3 e3 f3 g3=>(kx (.a n (List.length n) c3 d3 e3 f3 g3)) | .h h3 i3 j3 l3 m3=>none)))) (kx (.b n o p q r t u)))
def acX (k:Nat) (rec:Rec1) (ts:Tds) (kx:ahh→OX):Nat→adY→OX
  | 0,_=>none
  | j + 1,s=>akn k rec ts (acX k rec ts kx j) kx s
def lof123d (k:Nat) (rec:Rec1) (ts:Tds):Loops XRes:=(lo1 0 11 [0,3,21,22,23] rdf123d_0 (fun K=>acX k rec ts (apn K) k) lo0)
def afV (k:Nat) (rec:Rec1) (ts:Tds) (s:aeR):OX:=match s with
  | .a b1=>(bindK (rec i_Cln [.nils]) fun x2=>pK x2 fun x3=>bindK (ts.t_r1 (.a x3 b1)) fun i=>rdo_r1 i fun j=>match j with | .a b4 n5 l6=>(some (aaj (.a b4 n5 l6))) | .b b7 n8 l9=>some (aaj (.b b7 n8 l9)))
  | .b n1 l2 b3=>(ifB ((Int.ofNat 0) == ((n1:Nat):Int)) (bindK (rec i_Cln [.nils]) fun x4=>pK x4 fun x5=>bindK (ts.t_r1 (.a x5 b3)) fun l=>rdo_r1 l fun m=>match m with | .a b6 n7 l8=>(some (aaj (.c n1 l2 b6 n7 l8))) | .b b9 n o=>some (aaj (.d n1 l2 b9 n o))) (chk (Nat.blt 0 n1) (nthK l2 0 fun p=>ifB (oneP.match_1 (fun y7=>Bool) p (fun y7=>false) (fun y7=>false) (fun y7=>true)) (slK p fun q=>abT k rec ts (fun x=>match x with | .a r t u=>(some (aaj (.e r t u))) | .b v w y z a0=>(some (aaj (.d v w y z a0))) | .c b0 c0 d0 e0 f0=>some (aaj (.c b0 c0 d0 e0 f0))) k (.a p (((List.length q):Nat):Int) (Int.ofNat 0) n1 l2 b3)) (aggK p fun g0=>nthK g0 0 fun h0=>slK h0 fun i0=>abT k rec ts (fun x=>match x with | .a j0 l0 m0=>(some (aaj (.e j0 l0 m0))) | .b n0 o0 p0 q0 r0=>(some (aaj (.d n0 o0 p0 q0 r0))) | .c t0 u0 v0 w0 x0=>some (aaj (.c t0 u0 v0 w0 x0))) k (.a h0 (((List.length i0):Nat):Int) (Int.ofNat 0) n1 l2 b3)))))
  | .c n1 l2 n3 l4 b5=>(ifB (((n1:Nat):Int) == ((n3:Nat):Int)) (chk (Nat.ble (0 + n1) (List.length l2)) (bindK (rec i_Cln [(.sl (List.take n1 (List.drop 0 l2)))]) fun x6=>pK x6 fun x7=>ifB (flatP x7) (bindK (ts.t_r1 (.a x7 b5)) fun y0=>rdo_r1 y0 fun z0=>match z0 with | .a b8 n9 a1=>(some (aaj (.f l2 0 n3 l4 b8 n9 a1))) | .b c1 d1 e1=>some (aaj (.g l2 0 n3 l4 c1 d1 e1))) (bindK (ts.t_r1 (.a x7 b5)) fun f1=>rdo_r1 f1 fun g1=>match g1 with | .a h1 i1 j1=>(some (aaj (.f l2 (List.length l2) n3 l4 h1 i1 j1))) | .b l1 m1 o1=>some (aaj (.g l2 (List.length l2) n3 l4 l1 m1 o1))))) (chk (Nat.blt n1 n3) (nthK l4 (0 + n1) fun p1=>ifB (oneP.match_1 (fun y9=>Bool) p1 (fun y9=>false) (fun y9=>false) (fun y9=>true)) (slK p1 fun c0=>abS k rec ts (fun x=>match x with | .a q1 e0 r1 g0 t1 u1 v1=>(some (aaj (.g q1 e0 r1 g0 t1 u1 v1))) | .b l0 w1 n0 o0 p0=>(some (aaj (.h l0 w1 n0 o0 p0))) | .c x1 y1 t0 u0 v0 w0 x0=>some (aaj (.f x1 y1 t0 u0 v0 w0 x0))) k (.a n1 p1 (((List.length c0):Nat):Int) (Int.ofNat 0) l2 0 n3 l4 b5)) (aggK p1 fun z1=>nthK z1 0 fun a2=>slK a2 fun b2=>abS k rec ts (fun x=>match x with | .a c2 d2 e2 f2 g2 h2 i2=>(some (aaj (.g c2 d2 e2 f2 g2 h2 i2))) | .b j2 m2 n2 o2 p2=>(some (aaj (.h j2 m2 n2 o2 p2))) | .c q2 r2 t2 u2 v2 w2 y2=>some (aaj (.f q2 r2 t2 u2 v2 w2 y2))) k (.a n1 a2 (((List.length b2):Nat):Int) (Int.ofNat 0) l2 0 n3 l4 b5)))))
  | .d n1 l2 n3 l4 b5 n6 l7=>(ifB (((n1:Nat):Int) == ((n3:Nat):Int)) (chk (Nat.ble (0 + n1) (List.length l2)) (bindK (rec i_Cln [(.sl (List.take n1 (List.drop 0 l2)))]) fun x8=>pK x8 fun x9=>ifB (flatP x9) (bindK (ts.t_r1 (.b x9 b5 n6 l7)) fun z2=>rdo_r1 z2 fun a3=>match a3 with | .a c3 d3 e3=>(some (aaj (.f l2 0 n3 l4 c3 d3 e3))) | .b f3 g3 q=>some (aaj (.g l2 0 n3 l4 f3 g3 q))) (bindK (ts.t_r1 (.b x9 b5 n6 l7)) fun h3=>rdo_r1 h3 fun i3=>match i3 with | .a u v w=>(some (aaj (.f l2 (List.length l2) n3 l4 u v w))) | .b y z a0=>some (aaj (.g l2 (List.length l2) n3 l4 y z a0))))) (chk (Nat.blt n1 n3) (nthK l4 (0 + n1) fun j3=>ifB (oneP.match_1 (fun l3=>Bool) j3 (fun l3=>false) (fun l3=>false) (fun l3=>true)) (slK j3 fun m3=>acX k rec ts (fun x=>match x with | .a f0 o3 p3 i0 q3 r3 t3=>(some (aaj (.g f0 o3 p3 i0 q3 r3 t3))) | .b u3 v3 w3 x1 y3 t0 u0=>some (aaj (.f u3 v3 w3 x1 y3 t0 u0))) k (.a n1 j3 (((List.length m3):Nat):Int) (Int.ofNat 0) l2 0 n3 l4 b5 n6 l7)) (aggK j3 fun z3=>nthK z3 0 fun a4=>slK a4 fun x0=>acX k rec ts (fun x=>match x with | .a z1 c4 d4 c2 e4 e2 f2=>(some (aaj (.g z1 c4 d4 c2 e4 e2 f2))) | .b f4 h2 g4 j2 h4 n2 o2=>some (aaj (.f f4 h2 g4 j2 h4 n2 o2))) k (.a n1 a4 (((List.length x0):Nat):Int) (Int.ofNat 0) l2 0 n3 l4 b5 n6 l7)))))
theorem TS_f123_known {k:Nat} {rec:Rec1} {ts:Tds} (h:aaz prog gl rec) (hT:ToldOk prog gl (td ts)) {s:aeR} {res:XRes} (hr:afV k rec ts s=some res):KnownT prog gl (.fn 123) (aem s) res:=by
  cases s with
  | a v0=>exact kT (cf:=(cg 8 [(33,4),(29,27),(16,4),(15,27)] [29])) (m:=8) (n:=36) (lo:=(lof123a k rec ts)) h hT acU (by kernel_rfl) rfl rfl rfl rfl (tr0 (by kernel_rfl)) ⟨_,aar _ (by rw [show aas (bd aa2) = [(0,bf123a_0)] from by kernel_rfl]; simp),(LD (cf:=(cg 8 [(33,4),(29,27),(16,4),(15,27)] [29])) (T:=td ts) (b:=bf123a_0) h hT aat.none 0 rfl (fun _=>rfl) rfl (by kernel_rfl) (tl0 (by kernel_rfl)) (tr0 (by kernel_rfl)) fun _ _ _=>rfl)⟩ (by kernel_rfl) hr
  | b v0 v1 v2=>exact kT (cf:=(cg 9 [(33,4),(29,27),(16,4),(15,27)] [29])) (m:=9) (n:=36) (lo:=(lof123b k rec ts)) h hT acU (by kernel_rfl) rfl rfl rfl rfl (tr0 (by kernel_rfl)) ⟨_,aar _ (by rw [show aas (bd aa2) = [(0,bf123b_0)] from by kernel_rfl]; simp),(LA (cf:=(cg 9 [(33,4),(29,27),(16,4),(15,27)] [29])) (T:=td ts) (k:=k) (b:=bf123b_0) (mk:=ajW) (S:=fun q K=>afa k rec ts q (apq K)) (L:=fun K=>abT k rec ts (apq K)) h hT aat.none 0 [0,3,21,22,23] afy rfl (fun _=>rfl) rfl (by kernel_rfl) (tl0 (by kernel_rfl)) (tr0 (by kernel_rfl)) rdf123b_0_some (fun _ _ s=>by cases s <;> kernel_rfl) (fun _ _=>rfl) (fun _ _ _=>rfl) fun _ _ _=>rfl)⟩ (by kernel_rfl) hr
  | c v0 v1 v2 v3 v4=>exact kT (cf:=(cg 10 [(33,4),(29,27),(16,4),(15,27)] [29])) (m:=10) (n:=36) (lo:=(lof123c k rec ts)) h hT acU (by kernel_rfl) rfl rfl rfl rfl (tr0 (by kernel_rfl)) ⟨_,aar _ (by rw [show aas (bd aa2) = [(0,bf123c_0)] from by kernel_rfl]; simp),(LA (cf:=(cg 10 [(33,4),(29,27),(16,4),(15,27)] [29])) (T:=td ts) (k:=k) (b:=bf123c_0) (mk:=ajV) (S:=fun q K=>ae9 k rec ts q (apo K)) (L:=fun K=>abS k rec ts (apo K)) h hT aat.none 0 [0,3,21,22,23] afx rfl (fun _=>rfl) rfl (by kernel_rfl) (tl0 (by kernel_rfl)) (tr0 (by kernel_rfl)) rdf123c_0_some (fun _ _ s=>by cases s <;> kernel_rfl) (fun _ _=>rfl) (fun _ _ _=>rfl) fun _ _ _=>rfl)⟩ (by kernel_rfl) hr
  | d v0 v1 v2 v3 v4 v5 v6=>exact kT (cf:=(cg 11 [(33,4),(29,27),(16,4),(15,27)] [29])) (m:=11) (n:=36) (lo:=(lof123d k rec ts)) h hT acU (by kernel_rfl) rfl rfl rfl rfl (tr0 (by kernel_rfl)) ⟨_,aar _ (by rw [show aas (bd aa2) = [(0,bf123d_0)] from by kernel_rfl]; simp),(LA (cf:=(cg 11 [(33,4),(29,27),(16,4),(15,27)] [29])) (T:=td ts) (k:=k) (b:=bf123d_0) (mk:=apd) (S:=fun q K=>akn k rec ts q (apn K)) (L:=fun K=>acX k rec ts (apn K)) h hT aat.none 0 [0,3,21,22,23] aiA rfl (fun _=>rfl) rfl (by kernel_rfl) (tl0 (by kernel_rfl)) (tr0 (by kernel_rfl)) rdf123d_0_some (fun _ _ s=>by cases s <;> kernel_rfl) (fun _ _=>rfl) (fun _ _ _=>rfl) fun _ _ _=>rfl)⟩ (by kernel_rfl) hr
def cfr1a:Cfg:=cl 5 true
def cfr1b:Cfg:=cl 6 true
def TS_r1 (k:Nat) (rec:Rec1) (ts:Tds) (s:In_r1):OX:=match s with
  | .a x1 b2=>(bindK (rec abe ((.int .i64 (Int.ofNat 4)) :: [x1])) fun x3=>pK x3 fun x4=>vK x4 fun z8 c d e=>bindK (ts.t_f75 (.a z8 c d e)) fun f=>abk f fun g=>match g with | .a h i=>(some (mko_r1 (.a b2 h i))) | .b j l m=>ifB (!j) (some (mko_r1 (.b false l m))) (some (mko_r1 (.a b2 l m))))
  | .b x1 b2 n3 l4=>(bindK (rec abe ((.int .i64 (Int.ofNat 4)) :: [x1])) fun x5=>pK x5 fun x6=>vK x6 fun n o p q=>bindK (ts.t_f75 (.b n o p q n3 l4)) fun r=>abk r fun t=>match t with | .a u v=>(some (mko_r1 (.a b2 u v))) | .b w x y=>ifB (!w) (some (mko_r1 (.b false x y))) (some (mko_r1 (.a b2 x y))))
theorem TS_r1_known {k:Nat} {rec:Rec1} {ts:Tds} (h:aaz prog gl rec) (hT:ToldOk prog gl (td ts)) {s:In_r1} {res:XRes} (hr:TS_r1 k rec ts s=some res):KnownT prog gl .yld (mki_r1 s) res:=by
  cases s with
  | a v0 v1=>exact kR (i:=1) (cf:=cfr1a) (m:=5) (n:=107) h hT (by kernel_rfl) rfl rfl rfl rfl rfl (by kernel_rfl) hr
  | b v0 v1 v2 v3=>exact kR (i:=1) (cf:=cfr1b) (m:=6) (n:=107) h hT (by kernel_rfl) rfl rfl rfl rfl rfl (by kernel_rfl) hr
def tds (k:Nat) (rec:Rec1):Nat→Tds
  | 0=>⟨fun _=>none,fun _=>none,fun _=>none,fun _=>none,fun _=>none,fun _=>none,fun _=>none,fun _=>none,fun _=>none⟩
  | j + 1=>⟨TS_f75 k rec (tds k rec j),TS_f79 k rec (tds k rec j),TS_f77 k rec (tds k rec j),aql k rec (tds k rec j),adK k rec (tds k rec j),TS_r0 k rec (tds k rec j),TS_f120 k rec (tds k rec j),afV k rec (tds k rec j),TS_r1 k rec (tds k rec j)⟩
theorem ach {k:Nat} {rec:Rec1} (h:aaz prog gl rec):∀ j,ToldOk prog gl (td (tds k rec j))
  | 0=>(aa9 alo adI amp (fun s res hr=>by cases hr) aml ko_f75_eq (aa9 apa aeM amn (fun s res hr=>by cases hr) amj ko_f79_eq (aa9 aln adH amo (fun s res hr=>by cases hr) amk ko_f77_eq (aa9 ahr aaZ ajA (fun s res hr=>by cases hr) ajv ko_f126_eq (aa9 ael aaq ajz (fun s res hr=>by cases hr) aju ko_f127_eq (ajm mki_r0 mko_r0 aoi (fun s res hr=>by cases hr) anK ko_r0_eq (aa9 ahs aaE ajC (fun s res hr=>by cases hr) ajy ko_f120_eq (aa9 aem aaj ajB (fun s res hr=>by cases hr) ajx ko_f123_eq (ajm mki_r1 mko_r1 aoh (fun s res hr=>by cases hr) anJ ko_r1_eq noTold_ok)))))))))
  | j + 1=>(aa9 alo adI amp (fun s res hr=>TS_f75_known (k:=k) (ts:=tds k rec j) h (ach h j) hr) aml ko_f75_eq (aa9 apa aeM amn (fun s res hr=>TS_f79_known (k:=k) (ts:=tds k rec j) h (ach h j) hr) amj ko_f79_eq (aa9 aln adH amo (fun s res hr=>TS_f77_known (k:=k) (ts:=tds k rec j) h (ach h j) hr) amk ko_f77_eq (aa9 ahr aaZ ajA (fun s res hr=>TS_f126_known (k:=k) (ts:=tds k rec j) h (ach h j) hr) ajv ko_f126_eq (aa9 ael aaq ajz (fun s res hr=>TS_f127_known (k:=k) (ts:=tds k rec j) h (ach h j) hr) aju ko_f127_eq (ajm mki_r0 mko_r0 aoi (fun s res hr=>TS_r0_known (k:=k) (ts:=tds k rec j) h (ach h j) hr) anK ko_r0_eq (aa9 ahs aaE ajC (fun s res hr=>TS_f120_known (k:=k) (ts:=tds k rec j) h (ach h j) hr) ajy ko_f120_eq (aa9 aem aaj ajB (fun s res hr=>TS_f123_known (k:=k) (ts:=tds k rec j) h (ach h j) hr) ajx ko_f123_eq (ajm mki_r1 mko_r1 aoh (fun s res hr=>TS_r1_known (k:=k) (ts:=tds k rec j) h (ach h j) hr) anJ ko_r1_eq noTold_ok)))))))))
def lk:Nat:=2000
def en1 {f n:Nat} {fn:Func} {cf:Cfg} {out:Fo} {lo:Nat→Rec1→Tds→Loops AVal} {FF:Nat→Rec1→Tds→PVal→OA} (hf:prog.funcs[f]? = some fn) (hc:okF fn 1 n=true) (hgl:cf.gl=gl) (hm:cf.m=0) (hrd:cf.rd=false) (hs:aaM cf.sk n (bd fn))
    (hl:∀ {k:Nat} {rec:Rec1} {ts:Tds},aaz prog gl rec→ToldOk prog gl (td ts)→XLoops prog gl 0 n none (lo k rec ts) (bd fn)) (e:∀ k rec ts a,fnX prog cf (td ts) out rec gl (fun _=>lo k rec ts) f [a]=FF k rec ts a):EntX prog gl :=
  ent1 f (fun rec a=>FF lk rec (tds lk rec lk) a) fun h _ _ hv hg=>kF h (ach h lk) hf hc hgl hm hrd hs (hl h (ach h lk)) (e lk _ _ _ ) hv hg
def en2 {f n:Nat} {fn:Func} {cf:Cfg} {out:Fo} {lo:Nat→Rec1→Tds→Loops AVal} {FF:Nat→Rec1→Tds→PVal→PVal→OA} (hf:prog.funcs[f]? = some fn) (hc:okF fn 2 n=true) (hgl:cf.gl=gl) (hm:cf.m=0) (hrd:cf.rd=false) (hs:aaM cf.sk n (bd fn))
    (hl:∀ {k:Nat} {rec:Rec1} {ts:Tds},aaz prog gl rec→ToldOk prog gl (td ts)→XLoops prog gl 0 n none (lo k rec ts) (bd fn)) (e:∀ k rec ts a b,fnX prog cf (td ts) out rec gl (fun _=>lo k rec ts) f [a,b]=FF k rec ts a b):EntX prog gl :=
  ent2 f (fun rec a b=>FF lk rec (tds lk rec lk) a b) fun h _ _ _ hv hg=>kF h (ach h lk) hf hc hgl hm hrd hs (hl h (ach h lk)) (e lk _ _ _ _ ) hv hg
def en3 {f n:Nat} {fn:Func} {cf:Cfg} {out:Fo} {lo:Nat→Rec1→Tds→Loops AVal} {FF:Nat→Rec1→Tds→PVal→PVal→PVal→OA} (hf:prog.funcs[f]? = some fn) (hc:okF fn 3 n=true) (hgl:cf.gl=gl) (hm:cf.m=0) (hrd:cf.rd=false) (hs:aaM cf.sk n (bd fn))
    (hl:∀ {k:Nat} {rec:Rec1} {ts:Tds},aaz prog gl rec→ToldOk prog gl (td ts)→XLoops prog gl 0 n none (lo k rec ts) (bd fn)) (e:∀ k rec ts a b c,fnX prog cf (td ts) out rec gl (fun _=>lo k rec ts) f [a,b,c]=FF k rec ts a b c):EntX prog gl :=
  ent3 f (fun rec a b c=>FF lk rec (tds lk rec lk) a b c) fun h _ _ _ _ hv hg=>kF h (ach h lk) hf hc hgl hm hrd hs (hl h (ach h lk)) (e lk _ _ _ _ _ ) hv hg
def F_ein (k:Nat) (rec:Rec1) (p0 p1 p2:PVal):OA:=FF_ein k rec (tds k rec k) p0 p1 p2
def N_ein:EntX prog gl:=en3 (n:=15) (cf:=(cg 0 [] [])) (out:=.pure) (lo:=(fun _ _ _=>lo0)) (FF:=FF_ein) func_ein (by kernel_rfl) rfl rfl rfl (tr0 (by kernel_rfl)) (fun {k rec ts} h hT=>(xl0 (by kernel_rfl))) fun _ _ _ _ _ _=>by kernel_rfl
def F_ain (k:Nat) (rec:Rec1) (p0 p1 p2:PVal):OA:=FF_ain k rec (tds k rec k) p0 p1 p2
def N_ain:EntX prog gl:=en3 (n:=15) (cf:=(cg 0 [] [])) (out:=.pure) (lo:=(fun _ _ _=>lo0)) (FF:=FF_ain) func_ain (by kernel_rfl) rfl rfl rfl (tr0 (by kernel_rfl)) (fun {k rec ts} h hT=>(xl0 (by kernel_rfl))) fun _ _ _ _ _ _=>by kernel_rfl
def F_aorder (k:Nat) (rec:Rec1) (p0 p1:PVal):OA:=aqF k rec (tds k rec k) p0 p1
def N_aorder:EntX prog gl:=en2 (n:=11) (cf:=(cg 0 [] [])) (out:=.pure) (lo:=(fun _ _ _=>lo0)) (FF:=aqF) func_aorder (by kernel_rfl) rfl rfl rfl (tr0 (by kernel_rfl)) (fun {k rec ts} h hT=>(xl0 (by kernel_rfl))) fun _ _ _ _ _=>by kernel_rfl
def F_eplain (k:Nat) (rec:Rec1) (p0:PVal):OA:=aqy k rec (tds k rec k) p0
def N_eplain:EntX prog gl:=en1 (n:=16) (cf:=(cg 0 [] [])) (out:=.pure) (lo:=(fun _ _ _=>lo0)) (FF:=aqy) func_eplain (by kernel_rfl) rfl rfl rfl (tr0 (by kernel_rfl)) (fun {k rec ts} h hT=>(xl0 (by kernel_rfl))) fun _ _ _ _=>by kernel_rfl
def al0 (k:Nat) (rec:Rec1) (p0:PVal):OA:=ajc k rec (tds k rec k) p0
def N_aletters:EntX prog gl:=en1 (n:=35) (cf:=(cg 0 [] [])) (out:=.pure) (lo:=loaletters) (FF:=ajc) func_aletters (by kernel_rfl) rfl rfl rfl (tr0 (by kernel_rfl)) (fun {k rec ts} h hT=>⟨_,aar _ (by rw [show aas (bd aiR) = [(0,aqg)] from by kernel_rfl]; simp),(LA (cf:=(cg 0 [] [])) (T:=td ts) (k:=k) (b:=aqg) (mk:=agG) (S:=fun q K=>aeB k rec ts q (agI K)) (L:=fun K=>abV k rec ts (agI K)) h hT aat.none 0 [0,3] aeJ rfl (fun _=>rfl) rfl (by kernel_rfl) (tl0 (by kernel_rfl)) (tr0 (by kernel_rfl)) alc (fun _ _ s=>by cases s <;> kernel_rfl) (fun _ _=>rfl) (fun _ _ _=>rfl) fun _ _ _=>rfl)⟩) fun _ _ _ _=>by kernel_rfl
def F_xin (k:Nat) (rec:Rec1) (p0 p1 p2:PVal):OA:=FF_xin k rec (tds k rec k) p0 p1 p2
def N_xin:EntX prog gl:=en3 (n:=15) (cf:=(cg 0 [] [])) (out:=.pure) (lo:=(fun _ _ _=>lo0)) (FF:=FF_xin) func_xin (by kernel_rfl) rfl rfl rfl (tr0 (by kernel_rfl)) (fun {k rec ts} h hT=>(xl0 (by kernel_rfl))) fun _ _ _ _ _ _=>by kernel_rfl
def F_xisInt (k:Nat) (rec:Rec1) (p0:PVal):OA:=aqx k rec (tds k rec k) p0
def N_xisInt:EntX prog gl:=en1 (n:=5) (cf:=(cg 0 [(4,4)] [])) (out:=.pure) (lo:=(fun _ _ _=>lo0)) (FF:=aqx) func_xisInt (by kernel_rfl) rfl rfl rfl (tr0 (by kernel_rfl)) (fun {k rec ts} h hT=>(xl0 (by kernel_rfl))) fun _ _ _ _=>by kernel_rfl
def alZ (k:Nat) (rec:Rec1) (p0:PVal):OA:=ajb k rec (tds k rec k) p0
def N_xrefused:EntX prog gl:=en1 (n:=4) (cf:=(cg 0 [] [])) (out:=.pure) (lo:=(fun _ _ _=>lo0)) (FF:=ajb) func_xrefused (by kernel_rfl) rfl rfl rfl (tr0 (by kernel_rfl)) (fun {k rec ts} h hT=>(xl0 (by kernel_rfl))) fun _ _ _ _=>by kernel_rfl
def F_eWeigh (k:Nat) (rec:Rec1) (p0 p1 p2:PVal):OA:=aqA k rec (tds k rec k) p0 p1 p2
def N_eWeigh:EntX prog gl:=en3 (n:=37) (cf:=(cg 0 [(35,3)] [])) (out:=.pure) (lo:=loeWeigh) (FF:=aqA) func_eWeigh (by kernel_rfl) rfl rfl rfl (tr0 (by kernel_rfl)) (fun {k rec ts} h hT=>⟨_,aar _ (by rw [show aas (bd apP) = [(0,beWeigh_0)] from by kernel_rfl]; simp),(LA (cf:=(cg 0 [(35,3)] [])) (T:=td ts) (k:=k) (b:=beWeigh_0) (mk:=alq) (S:=fun q K=>ahP k rec ts q (alz K)) (L:=fun K=>adj k rec ts (alz K)) h hT aat.none 0 [1,2,3,7] amt rfl (fun _=>rfl) rfl (by kernel_rfl) (tl0 (by kernel_rfl)) (tr0 (by kernel_rfl)) aoC (fun _ _ s=>by cases s <;> kernel_rfl) (fun _ _=>rfl) (fun _ _ _=>rfl) fun _ _ _=>rfl)⟩) fun _ _ _ _ _ _=>by kernel_rfl
def F_aWeigh (k:Nat) (rec:Rec1) (p0 p1 p2:PVal):OA:=aqH k rec (tds k rec k) p0 p1 p2
def N_aWeigh:EntX prog gl:=en3 (n:=37) (cf:=(cg 0 [(35,3)] [])) (out:=.pure) (lo:=loaWeigh) (FF:=aqH) func_aWeigh (by kernel_rfl) rfl rfl rfl (tr0 (by kernel_rfl)) (fun {k rec ts} h hT=>⟨_,aar _ (by rw [show aas (bd apU) = [(0,baWeigh_0)] from by kernel_rfl]; simp),(LA (cf:=(cg 0 [(35,3)] [])) (T:=td ts) (k:=k) (b:=baWeigh_0) (mk:=alu) (S:=fun q K=>ahS k rec ts q (alD K)) (L:=fun K=>adm k rec ts (alD K)) h hT aat.none 0 [1,2,3,7] amu rfl (fun _=>rfl) rfl (by kernel_rfl) (tl0 (by kernel_rfl)) (tr0 (by kernel_rfl)) aoP (fun _ _ s=>by cases s <;> kernel_rfl) (fun _ _=>rfl) (fun _ _ _=>rfl) fun _ _ _=>rfl)⟩) fun _ _ _ _ _ _=>by kernel_rfl
def F_abrief (k:Nat) (rec:Rec1) (p0:PVal):OA:=aqG k rec (tds k rec k) p0
def N_abrief:EntX prog gl:=en1 (n:=22) (cf:=(cg 0 [(16,4)] [])) (out:=.pure) (lo:=loabrief) (FF:=aqG) func_abrief (by kernel_rfl) rfl rfl rfl (tr0 (by kernel_rfl)) (fun {k rec ts} h hT=>⟨_,aar _ (by rw [show aas (bd apT) = [(0,babrief_0)] from by kernel_rfl]; simp),(LA (cf:=(cg 0 [(16,4)] [])) (T:=td ts) (k:=k) (b:=babrief_0) (mk:=als) (S:=fun q K=>ahR k rec ts q (alC K)) (L:=fun K=>adl k rec ts (alC K)) h hT aat.none 0 [1,3] agB rfl (fun _=>rfl) rfl (by kernel_rfl) (tl0 (by kernel_rfl)) (tr0 (by kernel_rfl)) aoO (fun _ _ s=>by cases s <;> kernel_rfl) (fun _ _=>rfl) (fun _ _ _=>rfl) fun _ _ _=>rfl)⟩) fun _ _ _ _=>by kernel_rfl
def aqs (k:Nat) (rec:Rec1) (p0:PVal):OA:=al4 k rec (tds k rec k) p0
def N_eshaped:EntX prog gl:=en1 (n:=86) (cf:=(cg 0 [(25,4),(42,4),(36,4),(63,4),(58,4),(78,4),(16,4)] [])) (out:=.pure) (lo:=loeshaped) (FF:=al4) func_eshaped (by kernel_rfl) rfl rfl rfl (tr0 (by kernel_rfl)) (fun {k rec ts} h hT=>⟨_,aar _ (by rw [show aas (bd alL) = [(0,beshaped_0)] from by kernel_rfl]; simp),(LA (cf:=(cg 0 [(25,4),(42,4),(36,4),(63,4),(58,4),(78,4),(16,4)] [])) (T:=td ts) (k:=k) (b:=beshaped_0) (mk:=aiC) (S:=fun q K=>afW k rec ts q (aiF K)) (L:=fun K=>acn k rec ts (aiF K)) h hT aat.none 0 [1,3] afz rfl (fun _=>rfl) rfl (by kernel_rfl) (tl0 (by kernel_rfl)) (tr0 (by kernel_rfl)) amU (fun _ _ s=>by cases s <;> kernel_rfl) (fun _ _=>rfl) (fun _ _ _=>rfl) fun _ _ _=>rfl)⟩) fun _ _ _ _=>by kernel_rfl
def F_eSmall (k:Nat) (rec:Rec1) (p0:PVal):OA:=aqC k rec (tds k rec k) p0
def N_eSmall:EntX prog gl:=en1 (n:=6) (cf:=(cg 0 [(4,3)] [])) (out:=.pure) (lo:=(fun _ _ _=>lo0)) (FF:=aqC) func_eSmall (by kernel_rfl) rfl rfl rfl (tr0 (by kernel_rfl)) (fun {k rec ts} h hT=>(xl0 (by kernel_rfl))) fun _ _ _ _=>by kernel_rfl
def F_aSmall (k:Nat) (rec:Rec1) (p0:PVal):OA:=aqJ k rec (tds k rec k) p0
def N_aSmall:EntX prog gl:=en1 (n:=10) (cf:=(cg 0 [(8,4),(4,3)] [])) (out:=.pure) (lo:=(fun _ _ _=>lo0)) (FF:=aqJ) func_aSmall (by kernel_rfl) rfl rfl rfl (tr0 (by kernel_rfl)) (fun {k rec ts} h hT=>(xl0 (by kernel_rfl))) fun _ _ _ _=>by kernel_rfl
def F_eValid (k:Nat) (rec:Rec1) (p0:PVal):OA:=aqB k rec (tds k rec k) p0
def N_eValid:EntX prog gl:=en1 (n:=10) (cf:=(cg 0 [(8,4),(4,3)] [])) (out:=.pure) (lo:=(fun _ _ _=>lo0)) (FF:=aqB) func_eValid (by kernel_rfl) rfl rfl rfl (tr0 (by kernel_rfl)) (fun {k rec ts} h hT=>(xl0 (by kernel_rfl))) fun _ _ _ _=>by kernel_rfl
def F_eempty (k:Nat) (rec:Rec1) (p0:PVal):OA:=aqz k rec (tds k rec k) p0
def N_eempty:EntX prog gl:=en1 (n:=27) (cf:=(cg 0 [(19,36)] [])) (out:=.pure) (lo:=loeempty) (FF:=aqz) func_eempty (by kernel_rfl) rfl rfl rfl (tr0 (by kernel_rfl)) (fun {k rec ts} h hT=>⟨_,aar _ (by rw [show aas (bd apO) = [(0,beempty_0)] from by kernel_rfl]; simp),(LA (cf:=(cg 0 [(19,36)] [])) (T:=td ts) (k:=k) (b:=beempty_0) (mk:=alp) (S:=fun q K=>ahO k rec ts q (aly K)) (L:=fun K=>adi k rec ts (aly K)) h hT aat.none 0 [1,3] agy rfl (fun _=>rfl) rfl (by kernel_rfl) (tl0 (by kernel_rfl)) (tr0 (by kernel_rfl)) aoB (fun _ _ s=>by cases s <;> kernel_rfl) (fun _ _=>rfl) (fun _ _ _=>rfl) fun _ _ _=>rfl)⟩) fun _ _ _ _=>by kernel_rfl
def F_eCount (k:Nat) (rec:Rec1) (p0:PVal):OA:=aqD k rec (tds k rec k) p0
def N_eCount:EntX prog gl:=en1 (n:=62) (cf:=(cg 0 [(53,4),(41,36)] [])) (out:=.pure) (lo:=loeCount) (FF:=aqD) func_eCount (by kernel_rfl) rfl rfl rfl (tr0 (by kernel_rfl)) (fun {k rec ts} h hT=>⟨_,aar _ (by rw [show aas (bd apQ) = [(1,beCount_1)] from by kernel_rfl]; simp),(LA (cf:=(cg 0 [(53,4),(41,36)] [])) (T:=td ts) (k:=k) (b:=beCount_1) (mk:=alr) (S:=fun q K=>ahQ k rec ts q (alA K)) (L:=fun K=>adk k rec ts (alA K)) h hT aat.none 1 [1,5,6] agz rfl (fun _=>rfl) rfl (by kernel_rfl) (tl0 (by kernel_rfl)) (tr0 (by kernel_rfl)) aoF (fun _ _ s=>by cases s <;> kernel_rfl) (fun _ _=>rfl) (fun _ _ _=>rfl) fun _ _ _=>rfl)⟩) fun _ _ _ _=>by kernel_rfl
def al1 (k:Nat) (rec:Rec1) (p0 p1:PVal):OA:=ajd k rec (tds k rec k) p0 p1
def N_aCompare:EntX prog gl:=en2 (n:=81) (cf:=(cg 0 [(77,3),(58,3),(51,3),(16,3)] [])) (out:=.pure) (lo:=loaCompare) (FF:=ajd) func_aCompare (by kernel_rfl) rfl rfl rfl (tr0 (by kernel_rfl)) (fun {k rec ts} h hT=>⟨_,aar _ (by rw [show aas (bd aiS) = [(0,aqh)] from by kernel_rfl]; simp),(LA (cf:=(cg 0 [(77,3),(58,3),(51,3),(16,3)] [])) (T:=td ts) (k:=k) (b:=aqh) (mk:=agH) (S:=fun q K=>aeC k rec ts q (agJ K)) (L:=fun K=>abW k rec ts (agJ K)) h hT aat.none 0 [2,3,5] aeK rfl (fun _=>rfl) rfl (by kernel_rfl) (tl0 (by kernel_rfl)) (tr0 (by kernel_rfl)) alg (fun _ _ s=>by cases s <;> kernel_rfl) (fun _ _=>rfl) (fun _ _ _=>rfl) fun _ _ _=>rfl)⟩) fun _ _ _ _ _=>by kernel_rfl
def aqw (k:Nat) (rec:Rec1) (p0:PVal):OA:=al8 k rec (tds k rec k) p0
def N_ashaped:EntX prog gl:=en1 (n:=115) (cf:=(cg 0 [(25,4),(41,4),(61,4),(83,4),(105,3),(17,4)] [])) (out:=.pure) (lo:=loashaped) (FF:=al8) func_ashaped (by kernel_rfl) rfl rfl rfl (tr0 (by kernel_rfl)) (fun {k rec ts} h hT=>⟨_,aar _ (by rw [show aas (bd ahw) = [(0,bashaped_0),(3,bashaped_3)] from by kernel_rfl]; simp),(LA (cf:=(cg 0 [(25,4),(41,4),(61,4),(83,4),(105,3),(17,4)] [])) (T:=td ts) (k:=k) (b:=bashaped_0) (mk:=aiE) (S:=fun q K=>afX k rec ts q (aiM K)) (L:=fun K=>aco k rec ts (aiM K)) h hT (LA (cf:=(cg 0 [(25,4),(41,4),(61,4),(83,4),(105,3),(17,4)] [])) (T:=td ts) (k:=k) (b:=bashaped_3) (mk:=aiD) (S:=fun q K=>aeb k rec ts q (aiL K)) (L:=fun K=>abU k rec ts (aiL K)) h hT aat.none 3 [1,4] afE rfl (fun _=>rfl) rfl (by kernel_rfl) (tl0 (by kernel_rfl)) (tr0 (by kernel_rfl)) am0 (fun _ _ s=>by cases s <;> kernel_rfl) (fun _ _=>rfl) (fun _ _ _=>rfl) fun _ _ _=>rfl) 0 [1,3] afF rfl (fun _=>rfl) rfl (by kernel_rfl) (tl0 (by kernel_rfl)) (tr0 (by kernel_rfl)) am1 (fun _ _ s=>by cases s <;> kernel_rfl) (fun _ _=>rfl) (fun _ _ _=>rfl) fun _ _ _=>rfl)⟩) fun _ _ _ _=>by kernel_rfl
def F_aValid (k:Nat) (rec:Rec1) (p0:PVal):OA:=aqI k rec (tds k rec k) p0
def N_aValid:EntX prog gl:=en1 (n:=10) (cf:=(cg 0 [(8,4),(4,3)] [])) (out:=.pure) (lo:=(fun _ _ _=>lo0)) (FF:=aqI) func_aValid (by kernel_rfl) rfl rfl rfl (tr0 (by kernel_rfl)) (fun {k rec ts} h hT=>(xl0 (by kernel_rfl))) fun _ _ _ _=>by kernel_rfl
def F_eIs (k:Nat) (rec:Rec1) (p0 p1:PVal):OA:=FF_eIs k rec (tds k rec k) p0 p1
def N_eIs:EntX prog gl:=en2 (n:=97) (cf:=(cg 0 [(21,4),(64,4),(95,4)] [])) (out:=.pure) (lo:=loeIs) (FF:=FF_eIs) func_eIs (by kernel_rfl) rfl rfl rfl (tr0 (by kernel_rfl)) (fun {k rec ts} h hT=>⟨_,aar _ (by rw [show aas (bd fn_eIs) = [(1,beIs_1),(3,beIs_3)] from by kernel_rfl]; simp),(LA (cf:=(cg 0 [(21,4),(64,4),(95,4)] [])) (T:=td ts) (k:=k) (b:=beIs_3) (mk:=mkeIs_3) (S:=fun q K=>S_eIs_3 k rec ts q (kxeIs_3 K)) (L:=fun K=>ai2 k rec ts (kxeIs_3 K)) h hT (LA (cf:=(cg 0 [(21,4),(64,4),(95,4)] [])) (T:=td ts) (k:=k) (b:=beIs_1) (mk:=mkeIs_1) (S:=fun q K=>S_eIs_1 k rec ts q (kxeIs_1 K)) (L:=fun K=>ai3 k rec ts (kxeIs_1 K)) h hT aat.none 1 [2,3,5] ao1 rfl (fun _=>rfl) rfl (by kernel_rfl) (tl0 (by kernel_rfl)) (tr0 (by kernel_rfl)) rdeIs_1_some (fun _ _ s=>by cases s <;> kernel_rfl) (fun _ _=>rfl) (fun _ _ _=>rfl) fun _ _ _=>rfl) 3 [2,3,6] ao0 rfl (fun _=>rfl) rfl (by kernel_rfl) (tl0 (by kernel_rfl)) (tr0 (by kernel_rfl)) rdeIs_3_some (fun _ _ s=>by cases s <;> kernel_rfl) (fun _ _=>rfl) (fun _ _ _=>rfl) fun _ _ _=>rfl)⟩) fun _ _ _ _ _=>by kernel_rfl
def F_aLists (k:Nat) (rec:Rec1) (p0 p1:PVal):OA:=aqK k rec (tds k rec k) p0 p1
def N_aLists:EntX prog gl:=en2 (n:=27) (cf:=(cg 0 [(25,4)] [])) (out:=.pure) (lo:=loaLists) (FF:=aqK) func_aLists (by kernel_rfl) rfl rfl rfl (tr0 (by kernel_rfl)) (fun {k rec ts} h hT=>⟨_,aar _ (by rw [show aas (bd apV) = [(0,baLists_0)] from by kernel_rfl]; simp),(LA (cf:=(cg 0 [(25,4)] [])) (T:=td ts) (k:=k) (b:=baLists_0) (mk:=alv) (S:=fun q K=>ahT k rec ts q (alE K)) (L:=fun K=>adn k rec ts (alE K)) h hT aat.none 0 [0,1,5] agC rfl (fun _=>rfl) rfl (by kernel_rfl) (tl0 (by kernel_rfl)) (tr0 (by kernel_rfl)) aoQ (fun _ _ s=>by cases s <;> kernel_rfl) (fun _ _=>rfl) (fun _ _ _=>rfl) fun _ _ _=>rfl)⟩) fun _ _ _ _ _=>by kernel_rfl
def F_aEqual (k:Nat) (rec:Rec1) (p0 p1:PVal):OA:=aqL k rec (tds k rec k) p0 p1
def N_aEqual:EntX prog gl:=en2 (n:=29) (cf:=(cg 0 [(28,4)] [])) (out:=.pure) (lo:=(fun _ _ _=>lo0)) (FF:=aqL) func_aEqual (by kernel_rfl) rfl rfl rfl (tr0 (by kernel_rfl)) (fun {k rec ts} h hT=>(xl0 (by kernel_rfl))) fun _ _ _ _ _=>by kernel_rfl
def ag2 (k:Nat) (rec:Rec1) (p0 p1 p2:PVal):OA:=af0 k rec (tds k rec k) p0 p1 p2
def N_xkindNodes:EntX prog gl:=en3 (n:=33) (cf:=(cg 0 [(28,3)] [])) (out:=.pure) (lo:=loxkindNodes) (FF:=af0) apz (by kernel_rfl) rfl rfl rfl (tr0 (by kernel_rfl)) (fun {k rec ts} h hT=>⟨_,aar _ (by rw [show aas (bd afO) = [(0,akj)] from by kernel_rfl]; simp),(LA (cf:=(cg 0 [(28,3)] [])) (T:=td ts) (k:=k) (b:=akj) (mk:=aeL) (S:=fun q K=>adt k rec ts q (aeN K)) (L:=fun K=>abg k rec ts (aeN K)) h hT aat.none 0 [1,2,18,19,20] adF rfl (fun _=>rfl) rfl (by kernel_rfl) (tl0 (by kernel_rfl)) (tr0 (by kernel_rfl)) aif (fun _ _ s=>by cases s <;> kernel_rfl) (fun _ _=>rfl) (fun _ _ _=>rfl) fun _ _ _=>rfl)⟩) fun _ _ _ _ _ _=>by kernel_rfl
def ai9 (k:Nat) (rec:Rec1) (p0:PVal):OA:=ahb k rec (tds k rec k) p0
def N_xisForm_1:EntX prog gl:=en1 (n:=6) (cf:=(cg 0 [(4,4)] [])) (out:=.pure) (lo:=(fun _ _ _=>lo0)) (FF:=ahb) func_xisForm_1 (by kernel_rfl) rfl rfl rfl (tr0 (by kernel_rfl)) (fun {k rec ts} h hT=>(xl0 (by kernel_rfl))) fun _ _ _ _=>by kernel_rfl
def F_XFK (k:Nat) (rec:Rec1) (p0 p1:PVal):OA:=FF_XFK k rec (tds k rec k) p0 p1
def N_XFK:EntX prog gl:=en2 (n:=19) (cf:=(cg 0 [(16,4)] [])) (out:=.pure) (lo:=loXFK) (FF:=FF_XFK) func_XFK (by kernel_rfl) rfl rfl rfl (tr0 (by kernel_rfl)) (fun {k rec ts} h hT=>⟨_,aar _ (by rw [show aas (bd fn_XFK) = [(0,bXFK_0)] from by kernel_rfl]; simp),(LA (cf:=(cg 0 [(16,4)] [])) (T:=td ts) (k:=k) (b:=bXFK_0) (mk:=mkXFK_0) (S:=fun q K=>S_XFK_0 k rec ts q (kxXFK_0 K)) (L:=fun K=>ai6 k rec ts (kxXFK_0 K)) h hT aat.none 0 [0,1,7,8] ao4 rfl (fun _=>rfl) rfl (by kernel_rfl) (tl0 (by kernel_rfl)) (tr0 (by kernel_rfl)) rdXFK_0_some (fun _ _ s=>by cases s <;> kernel_rfl) (fun _ _=>rfl) (fun _ _ _=>rfl) fun _ _ _=>rfl)⟩) fun _ _ _ _ _=>by kernel_rfl
def F_CFK (k:Nat) (rec:Rec1) (p0 p1:PVal):OA:=FF_CFK k rec (tds k rec k) p0 p1
def N_CFK:EntX prog gl:=en2 (n:=9) (cf:=(cg 0 [(7,3)] [])) (out:=.pure) (lo:=(fun _ _ _=>lo0)) (FF:=FF_CFK) func_CFK (by kernel_rfl) rfl rfl rfl (tr0 (by kernel_rfl)) (fun {k rec ts} h hT=>(xl0 (by kernel_rfl))) fun _ _ _ _ _=>by kernel_rfl
def aqr (k:Nat) (rec:Rec1) (p0:PVal):OA:=al3 k rec (tds k rec k) p0
def N_xisForm:EntX prog gl:=en1 (n:=91) (cf:=(cg 0 [(41,4),(37,4),(68,4),(83,4),(19,4)] [])) (out:=.pure) (lo:=(fun _ _ _=>lo0)) (FF:=al3) func_xisForm (by kernel_rfl) rfl rfl rfl (tr0 (by kernel_rfl)) (fun {k rec ts} h hT=>(xl0 (by kernel_rfl))) fun _ _ _ _=>by kernel_rfl
def aqq (k:Nat) (rec:Rec1) (p0:PVal):OA:=al2 k rec (tds k rec k) p0
def N_xisKind:EntX prog gl:=en1 (n:=10) (cf:=(cg 0 [(8,4),(4,3)] [])) (out:=.pure) (lo:=(fun _ _ _=>lo0)) (FF:=al2) func_xisKind (by kernel_rfl) rfl rfl rfl (tr0 (by kernel_rfl)) (fun {k rec ts} h hT=>(xl0 (by kernel_rfl))) fun _ _ _ _=>by kernel_rfl
def ag3 (k:Nat) (rec:Rec1) (p0:PVal):OA:=af1 k rec (tds k rec k) p0
def N_xCheckKind:EntX prog gl:=en1 (n:=6) (cf:=(cg 0 [(5,33),(4,4)] [])) (out:=.pure) (lo:=(fun _ _ _=>lo0)) (FF:=af1) apA (by kernel_rfl) rfl rfl rfl (tr0 (by kernel_rfl)) (fun {k rec ts} h hT=>(xl0 (by kernel_rfl))) fun _ _ _ _=>by kernel_rfl
def ag4 (k:Nat) (rec:Rec1) (p0:PVal):OA:=af2 k rec (tds k rec k) p0
def N_kind_valid:EntX prog gl:=en1 (n:=6) (cf:=(cg 0 [(4,33)] [])) (out:=.pure) (lo:=(fun _ _ _=>lo0)) (FF:=af2) apB (by kernel_rfl) rfl rfl rfl (tr0 (by kernel_rfl)) (fun {k rec ts} h hT=>(xl0 (by kernel_rfl))) fun _ _ _ _=>by kernel_rfl
def ag5 (k:Nat) (rec:Rec1) (p0:PVal):OA:=af3 k rec (tds k rec k) p0
def N_kind_Check:EntX prog gl:=en1 (n:=6) (cf:=(cg 0 [(4,4)] [])) (out:=.pure) (lo:=(fun _ _ _=>lo0)) (FF:=af3) apC (by kernel_rfl) rfl rfl rfl (tr0 (by kernel_rfl)) (fun {k rec ts} h hT=>(xl0 (by kernel_rfl))) fun _ _ _ _=>by kernel_rfl
def aqu (k:Nat) (rec:Rec1) (p0:PVal):OA:=al6 k rec (tds k rec k) p0
def N_dformed:EntX prog gl:=en1 (n:=56) (cf:=(cg 0 [(32,81),(47,81)] [])) (out:=.pure) (lo:=lodformed) (FF:=al6) func_dformed (by kernel_rfl) rfl rfl rfl (tr0 (by kernel_rfl)) (fun {k rec ts} h hT=>⟨_,aar _ (by rw [show aas (bd alM) = [(1,bdformed_1)] from by kernel_rfl]; simp),(LA (cf:=(cg 0 [(32,81),(47,81)] [])) (T:=td ts) (k:=k) (b:=bdformed_1) (mk:=afJ) (S:=fun q K=>ad9 k rec ts q (aiJ K)) (L:=fun K=>abB k rec ts (aiJ K)) h hT aat.none 1 [3,23,24,25] afC rfl (fun _=>rfl) rfl (by kernel_rfl) (tl0 (by kernel_rfl)) (tr0 (by kernel_rfl)) amY (fun _ _ s=>by cases s <;> kernel_rfl) (fun _ _=>rfl) (fun _ _ _=>rfl) fun _ _ _=>rfl)⟩) fun _ _ _ _=>by kernel_rfl
def F_dfresh (k:Nat) (rec:Rec1) (p0:PVal):OA:=aqE k rec (tds k rec k) p0
def N_dfresh:EntX prog gl:=en1 (n:=19) (cf:=(cg 0 [(14,29)] [])) (out:=.pure) (lo:=lodfresh) (FF:=aqE) func_dfresh (by kernel_rfl) rfl rfl rfl (tr0 (by kernel_rfl)) (fun {k rec ts} h hT=>⟨_,aar _ (by rw [show aas (bd apS) = [(0,bdfresh_0)] from by kernel_rfl]; simp),(LA (cf:=(cg 0 [(14,29)] [])) (T:=td ts) (k:=k) (b:=bdfresh_0) (mk:=aht) (S:=fun q K=>afb k rec ts q (alB K)) (L:=fun K=>ab4 k rec ts (alB K)) h hT aat.none 0 [3,6,7,8] agA rfl (fun _=>rfl) rfl (by kernel_rfl) (tl0 (by kernel_rfl)) (tr0 (by kernel_rfl)) aoJ (fun _ _ s=>by cases s <;> kernel_rfl) (fun _ _=>rfl) (fun _ _ _=>rfl) fun _ _ _=>rfl)⟩) fun _ _ _ _=>by kernel_rfl
def ag6 (k:Nat) (rec:Rec1) (p0:PVal):OA:=af4 k rec (tds k rec k) p0
def N_dwhole_few:EntX prog gl:=en1 (n:=9) (cf:=(cg 0 [] [])) (out:=.pure) (lo:=(fun _ _ _=>lo0)) (FF:=af4) apD (by kernel_rfl) rfl rfl rfl (tr0 (by kernel_rfl)) (fun {k rec ts} h hT=>(xl0 (by kernel_rfl))) fun _ _ _ _=>by kernel_rfl
def amG (k:Nat) (rec:Rec1) (p0:PVal):OA:=akq k rec (tds k rec k) p0
def N_dtruth_few:EntX prog gl:=en1 (n:=3) (cf:=(cg 0 [] [])) (out:=.pure) (lo:=(fun _ _ _=>lo0)) (FF:=akq) apF (by kernel_rfl) rfl rfl rfl (tr0 (by kernel_rfl)) (fun {k rec ts} h hT=>(xl0 (by kernel_rfl))) fun _ _ _ _=>by kernel_rfl
def aeS (k:Nat) (rec:Rec1) (p0:PVal):OA:=aee k rec (tds k rec k) p0
def N_dtuple_few_1:EntX prog gl:=en1 (n:=12) (cf:=(cg 0 [(7,78)] [])) (out:=.pure) (lo:=(fun _ _ _=>lo0)) (FF:=aee) alI (by kernel_rfl) rfl rfl rfl (tr0 (by kernel_rfl)) (fun {k rec ts} h hT=>(xl0 (by kernel_rfl))) fun _ _ _ _=>by kernel_rfl
def F_XFF (k:Nat) (rec:Rec1) (p0 p1:PVal):OA:=FF_XFF k rec (tds k rec k) p0 p1
def N_XFF:EntX prog gl:=en2 (n:=19) (cf:=(cg 0 [(16,4)] [])) (out:=.pure) (lo:=loXFF) (FF:=FF_XFF) func_XFF (by kernel_rfl) rfl rfl rfl (tr0 (by kernel_rfl)) (fun {k rec ts} h hT=>⟨_,aar _ (by rw [show aas (bd fn_XFF) = [(0,bXFF_0)] from by kernel_rfl]; simp),(LA (cf:=(cg 0 [(16,4)] [])) (T:=td ts) (k:=k) (b:=bXFF_0) (mk:=mkXFF_0) (S:=fun q K=>S_XFF_0 k rec ts q (kxXFF_0 K)) (L:=fun K=>ai7 k rec ts (kxXFF_0 K)) h hT aat.none 0 [0,1,7,8] ao5 rfl (fun _=>rfl) rfl (by kernel_rfl) (tl0 (by kernel_rfl)) (tr0 (by kernel_rfl)) rdXFF_0_some (fun _ _ s=>by cases s <;> kernel_rfl) (fun _ _=>rfl) (fun _ _ _=>rfl) fun _ _ _=>rfl)⟩) fun _ _ _ _ _=>by kernel_rfl
def F_CFF (k:Nat) (rec:Rec1) (p0 p1:PVal):OA:=FF_CFF k rec (tds k rec k) p0 p1
def N_CFF:EntX prog gl:=en2 (n:=9) (cf:=(cg 0 [(7,3)] [])) (out:=.pure) (lo:=(fun _ _ _=>lo0)) (FF:=FF_CFF) func_CFF (by kernel_rfl) rfl rfl rfl (tr0 (by kernel_rfl)) (fun {k rec ts} h hT=>(xl0 (by kernel_rfl))) fun _ _ _ _ _=>by kernel_rfl
def ag7 (k:Nat) (rec:Rec1) (p0:PVal):OA:=af5 k rec (tds k rec k) p0
def N_dtuple_few:EntX prog gl:=en1 (n:=7) (cf:=(cg 0 [(5,4)] [])) (out:=.pure) (lo:=(fun _ _ _=>lo0)) (FF:=af5) apE (by kernel_rfl) rfl rfl rfl (tr0 (by kernel_rfl)) (fun {k rec ts} h hT=>(xl0 (by kernel_rfl))) fun _ _ _ _=>by kernel_rfl
def ag9 (k:Nat) (rec:Rec1) (p0:PVal):OA:=af7 k rec (tds k rec k) p0
def N_dgroup_few:EntX prog gl:=en1 (n:=12) (cf:=(cg 0 [(8,78)] [])) (out:=.pure) (lo:=(fun _ _ _=>lo0)) (FF:=af7) apJ (by kernel_rfl) rfl rfl rfl (tr0 (by kernel_rfl)) (fun {k rec ts} h hT=>(xl0 (by kernel_rfl))) fun _ _ _ _=>by kernel_rfl
def amI (k:Nat) (rec:Rec1) (p0:PVal):OA:=aks k rec (tds k rec k) p0
def N_dempty_few:EntX prog gl:=en1 (n:=3) (cf:=(cg 0 [] [])) (out:=.pure) (lo:=(fun _ _ _=>lo0)) (FF:=aks) apK (by kernel_rfl) rfl rfl rfl (tr0 (by kernel_rfl)) (fun {k rec ts} h hT=>(xl0 (by kernel_rfl))) fun _ _ _ _=>by kernel_rfl
def amH (k:Nat) (rec:Rec1) (p0:PVal):OA:=akr k rec (tds k rec k) p0
def N_dtexts_few:EntX prog gl:=en1 (n:=3) (cf:=(cg 0 [] [])) (out:=.pure) (lo:=(fun _ _ _=>lo0)) (FF:=akr) apG (by kernel_rfl) rfl rfl rfl (tr0 (by kernel_rfl)) (fun {k rec ts} h hT=>(xl0 (by kernel_rfl))) fun _ _ _ _=>by kernel_rfl
def aha (k:Nat) (rec:Rec1) (p0:PVal):OA:=ahU k rec (tds k rec k) p0
def N_dValues:EntX prog gl:=en1 (n:=19) (cf:=(cg 0 [(18,27),(12,78),(11,81),(7,33)] [])) (out:=.pure) (lo:=(fun _ _ _=>lo0)) (FF:=ahU) func_dValues (by kernel_rfl) rfl rfl rfl (tr0 (by kernel_rfl)) (fun {k rec ts} h hT=>(xl0 (by kernel_rfl))) fun _ _ _ _=>by kernel_rfl
def F_XFV (k:Nat) (rec:Rec1) (p0 p1:PVal):OA:=FF_XFV k rec (tds k rec k) p0 p1
def N_XFV:EntX prog gl:=en2 (n:=19) (cf:=(cg 0 [(16,4)] [])) (out:=.pure) (lo:=loXFV) (FF:=FF_XFV) func_XFV (by kernel_rfl) rfl rfl rfl (tr0 (by kernel_rfl)) (fun {k rec ts} h hT=>⟨_,aar _ (by rw [show aas (bd fn_XFV) = [(0,bXFV_0)] from by kernel_rfl]; simp),(LA (cf:=(cg 0 [(16,4)] [])) (T:=td ts) (k:=k) (b:=bXFV_0) (mk:=mkXFV_0) (S:=fun q K=>S_XFV_0 k rec ts q (kxXFV_0 K)) (L:=fun K=>ai4 k rec ts (kxXFV_0 K)) h hT aat.none 0 [0,1,7,8] ao2 rfl (fun _=>rfl) rfl (by kernel_rfl) (tl0 (by kernel_rfl)) (tr0 (by kernel_rfl)) rdXFV_0_some (fun _ _ s=>by cases s <;> kernel_rfl) (fun _ _=>rfl) (fun _ _ _=>rfl) fun _ _ _=>rfl)⟩) fun _ _ _ _ _=>by kernel_rfl
def F_CFV (k:Nat) (rec:Rec1) (p0 p1:PVal):OA:=FF_CFV k rec (tds k rec k) p0 p1
def N_CFV:EntX prog gl:=en2 (n:=9) (cf:=(cg 0 [(7,3)] [])) (out:=.pure) (lo:=(fun _ _ _=>lo0)) (FF:=FF_CFV) func_CFV (by kernel_rfl) rfl rfl rfl (tr0 (by kernel_rfl)) (fun {k rec ts} h hT=>(xl0 (by kernel_rfl))) fun _ _ _ _ _=>by kernel_rfl
def F_lIV_1 (k:Nat) (rec:Rec1) (p0 p1:PVal):OA:=FF_lIV_1 k rec (tds k rec k) p0 p1
def N_lIV_1:EntX prog gl:=en2 (n:=7) (cf:=(cg 0 [(6,4)] [])) (out:=.pure) (lo:=(fun _ _ _=>lo0)) (FF:=FF_lIV_1) func_lIV_1 (by kernel_rfl) rfl rfl rfl (tr0 (by kernel_rfl)) (fun {k rec ts} h hT=>(xl0 (by kernel_rfl))) fun _ _ _ _ _=>by kernel_rfl
def F_lIV (k:Nat) (rec:Rec1) (p0 p1:PVal):OA:=FF_lIV k rec (tds k rec k) p0 p1
def N_lIV:EntX prog gl:=en2 (n:=110) (cf:=(cg 0 [(108,4),(104,4),(101,4),(96,4),(90,3),(77,4),(71,4),(67,4),(44,36),(40,4),(27,34),(24,4),(21,4),(16,4),(12,4)] [])) (out:=.pure) (lo:=lolIV) (FF:=FF_lIV) func_lIV (by kernel_rfl) rfl rfl rfl (tr0 (by kernel_rfl)) (fun {k rec ts} h hT=>⟨_,aar _ (by rw [show aas (bd fn_lIV) = [(0,blIV_0)] from by kernel_rfl]; simp),(LA (cf:=(cg 0 [(108,4),(104,4),(101,4),(96,4),(90,3),(77,4),(71,4),(67,4),(44,36),(40,4),(27,34),(24,4),(21,4),(16,4),(12,4)] [])) (T:=td ts) (k:=k) (b:=blIV_0) (mk:=mklIV_0) (S:=fun q K=>aqm k rec ts q (kxlIV_0 K)) (L:=fun K=>aed k rec ts (kxlIV_0 K)) h hT aat.none 0 [2,3,5,59,60,61] aoZ rfl (fun _=>rfl) rfl (by kernel_rfl) (tl0 (by kernel_rfl)) (tr0 (by kernel_rfl)) rdlIV_0_some (fun _ _ s=>by cases s <;> kernel_rfl) (fun _ _=>rfl) (fun _ _ _=>rfl) fun _ _ _=>rfl)⟩) fun _ _ _ _ _=>by kernel_rfl
def F_Clp (k:Nat) (rec:Rec1) (p0:PVal):OA:=FF_Clp k rec (tds k rec k) p0
def N_Clp:EntX prog gl:=en1 (n:=9) (cf:=(cg 0 [] [])) (out:=.clip) (lo:=(fun _ _ _=>lo0)) (FF:=FF_Clp) func_Clp (by kernel_rfl) rfl rfl rfl (tr0 (by kernel_rfl)) (fun {k rec ts} h hT=>(xl0 (by kernel_rfl))) fun _ _ _ _=>by kernel_rfl
def F_Cln (k:Nat) (rec:Rec1) (p0:PVal):OA:=FF_Cln k rec (tds k rec k) p0
def N_Cln:EntX prog gl:=en1 (n:=8) (cf:=(cg 0 [] [])) (out:=.pure) (lo:=(fun _ _ _=>lo0)) (FF:=FF_Cln) func_Cln (by kernel_rfl) rfl rfl rfl (tr0 (by kernel_rfl)) (fun {k rec ts} h hT=>(xl0 (by kernel_rfl))) fun _ _ _ _=>by kernel_rfl
def aqt (k:Nat) (rec:Rec1) (p0:PVal):OA:=al5 k rec (tds k rec k) p0
def N_dnumber:EntX prog gl:=en1 (n:=5) (cf:=(cg 0 [] [])) (out:=.pure) (lo:=(fun _ _ _=>lo0)) (FF:=al5) func_dnumber (by kernel_rfl) rfl rfl rfl (tr0 (by kernel_rfl)) (fun {k rec ts} h hT=>(xl0 (by kernel_rfl))) fun _ _ _ _=>by kernel_rfl
def ag8 (k:Nat) (rec:Rec1) (p0:PVal):OA:=af6 k rec (tds k rec k) p0
def N_dlists_1_1:EntX prog gl:=en1 (n:=6) (cf:=(cg 0 [] [])) (out:=.pure) (lo:=(fun _ _ _=>lo0)) (FF:=af6) apH (by kernel_rfl) rfl rfl rfl (tr0 (by kernel_rfl)) (fun {k rec ts} h hT=>(xl0 (by kernel_rfl))) fun _ _ _ _=>by kernel_rfl
def aja (k:Nat) (rec:Rec1) (p0 p1:PVal):OA:=ahc k rec (tds k rec k) p0 p1
def N_dcomposed:EntX prog gl:=en2 (n:=9) (cf:=(cg 0 [(7,27)] [])) (out:=.pure) (lo:=(fun _ _ _=>lo0)) (FF:=ahc) func_dcomposed (by kernel_rfl) rfl rfl rfl (tr0 (by kernel_rfl)) (fun {k rec ts} h hT=>(xl0 (by kernel_rfl))) fun _ _ _ _ _=>by kernel_rfl
def F_XFL (k:Nat) (rec:Rec1) (p0 p1:PVal):OA:=FF_XFL k rec (tds k rec k) p0 p1
def N_XFL:EntX prog gl:=en2 (n:=19) (cf:=(cg 0 [(16,4)] [])) (out:=.pure) (lo:=loXFL) (FF:=FF_XFL) func_XFL (by kernel_rfl) rfl rfl rfl (tr0 (by kernel_rfl)) (fun {k rec ts} h hT=>⟨_,aar _ (by rw [show aas (bd fn_XFL) = [(0,bXFL_0)] from by kernel_rfl]; simp),(LA (cf:=(cg 0 [(16,4)] [])) (T:=td ts) (k:=k) (b:=bXFL_0) (mk:=mkXFL_0) (S:=fun q K=>S_XFL_0 k rec ts q (kxXFL_0 K)) (L:=fun K=>ai5 k rec ts (kxXFL_0 K)) h hT aat.none 0 [0,1,7,8] ao3 rfl (fun _=>rfl) rfl (by kernel_rfl) (tl0 (by kernel_rfl)) (tr0 (by kernel_rfl)) rdXFL_0_some (fun _ _ s=>by cases s <;> kernel_rfl) (fun _ _=>rfl) (fun _ _ _=>rfl) fun _ _ _=>rfl)⟩) fun _ _ _ _ _=>by kernel_rfl
def F_CFL (k:Nat) (rec:Rec1) (p0 p1:PVal):OA:=FF_CFL k rec (tds k rec k) p0 p1
def N_CFL:EntX prog gl:=en2 (n:=9) (cf:=(cg 0 [(7,3)] [])) (out:=.pure) (lo:=(fun _ _ _=>lo0)) (FF:=FF_CFL) func_CFL (by kernel_rfl) rfl rfl rfl (tr0 (by kernel_rfl)) (fun {k rec ts} h hT=>(xl0 (by kernel_rfl))) fun _ _ _ _ _=>by kernel_rfl
def aqv (k:Nat) (rec:Rec1) (p0:PVal):OA:=al7 k rec (tds k rec k) p0
def N_dcopied:EntX prog gl:=en1 (n:=22) (cf:=(cg 0 [(15,29)] [])) (out:=.pure) (lo:=lodcopied) (FF:=al7) func_dcopied (by kernel_rfl) rfl rfl rfl (tr0 (by kernel_rfl)) (fun {k rec ts} h hT=>⟨_,aar _ (by rw [show aas (bd alN) = [(0,bdcopied_0)] from by kernel_rfl]; simp),(LA (cf:=(cg 0 [(15,29)] [])) (T:=td ts) (k:=k) (b:=bdcopied_0) (mk:=afK) (S:=fun q K=>aea k rec ts q (aiK K)) (L:=fun K=>abC k rec ts (aiK K)) h hT aat.none 0 [1,2,3,7,8,9] afD rfl (fun _=>rfl) rfl (by kernel_rfl) (tl0 (by kernel_rfl)) (tr0 (by kernel_rfl)) amZ (fun _ _ s=>by cases s <;> kernel_rfl) (fun _ _=>rfl) (fun _ _ _=>rfl) fun _ _ _=>rfl)⟩) fun _ _ _ _=>by kernel_rfl
def abd (k:Nat) (rec:Rec1) (p0:PVal):OA:=acI k rec (tds k rec k) p0
def N_dlisted:EntX prog gl:=en1 (n:=107) (cf:=akf) (out:=.pure) (lo:=lodlisted) (FF:=acI) func_dlisted (by kernel_rfl) rfl rfl rfl (akv _ (by rw [show abj (bd acA) = [(71,rpsdlisted_71,rasdlisted_71,rbddlisted_71)] from by kernel_rfl]; intro p hp; simp only [List.mem_cons,List.not_mem_nil,or_false] at hp; rcases hp with rfl <;> rfl)) (fun {k rec ts} h hT=>⟨_,aar _ (by rw [show aas (bd acA) = [(1,bdlisted_1),(3,bdlisted_3),(7,alX)] from by kernel_rfl]; simp),(LA (cf:=akf) (T:=td ts) (k:=k) (b:=alX) (mk:=afG) (S:=fun q K=>adh k rec ts q (aiG K)) (L:=fun K=>abh k rec ts (aiG K)) h hT (LA (cf:=akf) (T:=td ts) (k:=k) (b:=bdlisted_3) (mk:=afH) (S:=fun q K=>ad7 k rec ts q (aiH K)) (L:=fun K=>abz k rec ts (aiH K)) h hT (LA (cf:=akf) (T:=td ts) (k:=k) (b:=bdlisted_1) (mk:=afI) (S:=fun q K=>ad8 k rec ts q (aiI K)) (L:=fun K=>abA k rec ts (aiI K)) h hT aat.none 1 [2,3,4,5,6,7] afB rfl (fun _=>rfl) rfl (by kernel_rfl) (tl0 (by kernel_rfl)) (tr0 (by kernel_rfl)) amX (fun _ _ s=>by cases s <;> kernel_rfl) (fun _ _=>rfl) (fun _ _ _=>rfl) fun _ _ _=>rfl) 3 [2,3,4,5,10,54,55,56] afA rfl (fun _=>rfl) rfl (by kernel_rfl) (tl0 (by kernel_rfl)) (tr0 (by kernel_rfl)) amW (fun _ _ s=>by cases s <;> kernel_rfl) (fun _ _=>rfl) (fun _ _ _=>rfl) fun _ _ _=>rfl) 7 [2,3,4,5,17,92,93] adP rfl (fun _=>rfl) rfl (by kernel_rfl) (tl0 (by kernel_rfl)) (akv _ (by rw [show abj alX = [(98,rpsdlisted_98,rasdlisted_98,rbddlisted_98)] from by kernel_rfl]; intro p hp; simp only [List.mem_cons,List.not_mem_nil,or_false] at hp; rcases hp with rfl <;> rfl)) amV (fun _ _ s=>by cases s <;> kernel_rfl) (fun _ _=>rfl) (fun _ _ _=>rfl) fun _ _ _=>rfl)⟩) fun _ _ _ _=>by kernel_rfl
end
end Go.Proofs.YtdnbnpknpejpdaaGreatDoor
