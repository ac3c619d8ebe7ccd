/- The program is fine for the evaluator; its functions by name; what residual texts have in common. -/
import Derived.Test.YtdnbnpknpejpdaaGreatDoorProg
import Derived.Test.YtdnbnpknpejpdaaGreatDoorEvC
import Derived.KernelRfl
import Derived.Test.YtdnbnpknpejpdaaGreatDoorEvD
set_option linter.unusedVariables false
set_option linter.unusedSimpArgs false
set_option linter.unusedSectionVars false
namespace Go.Proofs.YtdnbnpknpejpdaaGreatDoor
open Go Go.Proofs.YtdnbnpknpejpdaaGreatDoor.Sw
def fnOk (fn:Func):Bool:=!(fn.name == "runtime.NumGoroutine") && (match fn.body with | some c=>codeOk c | none=>true)
theorem fine_of {P:Program} (h1:P.follows .mixedOrders=true) (h2:P.funcs.toList.all fnOk=true):Fine P:=by
  have key:∀ (f:Nat) (fn:Func),P.funcs[f]? = some fn→fnOk fn=true:=fun f fn h=>by
    rw [List.all_eq_true] at h2
    exact h2 fn (Array.mem_toList_iff.2 (Array.mem_of_getElem? h))
  refine ⟨fun f fn h=>?_,h1,fun f fn c h hb=>?_⟩
  · have:=key f fn h
    simp only [fnOk,Bool.and_eq_true,Bool.not_eq_true'] at this
    exact this.1
  · have:=key f fn h
    simp only [fnOk,Bool.and_eq_true,hb] at this
    exact this.2
theorem funcsOk:Tryz.prog.funcs.toList.all fnOk=true:=by kernel_rfl
theorem fine:Fine Tryz.prog:=fine_of (by kernel_rfl) funcsOk
end Go.Proofs.YtdnbnpknpejpdaaGreatDoor
namespace Go.Proofs.YtdnbnpknpejpdaaGreatDoor
open Go Go.Proofs.YtdnbnpknpejpdaaGreatDoor.Sw
def imp (f:Nat):Bool:=inMask 2286390454250469663406005894992323498638234571261935183577815887131809130603933471148901908742081589396587968885855556485104743159159578443776 f
def g4096:AVal:=(.p (.ip (.agg [.int .u8 (.ofNat 0), .int .u8 (.ofNat 0), .int .u8 (.ofNat 0), .int .u8 (.ofNat 0), .int .u8 (.ofNat 0), .int .u8 (.ofNat 0), .int .u8 (.ofNat 0), .int .u8 (.ofNat 0), .int .u8 (.ofNat 0), .int .u8 (.ofNat 1), .int .u8 (.ofNat 1), .int .u8 (.ofNat 1), .int .u8 (.ofNat 1), .int .u8 (.ofNat 1), .int .u8 (.ofNat 0), .int .u8 (.ofNat 0), .int .u8 (.ofNat 0), .int .u8 (.ofNat 0), .int .u8 (.ofNat 0), .int .u8 (.ofNat 0), .int .u8 (.ofNat 0), .int .u8 (.ofNat 0), .int .u8 (.ofNat 0), .int .u8 (.ofNat 0), .int .u8 (.ofNat 0), .int .u8 (.ofNat 0), .int .u8 (.ofNat 0), .int .u8 (.ofNat 0), .int .u8 (.ofNat 0), .int .u8 (.ofNat 0), .int .u8 (.ofNat 0), .int .u8 (.ofNat 0), .int .u8 (.ofNat 1), .int .u8 (.ofNat 0), .int .u8 (.ofNat 0), .int .u8 (.ofNat 0), .int .u8 (.ofNat 0), .int .u8 (.ofNat 0), .int .u8 (.ofNat 0), .int .u8 (.ofNat 0), .int .u8 (.ofNat 0), .int .u8 (.ofNat 0), .int .u8 (.ofNat 0), .int .u8 (.ofNat 0), .int .u8 (.ofNat 0), .int .u8 (.ofNat 0), .int .u8 (.ofNat 0), .int .u8 (.ofNat 0), .int .u8 (.ofNat 0), .int .u8 (.ofNat 0), .int .u8 (.ofNat 0), .int .u8 (.ofNat 0), .int .u8 (.ofNat 0), .int .u8 (.ofNat 0), .int .u8 (.ofNat 0), .int .u8 (.ofNat 0), .int .u8 (.ofNat 0), .int .u8 (.ofNat 0), .int .u8 (.ofNat 0), .int .u8 (.ofNat 0), .int .u8 (.ofNat 0), .int .u8 (.ofNat 0), .int .u8 (.ofNat 0), .int .u8 (.ofNat 0), .int .u8 (.ofNat 0), .int .u8 (.ofNat 0), .int .u8 (.ofNat 0), .int .u8 (.ofNat 0), .int .u8 (.ofNat 0), .int .u8 (.ofNat 0), .int .u8 (.ofNat 0), .int .u8 (.ofNat 0), .int .u8 (.ofNat 0), .int .u8 (.ofNat 0), .int .u8 (.ofNat 0), .int .u8 (.ofNat 0), .int .u8 (.ofNat 0), .int .u8 (.ofNat 0), .int .u8 (.ofNat 0), .int .u8 (.ofNat 0), .int .u8 (.ofNat 0), .int .u8 (.ofNat 0), .int .u8 (.ofNat 0), .int .u8 (.ofNat 0), .int .u8 (.ofNat 0), .int .u8 (.ofNat 0), .int .u8 (.ofNat 0), .int .u8 (.ofNat 0), .int .u8 (.ofNat 0), .int .u8 (.ofNat 0), .int .u8 (.ofNat 0), .int .u8 (.ofNat 0), .int .u8 (.ofNat 0), .int .u8 (.ofNat 0), .int .u8 (.ofNat 0), .int .u8 (.ofNat 0), .int .u8 (.ofNat 0), .int .u8 (.ofNat 0), .int .u8 (.ofNat 0), .int .u8 (.ofNat 0), .int .u8 (.ofNat 0), .int .u8 (.ofNat 0), .int .u8 (.ofNat 0), .int .u8 (.ofNat 0), .int .u8 (.ofNat 0), .int .u8 (.ofNat 0), .int .u8 (.ofNat 0), .int .u8 (.ofNat 0), .int .u8 (.ofNat 0), .int .u8 (.ofNat 0), .int .u8 (.ofNat 0), .int .u8 (.ofNat 0), .int .u8 (.ofNat 0), .int .u8 (.ofNat 0), .int .u8 (.ofNat 0), .int .u8 (.ofNat 0), .int .u8 (.ofNat 0), .int .u8 (.ofNat 0), .int .u8 (.ofNat 0), .int .u8 (.ofNat 0), .int .u8 (.ofNat 0), .int .u8 (.ofNat 0), .int .u8 (.ofNat 0), .int .u8 (.ofNat 0), .int .u8 (.ofNat 0), .int .u8 (.ofNat 0), .int .u8 (.ofNat 0), .int .u8 (.ofNat 0), .int .u8 (.ofNat 0), .int .u8 (.ofNat 0), .int .u8 (.ofNat 0), .int .u8 (.ofNat 0), .int .u8 (.ofNat 0), .int .u8 (.ofNat 0), .int .u8 (.ofNat 0), .int .u8 (.ofNat 0), .int .u8 (.ofNat 0), .int .u8 (.ofNat 0), .int .u8 (.ofNat 0), .int .u8 (.ofNat 0), .int .u8 (.ofNat 0), .int .u8 (.ofNat 0), .int .u8 (.ofNat 0), .int .u8 (.ofNat 0), .int .u8 (.ofNat 0), .int .u8 (.ofNat 0), .int .u8 (.ofNat 0), .int .u8 (.ofNat 0), .int .u8 (.ofNat 0), .int .u8 (.ofNat 0), .int .u8 (.ofNat 0), .int .u8 (.ofNat 0), .int .u8 (.ofNat 0), .int .u8 (.ofNat 0), .int .u8 (.ofNat 0), .int .u8 (.ofNat 0), .int .u8 (.ofNat 0), .int .u8 (.ofNat 0), .int .u8 (.ofNat 0), .int .u8 (.ofNat 0), .int .u8 (.ofNat 0), .int .u8 (.ofNat 0), .int .u8 (.ofNat 0), .int .u8 (.ofNat 0), .int .u8 (.ofNat 0), .int .u8 (.ofNat 0), .int .u8 (.ofNat 0), .int .u8 (.ofNat 0), .int .u8 (.ofNat 0), .int .u8 (.ofNat 0), .int .u8 (.ofNat 0), .int .u8 (.ofNat 0), .int .u8 (.ofNat 0), .int .u8 (.ofNat 0), .int .u8 (.ofNat 0), .int .u8 (.ofNat 0), .int .u8 (.ofNat 0), .int .u8 (.ofNat 0), .int .u8 (.ofNat 0), .int .u8 (.ofNat 0), .int .u8 (.ofNat 0), .int .u8 (.ofNat 0), .int .u8 (.ofNat 0), .int .u8 (.ofNat 0), .int .u8 (.ofNat 0), .int .u8 (.ofNat 0), .int .u8 (.ofNat 0), .int .u8 (.ofNat 0), .int .u8 (.ofNat 0), .int .u8 (.ofNat 0), .int .u8 (.ofNat 0), .int .u8 (.ofNat 0), .int .u8 (.ofNat 0), .int .u8 (.ofNat 0), .int .u8 (.ofNat 0), .int .u8 (.ofNat 0), .int .u8 (.ofNat 0), .int .u8 (.ofNat 0), .int .u8 (.ofNat 0), .int .u8 (.ofNat 0), .int .u8 (.ofNat 0), .int .u8 (.ofNat 0), .int .u8 (.ofNat 0), .int .u8 (.ofNat 0), .int .u8 (.ofNat 0), .int .u8 (.ofNat 0), .int .u8 (.ofNat 0), .int .u8 (.ofNat 0), .int .u8 (.ofNat 0), .int .u8 (.ofNat 0), .int .u8 (.ofNat 0), .int .u8 (.ofNat 0), .int .u8 (.ofNat 0), .int .u8 (.ofNat 0), .int .u8 (.ofNat 0), .int .u8 (.ofNat 0), .int .u8 (.ofNat 0), .int .u8 (.ofNat 0), .int .u8 (.ofNat 0), .int .u8 (.ofNat 0), .int .u8 (.ofNat 0), .int .u8 (.ofNat 0), .int .u8 (.ofNat 0), .int .u8 (.ofNat 0), .int .u8 (.ofNat 0), .int .u8 (.ofNat 0), .int .u8 (.ofNat 0), .int .u8 (.ofNat 0), .int .u8 (.ofNat 0), .int .u8 (.ofNat 0), .int .u8 (.ofNat 0), .int .u8 (.ofNat 0), .int .u8 (.ofNat 0), .int .u8 (.ofNat 0), .int .u8 (.ofNat 0), .int .u8 (.ofNat 0), .int .u8 (.ofNat 0), .int .u8 (.ofNat 0), .int .u8 (.ofNat 0), .int .u8 (.ofNat 0), .int .u8 (.ofNat 0), .int .u8 (.ofNat 0), .int .u8 (.ofNat 0), .int .u8 (.ofNat 0), .int .u8 (.ofNat 0), .int .u8 (.ofNat 0), .int .u8 (.ofNat 0), .int .u8 (.ofNat 0), .int .u8 (.ofNat 0), .int .u8 (.ofNat 0), .int .u8 (.ofNat 0), .int .u8 (.ofNat 0), .int .u8 (.ofNat 0), .int .u8 (.ofNat 0), .int .u8 (.ofNat 0), .int .u8 (.ofNat 0)])))
def g4098:AVal:=(.p (.ip (.agg [.int .u64 (.ofNat 1), .int .u64 (.ofNat 10), .int .u64 (.ofNat 100), .int .u64 (.ofNat 1000), .int .u64 (.ofNat 10000), .int .u64 (.ofNat 100000), .int .u64 (.ofNat 1000000), .int .u64 (.ofNat 10000000), .int .u64 (.ofNat 100000000), .int .u64 (.ofNat 1000000000), .int .u64 (.ofNat 10000000000), .int .u64 (.ofNat 100000000000), .int .u64 (.ofNat 1000000000000), .int .u64 (.ofNat 10000000000000), .int .u64 (.ofNat 100000000000000), .int .u64 (.ofNat 1000000000000000), .int .u64 (.ofNat 10000000000000000), .int .u64 (.ofNat 100000000000000000), .int .u64 (.ofNat 1000000000000000000), .int .u64 (.ofNat 10000000000000000000)])))
def g4100:AVal:=(.p (.ip (.agg [.int .u8 (.ofNat 0), .int .u8 (.ofNat 1), .int .u8 (.ofNat 28), .int .u8 (.ofNat 2), .int .u8 (.ofNat 29), .int .u8 (.ofNat 14), .int .u8 (.ofNat 24), .int .u8 (.ofNat 3), .int .u8 (.ofNat 30), .int .u8 (.ofNat 22), .int .u8 (.ofNat 20), .int .u8 (.ofNat 15), .int .u8 (.ofNat 25), .int .u8 (.ofNat 17), .int .u8 (.ofNat 4), .int .u8 (.ofNat 8), .int .u8 (.ofNat 31), .int .u8 (.ofNat 27), .int .u8 (.ofNat 13), .int .u8 (.ofNat 23), .int .u8 (.ofNat 21), .int .u8 (.ofNat 19), .int .u8 (.ofNat 16), .int .u8 (.ofNat 7), .int .u8 (.ofNat 26), .int .u8 (.ofNat 12), .int .u8 (.ofNat 18), .int .u8 (.ofNat 6), .int .u8 (.ofNat 11), .int .u8 (.ofNat 5), .int .u8 (.ofNat 10), .int .u8 (.ofNat 9)])))
def g4101:AVal:=(.p (.ip (.agg [.int .u8 (.ofNat 0), .int .u8 (.ofNat 1), .int .u8 (.ofNat 56), .int .u8 (.ofNat 2), .int .u8 (.ofNat 57), .int .u8 (.ofNat 49), .int .u8 (.ofNat 28), .int .u8 (.ofNat 3), .int .u8 (.ofNat 61), .int .u8 (.ofNat 58), .int .u8 (.ofNat 42), .int .u8 (.ofNat 50), .int .u8 (.ofNat 38), .int .u8 (.ofNat 29), .int .u8 (.ofNat 17), .int .u8 (.ofNat 4), .int .u8 (.ofNat 62), .int .u8 (.ofNat 47), .int .u8 (.ofNat 59), .int .u8 (.ofNat 36), .int .u8 (.ofNat 45), .int .u8 (.ofNat 43), .int .u8 (.ofNat 51), .int .u8 (.ofNat 22), .int .u8 (.ofNat 53), .int .u8 (.ofNat 39), .int .u8 (.ofNat 33), .int .u8 (.ofNat 30), .int .u8 (.ofNat 24), .int .u8 (.ofNat 18), .int .u8 (.ofNat 12), .int .u8 (.ofNat 5), .int .u8 (.ofNat 63), .int .u8 (.ofNat 55), .int .u8 (.ofNat 48), .int .u8 (.ofNat 27), .int .u8 (.ofNat 60), .int .u8 (.ofNat 41), .int .u8 (.ofNat 37), .int .u8 (.ofNat 16), .int .u8 (.ofNat 46), .int .u8 (.ofNat 35), .int .u8 (.ofNat 44), .int .u8 (.ofNat 21), .int .u8 (.ofNat 52), .int .u8 (.ofNat 32), .int .u8 (.ofNat 23), .int .u8 (.ofNat 11), .int .u8 (.ofNat 54), .int .u8 (.ofNat 26), .int .u8 (.ofNat 40), .int .u8 (.ofNat 15), .int .u8 (.ofNat 34), .int .u8 (.ofNat 20), .int .u8 (.ofNat 31), .int .u8 (.ofNat 10), .int .u8 (.ofNat 25), .int .u8 (.ofNat 14), .int .u8 (.ofNat 19), .int .u8 (.ofNat 9), .int .u8 (.ofNat 13), .int .u8 (.ofNat 8), .int .u8 (.ofNat 7), .int .u8 (.ofNat 6)])))
def gl:Tr AVal:=(.nd none (.nd none (.nd none .lf (.nd none .lf (.nd none .lf (.nd none .lf (.nd none .lf (.nd none .lf (.nd none .lf (.nd none .lf (.nd none .lf (.nd none .lf (.nd (some g4098) .lf .lf))))))))))) (.nd none (.nd none .lf (.nd none .lf (.nd none .lf (.nd none .lf (.nd none .lf (.nd none .lf (.nd none .lf (.nd none .lf (.nd none .lf (.nd (some g4100) .lf .lf)))))))))) (.nd none .lf (.nd none .lf (.nd none .lf (.nd none .lf (.nd none .lf (.nd none .lf (.nd none .lf (.nd none .lf (.nd none .lf (.nd (some g4096) .lf .lf)))))))))))) (.nd none (.nd none (.nd none .lf (.nd none .lf (.nd none .lf (.nd none .lf (.nd none .lf (.nd none .lf (.nd none .lf (.nd none .lf (.nd none .lf (.nd (some g4101) .lf .lf)))))))))) .lf) .lf))
theorem gl_eq:gl=((((Tr.lf.set (glBase + 0) g4096).set (glBase + 2) g4098).set (glBase + 4) g4100).set (glBase + 5) g4101):=by kernel_rfl
end Go.Proofs.YtdnbnpknpejpdaaGreatDoor
namespace Go.Proofs.YtdnbnpknpejpdaaGreatDoor
open Go Go.Proofs.YtdnbnpknpejpdaaGreatDoor.Sw
noncomputable abbrev prog:Program:=Tryz.prog
def i_lIV:Nat:=3
noncomputable def fn_lIV:Func:=Tryz.f3
theorem func_lIV:prog.funcs[i_lIV]? = some fn_lIV:=Tryz.func3
def anc:Nat:=5
noncomputable def fn_eSmall:Func:=Tryz.f5
theorem func_eSmall:prog.funcs[anc]? = some fn_eSmall:=Tryz.func5
def adr:Nat:=6
noncomputable def fn_aSmall:Func:=Tryz.f6
theorem func_aSmall:prog.funcs[adr]? = some fn_aSmall:=Tryz.func6
def anb:Nat:=7
noncomputable def fn_eValid:Func:=Tryz.f7
theorem func_eValid:prog.funcs[anb]? = some fn_eValid:=Tryz.func7
def i_lKn:Nat:=8
def ad1:Nat:=9
noncomputable def fn_dValues:Func:=Tryz.f9
theorem func_dValues:prog.funcs[ad1]? = some fn_dValues:=Tryz.func9
def acf:Nat:=10
noncomputable def apQ:Func:=Tryz.f10
theorem func_eCount:prog.funcs[acf]? = some apQ:=Tryz.func10
def abZ:Nat:=11
noncomputable def fn_aValid:Func:=Tryz.f11
theorem func_aValid:prog.funcs[abZ]? = some fn_aValid:=Tryz.func11
def i_eIs:Nat:=12
noncomputable def fn_eIs:Func:=Tryz.f12
theorem func_eIs:prog.funcs[i_eIs]? = some fn_eIs:=Tryz.func12
def aaV:Nat:=13
noncomputable def aiS:Func:=Tryz.f13
theorem func_aCompare:prog.funcs[aaV]? = some aiS:=Tryz.func13
def i_CFV:Nat:=14
noncomputable def fn_CFV:Func:=Tryz.f14
theorem func_CFV:prog.funcs[i_CFV]? = some fn_CFV:=Tryz.func14
def acR:Nat:=15
noncomputable def fn_lIV_1:Func:=Tryz.f15
theorem func_lIV_1:prog.funcs[acR]? = some fn_lIV_1:=Tryz.func15
def aer:Nat:=16
noncomputable def fn_aEqual:Func:=Tryz.f16
theorem func_aEqual:prog.funcs[aer]? = some fn_aEqual:=Tryz.func16
def adp:Nat:=34
noncomputable def apP:Func:=Tryz.f34
theorem func_eWeigh:prog.funcs[adp]? = some apP:=Tryz.func34
def adq:Nat:=35
noncomputable def apU:Func:=Tryz.f35
theorem func_aWeigh:prog.funcs[adq]? = some apU:=Tryz.func35
def aeq:Nat:=36
noncomputable def apT:Func:=Tryz.f36
theorem func_abrief:prog.funcs[aeq]? = some apT:=Tryz.func36
def ady:Nat:=37
noncomputable def alL:Func:=Tryz.f37
theorem func_eshaped:prog.funcs[ady]? = some alL:=Tryz.func37
def acs:Nat:=39
noncomputable def fn_kind_Check:Func:=Tryz.f39
theorem apC:prog.funcs[acs]? = some fn_kind_Check:=Tryz.func39
def aaI:Nat:=40
noncomputable def acA:Func:=Tryz.f40
theorem func_dlisted:prog.funcs[aaI]? = some acA:=Tryz.func40
def abD:Nat:=41
noncomputable def alM:Func:=Tryz.f41
theorem func_dformed:prog.funcs[abD]? = some alM:=Tryz.func41
def aj6:Nat:=42
noncomputable def apS:Func:=Tryz.f42
theorem func_dfresh:prog.funcs[aj6]? = some apS:=Tryz.func42
def aj5:Nat:=43
noncomputable def apO:Func:=Tryz.f43
theorem func_eempty:prog.funcs[aj5]? = some apO:=Tryz.func43
def adz:Nat:=44
noncomputable def ahw:Func:=Tryz.f44
theorem func_ashaped:prog.funcs[adz]? = some ahw:=Tryz.func44
def i_ein:Nat:=45
noncomputable def fn_ein:Func:=Tryz.f45
theorem func_ein:prog.funcs[i_ein]? = some fn_ein:=Tryz.func45
def acS:Nat:=46
noncomputable def fn_aorder:Func:=Tryz.f46
theorem func_aorder:prog.funcs[acS]? = some fn_aorder:=Tryz.func46
def i_XFV:Nat:=47
noncomputable def fn_XFV:Func:=Tryz.f47
theorem func_XFV:prog.funcs[i_XFV]? = some fn_XFV:=Tryz.func47
def ane:Nat:=48
noncomputable def apV:Func:=Tryz.f48
theorem func_aLists:prog.funcs[ane]? = some apV:=Tryz.func48
def ado:Nat:=72
noncomputable def fn_eplain:Func:=Tryz.f72
theorem func_eplain:prog.funcs[ado]? = some fn_eplain:=Tryz.func72
def aep:Nat:=74
noncomputable def fn_kind_valid:Func:=Tryz.f74
theorem apB:prog.funcs[aep]? = some fn_kind_valid:=Tryz.func74
def i_dlisted_1:Nat:=75
noncomputable def fn_dlisted_1:Func:=Tryz.f75
theorem ah9:prog.funcs[i_dlisted_1]? = some fn_dlisted_1:=Tryz.func75
def agN:Nat:=76
noncomputable def fn_dnumber:Func:=Tryz.f76
theorem func_dnumber:prog.funcs[agN]? = some fn_dnumber:=Tryz.func76
def i_dlists:Nat:=77
noncomputable def fn_dlists:Func:=Tryz.f77
theorem apI:prog.funcs[i_dlists]? = some fn_dlists:=Tryz.func77
def abe:Nat:=78
noncomputable def fn_dcomposed:Func:=Tryz.f78
theorem func_dcomposed:prog.funcs[abe]? = some fn_dcomposed:=Tryz.func78
def i_dparts:Nat:=79
noncomputable def fn_dparts:Func:=Tryz.f79
theorem func_dparts:prog.funcs[i_dparts]? = some fn_dparts:=Tryz.func79
def abE:Nat:=80
noncomputable def alN:Func:=Tryz.f80
theorem func_dcopied:prog.funcs[abE]? = some alN:=Tryz.func80
def i_ain:Nat:=81
noncomputable def fn_ain:Func:=Tryz.f81
theorem func_ain:prog.funcs[i_ain]? = some fn_ain:=Tryz.func81
def ae1:Nat:=82
noncomputable def aiR:Func:=Tryz.f82
theorem func_aletters:prog.funcs[ae1]? = some aiR:=Tryz.func82
def i_xin:Nat:=107
noncomputable def fn_xin:Func:=Tryz.f107
theorem func_xin:prog.funcs[i_xin]? = some fn_xin:=Tryz.func107
def aeo:Nat:=119
noncomputable def fn_xCheckKind:Func:=Tryz.f119
theorem apA:prog.funcs[aeo]? = some fn_xCheckKind:=Tryz.func119
def i_dlists_1:Nat:=120
noncomputable def fn_dlists_1:Func:=Tryz.f120
theorem aj8:prog.funcs[i_dlists_1]? = some fn_dlists_1:=Tryz.func120
def i_CFL:Nat:=121
noncomputable def fn_CFL:Func:=Tryz.f121
theorem func_CFL:prog.funcs[i_CFL]? = some fn_CFL:=Tryz.func121
def aaF:Nat:=122
noncomputable def fn_dlists_1_1:Func:=Tryz.f122
theorem apH:prog.funcs[aaF]? = some fn_dlists_1_1:=Tryz.func122
def i_dlists_1_2:Nat:=123
noncomputable def aa2:Func:=Tryz.f123
theorem acU:prog.funcs[i_dlists_1_2]? = some aa2:=Tryz.func123
def i_Cln:Nat:=124
noncomputable def fn_Cln:Func:=Tryz.f124
theorem func_Cln:prog.funcs[i_Cln]? = some fn_Cln:=Tryz.func124
def i_Clp:Nat:=125
noncomputable def fn_Clp:Func:=Tryz.f125
theorem func_Clp:prog.funcs[i_Clp]? = some fn_Clp:=Tryz.func125
def i_dparts_1:Nat:=126
noncomputable def fn_dparts_1:Func:=Tryz.f126
theorem aj7:prog.funcs[i_dparts_1]? = some fn_dparts_1:=Tryz.func126
def i_dparts_1_1:Nat:=127
noncomputable def aa1:Func:=Tryz.f127
theorem acT:prog.funcs[i_dparts_1_1]? = some aa1:=Tryz.func127
def ae0:Nat:=156
noncomputable def fn_xrefused:Func:=Tryz.f156
theorem func_xrefused:prog.funcs[ae0]? = some fn_xrefused:=Tryz.func156
def aj4:Nat:=176
noncomputable def fn_xisKind:Func:=Tryz.f176
theorem func_xisKind:prog.funcs[aj4]? = some fn_xisKind:=Tryz.func176
def i_XFL:Nat:=177
noncomputable def fn_XFL:Func:=Tryz.f177
theorem func_XFL:prog.funcs[i_XFL]? = some fn_XFL:=Tryz.func177
def aaO:Nat:=211
noncomputable def fn_xisInt:Func:=Tryz.f211
theorem func_xisInt:prog.funcs[aaO]? = some fn_xisInt:=Tryz.func211
def abn:Nat:=231
noncomputable def afO:Func:=Tryz.f231
theorem apz:prog.funcs[abn]? = some afO:=Tryz.func231
def ad0:Nat:=232
noncomputable def fn_xisForm:Func:=Tryz.f232
theorem func_xisForm:prog.funcs[ad0]? = some fn_xisForm:=Tryz.func232
def i_CFK:Nat:=291
noncomputable def fn_CFK:Func:=Tryz.f291
theorem func_CFK:prog.funcs[i_CFK]? = some fn_CFK:=Tryz.func291
def aaQ:Nat:=292
noncomputable def fn_xisForm_1:Func:=Tryz.f292
theorem func_xisForm_1:prog.funcs[aaQ]? = some fn_xisForm_1:=Tryz.func292
def i_XFK:Nat:=325
noncomputable def fn_XFK:Func:=Tryz.f325
theorem func_XFK:prog.funcs[i_XFK]? = some fn_XFK:=Tryz.func325
def acu:Nat:=411
noncomputable def fn_dwhole_few:Func:=Tryz.f411
theorem apD:prog.funcs[acu]? = some fn_dwhole_few:=Tryz.func411
def acw:Nat:=412
noncomputable def fn_dtruth_few:Func:=Tryz.f412
theorem apF:prog.funcs[acw]? = some fn_dtruth_few:=Tryz.func412
def acv:Nat:=413
noncomputable def fn_dtuple_few:Func:=Tryz.f413
theorem apE:prog.funcs[acv]? = some fn_dtuple_few:=Tryz.func413
def i_CFF:Nat:=414
noncomputable def fn_CFF:Func:=Tryz.f414
theorem func_CFF:prog.funcs[i_CFF]? = some fn_CFF:=Tryz.func414
def aaG:Nat:=415
noncomputable def apR:Func:=Tryz.f415
theorem alI:prog.funcs[aaG]? = some apR:=Tryz.func415
def i_XFF:Nat:=416
noncomputable def fn_XFF:Func:=Tryz.f416
theorem func_XFF:prog.funcs[i_XFF]? = some fn_XFF:=Tryz.func416
def acy:Nat:=417
noncomputable def fn_dgroup_few:Func:=Tryz.f417
theorem apJ:prog.funcs[acy]? = some fn_dgroup_few:=Tryz.func417
def acz:Nat:=418
noncomputable def fn_dempty_few:Func:=Tryz.f418
theorem apK:prog.funcs[acz]? = some fn_dempty_few:=Tryz.func418
def acx:Nat:=419
noncomputable def fn_dtexts_few:Func:=Tryz.f419
theorem apG:prog.funcs[acx]? = some fn_dtexts_few:=Tryz.func419
end Go.Proofs.YtdnbnpknpejpdaaGreatDoor
namespace Go.Proofs.YtdnbnpknpejpdaaGreatDoor
open Go Go.Proofs.YtdnbnpknpejpdaaGreatDoor.Sw
set_option maxRecDepth 100000
noncomputable section
abbrev OA:=Option AVal
abbrev OX:=Option XRes
abbrev KX (α:Type):=XE→Tr AVal→XSt→Option α
def xi:Nat→Bool:=ximpL [75,77,79,120,123,126,127]
def bd (f:Func):Code:=match f.body with
  | some c=>c
  | none=>.skip
def sb (n:Nat) (c:Code):Code:=match aes n c with
  | some c=>c
  | none=>.skip
def okF (f:Func) (a n:Nat):Bool:=f.body.isSome && Nat.beq (max a f.ntmps) n
theorem okF_b {f:Func} {a n:Nat} (h:okF f a n=true):f.body=some (bd f)∧max a f.ntmps=n:=by
  unfold okF at h
  unfold bd
  cases hb:f.body with
  | none=>rw [hb] at h; simp at h
  | some c =>
    rw [hb] at h
    exact ⟨rfl,Nat.eq_of_beq_eq_true (by simpa using h)⟩
def emp {α:Type} (l:List α):Bool:=match l with
  | []=>true
  | _=>false
theorem emp_b {α:Type} {l:List α} (h:emp l=true):l = []:=by cases l <;> first | rfl | cases h
def cg (m:Nat) (s:List (Nat × Nat)) (o:List Nat):Cfg:={ shs:=shOf prog,res:=sitesOf prog s [] o,imp:=xi,gl:=gl,m:=m,rd:=false,sk:=Sw.keyOf [],ro:=ajQ [] }
def kq {α:Type} (K:KX α) (e:XE) (o:XE→List Nat) (f:XE) (c:XC):Option α:=K e (tmOf gl (o f) c.vals) c.st
def lo0 {α:Type}:Loops α:=fun _ _ _ _=>none
def lo1 {α σ:Type} (i m:Nat) (live:List Nat) (rd:XC→(σ→Option α)→Option α) (L:KX α → σ→Option α) (r:Loops α):Loops α:=fun id tm st K=>match Nat.beq id i with
  | true=>canon m live tm st fun c=>rd c (L K)
  | false=>r id tm st K
abbrev RdS {χ σ:Type} (mk:σ → χ) (rd:{α:Type} → χ→(σ→Option α)→(Unit→Option α)→Option α):Prop:=∀ {α:Type} {r:α} {c:χ} {K:σ→Option α} {e:Unit→Option α},rd c K e=some r→(∃ s,c=mk s∧K s=some r) ∨ e ()=some r
abbrev RdT {χ σ:Type} (mk:σ → χ) (rd:{α:Type} → χ→(σ→Option α)→Option α):Prop:=∀ {α:Type} {r:α} {c:χ} {K:σ→Option α},rd c K=some r → ∃ s,c=mk s∧K s=some r
def kK {α:Type} (p:PVal) (K:Int→Int→Int→Int→PVal→Option α):Option α:=aggK p fun l1=>consK l1 fun x2 l3=>intK .i64 x2 fun z4=>consK l3 fun x5 l6=>intK .i64 x5 fun z7=>consK l6 fun x8 l9=>intK .i64 x8 fun z10=>consK l9 fun x11 l12=>intK .i64 x11 fun z13=>consK l12 fun x14 l15=>endK l15 (K z4 z7 z10 z13 x14)
def vK {α:Type} (p:PVal) (K:Int→Int→List Nat→PVal→Option α):Option α:=aggK p fun l1=>consK l1 fun x2 l3=>intK .i64 x2 fun z4=>consK l3 fun x5 l6=>intK .i64 x5 fun z7=>consK l6 fun x8 l9=>strK x8 fun z10=>consK l9 fun x11 l12=>endK l12 (K z4 z7 z10 x11)
theorem kK_agg {α:Type} {a b c d:Int} {p:PVal} {K:Int→Int→Int→Int→PVal→Option α}:kK (.agg [.int .i64 a, .int .i64 b, .int .i64 c, .int .i64 d,p]) K=K a b c d p:=rfl
theorem vK_agg {α:Type} {a b:Int} {s:List Nat} {p:PVal} {K:Int→Int→List Nat→PVal→Option α}:vK (.agg [.int .i64 a, .int .i64 b, .str s,p]) K=K a b s p:=rfl
section
variable [Sites] {k n m:Nat} {rec:Rec1} {T:Sw.Told} {cf:Cfg}
theorem tl0 {c:Code} {loops:Nat→Option Code} (h:emp (aas c)=true):aa8 loops c:=aar _ (by rw [emp_b h]; simp)
theorem tr0 {c:Code} {sk:Nat→Nat} (h:emp (abj c)=true):aaM sk n c:=akv _ (by rw [emp_b h]; simp)
theorem xl0 {α:Type} {c:Code} (h:emp (aas c)=true):XLoops prog gl m n none (lo0:Loops α) c:=⟨_,tl0 h,aat.none⟩
theorem LA {α σ:Type} {ro:Option Nat} {lo:Loops α} {loops:Nat→Option Code} (h:aaz prog gl rec) (hT:ToldOk prog gl T) (hL:aat prog gl cf.m n ro lo loops) (id:Nat) (live:List Nat) (outs:XE→List Nat) {b:Code} {mk:σ→XC} {rd:{α:Type}→XC→(σ→Option α)→Option α} {S:(σ→Option α)→KX α → σ→Option α} {L:KX α→Nat → σ→Option α}
    (hgl:cf.gl=gl) (hro:cf.rd=false→ro=none) (hn:Nat.ble n glBase=true) (hb:codeOk b=true) (hi:aa8 loops b) (hs:aaM cf.sk n b) (hrd:RdT mk rd)
    (he:∀ Kn K s,codeK prog cf T rec n lo b (tmOf gl live (mk s).vals) (mk s).st (roundK gl cf.m id live outs Kn K)=S (fun s=>Kn (mk s)) K s)
    (h0:∀ K s,L K 0 s=none) (h1:∀ K j s,L K (j + 1) s=S (L K j) K s) (hlo:∀ tm st K,lo id tm st K=canon cf.m live tm st fun c=>rd c (L K k)) :
    aat prog gl cf.m n ro lo fun i=>if i=id then some b else loops i :=
  aat.add (cf:=cf) (td:=T) (ab7 (ajZ h) fine 1) (recOk h cf.imp 0 0) hT fine hgl (Nat.le_of_ble_eq_true hn) hro hL id live outs b hb hi hs fun tm st K r hk=>⟨k,by
    rw [hlo] at hk
    refine canon_mono (fun c hc=>?_) hk
    obtain ⟨s,e,hs⟩:=hrd hc
    have key:∀ j s,loopX prog cf T rec n gl lo id live outs b j (mk s) K=L K j s:=fun j=>by
      induction j with
      | zero=>intro s; rw [h0]; rfl
      | succ j ih =>
        intro s
        simp only [loopX]
        rw [he,h1]
        exact congrArg (fun q=>S q K s) (funext ih)
    rw [e,key]
    exact hs⟩
theorem LD {α:Type} {ro:Option Nat} {lo:Loops α} {loops:Nat→Option Code} (h:aaz prog gl rec) (hT:ToldOk prog gl T) (hL:aat prog gl cf.m n ro lo loops) (id:Nat) {b:Code}
    (hgl:cf.gl=gl) (hro:cf.rd=false→ro=none) (hn:Nat.ble n glBase=true) (hb:codeOk b=true) (hi:aa8 loops b) (hs:aaM cf.sk n b) (hlo:∀ tm st K,lo id tm st K=none) :
    aat prog gl cf.m n ro lo fun i=>if i=id then some b else loops i :=
  aat.add (cf:=cf) (td:=T) (ab7 (ajZ h) fine 1) (recOk h cf.imp 0 0) hT fine hgl (Nat.le_of_ble_eq_true hn) hro hL id [] (fun _=>[]) b hb hi hs fun tm st K r hk=>by rw [hlo] at hk; cases hk
theorem kF {f:Nat} {fn:Func} {out:Fo} {lo:Loops AVal} {ps:List PVal} {X:OA} {v:AVal} (h:aaz prog gl rec) (hT:ToldOk prog gl T) (hf:prog.funcs[f]? = some fn) (hc:okF fn ps.length n=true) (hgl:cf.gl=gl) (hm:cf.m=0) (hrd:cf.rd=false) (hs:aaM cf.sk n (bd fn)) (hl:XLoops prog gl 0 n none lo (bd fn))
    (e:fnX prog cf T out rec gl (fun _=>lo) f ps=X) (hv:X=some v) (hg:goodV v=true):goodV v=true∧Known prog gl f (ps.map .p) (adopt 0 v).1 (adopt 0 v).2 :=
  fnX_fact (cf:=cf) fine h hT hgl hm hrd hf (okF_b hc).1 (okF_b hc).2 hs hl (e.trans hv) hg
theorem kT {f:Nat} {fn:Func} {lo:Loops XRes} {c:XC} {X:OX} {v:XRes} (h:aaz prog gl rec) (hT:ToldOk prog gl T) (hf:prog.funcs[f]? = some fn) (hc:okF fn c.vals.length n=true) (hgl:cf.gl=gl) (hrd:cf.rd=false) (hm:cf.m=m) (hm' : c.objs.length=m) (hs:aaM cf.sk n (bd fn)) (hl:XLoops prog gl m n none lo (bd fn))
    (e:fnS prog cf T rec gl lo f c=X) (hv:X=some v):KnownT prog gl (.fn f) c v :=
  fnS_fact (cf:=cf) fine h hT hgl hrd hf (okF_b hc).1 (okF_b hc).2 hm hm' hs hl (e.trans hv)
def okR (a b:Code):Bool:=emp (aas a) && (emp (aas b) && (emp (abj a) && emp (abj b)))
theorem kR {i:Nat} {c:XC} {X:OX} {v:XRes} (h:aaz prog gl rec) (hT:ToldOk prog gl T) (hc:okR (Sites.site i).assign (Sites.site i).body=true) (hgl:cf.gl=gl) (hrd:cf.rd=true) (hn:(Sites.site i).n=n) (hm:cf.m=m) (hm' : c.objs.length=m)
    (e:roundS prog cf T rec gl lo0 i c=X) (hv:X=some v):KnownT prog gl .yld c v:=by
  simp only [okR,Bool.and_eq_true] at hc
  exact roundS_fact (cf:=cf) fine h hT hgl hrd rfl rfl hn hm hm' (tr0 hc.2.2.1) (tr0 hc.2.2.2) (fun _=>⟨_,tl0 hc.1,tl0 hc.2.1,aat.none⟩) (e.trans hv)
end
end
end Go.Proofs.YtdnbnpknpejpdaaGreatDoor
