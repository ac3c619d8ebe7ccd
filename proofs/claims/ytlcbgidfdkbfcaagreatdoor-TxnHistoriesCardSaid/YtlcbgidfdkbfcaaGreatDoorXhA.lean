/- The program's functions by name. -/
import Derived.Test.YtlcbgidfdkbfcaaGreatDoorProg
import Derived.Test.YtlcbgidfdkbfcaaGreatDoorEvD
import Derived.Test.YtlcbgidfdkbfcaaGreatDoorThAB
import Derived.KernelRfl
set_option linter.unusedVariables false
set_option linter.unusedSimpArgs false
namespace Go.Proofs.YtlcbgidfdkbfcaaGreatDoor
open Go Go.Proofs.YtlcbgidfdkbfcaaGreatDoor.Sw
noncomputable abbrev prog : Program := Tryz.prog
def i_lTH : Nat := 3
noncomputable def fn_lTH : Func := Tryz.f3
theorem func_lTH : prog.funcs[i_lTH]? = some fn_lTH := Tryz.func3
def i_lWk : Nat := 4
noncomputable def fn_lWk : Func := Tryz.f4
theorem func_lWk : prog.funcs[i_lWk]? = some fn_lWk := Tryz.func4
def i_tEd : Nat := 5
noncomputable def fn_tEd : Func := Tryz.f5
theorem func_tEd : prog.funcs[i_tEd]? = some fn_tEd := Tryz.func5
def i_rEdges : Nat := 6
noncomputable def fn_rEdges : Func := Tryz.f6
theorem func_rEdges : prog.funcs[i_rEdges]? = some fn_rEdges := Tryz.func6
def i_tOr : Nat := 7
noncomputable def fn_tOr : Func := Tryz.f7
theorem func_tOr : prog.funcs[i_tOr]? = some fn_tOr := Tryz.func7
def i_rOrder : Nat := 8
noncomputable def fn_rOrder : Func := Tryz.f8
theorem func_rOrder : prog.funcs[i_rOrder]? = some fn_rOrder := Tryz.func8
def i_tCi : Nat := 9
noncomputable def fn_tCi : Func := Tryz.f9
theorem func_tCi : prog.funcs[i_tCi]? = some fn_tCi := Tryz.func9
def i_rCircle : Nat := 10
noncomputable def fn_rCircle : Func := Tryz.f10
theorem func_rCircle : prog.funcs[i_rCircle]? = some fn_rCircle := Tryz.func10
def i_qSame : Nat := 11
noncomputable def fn_qSame : Func := Tryz.f11
theorem func_qSame : prog.funcs[i_qSame]? = some fn_qSame := Tryz.func11
def i_tPr : Nat := 12
noncomputable def fn_tPr : Func := Tryz.f12
theorem func_tPr : prog.funcs[i_tPr]? = some fn_tPr := Tryz.func12
def i_rProves : Nat := 13
noncomputable def fn_rProves : Func := Tryz.f13
theorem func_rProves : prog.funcs[i_rProves]? = some fn_rProves := Tryz.func13
def i_tTo : Nat := 30
noncomputable def fn_tTo : Func := Tryz.f30
theorem func_tTo : prog.funcs[i_tTo]? = some fn_tTo := Tryz.func30
def i_tLi : Nat := 31
noncomputable def fn_tLi : Func := Tryz.f31
theorem func_tLi : prog.funcs[i_tLi]? = some fn_tLi := Tryz.func31
def i_racted : Nat := 32
noncomputable def fn_racted : Func := Tryz.f32
theorem func_racted : prog.funcs[i_racted]? = some fn_racted := Tryz.func32
def i_rdrawn : Nat := 33
noncomputable def fn_rdrawn : Func := Tryz.f33
theorem func_rdrawn : prog.funcs[i_rdrawn]? = some fn_rdrawn := Tryz.func33
def i_sCF : Nat := 34
noncomputable def fn_sCF : Func := Tryz.f34
theorem func_sCF : prog.funcs[i_sCF]? = some fn_sCF := Tryz.func34
def i_tOr_1 : Nat := 35
noncomputable def fn_tOr_1 : Func := Tryz.f35
theorem func_tOr_1 : prog.funcs[i_tOr_1]? = some fn_tOr_1 := Tryz.func35
def i_tCo : Nat := 36
noncomputable def fn_tCo : Func := Tryz.f36
theorem func_tCo : prog.funcs[i_tCo]? = some fn_tCo := Tryz.func36
def i_rall : Nat := 37
noncomputable def fn_rall : Func := Tryz.f37
theorem func_rall : prog.funcs[i_rall]? = some fn_rall := Tryz.func37
def i_tRd : Nat := 38
noncomputable def fn_tRd : Func := Tryz.f38
theorem func_tRd : prog.funcs[i_tRd]? = some fn_tRd := Tryz.func38
def i_rround : Nat := 39
noncomputable def fn_rround : Func := Tryz.f39
theorem func_rround : prog.funcs[i_rround]? = some fn_rround := Tryz.func39
def i_sCn : Nat := 40
noncomputable def fn_sCn : Func := Tryz.f40
theorem func_sCn : prog.funcs[i_sCn]? = some fn_sCn := Tryz.func40
def i_rin : Nat := 41
noncomputable def fn_rin : Func := Tryz.f41
theorem func_rin : prog.funcs[i_rin]? = some fn_rin := Tryz.func41
def i_qListed : Nat := 42
noncomputable def fn_qListed : Func := Tryz.f42
theorem func_qListed : prog.funcs[i_qListed]? = some fn_qListed := Tryz.func42
def i_rcircled : Nat := 43
noncomputable def fn_rcircled : Func := Tryz.f43
theorem func_rcircled : prog.funcs[i_rcircled]? = some fn_rcircled := Tryz.func43
def i_rBefore : Nat := 70
noncomputable def fn_rBefore : Func := Tryz.f70
theorem func_rBefore : prog.funcs[i_rBefore]? = some fn_rBefore := Tryz.func70
def i_sXF : Nat := 71
noncomputable def fn_sXF : Func := Tryz.f71
theorem func_sXF : prog.funcs[i_sXF]? = some fn_sXF := Tryz.func71
def i_rrising : Nat := 72
noncomputable def fn_rrising : Func := Tryz.f72
theorem func_rrising : prog.funcs[i_rrising]? = some fn_rrising := Tryz.func72
def i_sCl : Nat := 73
noncomputable def fn_sCl : Func := Tryz.f73
theorem func_sCl : prog.funcs[i_sCl]? = some fn_sCl := Tryz.func73
def i_sIx : Nat := 74
noncomputable def fn_sIx : Func := Tryz.f74
theorem func_sIx : prog.funcs[i_sIx]? = some fn_sIx := Tryz.func74
end Go.Proofs.YtlcbgidfdkbfcaaGreatDoor
