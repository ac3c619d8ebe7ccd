/- InductValues (swardlaw22) is proved: in whatever world, where the listed package variables hold what the row lists, and whatever the kind and the value that can be read as data, the call returns true, and the arguments read afterwards as before. -/
import Derived.Test.YtdnbnpknpejpdaaGreatDoorCards
import Derived.Test.YtdnbnpknpejpdaaGreatDoorTie
import Derived.WalkKit
import Derived.ProofKit
import Derived.OpenShut
import Derived.Deep.DeepHandedRow
import Derived.Deep.DeepWitnessRowRef
import Derived.Lib.LaidTab
import Derived.Stop.LaidErr
import Derived.Test.YtdnbnpknpejpdaaGreatDoorEvC
import Derived.Test.YtdnbnpknpejpdaaGreatDoorTjF
import Derived.Test.YtdnbnpknpejpdaaGreatDoorTjG
import Derived.Test.YtdnbnpknpejpdaaGreatDoorTjH
import Derived.Test.YtdnbnpknpejpdaaGreatDoorLawX
set_option linter.unusedVariables false
set_option linter.unusedSimpArgs false
set_option linter.unusedSectionVars false
namespace Go.Proofs.YtdnbnpknpejpdaaGreatDoor
open Go.ChangeShapes Go.WideShapes Go.ChangeAt Go.RowKit Go.Proofs.YtdnbnpknpejpdaaGreatDoor.Sw
def zs0:List Int:=(List.range 256).map fun i=>if i ∈ [9,10,11,12,13,32] then .ofNat 1 else .ofNat 0
def zs2:List Int:=(List.range 20).map fun i=>.ofNat (10 ^ i)
def zs4:List Int:=[0,1,28,2,29,14,24,3,30,22,20,15,25,17,4,8,31,27,13,23,21,19,16,7,26,12,18,6,11,5,10,9]
def zs5:List Int:=[0,1,56,2,57,49,28,3,61,58,42,50,38,29,17,4,62,47,59,36,45,43,51,22,53,39,33,30,24,18,12,5,63,55,48,27,60,41,37,16,46,35,44,21,52,32,23,11,54,26,40,15,34,20,31,10,25,14,19,9,13,8,7,6]
theorem own:ownKnob Tryz.prog.godebug=none:=by kernel_rfl
theorem data0:(Rows.laid_strings_asciiSpace:DataW Unit)=Lib.tabData .u8 zs0:=by kernel_rfl
theorem named0:Tryz.prog.globalNamed "strings.asciiSpace" = some 0:=by kernel_rfl
theorem tab0 {W:World} (h:laidMetH Tryz.prog Rows.inductValuesRow.laid W):Lib.TabIs Tryz.prog W "strings.asciiSpace" .u8 zs0:=by
  have h2:laidMet Tryz.prog [("strings.asciiSpace",Rows.laid_strings_asciiSpace)] W:=laidMet.tail (laidMet.tail (laidMet.tail (laidMet.tail h)))
  rw [data0] at h2
  exact Lib.tabIs_of_head (t:=456) (e:=5) (n:=256) named0 (by kernel_rfl) (by kernel_rfl) (by kernel_rfl) (by kernel_rfl) (by kernel_rfl) h2
theorem data2:(Rows.laid_internal_strconv_uint64pow10:DataW Unit)=Lib.tabData .u64 zs2:=by kernel_rfl
theorem named2:Tryz.prog.globalNamed "internal/strconv.uint64pow10" = some 2:=by kernel_rfl
theorem tab2 {W:World} (h:laidMetH Tryz.prog Rows.inductValuesRow.laid W):Lib.TabIs Tryz.prog W "internal/strconv.uint64pow10" .u64 zs2:=by
  have h2:laidMet Tryz.prog [("internal/strconv.uint64pow10",Rows.laid_internal_strconv_uint64pow10),("unicode.White_Space",Rows.laid_unicode_White_Space),("strings.asciiSpace",Rows.laid_strings_asciiSpace)] W:=laidMet.tail (laidMet.tail h)
  rw [data2] at h2
  exact Lib.tabIs_of_head (t:=495) (e:=455) (n:=20) named2 (by kernel_rfl) (by kernel_rfl) (by kernel_rfl) (by kernel_rfl) (by kernel_rfl) h2
theorem data4:(Rows.laid_math_bits_deBruijn32tab:DataW Unit)=Lib.tabData .u8 zs4:=by kernel_rfl
theorem named4:Tryz.prog.globalNamed "math/bits.deBruijn32tab" = some 4:=by kernel_rfl
theorem tab4 {W:World} (h:laidMetH Tryz.prog Rows.inductValuesRow.laid W):Lib.TabIs Tryz.prog W "math/bits.deBruijn32tab" .u8 zs4:=by
  have h2:laidMet Tryz.prog [("math/bits.deBruijn32tab",Rows.laid_math_bits_deBruijn32tab),("math/bits.deBruijn64tab",Rows.laid_math_bits_deBruijn64tab),("internal/strconv.uint64pow10",Rows.laid_internal_strconv_uint64pow10),("unicode.White_Space",Rows.laid_unicode_White_Space),("strings.asciiSpace",Rows.laid_strings_asciiSpace)] W:=h
  rw [data4] at h2
  exact Lib.tabIs_of_head (t:=513) (e:=5) (n:=32) named4 (by kernel_rfl) (by kernel_rfl) (by kernel_rfl) (by kernel_rfl) (by kernel_rfl) h2
theorem data5:(Rows.laid_math_bits_deBruijn64tab:DataW Unit)=Lib.tabData .u8 zs5:=by kernel_rfl
theorem named5:Tryz.prog.globalNamed "math/bits.deBruijn64tab" = some 5:=by kernel_rfl
theorem tab5 {W:World} (h:laidMetH Tryz.prog Rows.inductValuesRow.laid W):Lib.TabIs Tryz.prog W "math/bits.deBruijn64tab" .u8 zs5:=by
  have h2:laidMet Tryz.prog [("math/bits.deBruijn64tab",Rows.laid_math_bits_deBruijn64tab),("internal/strconv.uint64pow10",Rows.laid_internal_strconv_uint64pow10),("unicode.White_Space",Rows.laid_unicode_White_Space),("strings.asciiSpace",Rows.laid_strings_asciiSpace)] W:=laidMet.tail h
  rw [data5] at h2
  exact Lib.tabIs_of_head (t:=514) (e:=5) (n:=64) named5 (by kernel_rfl) (by kernel_rfl) (by kernel_rfl) (by kernel_rfl) (by kernel_rfl) h2
theorem gl_tabs:gl=(((((Tr.lf:Tr AVal).set (glBase + 0) (.p (tabP .u8 zs0))).set (glBase + 2) (.p (tabP .u64 zs2))).set (glBase + 4) (.p (tabP .u8 zs4))).set (glBase + 5) (.p (tabP .u8 zs5))):=gl_eq.trans (show ((((Tr.lf.set (glBase + 0) g4096).set (glBase + 2) g4098).set (glBase + 4) g4100).set (glBase + 5) g4101)=_ by kernel_rfl)
theorem globOf {W:World} (h:laidMetH Tryz.prog Rows.inductValuesRow.laid W):Glob gl (fun b _=>b < W.heap.size) W:=by
  rw [gl_tabs]
  exact (anf (anf (anf (anf glob_empty (rep_tab (tab0 h) named0)) (rep_tab (tab2 h) named2)) (rep_tab (tab4 h) named4)) (rep_tab (tab5 h) named5))
noncomputable def api (os:Os):World :=
  let N:=(World.settled Tryz.prog os).heap.size
  let rows:List (List Nat):=[[9,13,1],[32,133,101],[160,5760,5600],[8192,8202,1],[8232,8233,1],[8239,8287,48],[12288,12288,1]]
  let w0:=World.holding Tryz.prog os ⟨#[
    .cells #[.slice (some ⟨N + 1,0,none⟩) 7 7, .slice none 0 0, .int .i64 2] 502,
    .cells ((rows.flatMap fun r=>r.map fun z=>Value.int .u16 (Int.ofNat z)).toArray) 505], #[],[]⟩
  let put (h:Array Obj) (g:Nat) (cs:Array Value):Array Obj:=h.modify g fun
    | .cells _ t frozen=>.cells cs t frozen
    | o=>o
  let ints (k:IntKind) (zs:List Int):Array Value:=(zs.map fun z=>Value.int k z).toArray
  let h1:=put w0.heap 4 (ints .u8 zs4)
  let h2:=put h1 5 (ints .u8 zs5)
  let h3:=put h2 2 (ints .u64 zs2)
  let h4:=put h3 1 #[.pointer (some ⟨N,0,none⟩)]
  let h5:=put h4 0 (ints .u8 zs0)
  { w0 with heap:=h5 }
def wargs:Array Value:=#[.agg #[.int .i64 0, .int .i64 0, .int .i64 0, .int .i64 0, .slice none 0 0], .agg #[.int .i64 0, .int .i64 0, .string ByteArray.empty, .slice none 0 0]]
theorem laid_met (os:Os):laidMet Tryz.prog Rows.inductValuesRow.laid ((api os).forCall (fun _ _=>0) ⟨#[],wargs,[]⟩).memory :=
  laidMet_of_run' 8 (by kernel_rfl) (by kernel_rfl)
theorem reads (os:Os) {H:Type} (enc:TypeId × Value→H):∃ places,DataW.whole enc Tryz.prog ((api os).forCall (fun _ _=>0) ⟨#[],wargs,[]⟩).memory Tryz.f3.params.toList Rows.inductValuesSpec.vars false wargs.toList 8=some ([.agg [.lit (.int .i64 0), .lit (.int .i64 0), .lit (.int .i64 0), .lit (.int .i64 0), .nil], .agg [.lit (.int .i64 0), .lit (.int .i64 0), .lit (.string []), .nil]],[],places) :=
  ⟨[],by kernel_rfl⟩
set_option maxRecDepth 100000 in
theorem lifted (os:Os) (started:os.Started) (H:Type) (enc:TypeId × Value→H) (F:Stop.Interp) :
    ReturnsInHanded {} Tryz.checked os 3 .any ((OpenSpec.ofChange Rows.inductValuesSpec).preRow enc Tryz.prog Tryz.f3 Rows.inductValuesRow.domain false Rows.inductValuesRow.laid) (((OpenSpec.ofChange Rows.inductValuesSpec).at F).post enc Tryz.prog Tryz.f3 false true false false):=by
  obtain ⟨places,hx⟩:=reads os enc
  refine returnsInHanded_of_row (C:=Tryz.checked) (s:=OpenSpec.ofChange Rows.inductValuesSpec) own started (by kernel_rfl) Tryz.func3
    (witness_row_atRef (enc:=enc) (C:=Tryz.checked) false (api os) wargs rfl (by kernel_rfl) (by kernel_rfl) (by kernel_rfl)
      (OpenSpec.preRow_of_cond 8 hx (by kernel_rfl) (fun k hk=>by cases hk) (by kernel_rfl) (laid_met os))) ?_
  intro W base args ds gs before _ hW _ _ _ hL _ _
  exact contract H enc W base args ds gs before hW (globOf hL)
set_option maxRecDepth 100000 in
theorem said:Rows.InductValuesSaid :=
  OpenClaim.holds_of_cond 3 Tryz.f3 rfl rfl rfl rfl rfl rfl rfl ⟨rfl,rfl,rfl,rfl,rfl⟩ rfl rfl rfl rfl rfl named Tryz.func3 facts inst wrapper
    (fun os started H enc _ F=>by rw [OpenClaim.pre_eq_preRow]; exact lifted os started H enc F)
theorem stand25:Tryz.pinned.checked.prog.wantsStandIn 25=false:=by kernel_rfl
theorem stand29:Tryz.pinned.checked.prog.wantsStandIn 29=false:=by kernel_rfl
theorem paramsAre {j t:Nat} (ht:(#[25,29]:Array Nat)[j]? = some t):t=25 ∨ t=29:=by
  match j,ht with
  | 0,ht=>exact .inl (by simpa using ht.symm)
  | 1,ht=>exact .inr ((by simpa using ht.symm))
  | j + 2,ht=>simp at ht
set_option maxRecDepth 100000 in
theorem plain (f:FuncId) (fn:Func) (hf:Tryz.pinned.checked.prog.funcNamed "sward/swardlaw22.InductValues" = some f) (hfn:Tryz.pinned.checked.prog.funcs[f]? = some fn) :
    true=Tryz.pinned.checked.prog.looks [] ∧ ∀ (j:Nat) t,fn.params[j]? = some t→Tryz.pinned.checked.prog.wantsStandIn t=false:=by
  obtain rfl:f=3:=Option.some.inj (named.symm.trans hf) |>.symm
  obtain rfl:fn=Tryz.f3:=(Option.some.inj (Tryz.func3.symm.trans hfn)).symm
  refine ⟨looks,fun j t ht=>?_⟩
  rw [show Tryz.f3.params = #[25,29] by kernel_rfl] at ht
  rcases paramsAre ht with rfl | rfl
  · exact stand25
  · exact stand29
theorem card:Rows.InductValuesCardSaid :=
  Claim7.holds_tied_plain_at .later [] _ _ _ _ said (fun _ h=>by cases h) byText (fun _ h=>by cases h) inductValues_row_tie rfl ⟨rfl,rfl⟩ mainIs rfl plain cardGoes
end Go.Proofs.YtdnbnpknpejpdaaGreatDoor
