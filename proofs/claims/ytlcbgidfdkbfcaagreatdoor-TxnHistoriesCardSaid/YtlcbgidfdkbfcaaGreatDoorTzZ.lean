/- TxnHistories: the call returns true, whatever the world, where the listed package variables hold what the row lists. -/
import Derived.Test.YtlcbgidfdkbfcaaGreatDoorCards
import Derived.Test.YtlcbgidfdkbfcaaGreatDoorTie
import Derived.WalkKit
import Derived.ProofKit
import Derived.OpenShut
import Derived.Deep.DeepHandedRow
import Derived.Deep.DeepWitnessRowRef
import Derived.Lib.LaidTab
import Derived.Stop.LaidErr
import Derived.Test.YtlcbgidfdkbfcaaGreatDoorEvC
import Derived.Test.YtlcbgidfdkbfcaaGreatDoorTzF
import Derived.Test.YtlcbgidfdkbfcaaGreatDoorTzG
import Derived.Test.YtlcbgidfdkbfcaaGreatDoorTzH
import Derived.Test.YtlcbgidfdkbfcaaGreatDoorPaA
set_option linter.unusedVariables false
set_option linter.unusedSimpArgs false
namespace Go.Proofs.YtlcbgidfdkbfcaaGreatDoor
open Go.ChangeShapes Go.WideShapes Go.ChangeAt Go.RowKit Go.Proofs.YtlcbgidfdkbfcaaGreatDoor.Sw
def zs1 : List Int := (List.range 256).map fun i => if i ∈ [9, 10, 11, 12, 13, 32] then .ofNat 1 else .ofNat 0
def zs3 : List Int := (List.range 20).map fun i => .ofNat (10 ^ i)
theorem own : ownKnob Tryz.prog.godebug = none := by kernel_rfl
theorem data1 : (Rows.laid_strings_asciiSpace : DataW Unit) = Lib.tabData .u8 zs1 := by kernel_rfl
theorem named1 : Tryz.prog.globalNamed "strings.asciiSpace" = some 1 := by kernel_rfl
theorem tab1 {W : World} (h : laidMetH Tryz.prog Rows.txnHistoriesRow.laid W) : Lib.TabIs Tryz.prog W "strings.asciiSpace" .u8 zs1 := by
  have h2 : laidMet Tryz.prog [("strings.asciiSpace", Rows.laid_strings_asciiSpace)] W := laidMet.tail (laidMet.tail (laidMet.tail (laidMet.tail h)))
  rw [data1] at h2
  exact Lib.tabIs_of_head (t := 316) (e := 5) (n := 256) named1 (by kernel_rfl) (by kernel_rfl) (by kernel_rfl) (by kernel_rfl) (by kernel_rfl) h2
theorem data3 : (Rows.laid_internal_strconv_uint64pow10 : DataW Unit) = Lib.tabData .u64 zs3 := by kernel_rfl
theorem named3 : Tryz.prog.globalNamed "internal/strconv.uint64pow10" = some 3 := by kernel_rfl
theorem tab3 {W : World} (h : laidMetH Tryz.prog Rows.txnHistoriesRow.laid W) : Lib.TabIs Tryz.prog W "internal/strconv.uint64pow10" .u64 zs3 := by
  have h2 : laidMet Tryz.prog [("internal/strconv.uint64pow10", Rows.laid_internal_strconv_uint64pow10), ("unicode.White_Space", Rows.laid_unicode_White_Space), ("strings.asciiSpace", Rows.laid_strings_asciiSpace)] W := laidMet.tail (laidMet.tail h)
  rw [data3] at h2
  exact Lib.tabIs_of_head (t := 370) (e := 238) (n := 20) named3 (by kernel_rfl) (by kernel_rfl) (by kernel_rfl) (by kernel_rfl) (by kernel_rfl) h2
theorem gl_tabs : gl = (((Tr.lf : Tr AVal).set (glBase + 1) (.p (tabP .u8 zs1))).set (glBase + 3) (.p (tabP .u64 zs3))) := gl_eq.trans (show ((Tr.lf.set (glBase + 1) g4097).set (glBase + 3) g4099) = _ by kernel_rfl)
theorem globOf {W : World} (h : laidMetH Tryz.prog Rows.txnHistoriesRow.laid W) : Glob gl (fun b _ => b < W.heap.size) W := by
  rw [gl_tabs]
  exact (glob_set (glob_set glob_empty (rep_tab (tab1 h) named1)) (rep_tab (tab3 h) named3))
def zs4 : List Int := [0, 1, 28, 2, 29, 14, 24, 3, 30, 22, 20, 15, 25, 17, 4, 8, 31, 27, 13, 23, 21, 19, 16, 7, 26, 12, 18, 6, 11, 5, 10, 9]
def zs5 : List Int := [0, 1, 56, 2, 57, 49, 28, 3, 61, 58, 42, 50, 38, 29, 17, 4, 62, 47, 59, 36, 45, 43, 51, 22, 53, 39, 33, 30, 24, 18, 12, 5, 63, 55, 48, 27, 60, 41, 37, 16, 46, 35, 44, 21, 52, 32, 23, 11, 54, 26, 40, 15, 34, 20, 31, 10, 25, 14, 19, 9, 13, 8, 7, 6]
noncomputable def laidWorld (os : Os) : World :=
  let N := (World.settled Tryz.prog os).heap.size
  let rows : List (List Nat) := [[9, 13, 1], [32, 133, 101], [160, 5760, 5600], [8192, 8202, 1], [8232, 8233, 1], [8239, 8287, 48], [12288, 12288, 1]]
  let w0 := World.holding Tryz.prog os ⟨#[
    .cells #[.slice (some ⟨N + 1, 0, none⟩) 7 7, .slice none 0 0, .int .i64 2] 352,
    .cells ((rows.flatMap fun r => r.map fun z => Value.int .u16 (Int.ofNat z)).toArray) 355], #[], []⟩
  let put (h : Array Obj) (g : Nat) (cs : Array Value) : Array Obj := h.modify g fun
    | .cells _ t frozen => .cells cs t frozen
    | o => o
  let ints (k : IntKind) (zs : List Int) : Array Value := (zs.map fun z => Value.int k z).toArray
  let h1 := put w0.heap 4 (ints .u8 zs4)
  let h2 := put h1 5 (ints .u8 zs5)
  let h3 := put h2 3 (ints .u64 zs3)
  let h4 := put h3 2 #[.pointer (some ⟨N, 0, none⟩)]
  let h5 := put h4 1 (ints .u8 zs1)
  { w0 with heap := h5 }
def wargs : Array Value := #[.slice none 0 0, .slice none 0 0]
theorem laid_met (os : Os) : laidMet Tryz.prog Rows.txnHistoriesRow.laid ((laidWorld os).forCall (fun _ _ => 0) ⟨#[], wargs, []⟩).memory :=
  laidMet_of_run' 8 (by kernel_rfl) (by kernel_rfl)
theorem reads (os : Os) {H : Type} (enc : TypeId × Value → H) : ∃ places, DataW.whole enc Tryz.prog ((laidWorld os).forCall (fun _ _ => 0) ⟨#[], wargs, []⟩).memory Tryz.f3.params.toList Rows.txnHistoriesSpec.vars false wargs.toList 8 = some ([.nil, .nil], [], places) :=
  ⟨[], by kernel_rfl⟩
set_option maxRecDepth 100000 in
theorem lifted (os : Os) (started : os.Started) (H : Type) (enc : TypeId × Value → H) (F : Stop.Interp) :
    ReturnsInHanded {} Tryz.checked os 3 .any ((OpenSpec.ofChange Rows.txnHistoriesSpec).preRow enc Tryz.prog Tryz.f3 Rows.txnHistoriesRow.domain false Rows.txnHistoriesRow.laid) (((OpenSpec.ofChange Rows.txnHistoriesSpec).at F).post enc Tryz.prog Tryz.f3 false true false false) := by
  obtain ⟨places, hx⟩ := reads os enc
  refine returnsInHanded_of_row (C := Tryz.checked) (s := OpenSpec.ofChange Rows.txnHistoriesSpec) own started (by kernel_rfl) Tryz.func3
    (witness_row_atRef (enc := enc) (C := Tryz.checked) false (laidWorld os) wargs rfl (by kernel_rfl) (by kernel_rfl) (by kernel_rfl)
      (OpenSpec.preRow_of_cond 8 hx (by kernel_rfl) (fun k hk => by cases hk) (by kernel_rfl) (laid_met os))) ?_
  intro W base args ds gs before hval hW _ _ _ hL _ _
  exact contract H enc W base args ds gs before hval hW (globOf hL)
set_option maxRecDepth 100000 in
theorem said : Rows.TxnHistoriesSaid :=
  OpenClaim.holds_of_cond 3 Tryz.f3 rfl rfl rfl rfl rfl rfl rfl ⟨rfl, rfl, rfl, rfl, rfl⟩ rfl rfl rfl rfl rfl named Tryz.func3 facts inst wrapper
    (fun os started H enc _ F => by rw [OpenClaim.pre_eq_preRow]; exact lifted os started H enc F)
theorem stand22 : Tryz.pinned.checked.prog.wantsStandIn 22 = false := by kernel_rfl
theorem stand23 : Tryz.pinned.checked.prog.wantsStandIn 23 = false := by kernel_rfl
theorem paramsAre {j t : Nat} (ht : (#[22, 23] : Array Nat)[j]? = some t) : t = 22 ∨ t = 23 := by
  match j, ht with
  | 0, ht => exact .inl (by simpa using ht.symm)
  | 1, ht => exact .inr (by simpa using ht.symm)
  | j + 2, ht => simp at ht
set_option maxRecDepth 100000 in
theorem plain (f : FuncId) (fn : Func) (hf : Tryz.pinned.checked.prog.funcNamed "sward/swardlaw19.TxnHistories" = some f) (hfn : Tryz.pinned.checked.prog.funcs[f]? = some fn) :
    true = Tryz.pinned.checked.prog.looks [] ∧ ∀ (j : Nat) t, fn.params[j]? = some t → Tryz.pinned.checked.prog.wantsStandIn t = false := by
  obtain rfl : f = 3 := Option.some.inj (named.symm.trans hf) |>.symm
  obtain rfl : fn = Tryz.f3 := (Option.some.inj (Tryz.func3.symm.trans hfn)).symm
  refine ⟨looks, fun j t ht => ?_⟩
  rw [show Tryz.f3.params = #[22, 23] by kernel_rfl] at ht
  rcases paramsAre ht with rfl | rfl
  · exact stand22
  · exact stand23
theorem card : Rows.TxnHistoriesCardSaid :=
  Claim7.holds_tied_plain_at .later [] _ _ _ _ said (fun _ h => by cases h) byText (fun _ h => by cases h) txnHistories_row_tie rfl ⟨rfl, rfl⟩ mainIs rfl plain cardGoes
end Go.Proofs.YtlcbgidfdkbfcaaGreatDoor
