/- FindKnown: the call returns true, whatever the world, where the listed package variables hold what the row lists. -/
import Derived.Test.YtceccojmekpneaaGreatDoorCards
import Derived.Test.YtceccojmekpneaaGreatDoorTie
import Derived.WalkKit
import Derived.ProofKit
import Derived.OpenShut
import Derived.Deep.DeepHandedRow
import Derived.Deep.DeepWitnessRowRef
import Derived.Lib.LaidTab
import Derived.Stop.LaidErr
import Derived.Test.YtceccojmekpneaaGreatDoorEvC
import Derived.Test.YtceccojmekpneaaGreatDoorTfF
import Derived.Test.YtceccojmekpneaaGreatDoorTfG
import Derived.Test.YtceccojmekpneaaGreatDoorTfH
import Derived.Test.YtceccojmekpneaaGreatDoorTfkL10
namespace Go.Proofs.YtceccojmekpneaaGreatDoor
open Go.ChangeShapes Go.WideShapes Go.ChangeAt Go.RowKit Go.Proofs.YtceccojmekpneaaGreatDoor.Sw

def zs2 : List Int := (List.range 256).map fun i => if i ∈ [9, 10, 11, 12, 13, 32] then .ofNat 1 else .ofNat 0
def zs4 : List Int := (List.range 20).map fun i => .ofNat (10 ^ i)
def zs0 : List Int := [0, 1, 28, 2, 29, 14, 24, 3, 30, 22, 20, 15, 25, 17, 4, 8, 31, 27, 13, 23, 21, 19, 16, 7, 26, 12, 18, 6, 11, 5, 10, 9]
def zs5 : List Int := [0, 1, 56, 2, 57, 49, 28, 3, 61, 58, 42, 50, 38, 29, 17, 4, 62, 47, 59, 36, 45, 43, 51, 22, 53, 39, 33, 30, 24, 18, 12, 5, 63, 55, 48, 27, 60, 41, 37, 16, 46, 35, 44, 21, 52, 32, 23, 11, 54, 26, 40, 15, 34, 20, 31, 10, 25, 14, 19, 9, 13, 8, 7, 6]
theorem own : ownKnob Tryz.prog.godebug = none := by kernel_rfl
theorem data2 : (Rows.laid_strings_asciiSpace : DataW Unit) = Lib.tabData .u8 zs2 := by kernel_rfl
theorem named2 : Tryz.prog.globalNamed "strings.asciiSpace" = some 2 := by kernel_rfl
theorem tab2 {W : World} (h : laidMetH Tryz.prog Rows.findKnownRow.laid W) : Lib.TabIs Tryz.prog W "strings.asciiSpace" .u8 zs2 := by
  have h2 : laidMet Tryz.prog [("strings.asciiSpace", Rows.laid_strings_asciiSpace)] W := laidMet.tail (laidMet.tail (laidMet.tail (laidMet.tail h)))
  rw [data2] at h2
  exact Lib.tabIs_of_head (t := 466) (e := 5) (n := 256) named2 (by kernel_rfl) (by kernel_rfl) (by kernel_rfl) (by kernel_rfl) (by kernel_rfl) h2
theorem data4 : (Rows.laid_internal_strconv_uint64pow10 : DataW Unit) = Lib.tabData .u64 zs4 := by kernel_rfl
theorem named4 : Tryz.prog.globalNamed "internal/strconv.uint64pow10" = some 4 := by kernel_rfl
theorem tab4 {W : World} (h : laidMetH Tryz.prog Rows.findKnownRow.laid W) : Lib.TabIs Tryz.prog W "internal/strconv.uint64pow10" .u64 zs4 := by
  have h2 : laidMet Tryz.prog [("internal/strconv.uint64pow10", Rows.laid_internal_strconv_uint64pow10), ("unicode.White_Space", Rows.laid_unicode_White_Space), ("strings.asciiSpace", Rows.laid_strings_asciiSpace)] W := laidMet.tail (laidMet.tail h)
  rw [data4] at h2
  exact Lib.tabIs_of_head (t := 514) (e := 374) (n := 20) named4 (by kernel_rfl) (by kernel_rfl) (by kernel_rfl) (by kernel_rfl) (by kernel_rfl) h2
theorem data0 : (Rows.laid_math_bits_deBruijn32tab : DataW Unit) = Lib.tabData .u8 zs0 := by kernel_rfl
theorem named0 : Tryz.prog.globalNamed "math/bits.deBruijn32tab" = some 0 := by kernel_rfl
theorem tab0 {W : World} (h : laidMetH Tryz.prog Rows.findKnownRow.laid W) : Lib.TabIs Tryz.prog W "math/bits.deBruijn32tab" .u8 zs0 := by
  have h2 : laidMet Tryz.prog [("math/bits.deBruijn32tab", Rows.laid_math_bits_deBruijn32tab), ("math/bits.deBruijn64tab", Rows.laid_math_bits_deBruijn64tab), ("internal/strconv.uint64pow10", Rows.laid_internal_strconv_uint64pow10), ("unicode.White_Space", Rows.laid_unicode_White_Space), ("strings.asciiSpace", Rows.laid_strings_asciiSpace)] W := h
  rw [data0] at h2
  exact Lib.tabIs_of_head (t := 391) (e := 5) (n := 32) named0 (by kernel_rfl) (by kernel_rfl) (by kernel_rfl) (by kernel_rfl) (by kernel_rfl) h2
theorem data5 : (Rows.laid_math_bits_deBruijn64tab : DataW Unit) = Lib.tabData .u8 zs5 := by kernel_rfl
theorem named5 : Tryz.prog.globalNamed "math/bits.deBruijn64tab" = some 5 := by kernel_rfl
theorem tab5 {W : World} (h : laidMetH Tryz.prog Rows.findKnownRow.laid W) : Lib.TabIs Tryz.prog W "math/bits.deBruijn64tab" .u8 zs5 := by
  have h2 : laidMet Tryz.prog [("math/bits.deBruijn64tab", Rows.laid_math_bits_deBruijn64tab), ("internal/strconv.uint64pow10", Rows.laid_internal_strconv_uint64pow10), ("unicode.White_Space", Rows.laid_unicode_White_Space), ("strings.asciiSpace", Rows.laid_strings_asciiSpace)] W := laidMet.tail h
  rw [data5] at h2
  exact Lib.tabIs_of_head (t := 516) (e := 5) (n := 64) named5 (by kernel_rfl) (by kernel_rfl) (by kernel_rfl) (by kernel_rfl) (by kernel_rfl) h2
theorem gl_tabs : gl = (((((Tr.lf : Tr AVal).set (glBase + 2) (.p (tabP .u8 zs2))).set (glBase + 4) (.p (tabP .u64 zs4))).set (glBase + 0) (.p (tabP .u8 zs0))).set (glBase + 5) (.p (tabP .u8 zs5))) := gl_eq.trans (show ((((Tr.lf.set (glBase + 2) g4098).set (glBase + 4) g4100).set (glBase + 0) g4096).set (glBase + 5) g4101) = _ by kernel_rfl)
/-- what the row lists, as the evaluator has it. -/
theorem globOf {W : World} (h : laidMetH Tryz.prog Rows.findKnownRow.laid W) : Glob gl (fun b _ => b < W.heap.size) W := by
  rw [gl_tabs]
  exact (glob_set (glob_set (glob_set (glob_set glob_empty (rep_tab (tab2 h) named2)) (rep_tab (tab4 h) named4)) (rep_tab (tab0 h) named0)) (rep_tab (tab5 h) named5))

/-- A WORLD FOR THE WITNESS: the settled one with two blocks more, the listed variables holding what their initialisers lay. -/
noncomputable def laidWorld (os : Os) : World :=
  let N := (World.settled Tryz.prog os).heap.size
  let rows : List (List Nat) := [[9, 13, 1], [32, 133, 101], [160, 5760, 5600], [8192, 8202, 1], [8232, 8233, 1], [8239, 8287, 48], [12288, 12288, 1]]
  let w0 := World.holding Tryz.prog os ⟨#[
    .cells #[.slice (some ⟨N + 1, 0, none⟩) 7 7, .slice none 0 0, .int .i64 2] 496,
    .cells ((rows.flatMap fun r => r.map fun z => Value.int .u16 (Int.ofNat z)).toArray) 499], #[], []⟩
  let put (h : Array Obj) (g : Nat) (cs : Array Value) : Array Obj := h.modify g fun
    | .cells _ t frozen => .cells cs t frozen
    | o => o
  let ints (k : IntKind) (zs : List Int) : Array Value := (zs.map fun z => Value.int k z).toArray
  let h1 := put w0.heap 0 (ints .u8 zs0)
  let h2 := put h1 5 (ints .u8 zs5)
  let h3 := put h2 4 (ints .u64 zs4)
  let h4 := put h3 3 #[.pointer (some ⟨N, 0, none⟩)]
  let h5 := put h4 2 (ints .u8 zs2)
  { w0 with heap := h5 }
theorem laid_met (os : Os) : laidMet Tryz.prog Rows.findKnownRow.laid ((laidWorld os).forCall (fun _ _ => 0) ⟨#[], #[], []⟩).memory :=
  laidMet_of_run' 8 (by kernel_rfl) (by kernel_rfl)
theorem reads (os : Os) {H : Type} (enc : TypeId × Value → H) : ∃ places, DataW.whole enc Tryz.prog ((laidWorld os).forCall (fun _ _ => 0) ⟨#[], #[], []⟩).memory Tryz.f3.params.toList Rows.findKnownSpec.vars false (#[] : Array Value).toList 8 = some ([], [], places) :=
  ⟨[], by kernel_rfl⟩

theorem contract (H : Type) (enc : TypeId × Value → H) (W : World) (args : Array Value) (ds gs : List (DataW H)) (before : List MemPlace)
    (hW : DataW.Whole enc Tryz.prog Tryz.f3.params.toList Rows.findKnownSpec.vars false W args.toList ds gs before) (hL : laidMetH Tryz.prog Rows.findKnownRow.laid W) :
    Calls Tryz.prog 3 args W fun e W' => ∃ v, e = .returned v ∧ Rows.findKnownSpec.post enc Tryz.prog Tryz.f3 false true false false W args v W' := by
  have hW' := hW
  obtain ⟨p, q, hA0, hV, rfl, hfz, hnd⟩ := hW
  have hA : DataW.TrodAll enc Tryz.prog W 0 (fun _ => true) true [] args.toList ds p := hA0
  obtain ⟨hargs, rfl, rfl⟩ := trodAll_nil hA
  obtain rfl : args = #[] := by cases args; simp_all
  obtain ⟨rfl, rfl⟩ := trodVars_none hV
  refine (known_true Tfk.k312 (globOf hL)).mono fun e W' ⟨he, hg⟩ => ?_
  subst he
  refine ⟨_, rfl, [], [], [], [], [], [], hW', ?_, trodAll_mk0, rfl, keptBut_of_below hg _, fun h => by cases h⟩
  exact trodAll_cons_mk (shut_bool Tryz.underlying4 _) trodAll_mk0

set_option maxRecDepth 100000 in
theorem lifted (os : Os) (started : os.Started) (H : Type) (enc : TypeId × Value → H) (F : Stop.Interp) :
    ReturnsInHanded {} Tryz.checked os 3 .any ((OpenSpec.ofChange Rows.findKnownSpec).preRow enc Tryz.prog Tryz.f3 Rows.findKnownRow.domain false Rows.findKnownRow.laid) (((OpenSpec.ofChange Rows.findKnownSpec).at F).post enc Tryz.prog Tryz.f3 false true false false) := by
  obtain ⟨places, hx⟩ := reads os enc
  refine returnsInHanded_of_row (C := Tryz.checked) (s := OpenSpec.ofChange Rows.findKnownSpec) own started (by kernel_rfl) Tryz.func3
    (witness_row_atRef (enc := enc) (C := Tryz.checked) false (laidWorld os) #[] rfl (by kernel_rfl) (by kernel_rfl) (by kernel_rfl)
      (OpenSpec.preRow_of_cond 8 hx (by kernel_rfl) (fun k hk => by cases hk) (by kernel_rfl) (laid_met os))) ?_
  intro W base args ds gs before _ hW _ _ _ hL _ _
  exact contract H enc W args ds gs before hW hL

set_option maxRecDepth 100000 in
theorem said : Rows.FindKnownSaid :=
  OpenClaim.holds_of_cond 3 Tryz.f3 rfl rfl rfl rfl rfl rfl rfl ⟨rfl, rfl, rfl, rfl, rfl⟩ rfl rfl rfl rfl rfl named Tryz.func3 facts inst wrapper
    (fun os started H enc _ F => by rw [OpenClaim.pre_eq_preRow]; exact lifted os started H enc F)

theorem plain (f : FuncId) (fn : Func) (hf : Tryz.pinned.checked.prog.funcNamed "sward/swardlaw21.FindKnown" = some f) (hfn : Tryz.pinned.checked.prog.funcs[f]? = some fn) :
    true = Tryz.pinned.checked.prog.looks [] ∧ ∀ (j : Nat) t, fn.params[j]? = some t → Tryz.pinned.checked.prog.wantsStandIn t = false := by
  obtain rfl : f = 3 := Option.some.inj (named.symm.trans hf) |>.symm
  obtain rfl : fn = Tryz.f3 := (Option.some.inj (Tryz.func3.symm.trans hfn)).symm
  refine ⟨looks, fun j t ht => ?_⟩
  rw [show Tryz.f3.params = #[] by kernel_rfl] at ht
  simp at ht

/-- THE CARD. -/
theorem card : Rows.FindKnownCardSaid :=
  Claim7.holds_tied_plain_at .later [] _ _ _ _ said (fun _ h => by cases h) byText (fun _ h => by cases h) findKnown_row_tie rfl ⟨rfl, rfl⟩ mainIs rfl plain goes
end Go.Proofs.YtceccojmekpneaaGreatDoor
