/- What the functions return, and that both answers are the same. Part A. -/
import Derived.Test.YtlcbgidfdkbfcaaGreatDoorEvD
import Derived.IntWalk
import Derived.Test.YtlcbgidfdkbfcaaGreatDoorXhB
import Derived.Test.YtlcbgidfdkbfcaaGreatDoorXhA
import Derived.Test.YtlcbgidfdkbfcaaGreatDoorThkL2
import Derived.Test.YtlcbgidfdkbfcaaGreatDoorRows
import Derived.ProofKit
import Derived.OpenShut
set_option linter.unusedVariables false
set_option linter.unusedSimpArgs false
/- Plain laws over residual texts: what the words that branch come to where what decides is known; small numbers; lists. -/
namespace Go.Proofs.YtlcbgidfdkbfcaaGreatDoor.Sw
section
variable {α : Type}
@[simp] theorem chk_t (x : Option α) : chk true x = x := rfl
@[simp] theorem chk_f (x : Option α) : chk false x = none := rfl
@[simp] theorem ifB_t (x y : Option α) : ifB true x y = x := rfl
@[simp] theorem ifB_f (x y : Option α) : ifB false x y = y := rfl
@[simp] theorem bindK_s {β : Type} (v : β) (K : β → Option α) : bindK (some v) K = K v := rfl
@[simp] theorem bindK_n {β : Type} (K : β → Option α) : bindK none K = none := rfl
@[simp] theorem listK_nil {β : Type} (A : Option α) (K : β → List β → Option α) : listK [] A K = A := rfl
@[simp] theorem listK_cons {β : Type} (x : β) (r : List β) (A : Option α) (K : β → List β → Option α) : listK (x :: r) A K = K x r := rfl
@[simp] theorem natK_ofNat (n : Nat) (K : Nat → Option α) : natK (Int.ofNat n) K = K n := rfl
@[simp] theorem natK_cast (n : Nat) (K : Nat → Option α) : natK (n : Int) K = K n := rfl
@[simp] theorem intK_int (k : IntKind) (z : Int) (K : Int → Option α) : intK k (.int k z) K = K z := by
  unfold intK; simp
@[simp] theorem boolK_bool (b : Bool) (K : Bool → Option α) : boolK (.bool b) K = K b := rfl
@[simp] theorem strK_str (l : List Nat) (K : List Nat → Option α) : strK (.str l) K = K l := rfl
@[simp] theorem aggK_agg (l : List PVal) (K : List PVal → Option α) : aggK (.agg l) K = K l := rfl
@[simp] theorem tupK_tup (l : List PVal) (K : List PVal → Option α) : tupK (.tup l) K = K l := rfl
@[simp] theorem slK_nils (K : List PVal → Option α) : slK .nils K = K [] := rfl
@[simp] theorem slK_sl (l : List PVal) (K : List PVal → Option α) : slK (.sl l) K = K l := rfl
@[simp] theorem ipK_ip (v : PVal) (K : PVal → Option α) : ipK (.ip v) K = K v := rfl
@[simp] theorem fnK_fn (f : Nat) (c : List PVal) (K : Nat → List PVal → Option α) : fnK (.fn (.func f) c) K = K f c := rfl
@[simp] theorem ifK_if (t : Nat) (v : PVal) (K : Nat → PVal → Option α) : ifK (.iface t v) K = K t v := rfl
@[simp] theorem pK_p (v : PVal) (K : PVal → Option α) : pK (.p v) K = K v := rfl
@[simp] theorem nclK_nils (A : Option α) (K : List PVal → Option α) : nclK (.p .nils) A K = A := rfl
@[simp] theorem nclK_cl (l : List PVal) (A : Option α) (K : List PVal → Option α) : nclK (.cl l) A K = K l := rfl
@[simp] theorem nownK_nils (A : Option α) (K : Nat → List PVal → Option α) : nownK (.p .nils) A K = A := rfl
@[simp] theorem nownK_own (n : Nat) (l : List PVal) (A : Option α) (K : Nat → List PVal → Option α) : nownK (.own n l) A K = K n l := rfl
@[simp] theorem consK_cons (x : PVal) (r : List PVal) (K : PVal → List PVal → Option α) : consK (x :: r) K = K x r := rfl
@[simp] theorem endK_nil (x : Option α) : endK [] x = x := rfl
@[simp] theorem nslK_nils (A : Option α) (K : List PVal → Option α) : nslK .nils A K = A := rfl
@[simp] theorem nslK_sl (l : List PVal) (A : Option α) (K : List PVal → Option α) : nslK (.sl l) A K = K l := rfl
@[simp] theorem nilSK_nils (K : Bool → Option α) : nilSK .nils K = K true := rfl
@[simp] theorem nilSK_sl (l : List PVal) (K : Bool → Option α) : nilSK (.sl l) K = K false := rfl
theorem nthK_get {β : Type} {l : List β} {n : Nat} {x : β} (h : l[n]? = some x) (K : β → Option α) : nthK l n K = K x := by
  unfold nthK; rw [nth_eq, h]
theorem ble_of {m n : Nat} (h : m ≤ n) : Nat.ble m n = true := Nat.ble_eq_true_of_le h
theorem blt_of {m n : Nat} (h : m < n) : Nat.blt m n = true := Nat.ble_eq_true_of_le h
@[simp] theorem beq_self' (n : Nat) : Nat.beq n n = true := Nat.beq_refl n
@[simp] theorem isAggP_int (k : IntKind) (n : Int) : isAggP (.int k n) = false := rfl
@[simp] theorem oneP_int (k : IntKind) (n : Int) : oneP (.int k n) = true := rfl
theorem wrap_small {z : Int} (h0 : 0 ≤ z) (h : z < 4611686018427387904) : IntKind.wrap .i64 z = z := IntWalk.i64_in _ (by omega)
theorem wrap_nat {n : Nat} (h : n < 4611686018427387903) : IntKind.wrap .i64 (Int.ofNat n + Int.ofNat 1) = Int.ofNat (n + 1) := by
  rw [wrap_small]
  · rfl
  · simp only [Int.ofNat_eq_natCast]; omega
  · simp only [Int.ofNat_eq_natCast]; omega
end
inductive IsSl : PVal → List PVal → Prop where
  | nil : IsSl .nils []
  | sl (l : List PVal) : IsSl (.sl l) l
theorem IsSl.slK {α : Type} {x : PVal} {l : List PVal} (h : IsSl x l) (K : List PVal → Option α) : Sw.slK x K = K l := by
  cases h <;> rfl
theorem IsSl.slice {x : PVal} {l : List PVal} (h : IsSl x l) (a b : Nat) : IsSl (sliceP x a b) ((l.drop a).take (b - a)) := by
  cases h with
  | nil => simp only [sliceP, List.drop_nil, List.take_nil]; exact .nil
  | sl l => exact .sl _
def encS (l : List PVal) : PVal := match l with
  | [] => .nils
  | l => .sl l
theorem encS_is (l : List PVal) : IsSl (encS l) l := by
  cases l with
  | nil => exact .nil
  | cons x l => exact .sl _
def ei (n : Nat) : PVal := .int .i64 (Int.ofNat n)
def encL (l : List Nat) : PVal := encS (l.map ei)
theorem encL_is (l : List Nat) : IsSl (encL l) (l.map ei) := encS_is _
end Go.Proofs.YtlcbgidfdkbfcaaGreatDoor.Sw
namespace Go.Proofs.YtlcbgidfdkbfcaaGreatDoor
open Go Go.Proofs.YtlcbgidfdkbfcaaGreatDoor.Sw
set_option maxRecDepth 100000
def bits (m : Nat) : List Nat := (List.range 8).filter fun i => m.testBit i
theorem tab_get {β : Type} {f g : Nat → β} {n : Nat} (h : (List.range n).map f = (List.range n).map g) {m : Nat} (hm : m < n) : f m = g m := by
  have := congrArg (·[m]?) h
  simpa [List.getElem?_map, List.getElem?_range hm] using this
theorem list_tab (k : Nat) (rec : Rec1) : (List.range 256).map (fun m => F_tLi (k + 10) rec (.int .u64 (Int.ofNat m))) = (List.range 256).map (fun m => some (.p (encL (bits m)))) := by kernel_rfl
theorem list_spec (k : Nat) (rec : Rec1) {m : Nat} (hm : m < 256) : F_tLi (k + 10) rec (.int .u64 (Int.ofNat m)) = some (.p (encL (bits m))) := tab_get (list_tab k rec) hm
def without (m t : Nat) : Nat := m &&& (255 ^^^ (1 <<< t))
theorem without_tab : (List.range 2048).map (fun i => bAndNot .u64 (Int.ofNat (i / 8)) (IntKind.wrap .u64 (Int.ofNat 1 * Int.ofNat 2 ^ min (Int.toNat (Int.ofNat (i % 8))) 64))) = (List.range 2048).map (fun i => Int.ofNat (without (i / 8) (i % 8))) := by kernel_rfl
theorem bits_without_tab : (List.range 2048).map (fun i => bits (without (i / 8) (i % 8))) = (List.range 2048).map (fun i => (bits (i / 8)).filter (fun x => !Nat.beq x (i % 8))) := by kernel_rfl
theorem or_tab : (List.range 2048).map (fun i => bOr .u64 (Int.ofNat (i / 8)) (IntKind.wrap .u64 (Int.ofNat 1 * Int.ofNat 2 ^ min (Int.toNat (Int.ofNat (i % 8))) 64))) = (List.range 2048).map (fun i => Int.ofNat ((i / 8) ||| (1 <<< (i % 8)))) := by kernel_rfl
theorem comes_tab : (List.range 2048).map (fun i => (bAnd .u64 (Int.fdiv (Int.ofNat (i / 8)) (Int.ofNat 2 ^ min (Int.toNat (Int.ofNat (i % 8))) 64)) (Int.ofNat 1) == Int.ofNat 1)) = (List.range 2048).map (fun i => (i / 8).testBit (i % 8)) := by kernel_rfl
end Go.Proofs.YtlcbgidfdkbfcaaGreatDoor
namespace Go.Proofs.YtlcbgidfdkbfcaaGreatDoor
open Go Go.Proofs.YtlcbgidfdkbfcaaGreatDoor.Sw
set_option maxRecDepth 100000
structure NA where
  t : Nat
  w : Bool
  v : Nat
def enN (a : NA) : PVal := .agg [ei a.t, .bool a.w, ei a.v]
def eu (n : Nat) : PVal := .int .u64 (Int.ofNat n)
def cells (e : List Nat) (m : Nat) : List PVal := e.map eu ++ [eu m]
structure GE (e : List Nat) : Prop where
  len : e.length = 8
  lt : ∀ i, e.getD i 0 < 256
def addE (e : List Nat) (i t : Nat) : List Nat := e.set i (e.getD i 0 ||| (1 <<< t))
theorem or_spec {m t : Nat} (hm : m < 256) (ht : t < 8) : bOr .u64 (Int.ofNat m) (IntKind.wrap .u64 (Int.ofNat 1 * Int.ofNat 2 ^ min (Int.toNat (Int.ofNat t)) 64)) = Int.ofNat (m ||| (1 <<< t)) := by
  have := tab_get or_tab (m := m * 8 + t) (by omega)
  have e1 : (m * 8 + t) / 8 = m := by omega
  have e2 : (m * 8 + t) % 8 = t := by omega
  rw [e1, e2] at this
  exact this
theorem or_lt {m t : Nat} (hm : m < 256) (ht : t < 8) : m ||| (1 <<< t) < 256 := by
  have h2 : 1 <<< t < 2 ^ 8 := by
    rw [Nat.one_shiftLeft]
    exact Nat.pow_lt_pow_right (by omega) ht
  exact Nat.or_lt_two_pow (n := 8) hm h2
theorem GE.add {e : List Nat} (h : GE e) {i t : Nat} (ht : t < 8) : GE (addE e i t) := by
  refine ⟨by simp [addE, h.len], fun j => ?_⟩
  unfold addE
  by_cases hj : j < e.length
  · by_cases hij : i = j
    · subst hij
      rw [List.getD_eq_getElem?_getD, List.getElem?_set_self hj]
      exact or_lt (h.lt i) ht
    · rw [List.getD_eq_getElem?_getD, List.getElem?_set_ne hij, ← List.getD_eq_getElem?_getD]
      exact h.lt j
  · rw [List.getD_eq_getElem?_getD, List.getElem?_eq_none (by simp; omega)]
    simp
theorem cells_get {e : List Nat} (h : GE e) (m : Nat) {i : Nat} (hi : i < 8) : (cells e m)[i]? = some (eu (e.getD i 0)) := by
  have hl := h.len
  unfold cells
  rw [List.getElem?_append_left (by simp; omega), List.getElem?_map, List.getD_eq_getElem?_getD]
  rw [List.getElem?_eq_getElem (by omega)]
  rfl
theorem cells_set {e : List Nat} (h : GE e) (m : Nat) {i x : Nat} (hi : i < 8) : (cells e m).set i (eu x) = cells (e.set i x) m := by
  have hl := h.len
  unfold cells
  rw [List.set_append_left _ _ (by simp; omega), List.map_set]
theorem cells_met {e : List Nat} (h : GE e) (m : Nat) : (cells e m)[8]? = some (eu m) := by
  have hl := h.len
  unfold cells
  rw [List.getElem?_append_right (by simp; omega)]
  simp [hl]
theorem cells_len {e : List Nat} (h : GE e) (m : Nat) : (cells e m).length = 9 := by simp [cells, h.len]
def innE (x : NA) (e : List Nat) : List NA → List Nat
  | [] => e
  | y :: r => innE x (if y.t ≠ x.t ∧ y.v = x.v ∧ (y.w = true ∨ x.w = true) then addE e y.t x.t else e) r
theorem innE_ge {x : NA} (hx : x.t < 8) : ∀ {r : List NA} {e : List Nat}, GE e → GE (innE x e r)
  | [], _, h => h
  | y :: r, e, h => by
    unfold innE
    split
    · exact innE_ge hx (h.add hx)
    · exact innE_ge hx h
theorem ofNat_bne (a b : Nat) : (Int.ofNat a != Int.ofNat b) = !decide (a = b) := by
  by_cases h : a = b
  · simp [h]
  · simp [h]; omega
theorem ofNat_beq (a b : Nat) : (Int.ofNat a == Int.ofNat b) = decide (a = b) := by
  by_cases h : a = b
  · simp [h]
  · simp [h]; omega
theorem ofNat_lt (a b : Nat) : decide (Int.ofNat a < Int.ofNat b) = decide (a < b) := by simp
theorem ofNat_neg (a : Nat) : decide (Int.ofNat a < Int.ofNat 0) = false := by simp
theorem told2 (k : Nat) (rec : Rec1) (kx : ExtTo_2 → Option AVal) {x7 x8 x11 : PVal} {z9 z10 : Int} {l14 : List PVal} {x : NA} {m : Nat} {ys : List NA} (hx : IsSl x11 (ys.map enN)) (ht : x.t < 8) (hlen : ys.length < 1000000) (hy : ∀ y ∈ ys, y.t < 8) :
    ∀ (suf pre : List NA) (e : List Nat) (j : Nat), ys = pre ++ suf → GE e → suf.length < j →
    L_tTo_2 k rec kx j (.a x7 x8 z9 z10 x11 (Int.ofNat ys.length) (Int.ofNat pre.length) l14 (cells e m) (Int.ofNat x.t) x.w (Int.ofNat x.v)) = kx (.a x7 x8 z9 z10 l14 (cells (innE x e suf) m)) := by
  intro suf
  induction suf with
  | nil =>
    intro pre e j hys he hj
    obtain ⟨j, rfl⟩ : ∃ i, j = i + 1 := ⟨j - 1, by omega⟩
    subst hys
    simp only [L_tTo_2, S_tTo_2, ofNat_lt, List.append_nil, Nat.lt_irrefl, decide_false, ifB_f, innE]
  | cons y suf ih =>
    intro pre e j hys he hj
    obtain ⟨j, rfl⟩ : ∃ i, j = i + 1 := ⟨j - 1, by omega⟩
    have hpl : pre.length < ys.length := by rw [hys]; simp
    have hget : (ys.map enN)[pre.length]? = some (enN y) := by rw [hys]; simp
    have hyt : y.t < 8 := hy y (by rw [hys]; simp)
    have hys2 : ys = (pre ++ [y]) ++ suf := by rw [hys]; simp
    have hj2 : suf.length < j := by simp at hj; omega
    have hw : IntKind.wrap .i64 (Int.ofNat pre.length + Int.ofNat 1) = Int.ofNat (pre ++ [y]).length := by
      rw [wrap_nat (by omega)]; simp
    have next : ∀ e', GE e' → L_tTo_2 k rec kx j (.a x7 x8 z9 z10 x11 (Int.ofNat ys.length) (IntKind.wrap .i64 (Int.ofNat pre.length + Int.ofNat 1)) l14 (cells e' m) (Int.ofNat x.t) x.w (Int.ofNat x.v)) = kx (.a x7 x8 z9 z10 l14 (cells (innE x e' suf) m)) := by
      intro e' he'
      rw [hw]
      exact ih (pre ++ [y]) e' j hys2 he' hj2
    have upd : (cells e m).set (0 + y.t * 1) (.int .u64 (bOr .u64 (Int.ofNat (e.getD y.t 0)) (IntKind.wrap .u64 (Int.ofNat 1 * Int.ofNat 2 ^ min (Int.toNat (Int.ofNat x.t)) 64)))) = cells (addE e y.t x.t) m := by
      rw [or_spec (he.lt _) ht, Nat.zero_add, Nat.mul_one]
      exact cells_set he m hyt
    have get : ∀ {K : PVal → Option AVal}, nthK (cells e m) (0 + y.t * 1) K = K (eu (e.getD y.t 0)) := by
      intro K
      rw [Nat.zero_add, Nat.mul_one]
      exact nthK_get (cells_get he m hyt) K
    have hlt9 : Nat.blt (0 + y.t * 1) (cells e m).length = true := by
      rw [cells_len he]; exact blt_of (by omega)
    simp only [L_tTo_2, S_tTo_2, ofNat_lt, hpl, decide_true, ifB_t, hx.slK, natK_ofNat, nthK_get hget, enN, ei, aggK_agg, consK_cons, intK_int, boolK_bool, endK_nil, ofNat_bne, ofNat_beq, innE]
    by_cases h1 : y.t = x.t
    · simp only [h1, decide_true, Bool.not_true, ifB_f, ne_eq, not_true_eq_false, false_and, if_false]
      exact next e he
    · by_cases h2 : y.v = x.v
      · cases hyw : y.w with
        | true =>
          simp only [h1, h2, decide_true, decide_false, Bool.not_false, ifB_t, ne_eq, not_false_eq_true, true_and, true_or, if_true, blt_of hyt, chk_t, get, eu, intK_int, hlt9, upd]
          exact next _ (he.add ht)
        | false =>
          cases hxw : x.w with
          | true =>
            simp only [h1, h2, decide_true, decide_false, Bool.not_false, ifB_t, ne_eq, not_false_eq_true, true_and, or_true, if_true, blt_of hyt, chk_t, get, eu, intK_int, ifB_f, hlt9, upd]
            rw [← hxw]
            exact next _ (he.add ht)
          | false =>
            simp only [h1, h2, decide_true, decide_false, Bool.not_false, ifB_t, ne_eq, not_false_eq_true, true_and, ifB_f, Bool.false_eq_true, or_self, if_false]
            rw [← hxw]
            exact next e he
      · simp only [h1, h2, decide_false, Bool.not_false, ifB_t, ifB_f, false_and, and_false, if_false]
        exact next e he
structure Act where
  t : Int
  w : Bool
  v : Int
def enA (a : Act) : PVal := .agg [.int .i64 a.t, .bool a.w, .int .i64 a.v]
def okA (a : Act) : Bool := decide (0 ≤ a.t) && decide (a.t < 8) && decide (0 ≤ a.v) && decide (a.v < 5)
def naA (a : Act) : NA := ⟨a.t.toNat, a.w, a.v.toNat⟩
theorem enA_na {a : Act} (h : okA a = true) : enA a = enN (naA a) := by
  simp only [okA, Bool.and_eq_true, decide_eq_true_eq] at h
  obtain ⟨⟨⟨h1, h2⟩, h3⟩, h4⟩ := h
  simp only [enA, enN, naA, ei, Int.ofNat_eq_natCast, Int.toNat_of_nonneg h1, Int.toNat_of_nonneg h3]
theorem naA_lt {a : Act} (h : okA a = true) : (naA a).t < 8 := by
  simp only [okA, Bool.and_eq_true, decide_eq_true_eq] at h
  simp only [naA]; omega
def toldL (seen : List NA) (e : List Nat) (m : Nat) : List Act → Option (List Nat × Nat)
  | [] => some (e, m)
  | x :: r => if okA x = true then toldL (seen ++ [naA x]) (innE (naA x) e seen) (m ||| (1 <<< (naA x).t)) r else none
theorem zeros_eq {e0 : List Nat} {m0 : Nat} (h : GE e0) : (PVal.int IntKind.u64 (Int.ofNat 0)) :: ((PVal.int IntKind.u64 (Int.ofNat 0)) :: ((PVal.int IntKind.u64 (Int.ofNat 0)) :: ((PVal.int IntKind.u64 (Int.ofNat 0)) :: ((PVal.int IntKind.u64 (Int.ofNat 0)) :: ((PVal.int IntKind.u64 (Int.ofNat 0)) :: ((PVal.int IntKind.u64 (Int.ofNat 0)) :: ((PVal.int IntKind.u64 (Int.ofNat 0)) :: ((PVal.int IntKind.u64 (Int.ofNat 0)) :: (List.drop 9 (cells e0 m0)))))))))) = cells (List.replicate 8 0) 0 := by
  rw [List.drop_eq_nil_of_le (by rw [cells_len h]; exact Nat.le_refl 9)]
  rfl
theorem told0 (k : Nat) (rec : Rec1) (kx : ExtTo_0 → Option AVal) {x46 x47 : PVal} {hs : List Act} (h46 : IsSl x46 (hs.map enA)) (h47 : IsSl x47 (hs.map enA)) (hlen : hs.length < 1000) (hk : hs.length < k) {e0 : List Nat} {m0 : Nat} (h0 : GE e0) :
    ∀ (suf pre : List Act) (e : List Nat) (m j : Nat), hs = pre ++ suf → (∀ a ∈ pre, okA a = true) → GE e → m < 256 → suf.length < j →
    L_tTo_0 k rec kx j (.a x46 x47 (Int.ofNat hs.length) (Int.ofNat pre.length) (cells e0 m0) (cells e m)) =
      (match toldL (pre.map naA) e m suf with
        | some (e', m') => kx (.b (cells e0 m0) (cells e' m'))
        | none => kx (.a (Int.ofNat 2) (cells (List.replicate 8 0) 0))) := by
  intro suf
  induction suf with
  | nil =>
    intro pre e m j hys hpre he hm hj
    obtain ⟨j, rfl⟩ : ∃ i, j = i + 1 := ⟨j - 1, by omega⟩
    subst hys
    simp only [L_tTo_0, S_tTo_0, ofNat_lt, List.append_nil, Nat.lt_irrefl, decide_false, ifB_f, toldL]
  | cons x suf ih =>
    intro pre e m j hys hpre he hm hj
    obtain ⟨j, rfl⟩ : ∃ i, j = i + 1 := ⟨j - 1, by omega⟩
    have hpl : pre.length < hs.length := by rw [hys]; simp
    have hget : (hs.map enA)[pre.length]? = some (enA x) := by rw [hys]; simp
    have hj2 : suf.length < j := by simp at hj; omega
    have e9 : Nat.ble 9 (cells e0 m0).length = true := by rw [cells_len h0]; rfl
    simp only [L_tTo_0, S_tTo_0, ofNat_lt, hpl, decide_true, ifB_t, h47.slK, natK_ofNat, nthK_get hget, enA, aggK_agg, consK_cons, intK_int, boolK_bool, endK_nil, zeros_eq h0, e9, chk_t, toldL]
    by_cases c1 : x.t < Int.ofNat 0
    · have : okA x = false := by
        simp only [okA, Bool.and_eq_false_iff, decide_eq_false_iff_not]
        simp at c1; omega
      simp only [c1, decide_true, ifB_t, this, Bool.false_eq_true, if_false]
    by_cases c2 : x.t ≥ Int.ofNat 8
    · have : okA x = false := by
        simp only [okA, Bool.and_eq_false_iff, decide_eq_false_iff_not]
        simp at c2; omega
      simp only [c1, c2, decide_true, decide_false, ifB_t, ifB_f, this, Bool.false_eq_true, if_false]
    by_cases c3 : x.v < Int.ofNat 0
    · have : okA x = false := by
        simp only [okA, Bool.and_eq_false_iff, decide_eq_false_iff_not]
        simp at c3; omega
      simp only [c1, c2, c3, decide_true, decide_false, ifB_t, ifB_f, this, Bool.false_eq_true, if_false]
    by_cases c4 : x.v ≥ Int.ofNat 5
    · have : okA x = false := by
        simp only [okA, Bool.and_eq_false_iff, decide_eq_false_iff_not]
        simp at c4; omega
      simp only [c1, c2, c3, c4, decide_true, decide_false, ifB_t, ifB_f, this, Bool.false_eq_true, if_false]
    have hok : okA x = true := by
      simp only [okA, Bool.and_eq_true, decide_eq_true_eq]
      simp at c1 c2 c3 c4; omega
    have hxt := naA_lt hok
    have hx1 : x.t = Int.ofNat (naA x).t := by simp [naA]; simp at c1; omega
    have hx2 : x.v = Int.ofNat (naA x).v := by simp [naA]; simp at c3; omega
    have hx3 : x.w = (naA x).w := rfl
    have hpreN : (pre.map enA) = (pre.map naA).map enN := by
      rw [List.map_map]
      exact List.map_congr_left fun a ha => enA_na (hpre a ha)
    have hlenN : (List.take pre.length (hs.map enA)) = (pre.map naA).map enN := by
      rw [← hpreN, hys]; simp
    have hw3 : wide 3 (hs.map enA) = true := by
      rw [hys]
      cases pre with
      | nil => rfl
      | cons a p => rfl
    have hsl : IsSl (sliceP x46 0 pre.length) ((pre.map naA).map enN) := by
      have := h46.slice 0 pre.length
      simpa [hlenN] using this
    have hset : (cells e m).set 8 (.int .u64 (bOr .u64 (Int.ofNat m) (IntKind.wrap .u64 (Int.ofNat 1 * Int.ofNat 2 ^ min (Int.toNat x.t) 64)))) = cells e (m ||| (1 <<< (naA x).t)) := by
      rw [hx1, or_spec hm hxt]
      have hl := he.len
      unfold cells
      rw [List.set_append_right _ _ (by simp; omega)]
      simp [hl, eu]
    have hble : Nat.ble pre.length (hs.map enA).length = true := ble_of (by simp; omega)
    have hblt : Nat.blt 8 (cells e m).length = true := by rw [cells_len he]; rfl
    have hlN : ((List.length ((pre.map naA).map enN) : Nat) : Int) = Int.ofNat (pre.map naA).length := by simp
    simp only [c1, c2, c3, c4, decide_false, ifB_f, nthK_get (cells_met he m), eu, intK_int, hblt, chk_t, h46.slK, hble, hw3, hsl.slK, hset, hlN, hok, if_true]
    rw [hx1, hx2, hx3]
    have := told2 k rec (fun y => match y with | .a x70 x71 z72 z73 l74 l75 => L_tTo_0 k rec kx j (.a x70 x71 z72 (IntKind.wrap IntKind.i64 (z73 + (Int.ofNat 1))) l74 l75)) (x7 := x46) (x8 := x47) (z9 := Int.ofNat hs.length) (z10 := Int.ofNat pre.length) (l14 := cells e0 m0)
      (x := naA x) (m := m ||| (1 <<< (naA x).t)) hsl hxt (by simp; omega) (by
        intro y hy
        obtain ⟨a, ha, rfl⟩ := List.mem_map.1 hy
        exact naA_lt (hpre a ha)) (pre.map naA) [] e k rfl he (by simp; omega)
    refine Eq.trans this ?_
    have hw : IntKind.wrap .i64 (Int.ofNat pre.length + Int.ofNat 1) = Int.ofNat (pre ++ [x]).length := by
      rw [wrap_nat (by omega)]; simp
    simp only [hw]
    have := ih (pre ++ [x]) (innE (naA x) e (pre.map naA)) (m ||| (1 <<< (naA x).t)) j (by rw [hys]; simp) (by
      intro a ha
      rcases List.mem_append.1 ha with ha | ha
      · exact hpre a ha
      · simp at ha; rw [ha]; exact hok) (innE_ge hxt he) (or_lt hm hxt) hj2
    rw [this]
    simp
end Go.Proofs.YtlcbgidfdkbfcaaGreatDoor
namespace Go.Proofs.YtlcbgidfdkbfcaaGreatDoor
open Go Go.Proofs.YtlcbgidfdkbfcaaGreatDoor.Sw
set_option maxRecDepth 100000
def hit (a b : Nat) (y x : NA) : Bool := decide (y.t = a ∧ x.t = b ∧ a ≠ b ∧ y.v = x.v ∧ (y.w = true ∨ x.w = true))
def bef (a b : Nat) : List NA → Bool
  | [] => false
  | y :: r => r.any (hit a b y) || bef a b r
theorem bef_snoc {a b : Nat} {x : NA} : ∀ (l : List NA), bef a b (l ++ [x]) = (bef a b l || l.any fun y => hit a b y x)
  | [] => rfl
  | y :: l => by
    simp only [List.cons_append, bef, bef_snoc l, List.any_append, List.any_cons, List.any_nil, Bool.or_false]
    cases l.any (hit a b y) <;> cases hit a b y x <;> cases bef a b l <;> simp
def gb (e : List Nat) (a b : Nat) : Bool := (e.getD a 0).testBit b
theorem gb_add {e : List Nat} (he : GE e) {i t a b : Nat} (hi : i < 8) : gb (addE e i t) a b = (gb e a b || decide (i = a ∧ t = b)) := by
  have hl := he.len
  unfold gb addE
  by_cases hia : i = a
  · subst hia
    rw [List.getD_eq_getElem?_getD, List.getElem?_set_self (by omega)]
    simp only [Option.getD_some, Nat.testBit_or, Nat.one_shiftLeft, Nat.testBit_two_pow, true_and]
  · rw [List.getD_eq_getElem?_getD, List.getElem?_set_ne hia, ← List.getD_eq_getElem?_getD]
    simp [hia]
theorem gb_inn {x : NA} (hx : x.t < 8) {a b : Nat} : ∀ {r : List NA} {e : List Nat}, GE e → (∀ y ∈ r, y.t < 8) → gb (innE x e r) a b = (gb e a b || r.any fun y => hit a b y x)
  | [], e, he, _ => by simp [innE]
  | y :: r, e, he, hr => by
    have hy := hr y (List.mem_cons_self ..)
    have hr' : ∀ z ∈ r, z.t < 8 := fun z hz => hr z (List.mem_cons_of_mem _ hz)
    unfold innE
    by_cases c : y.t ≠ x.t ∧ y.v = x.v ∧ (y.w = true ∨ x.w = true)
    · rw [if_pos c, gb_inn hx (he.add hx) hr', gb_add he hy, List.any_cons, Bool.or_assoc]
      congr 2
      unfold hit
      apply decide_eq_decide.2
      constructor
      · rintro ⟨rfl, rfl⟩; exact ⟨rfl, rfl, c⟩
      · rintro ⟨rfl, rfl, _⟩; exact ⟨rfl, rfl⟩
    · rw [if_neg c, gb_inn hx he hr', List.any_cons]
      have : hit a b y x = false := by
        unfold hit
        apply decide_eq_false
        rintro ⟨rfl, rfl, h⟩
        exact c h
      rw [this, Bool.false_or]
structure Told (n : List NA) (e : List Nat) (m : Nat) : Prop where
  ge : GE e
  mlt : m < 256
  g : ∀ a b, gb e a b = bef a b n
  men : ∀ i, m.testBit i = n.any fun x => decide (x.t = i)
theorem toldL_all : ∀ (suf : List Act) (pre : List NA) (e : List Nat) (m : Nat), Told pre e m → (∀ y ∈ pre, y.t < 8) → suf.all okA = true →
    ∃ e' m', toldL pre e m suf = some (e', m') ∧ Told (pre ++ suf.map naA) e' m' := by
  intro suf
  induction suf with
  | nil => intro pre e m h _ _; exact ⟨e, m, rfl, by simpa using h⟩
  | cons x suf ih =>
    intro pre e m h hp ha
    simp only [List.all_cons, Bool.and_eq_true] at ha
    have hx := naA_lt ha.1
    have h' : Told (pre ++ [naA x]) (innE (naA x) e pre) (m ||| (1 <<< (naA x).t)) := by
      refine ⟨innE_ge hx h.ge, or_lt h.mlt hx, fun a b => ?_, fun i => ?_⟩
      · rw [gb_inn hx h.ge hp, bef_snoc, h.g]
      · rw [Nat.testBit_or, h.men, Nat.one_shiftLeft, Nat.testBit_two_pow]
        simp
    obtain ⟨e', m', h1, h2⟩ := ih (pre ++ [naA x]) _ _ h' (by
      intro y hy
      rcases List.mem_append.1 hy with hy | hy
      · exact hp y hy
      · simp at hy; rw [hy]; exact hx) ha.2
    refine ⟨e', m', ?_, ?_⟩
    · unfold toldL; rw [if_pos ha.1]; exact h1
    · simpa using h2
theorem toldL_none : ∀ (suf : List Act) (pre : List NA) (e : List Nat) (m : Nat), suf.all okA = false → toldL pre e m suf = none := by
  intro suf
  induction suf with
  | nil => intro pre e m h; simp at h
  | cons x suf ih =>
    intro pre e m h
    unfold toldL
    by_cases c : okA x = true
    · rw [if_pos c]
      apply ih
      simpa [c] using h
    · rw [if_neg c]
def zeros : List Nat := List.replicate 8 0
theorem zeros_ge : GE zeros := ⟨rfl, fun i => by
  unfold zeros
  rw [List.getD_eq_getElem?_getD, List.getElem?_replicate]
  split <;> decide⟩
theorem told_start : Told [] zeros 0 := ⟨zeros_ge, by decide, fun a b => by
  unfold gb zeros
  rw [List.getD_eq_getElem?_getD, List.getElem?_replicate]
  split <;> simp [bef], fun i => by simp⟩
def legal (hs : List Act) : Bool := hs.all okA && decide (hs.length ≤ 60)
def toldO (e : List Nat) (m : Nat) : PVal := .tup [.agg (cells e m), .int .i64 (Int.ofNat 0)]
def toldN : PVal := .tup [.agg (cells zeros 0), .int .i64 (Int.ofNat 2)]
theorem cells_take {e : List Nat} (h : GE e) (m : Nat) : List.take 9 (List.drop 0 (cells e m)) = cells e m := by
  rw [List.drop_zero, List.take_of_length_le (by rw [cells_len h]; exact Nat.le_refl 9)]
theorem told_ok {x : PVal} {hs : List Act} (h : IsSl x (hs.map enA)) (hl : legal hs = true) :
    ∃ e m, Told (hs.map naA) e m ∧ ∀ (k : Nat) (rec : Rec1), hs.length < k → F_tTo k rec x = some (.p (toldO e m)) := by
  simp only [legal, Bool.and_eq_true, decide_eq_true_eq] at hl
  obtain ⟨e, m, h1, h2⟩ := toldL_all hs [] zeros 0 told_start (by simp) hl.1
  refine ⟨e, m, by simpa using h2, fun k rec hk => ?_⟩
  have hge := h2.ge
  have hlen : ((List.length (hs.map enA) : Nat) : Int) = Int.ofNat hs.length := by simp
  have hle : decide (Int.ofNat hs.length > Int.ofNat 60) = false := by simp; omega
  have key := told0 k rec (fun y => match y with
      | .a z3 l4 => (chk (Nat.ble 9 (List.length l4))
          (some (AVal.p (PVal.tup [(PVal.agg (List.take 9 (List.drop 0 l4))), (PVal.int IntKind.i64 z3)]))))
      | .b l5 l6 => (chk (Nat.ble 9 (List.length l6))
          (chk (Nat.beq (List.length (List.take 9 (List.drop 0 l6))) 9)
            (chk (Nat.ble 9 (List.length l5))
              (chk (Nat.ble 9 (List.length (((List.take 0 l5) ++ (List.take 9 (List.drop 0 l6))) ++ (List.drop 9 l5))))
                (some (AVal.p (PVal.tup [(PVal.agg (List.take 9 (List.drop 0 (((List.take 0 l5) ++ (List.take 9 (List.drop 0 l6))) ++ (List.drop 9 l5))))), (PVal.int IntKind.i64 (Int.ofNat 0))]))))))))
    h h (by omega) hk zeros_ge (m0 := 0) hs [] zeros 0 k rfl (by simp) zeros_ge (by decide) hk
  simp only [List.map_nil] at key
  rw [h1] at key
  have hd : List.drop 9 (cells zeros 0) = [] := rfl
  have b1 : Nat.ble 9 (cells zeros 0).length = true := rfl
  have b2 : Nat.ble 9 (cells e m).length = true := by rw [cells_len hge]; rfl
  have b3 : Nat.beq (cells e m).length 9 = true := by rw [cells_len hge]; rfl
  unfold F_tTo
  simp only [h.slK, hlen, hle, ifB_f]
  refine Eq.trans key ?_
  simp only [cells_take hge, b1, b2, b3, chk_t, List.take_zero, List.nil_append, hd, List.append_nil]
  rfl
theorem told_no (k : Nat) (rec : Rec1) {x : PVal} {hs : List Act} (h : IsSl x (hs.map enA)) (hk : hs.length < k) (hl : legal hs = false) :
    F_tTo k rec x = some (.p toldN) := by
  have hlen : ((List.length (hs.map enA) : Nat) : Int) = Int.ofNat hs.length := by simp
  by_cases c : hs.length > 60
  · have hle : decide (Int.ofNat hs.length > Int.ofNat 60) = true := by simp; omega
    unfold F_tTo
    simp only [h.slK, hlen, hle, ifB_t]
    rfl
  have hle : decide (Int.ofNat hs.length > Int.ofNat 60) = false := by simp; omega
  have ha : hs.all okA = false := by
    simp only [legal, Bool.and_eq_false_iff, decide_eq_false_iff_not] at hl
    rcases hl with hl | hl
    · exact hl
    · omega
  have key := told0 k rec (fun y => match y with
      | .a z3 l4 => (chk (Nat.ble 9 (List.length l4))
          (some (AVal.p (PVal.tup [(PVal.agg (List.take 9 (List.drop 0 l4))), (PVal.int IntKind.i64 z3)]))))
      | .b l5 l6 => (chk (Nat.ble 9 (List.length l6))
          (chk (Nat.beq (List.length (List.take 9 (List.drop 0 l6))) 9)
            (chk (Nat.ble 9 (List.length l5))
              (chk (Nat.ble 9 (List.length (((List.take 0 l5) ++ (List.take 9 (List.drop 0 l6))) ++ (List.drop 9 l5))))
                (some (AVal.p (PVal.tup [(PVal.agg (List.take 9 (List.drop 0 (((List.take 0 l5) ++ (List.take 9 (List.drop 0 l6))) ++ (List.drop 9 l5))))), (PVal.int IntKind.i64 (Int.ofNat 0))]))))))))
    h h (by omega) hk zeros_ge (m0 := 0) hs [] zeros 0 k rfl (by simp) zeros_ge (by decide) hk
  simp only [List.map_nil] at key
  rw [toldL_none _ _ _ _ ha] at key
  unfold F_tTo
  simp only [h.slK, hlen, hle, ifB_f]
  exact key
theorem comes_spec {k : Nat} {rec : Rec1} {e : List Nat} (he : GE e) {m a b : Nat} (ha : a < 8) (hb : b < 8) :
    F_tCo k rec (.agg (cells e m)) (ei a) (ei b) = some (.p (.bool (gb e a b))) := by
  have h9 : Nat.beq (cells e m).length 9 = true := by rw [cells_len he]; rfl
  have get : ∀ {K : PVal → Option AVal}, nthK (cells e m) (0 + a * 1) K = K (eu (e.getD a 0)) := by
    intro K
    rw [Nat.zero_add, Nat.mul_one]
    exact nthK_get (cells_get he m ha) K
  have t := tab_get comes_tab (m := e.getD a 0 * 8 + b) (by have := he.lt a; omega)
  have e1 : (e.getD a 0 * 8 + b) / 8 = e.getD a 0 := by omega
  have e2 : (e.getD a 0 * 8 + b) % 8 = b := by omega
  rw [e1, e2] at t
  unfold F_tCo
  simp only [ei, intK_int, aggK_agg, h9, chk_t, natK_ofNat, blt_of ha, get, eu, ofNat_neg, ifB_f, t]
  rfl
end Go.Proofs.YtlcbgidfdkbfcaaGreatDoor
namespace Go.Proofs.YtlcbgidfdkbfcaaGreatDoor
open Go Go.Proofs.YtlcbgidfdkbfcaaGreatDoor.Sw
set_option maxRecDepth 100000
def eE (a b : Nat) : PVal := .agg [ei a, ei b]
def rowE (a : Nat) (l : List Nat) : List PVal := l.map (eE a)
def edgesN (g : Nat → Nat → Bool) (l : List Nat) : List PVal := l.flatMap fun a => rowE a ((List.range 8).filter (g a))
def edgesR (g : Nat → Nat → Bool) : PVal := .tup [encS (edgesN g (List.range 8)), .int .i64 (Int.ofNat 0)]
def sE2 (a : Nat) (c : List PVal) (x : PVal) (n i : Nat) : List PVal → St_tEd_2
  | [] => .a (Int.ofNat a) c (Int.ofNat a) x (Int.ofNat n) (Int.ofNat i)
  | y :: l => .b (y :: l).length (Int.ofNat a) c (Int.ofNat a) x (Int.ofNat n) (Int.ofNat i) (y :: l)
def xE2 (a : Nat) (c : List PVal) : List PVal → ExtEd_2
  | [] => .a c (Int.ofNat a)
  | y :: l => .b (y :: l).length c (Int.ofNat a) (y :: l)
theorem sE2_snoc (a : Nat) (c : List PVal) (x : PVal) (n i : Nat) (y : PVal) (l : List PVal) (z : PVal) : St_tEd_2.b ((y :: l).length + 1) (Int.ofNat a) c (Int.ofNat a) x (Int.ofNat n) (Int.ofNat i) ((y :: l) ++ [z]) = sE2 a c x n i ((y :: l) ++ [z]) := by
  simp [sE2]
theorem edges2 (k : Nat) (rec : Rec1) (kx : ExtEd_2 → Option AVal) {x : PVal} {a : Nat} {c : List PVal} {ys : List Nat} (hx : IsSl x (ys.map ei)) (hn : ys.length < 1000) :
    ∀ (suf pre : List Nat) (acc : List PVal) (j : Nat), ys = pre ++ suf → suf.length < j → acc.length + suf.length < 100000 →
    L_tEd_2 k rec kx j (sE2 a c x ys.length pre.length acc) = kx (xE2 a c (acc ++ rowE a suf)) := by
  intro suf
  induction suf with
  | nil =>
    intro pre acc j hys hj _
    obtain ⟨j, rfl⟩ : ∃ i, j = i + 1 := ⟨j - 1, by omega⟩
    subst hys
    cases acc with
    | nil => simp only [L_tEd_2, sE2, S_tEd_2, ofNat_lt, List.append_nil, Nat.lt_irrefl, decide_false, ifB_f, rowE, List.map_nil, xE2]
    | cons y l => simp only [L_tEd_2, sE2, S_tEd_2, ofNat_lt, List.append_nil, Nat.lt_irrefl, decide_false, ifB_f, rowE, List.map_nil, xE2]
  | cons b suf ih =>
    intro pre acc j hys hj ha
    obtain ⟨j, rfl⟩ : ∃ i, j = i + 1 := ⟨j - 1, by omega⟩
    have hpl : pre.length < ys.length := by rw [hys]; simp
    have hget : (ys.map ei)[pre.length]? = some (ei b) := by rw [hys]; simp
    have hj2 : suf.length < j := by simp at hj; omega
    have hw : IntKind.wrap .i64 (Int.ofNat pre.length + Int.ofNat 1) = Int.ofNat (pre ++ [b]).length := by
      rw [wrap_nat (by omega)]; simp
    have next := ih (pre ++ [b]) (acc ++ [eE a b]) j (by rw [hys]; simp) hj2 (by simp at ha ⊢; omega)
    have e1 : (acc ++ [eE a b]) ++ rowE a suf = acc ++ rowE a (b :: suf) := by simp [rowE]
    rw [e1] at next
    refine Eq.trans ?_ next
    cases acc with
    | nil => simp only [L_tEd_2, sE2, S_tEd_2, ofNat_lt, hpl, decide_true, ifB_t, hx.slK, natK_ofNat, nthK_get hget, ei, intK_int, hw, List.nil_append, eE, List.length_cons, List.length_nil]
    | cons y l =>
      have hb : Nat.ble (((y :: l).length + 1) * 16) 1099511627776 = true := ble_of (by simp at ha ⊢; omega)
      simp only [L_tEd_2, S_tEd_2, ofNat_lt, hpl, decide_true, ifB_t, hx.slK, natK_ofNat, nthK_get hget, ei, intK_int, hw, beq_self', hb, chk_t, sE2, eE]
      simp
def sE0 (c : List PVal) (i : Nat) : List PVal → St_tEd_0
  | [] => .a c (Int.ofNat i)
  | y :: l => .b (y :: l).length c (Int.ofNat i) (y :: l)
def xE0 : List PVal → ExtEd_0
  | [] => .a
  | y :: l => .b (y :: l).length (y :: l)
def c8 (e : List Nat) : List PVal := e.map eu
theorem c8_get {e : List Nat} (h : GE e) {i : Nat} (hi : i < 8) : (c8 e)[i * 1]? = some (eu (e.getD i 0)) := by
  have hl := h.len
  unfold c8
  rw [Nat.mul_one, List.getElem?_map, List.getD_eq_getElem?_getD, List.getElem?_eq_getElem (by omega)]
  rfl
theorem bits_len (m : Nat) : (bits m).length ≤ 8 := by
  unfold bits
  exact Nat.le_trans (List.length_filter_le _ _) (by simp)
theorem bits_row (e : List Nat) (a : Nat) : bits (e.getD a 0) = (List.range 8).filter (gb e a) := rfl
theorem edges0 (k : Nat) (rec : Rec1) (kx : ExtEd_0 → Option AVal) {e : List Nat} (he : GE e) (hk : 9 < k)
    (hL : ∀ m < 256, rec i_tLi [eu m] = some (.p (encL (bits m)))) :
    ∀ (r i : Nat) (acc : List PVal) (j : Nat), i + r = 8 → r < j → acc.length ≤ 8 * i →
    L_tEd_0 k rec kx j (sE0 (c8 e) i acc) = kx (xE0 (acc ++ edgesN (gb e) ((List.range 8).drop i))) := by
  intro r
  induction r with
  | zero =>
    intro i acc j hi hj _
    obtain ⟨j, rfl⟩ : ∃ i, j = i + 1 := ⟨j - 1, by omega⟩
    have : i = 8 := by omega
    subst this
    have e0 : edgesN (gb e) ((List.range 8).drop 8) = [] := rfl
    cases acc with
    | nil => simp only [L_tEd_0, sE0, S_tEd_0, ofNat_lt, Nat.lt_irrefl, decide_false, ifB_f, e0, List.append_nil, xE0]
    | cons y l => simp only [L_tEd_0, sE0, S_tEd_0, ofNat_lt, Nat.lt_irrefl, decide_false, ifB_f, e0, List.append_nil, xE0]
  | succ r ih =>
    intro i acc j hi hj ha
    obtain ⟨j, rfl⟩ : ∃ i, j = i + 1 := ⟨j - 1, by omega⟩
    have hi8 : i < 8 := by omega
    have hls := hL _ (he.lt i)
    have hbl := bits_len (e.getD i 0)
    have hlen : ((List.length ((bits (e.getD i 0)).map ei) : Nat) : Int) = Int.ofNat (bits (e.getD i 0)).length := by simp
    have hw : IntKind.wrap .i64 (Int.ofNat i + Int.ofNat 1) = Int.ofNat (i + 1) := wrap_nat (by omega)
    have next := ih (i + 1) (acc ++ rowE i (bits (e.getD i 0))) j (by omega) (by omega) (by rw [List.length_append]; unfold rowE; rw [List.length_map]; omega)
    have e1 : (acc ++ rowE i (bits (e.getD i 0))) ++ edgesN (gb e) ((List.range 8).drop (i + 1)) = acc ++ edgesN (gb e) ((List.range 8).drop i) := by
      rw [List.drop_eq_getElem_cons (l := List.range 8) (i := i) (by simpa using hi8)]
      rw [List.getElem_range, bits_row]
      simp only [edgesN, List.flatMap_cons, List.append_assoc]
    rw [e1] at next
    refine Eq.trans ?_ next
    have fin : ∀ l : List PVal, (fun y => match y with
          | .a l42 z43 => (L_tEd_0 k rec kx j (.a l42 (IntKind.wrap IntKind.i64 (z43 + (Int.ofNat 1)))))
          | .b n44 l45 z46 l47 => (L_tEd_0 k rec kx j (.b n44 l45 (IntKind.wrap IntKind.i64 (z46 + (Int.ofNat 1))) l47)) : ExtEd_2 → Option AVal) (xE2 i (c8 e) l) = L_tEd_0 k rec kx j (sE0 (c8 e) (i + 1) l) := by
      intro l
      cases l with
      | nil => simp only [xE2, sE0, hw]
      | cons y l => simp only [xE2, sE0, hw]
    have key := edges2 k rec (fun y => match y with
          | .a l42 z43 => (L_tEd_0 k rec kx j (.a l42 (IntKind.wrap IntKind.i64 (z43 + (Int.ofNat 1)))))
          | .b n44 l45 z46 l47 => (L_tEd_0 k rec kx j (.b n44 l45 (IntKind.wrap IntKind.i64 (z46 + (Int.ofNat 1))) l47))) (a := i) (c := c8 e) (encL_is (bits (e.getD i 0))) (by omega) (bits (e.getD i 0)) [] acc k rfl (by omega) (by omega)
    replace key := key.trans (fin _)
    cases acc with
    | nil =>
      simp only [L_tEd_0, sE0, S_tEd_0, ofNat_lt, hi8, decide_true, ifB_t, natK_ofNat, blt_of hi8, chk_t, nthK_get (c8_get he hi8)]
      simp only [eu, intK_int]
      simp only [eu] at hls
      simp only [hls, bindK_s, pK_p, (encL_is _).slK, hlen]
      exact key
    | cons y l =>
      simp only [L_tEd_0, sE0, S_tEd_0, ofNat_lt, hi8, decide_true, ifB_t, natK_ofNat, blt_of hi8, chk_t, nthK_get (c8_get he hi8)]
      simp only [eu, intK_int]
      simp only [eu] at hls
      simp only [hls, bindK_s, pK_p, (encL_is _).slK, hlen]
      exact key
theorem Edges_ok (k : Nat) (rec : Rec1) {x : PVal} {e : List Nat} {m : Nat} (he : GE e) (hk : 9 < k)
    (hT : rec i_tTo [x] = some (.p (toldO e m)))
    (hL : ∀ m < 256, rec i_tLi [eu m] = some (.p (encL (bits m)))) :
    F_tEd k rec x = some (.p (edgesR (gb e))) := by
  have h9 : Nat.beq (cells e m).length 9 = true := by rw [cells_len he]; rfl
  have h8 : Nat.ble 8 (cells e m).length = true := by rw [cells_len he]; rfl
  have hc : List.take 8 (List.drop 0 (cells e m)) = c8 e := by
    have hl := he.len
    rw [List.drop_zero]
    unfold cells c8
    rw [List.take_append_of_le_length (by simp; omega), List.take_of_length_le (by simp; omega)]
  have hne : (Int.ofNat 0 != Int.ofNat 0) = false := rfl
  have key := edges0 k rec (fun y => match y with
            | .a => (some (AVal.p (PVal.tup [PVal.nils, (PVal.int IntKind.i64 (Int.ofNat 0))])))
            | .b n10 l11 => (chk (Nat.ble (0 + n10) (List.length l11))
                (some (AVal.p (PVal.tup [(PVal.sl (List.take n10 (List.drop 0 l11))), (PVal.int IntKind.i64 (Int.ofNat 0))]))))) he hk hL 8 0 [] k rfl (by omega) (by simp)
  unfold F_tEd
  simp only [hT, bindK_s, pK_p, toldO, tupK_tup, consK_cons, intK_int, endK_nil, aggK_agg, h9, chk_t, hne, ifB_f, List.nil_append, List.append_nil, h8, hc]
  refine Eq.trans key ?_
  simp only [List.drop_zero, List.nil_append, edgesR]
  cases edgesN (gb e) (List.range 8) with
  | nil => rfl
  | cons y l =>
    have hb : Nat.ble (0 + (y :: l).length) (y :: l).length = true := ble_of (by simp)
    simp only [xE0, hb, chk_t, List.take_length, encS]
theorem Edges_no (k : Nat) (rec : Rec1) {x : PVal} (hT : rec i_tTo [x] = some (.p toldN)) :
    F_tEd k rec x = some (.p (.tup [.nils, .int .i64 (Int.ofNat 2)])) := by
  have h9 : Nat.beq (cells zeros 0).length 9 = true := rfl
  have hne : (Int.ofNat 2 != Int.ofNat 0) = true := rfl
  unfold F_tEd
  simp only [hT, bindK_s, pK_p, toldN, tupK_tup, consK_cons, intK_int, endK_nil, aggK_agg, h9, chk_t, hne, ifB_t]
end Go.Proofs.YtlcbgidfdkbfcaaGreatDoor
namespace Go.Proofs.YtlcbgidfdkbfcaaGreatDoor
open Go Go.Proofs.YtlcbgidfdkbfcaaGreatDoor.Sw
set_option maxRecDepth 100000
def ixF (q : Nat → Bool) (i : Nat) : List Nat → Int
  | [] => Int.negSucc 0
  | y :: r => if q y = true then Int.ofNat i else ixF q (i + 1) r
theorem ixF_any (q : Nat → Bool) : ∀ (l : List Nat) (i : Nat), decide (ixF q i l ≥ Int.ofNat 0) = l.any q
  | [], i => rfl
  | y :: r, i => by
    unfold ixF
    by_cases h : q y = true
    · rw [if_pos h]; simp [h]
    · rw [if_neg h, ixF_any q r]; simp [h]
theorem ixf_loop (k : Nat) (rec : Rec1) (kx : ExsXF_0 → Option AVal) {x : PVal} {f : Nat} {cap : List PVal} {ys : List Nat} {q : Nat → Bool} (hx : IsSl x (ys.map ei)) (hn : ys.length < 1000)
    (hf : Nat.ble 1000000 f = false) (hq : ∀ y ∈ ys, rec f (ei y :: cap) = some (.p (.bool (q y)))) :
    ∀ (suf pre : List Nat) (j : Nat), ys = pre ++ suf → suf.length < j →
    L_sXF_0 k rec kx j (.a x (.fn (.func f) cap) (Int.ofNat ys.length) (Int.ofNat pre.length)) =
      (if suf.any q = true then kx (.a (ixF q pre.length suf)) else kx .b) := by
  intro suf
  induction suf with
  | nil =>
    intro pre j hys hj
    obtain ⟨j, rfl⟩ : ∃ i, j = i + 1 := ⟨j - 1, by omega⟩
    subst hys
    simp only [L_sXF_0, S_sXF_0, ofNat_lt, List.append_nil, Nat.lt_irrefl, decide_false, ifB_f, List.any_nil, Bool.false_eq_true, if_false]
  | cons b suf ih =>
    intro pre j hys hj
    obtain ⟨j, rfl⟩ : ∃ i, j = i + 1 := ⟨j - 1, by omega⟩
    have hpl : pre.length < ys.length := by rw [hys]; simp
    have hget : (ys.map ei)[pre.length]? = some (ei b) := by rw [hys]; simp
    have hj2 : suf.length < j := by simp at hj; omega
    have hb := hq b (by rw [hys]; simp)
    have hw : IntKind.wrap .i64 (Int.ofNat pre.length + Int.ofNat 1) = Int.ofNat (pre ++ [b]).length := by
      rw [wrap_nat (by omega)]; simp
    have next := ih (pre ++ [b]) j (by rw [hys]; simp) hj2
    simp only [ei] at hb
    simp only [L_sXF_0, S_sXF_0, ofNat_lt, hpl, decide_true, ifB_t, hx.slK, natK_ofNat, nthK_get hget, ei, intK_int, fnK_fn, hf, Bool.not_false, chk_t, List.cons_append, List.nil_append, hb, bindK_s, pK_p, boolK_bool, List.any_cons, ixF]
    rcases Bool.eq_false_or_eq_true (q b) with hqb | hqb
    · simp only [hqb, ifB_t, Bool.true_or, if_true]
    · simp only [hqb, ifB_f, Bool.false_or, Bool.false_eq_true, if_false, hw]
      rw [next]
      simp
theorem IndexFunc_spec (k : Nat) (rec : Rec1) {x : PVal} {f : Nat} {cap : List PVal} {ys : List Nat} {q : Nat → Bool} (hx : IsSl x (ys.map ei)) (hn : ys.length < 1000) (hk : ys.length < k)
    (hf : Nat.ble 1000000 f = false) (hq : ∀ y ∈ ys, rec f (ei y :: cap) = some (.p (.bool (q y)))) :
    F_sXF k rec x (.fn (.func f) cap) = some (.p (.int .i64 (ixF q 0 ys))) := by
  have hlen : ((List.length (ys.map ei) : Nat) : Int) = Int.ofNat ys.length := by simp
  unfold F_sXF
  simp only [hx.slK, hlen]
  refine (ixf_loop k rec _ hx hn hf hq ys [] k rfl hk).trans ?_
  by_cases h : ys.any q = true
  · rw [if_pos h]; rfl
  · rw [if_neg h]
    have : ∀ (l : List Nat) (i : Nat), l.any q = false → ixF q i l = Int.negSucc 0 := by
      intro l
      induction l with
      | nil => intro i _; rfl
      | cons y r ih =>
        intro i hh
        simp only [List.any_cons, Bool.or_eq_false_iff] at hh
        unfold ixF
        rw [if_neg (by simp [hh.1]), ih _ hh.2]
    rw [this ys 0 (by simpa using h)]
theorem ContainsFunc_spec (k : Nat) (rec : Rec1) {x p1 : PVal} {ys : List Nat} {q : Nat → Bool}
    (hI : rec i_sXF [x, p1] = some (.p (.int .i64 (ixF q 0 ys)))) :
    F_sCF k rec x p1 = some (.p (.bool (ys.any q))) := by
  unfold F_sCF
  simp only [hI, bindK_s, pK_p, intK_int, ixF_any]
theorem Order1_spec (k : Nat) (rec : Rec1) {e : List Nat} {m o t : Nat} (he : GE e)
    (hC : rec i_tCo [.agg (cells e m), ei o, ei t] = some (.p (.bool (gb e o t)))) :
    F_tOr_1 k rec (ei o) (.ip (.agg (cells e m))) (.ip (ipOf [ei t])) = some (.p (.bool (gb e o t))) := by
  have h9 : Nat.beq (cells e m).length 9 = true := by rw [cells_len he]; rfl
  unfold F_tOr_1
  simp only [ei] at hC
  simp only [ei, ipOf, isAggP_int, intK_int, ipK_ip, aggK_agg, h9, chk_t, Bool.not_false, hC, bindK_s, pK_p, boolK_bool]
def pickG (g : Nat → Nat → Bool) (all : List Nat) : List Nat → Option Nat
  | [] => none
  | t :: r => if all.any (fun o => g o t) = true then pickG g all r else some t
def sO2 (m : Nat) (c : List PVal) (x : PVal) (n i : Nat) : List Nat → St_tOr_2
  | [] => .a (Int.ofNat m) x (Int.ofNat n) (Int.ofNat i) c
  | y :: l => .b (y :: l).length (Int.ofNat m) x (Int.ofNat n) (Int.ofNat i) c ((y :: l).map ei)
theorem order2 (k : Nat) (rec : Rec1) (kx : ExtOr_2 → Option AVal) {x : PVal} {e : List Nat} {m0 m : Nat} (he : GE e) (hm : m < 256) (hx : IsSl x ((bits m).map ei))
    (hL : ∀ m < 256, rec i_tLi [eu m] = some (.p (encL (bits m))))
    (hC : ∀ t < 8, rec i_sCF [encL (bits m), .fn (.func i_tOr_1) [.ip (.agg (cells e m0)), .ip (ipOf [ei t])]] = some (.p (.bool ((bits m).any fun o => gb e o t)))) (acc : List Nat) (hacc : acc.length < 1000) :
    ∀ (suf pre : List Nat) (j : Nat), bits m = pre ++ suf → suf.length < j →
    L_tOr_2 k rec kx j (sO2 m (cells e m0) x (bits m).length pre.length acc) =
      (match pickG (gb e) (bits m) suf with
        | none => kx .b
        | some t => kx (.a (acc.length + 1) (Int.ofNat (without m t)) (cells e m0) ((acc ++ [t]).map ei))) := by
  intro suf
  have hbl := bits_len m
  have hc1 : Nat.blt 1 (cells e m0).length = true := by rw [cells_len he]; rfl
  induction suf with
  | nil =>
    intro pre j hys hj
    obtain ⟨j, rfl⟩ : ∃ i, j = i + 1 := ⟨j - 1, by omega⟩
    have hp : pre.length = (bits m).length := by rw [hys]; simp
    rw [hp]
    cases acc with
    | nil => simp only [L_tOr_2, S_tOr_2, sO2, ofNat_lt, Nat.lt_irrefl, decide_false, ifB_f, pickG]
    | cons y l => simp only [L_tOr_2, S_tOr_2, sO2, ofNat_lt, Nat.lt_irrefl, decide_false, ifB_f, pickG]
  | cons t suf ih =>
    intro pre j hys hj
    obtain ⟨j, rfl⟩ : ∃ i, j = i + 1 := ⟨j - 1, by omega⟩
    have hpl : pre.length < (bits m).length := by rw [hys]; simp
    have hget : ((bits m).map ei)[pre.length]? = some (ei t) := by rw [hys]; simp
    have hj2 : suf.length < j := by simp at hj; omega
    have ht8 : t < 8 := by
      have : t ∈ bits m := by rw [hys]; simp
      simp only [bits, List.mem_filter, List.mem_range] at this
      exact this.1
    have hw : IntKind.wrap .i64 (Int.ofNat pre.length + Int.ofNat 1) = Int.ofNat (pre ++ [t]).length := by
      rw [wrap_nat (by omega)]; simp
    have next := ih (pre ++ [t]) j (by rw [hys]; simp) hj2
    have hls := hL m hm
    have hct := hC t ht8
    have hwo := tab_get without_tab (m := m * 8 + t) (by omega)
    have e1 : (m * 8 + t) / 8 = m := by omega
    have e2 : (m * 8 + t) % 8 = t := by omega
    simp only [e1, e2] at hwo
    simp only [eu] at hls
    simp only [ei] at hct
    cases acc with
    | nil =>
      simp only [L_tOr_2, S_tOr_2, sO2, ofNat_lt, hpl, decide_true, ifB_t, hx.slK, natK_ofNat, nthK_get hget]
      simp only [ei, intK_int, hls, bindK_s, pK_p, hc1, chk_t, hct, boolK_bool, pickG]
      cases hq : (bits m).any (fun o => gb e o t) with
      | true =>
        simp only [Bool.not_true, ifB_f, if_true, hw]
        simp only [sO2] at next
        exact next
      | false =>
        simp only [Bool.not_false, ifB_t, Bool.false_eq_true, if_false, ofNat_neg, ifB_f, hwo]
        rfl
    | cons y l =>
      have hb : Nat.ble (((y :: l).length + 1) * 8) 1099511627776 = true := ble_of (by simp at hacc ⊢; omega)
      have hlm : Nat.beq (y :: l).length ((y :: l).map ei).length = true := by rw [List.length_map]; exact beq_self' _
      simp only [L_tOr_2, S_tOr_2, sO2, ofNat_lt, hpl, decide_true, ifB_t, hx.slK, natK_ofNat, nthK_get hget]
      simp only [ei, intK_int, hls, bindK_s, pK_p, hc1, chk_t, hct, boolK_bool, pickG]
      cases hq : (bits m).any (fun o => gb e o t) with
      | true =>
        simp only [Bool.not_true, ifB_f, if_true, hw]
        simp only [sO2] at next
        exact next
      | false =>
        simp only [Bool.not_false, ifB_t, Bool.false_eq_true, if_false, ofNat_neg, ifB_f, hwo]
        have hlm' : Nat.beq (y :: l).length (List.map (fun n => PVal.int IntKind.i64 (Int.ofNat n)) (y :: l)).length = true := hlm
        simp only [hb, chk_t]
        rw [show (List.map ei (y :: l)).length = (y :: l).length from List.length_map _]
        simp only [beq_self', chk_t]
        rw [List.map_append]
        rfl
def ordG (g : Nat → Nat → Bool) : Nat → List Nat → List Nat → Option (List Nat)
  | 0, _, _ => none
  | f + 1, left, acc => if left.isEmpty = true then some acc else match pickG g left left with
    | none => none
    | some t => ordG g f (left.filter fun x => !Nat.beq x t) (acc ++ [t])
theorem pickG_mem {g : Nat → Nat → Bool} {all : List Nat} : ∀ {l : List Nat} {t : Nat}, pickG g all l = some t → t ∈ l
  | [], _, h => by simp [pickG] at h
  | x :: r, t, h => by
    unfold pickG at h
    split at h
    · exact List.mem_cons_of_mem _ (pickG_mem h)
    · cases h; exact List.mem_cons_self ..
theorem zero_tab : (List.range 256).map (fun m => (Int.ofNat m != Int.ofNat 0)) = (List.range 256).map (fun m => !(bits m).isEmpty) := by kernel_rfl
theorem without_lt (m t : Nat) : without m t < 256 → True := fun _ => trivial
theorem without_tab2 : (List.range 2048).map (fun i => decide (without (i / 8) (i % 8) < 256)) = (List.range 2048).map (fun _ => true) := by kernel_rfl
def sO0 (m : Nat) (c : List PVal) : List Nat → St_tOr_0
  | [] => .a (Int.ofNat m) c
  | y :: l => .b (y :: l).length (Int.ofNat m) c ((y :: l).map ei)
def xO0 : List Nat → ExtOr_0
  | [] => .a
  | y :: l => .c (y :: l).length ((y :: l).map ei)
theorem filter_lt {l : List Nat} {t : Nat} (h : t ∈ l) : (l.filter fun x => !Nat.beq x t).length < l.length := by
  induction l with
  | nil => simp at h
  | cons x r ih =>
    by_cases hx : x = t
    · subst hx
      simp only [List.filter_cons, beq_self', Bool.not_true, Bool.false_eq_true, if_false, List.length_cons]
      exact Nat.lt_succ_of_le (List.length_filter_le _ _)
    · have ht : t ∈ r := by
        rcases List.mem_cons.1 h with h | h
        · exact absurd h.symm hx
        · exact h
      have hb : Nat.beq x t = false := by
        cases hh : Nat.beq x t with
        | false => rfl
        | true => exact absurd (Nat.eq_of_beq_eq_true hh) hx
      simp only [List.filter_cons, hb, Bool.not_false, if_true, List.length_cons]
      exact Nat.succ_lt_succ (ih ht)
theorem order0 (k : Nat) (rec : Rec1) (kx : ExtOr_0 → Option AVal) {e : List Nat} {m0 : Nat} (he : GE e) (hk : 9 < k)
    (hL : ∀ m < 256, rec i_tLi [eu m] = some (.p (encL (bits m))))
    (hC : ∀ m < 256, ∀ t < 8, rec i_sCF [encL (bits m), .fn (.func i_tOr_1) [.ip (.agg (cells e m0)), .ip (ipOf [ei t])]] = some (.p (.bool ((bits m).any fun o => gb e o t)))) :
    ∀ (f m : Nat) (acc : List Nat) (j : Nat), m < 256 → (bits m).length < f → f < j → acc.length + f < 1000 →
    L_tOr_0 k rec kx j (sO0 m (cells e m0) acc) =
      (match ordG (gb e) f (bits m) acc with
        | none => kx (.b (Int.ofNat 5))
        | some l => kx (xO0 l)) := by
  intro f
  induction f with
  | zero => intro m acc j _ h; omega
  | succ f ih =>
    intro m acc j hm hf hj ha
    obtain ⟨j, rfl⟩ : ∃ i, j = i + 1 := ⟨j - 1, by omega⟩
    have hz := tab_get zero_tab hm
    have hls := hL m hm
    have hbl := bits_len m
    have hlen : ((List.length ((bits m).map ei) : Nat) : Int) = Int.ofNat (bits m).length := by simp
    simp only [eu] at hls
    have key := order2 k rec (fun y => match y with
        | .a n50 z51 l52 l53 => (L_tOr_0 k rec kx j (.b n50 z51 l52 l53))
        | .b => (kx (.b (Int.ofNat 5)))) (m0 := m0) he hm (encL_is (bits m)) hL (hC m hm) acc (by omega) (bits m) [] k rfl (by omega)
    cases hE : (bits m).isEmpty with
    | true =>
      rw [hE] at hz
      cases acc with
      | nil => simp only [L_tOr_0, S_tOr_0, sO0, hz, Bool.not_true, ifB_f, ordG, hE, if_true, xO0]
      | cons y l => simp only [L_tOr_0, S_tOr_0, sO0, hz, Bool.not_true, ifB_f, ordG, hE, if_true, xO0]
    | false =>
      rw [hE] at hz
      have fin : L_tOr_2 k rec (fun y => match y with
        | .a n50 z51 l52 l53 => (L_tOr_0 k rec kx j (.b n50 z51 l52 l53))
        | .b => (kx (.b (Int.ofNat 5)))) k (sO2 m (cells e m0) (encL (bits m)) (bits m).length ([] : List Nat).length acc) = (match ordG (gb e) (f + 1) (bits m) acc with
        | none => kx (.b (Int.ofNat 5))
        | some l => kx (xO0 l)) := by
        refine key.trans ?_
        simp only [ordG, hE, Bool.false_eq_true, if_false]
        cases hp : pickG (gb e) (bits m) (bits m) with
        | none => rfl
        | some t =>
          have htm := pickG_mem hp
          have ht8 : t < 8 := by
            have := htm
            simp only [bits, List.mem_filter, List.mem_range] at this
            exact this.1
          have hwl := tab_get without_tab2 (m := m * 8 + t) (by omega)
          have hbw := tab_get bits_without_tab (m := m * 8 + t) (by omega)
          have e1 : (m * 8 + t) / 8 = m := by omega
          have e2 : (m * 8 + t) % 8 = t := by omega
          simp only [e1, e2, decide_eq_true_eq] at hwl hbw
          have hfl := filter_lt htm
          rw [← hbw] at hfl
          have next := ih (without m t) (acc ++ [t]) j hwl (by omega) (by omega) (by simp; omega)
          rw [hbw] at next
          simp only
          refine Eq.trans ?_ next
          cases acc with
          | nil => rfl
          | cons y l =>
            simp only [List.cons_append, sO0]
            simp
      refine Eq.trans ?_ fin
      cases acc with
      | nil => simp only [L_tOr_0, S_tOr_0, sO0, hz, Bool.not_false, ifB_t, hls, bindK_s, pK_p, (encL_is _).slK, hlen]; rfl
      | cons y l => simp only [L_tOr_0, S_tOr_0, sO0, hz, Bool.not_false, ifB_t, hls, bindK_s, pK_p, (encL_is _).slK, hlen]; rfl
def orderR (r : Option (List Nat)) : PVal := match r with
  | none => .tup [.nils, .int .i64 (Int.ofNat 5)]
  | some l => .tup [encL l, .int .i64 (Int.ofNat 0)]
theorem Order_ok (k : Nat) (rec : Rec1) {x : PVal} {e : List Nat} {m : Nat} (he : GE e) (hm : m < 256) (hk : 10 < k)
    (hT : rec i_tTo [x] = some (.p (toldO e m)))
    (hL : ∀ m < 256, rec i_tLi [eu m] = some (.p (encL (bits m))))
    (hC : ∀ m' < 256, ∀ t < 8, rec i_sCF [encL (bits m'), .fn (.func i_tOr_1) [.ip (.agg (cells e m)), .ip (ipOf [ei t])]] = some (.p (.bool ((bits m').any fun o => gb e o t)))) :
    F_tOr k rec x = some (.p (orderR (ordG (gb e) 9 (bits m) []))) := by
  have h9 : Nat.beq (cells e m).length 9 = true := by rw [cells_len he]; rfl
  have hne : (Int.ofNat 0 != Int.ofNat 0) = false := rfl
  have hbl := bits_len m
  have key := order0 k rec (fun y => match y with
          | .a => (some (AVal.p (PVal.tup [PVal.nils, (PVal.int IntKind.i64 (Int.ofNat 0))])))
          | .b z12 => (some (AVal.p (PVal.tup [PVal.nils, (PVal.int IntKind.i64 z12)])))
          | .c n13 l14 => (chk (Nat.ble (0 + n13) (List.length l14))
              (some (AVal.p (PVal.tup [(PVal.sl (List.take n13 (List.drop 0 l14))), (PVal.int IntKind.i64 (Int.ofNat 0))]))))) (m0 := m) he (by omega) hL hC 9 m [] k hm (by omega) (by omega) (by simp)
  unfold F_tOr
  simp only [hT, bindK_s, pK_p, toldO, tupK_tup, consK_cons, intK_int, endK_nil, aggK_agg, h9, chk_t, hne, ifB_f, List.nil_append, List.append_nil, nthK_get (cells_met he m)]
  simp only [eu, intK_int]
  refine Eq.trans key ?_
  cases ordG (gb e) 9 (bits m) [] with
  | none => rfl
  | some l =>
    cases l with
    | nil => rfl
    | cons y l =>
      have hb : Nat.ble (0 + (y :: l).length) ((y :: l).map ei).length = true := ble_of (by simp)
      simp only [xO0, hb, chk_t, List.drop_zero, orderR, encL]
      rw [List.take_of_length_le (by simp)]
      rfl
theorem Order_no (k : Nat) (rec : Rec1) {x : PVal} (hT : rec i_tTo [x] = some (.p toldN)) :
    F_tOr k rec x = some (.p (.tup [.nils, .int .i64 (Int.ofNat 2)])) := by
  have h9 : Nat.beq (cells zeros 0).length 9 = true := rfl
  have hne : (Int.ofNat 2 != Int.ofNat 0) = true := rfl
  unfold F_tOr
  simp only [hT, bindK_s, pK_p, toldN, tupK_tup, consK_cons, intK_int, endK_nil, aggK_agg, h9, chk_t, hne, ifB_t]
end Go.Proofs.YtlcbgidfdkbfcaaGreatDoor
namespace Go.Proofs.YtlcbgidfdkbfcaaGreatDoor
open Go Go.Proofs.YtlcbgidfdkbfcaaGreatDoor.Sw
set_option maxRecDepth 100000
theorem ifB_self {α : Type} (b : Bool) (x : Option α) : ifB b x x = x := by cases b <;> rfl
theorem widths_ei : ∀ (l : List Nat), widths false 1 (l.map ei) = true
  | [] => rfl
  | _ :: r => widths_ei r
theorem wide_ei : ∀ (l : List Nat), wide 1 (l.map ei) = true
  | [] => rfl
  | _ :: _ => rfl
theorem ix_loop (k : Nat) (rec : Rec1) (kx : ExsIx_0 → Option AVal) {x : PVal} {t : Nat} {ys : List Nat} (hx : IsSl x (ys.map ei)) (hn : ys.length < 1000) :
    ∀ (suf pre : List Nat) (j : Nat), ys = pre ++ suf → suf.length < j →
    L_sIx_0 k rec kx j (.a x (Int.ofNat t) (Int.ofNat ys.length) (Int.ofNat pre.length)) =
      (if suf.any (fun y => decide (t = y)) = true then kx (.a (ixF (fun y => decide (t = y)) pre.length suf)) else kx .b) := by
  intro suf
  induction suf with
  | nil =>
    intro pre j hys hj
    obtain ⟨j, rfl⟩ : ∃ i, j = i + 1 := ⟨j - 1, by omega⟩
    subst hys
    simp only [L_sIx_0, S_sIx_0, ofNat_lt, List.append_nil, Nat.lt_irrefl, decide_false, ifB_f, List.any_nil, Bool.false_eq_true, if_false]
  | cons b suf ih =>
    intro pre j hys hj
    obtain ⟨j, rfl⟩ : ∃ i, j = i + 1 := ⟨j - 1, by omega⟩
    have hpl : pre.length < ys.length := by rw [hys]; simp
    have hget : (ys.map ei)[pre.length]? = some (ei b) := by rw [hys]; simp
    have hj2 : suf.length < j := by simp at hj; omega
    have hw : IntKind.wrap .i64 (Int.ofNat pre.length + Int.ofNat 1) = Int.ofNat (pre ++ [b]).length := by
      rw [wrap_nat (by omega)]; simp
    have next := ih (pre ++ [b]) j (by rw [hys]; simp) hj2
    simp only [L_sIx_0, S_sIx_0, ofNat_lt, hpl, decide_true, ifB_t, hx.slK, natK_ofNat, nthK_get hget, ei, intK_int, ofNat_beq, List.any_cons, ixF]
    by_cases c : t = b
    · simp only [c, decide_true, ifB_t, Bool.true_or, if_true]
    · simp only [c, decide_false, ifB_f, Bool.false_or, Bool.false_eq_true, if_false, hw]
      rw [next]
      simp
theorem ixF_none (q : Nat → Bool) : ∀ (l : List Nat) (i : Nat), l.any q = false → ixF q i l = Int.negSucc 0
  | [], _, _ => rfl
  | y :: r, i, hh => by
    simp only [List.any_cons, Bool.or_eq_false_iff] at hh
    unfold ixF
    rw [if_neg (by simp [hh.1]), ixF_none q r _ hh.2]
theorem Index_spec (k : Nat) (rec : Rec1) {x : PVal} {t : Nat} {ys : List Nat} (hx : IsSl x (ys.map ei)) (hn : ys.length < 1000) (hk : ys.length < k) :
    F_sIx k rec x (ei t) = some (.p (.int .i64 (ixF (fun y => decide (t = y)) 0 ys))) := by
  have hlen : ((List.length (ys.map ei) : Nat) : Int) = Int.ofNat ys.length := by simp
  unfold F_sIx
  simp only [ei, intK_int]
  simp only [hx.slK, hlen]
  refine (ix_loop k rec _ hx hn ys [] k rfl hk).trans ?_
  by_cases h : ys.any (fun y => decide (t = y)) = true
  · rw [if_pos h]; rfl
  · rw [if_neg h, ixF_none _ _ _ (Bool.eq_false_iff.2 h)]
theorem Contains_spec (k : Nat) (rec : Rec1) {x : PVal} {t : Nat} {ys : List Nat}
    (hI : rec i_sIx [x, ei t] = some (.p (.int .i64 (ixF (fun y => decide (t = y)) 0 ys)))) :
    F_sCn k rec x (ei t) = some (.p (.bool (ys.any fun y => decide (t = y)))) := by
  unfold F_sCn
  simp only [ei] at hI
  simp only [ei, intK_int, hI, bindK_s, pK_p, ixF_any]
def clipR (b : List Nat) : AVal := match b with
  | [] => .p .nils
  | b => .cl (b.map ei)
theorem Clip_spec (k : Nat) (rec : Rec1) (b : List Nat) : F_sCl k rec (encL b) = some (clipR b) := by
  cases b with
  | nil => rfl
  | cons y l =>
    have h1 : Nat.ble ((y :: l).map ei).length ((y :: l).map ei).length = true := ble_of (Nat.le_refl _)
    have h2 : wide 1 ((y :: l).map ei) = true := rfl
    have e : encL (y :: l) = .sl ((y :: l).map ei) := rfl
    unfold F_sCl
    rw [e]
    simp only [slK_sl, nslK_sl, h1, chk_t, beq_self', h2, clipR, List.drop_zero, Nat.sub_zero, List.take_length]
def firstO {β : Type} (f : Nat → Option β) : List Nat → Option β
  | [] => none
  | t :: r => match f t with
    | some v => some v
    | none => firstO f r
def goes (g : Nat → Nat → Bool) (b : List Nat) (t : Nat) : Bool := match b.getLast? with
  | none => true
  | some u => g u t && !(b.any fun y => decide (t = y))
def rndG (g : Nat → Nat → Bool) (long : Nat) : Nat → List Nat → Option (List Nat)
  | 0, _ => none
  | f + 1, b => if b.length = long then (if g (b.getLastD 0) (b.headD 0) = true then some b else none)
    else firstO (fun t => if goes g b t = true then rndG g long f (b ++ [t]) else none) (List.range 8)
def resP (r : Option (List Nat)) : PVal := match r with
  | none => .nils
  | some l => .sl (l.map ei)
theorem round0 (k : Nat) (rec : Rec1) (kx : ExtRd_0 → Option AVal) {e : List Nat} {m long f : Nat} (he : GE e) {b : List Nat} (hb : ∀ t ∈ b, t < 8) (hbl : b.length < 100)
    (hC : ∀ o < 8, ∀ t < 8, rec i_tCo [.agg (cells e m), ei o, ei t] = some (.p (.bool (gb e o t))))
    (hN : ∀ t < 8, rec i_sCn [encL b, ei t] = some (.p (.bool (b.any fun y => decide (t = y)))))
    (hP : rec i_sCl [encL b] = some (clipR b))
    (hR : ∀ t < 8, goes (gb e) b t = true → rec i_tRd [.agg (cells e m), .sl ((b ++ [t]).map ei), ei long] = some (.p (resP (rndG (gb e) long f (b ++ [t]))))) :
    ∀ (r i j : Nat), i + r = 8 → r < j →
    L_tRd_0 k rec kx j (.a (encL b) (Int.ofNat long) (Int.ofNat i) (cells e m)) =
      (match firstO (fun t => if goes (gb e) b t = true then rndG (gb e) long f (b ++ [t]) else none) ((List.range 8).drop i) with
        | some l => kx (.a (.sl (l.map ei)))
        | none => kx .b) := by
  intro r
  induction r with
  | zero =>
    intro i j hi hj
    obtain ⟨j, rfl⟩ : ∃ i, j = i + 1 := ⟨j - 1, by omega⟩
    have : i = 8 := by omega
    subst this
    simp only [L_tRd_0, S_tRd_0, ofNat_lt, Nat.lt_irrefl, decide_false, ifB_f]
    rfl
  | succ r ih =>
    intro i j hi hj
    obtain ⟨j, rfl⟩ : ∃ i, j = i + 1 := ⟨j - 1, by omega⟩
    have hi8 : i < 8 := by omega
    have h9 : Nat.ble 9 (cells e m).length = true := by rw [cells_len he]; rfl
    have hw : IntKind.wrap .i64 (Int.ofNat i + Int.ofNat 1) = Int.ofNat (i + 1) := wrap_nat (by omega)
    have next := ih (i + 1) j (by omega) (by omega)
    have hdr : (List.range 8).drop i = i :: (List.range 8).drop (i + 1) := by
      rw [List.drop_eq_getElem_cons (l := List.range 8) (i := i) (by simpa using hi8)]
      simp
    rw [hdr]
    have hlen : ((List.length (b.map ei) : Nat) : Int) = Int.ofNat b.length := by simp
    simp only [firstO]
    have hct := cells_take he m
    have hRi := hR i hi8
    have hNi := hN i hi8
    rcases List.eq_nil_or_concat b with hb0 | ⟨b', u, hb1⟩
    · subst hb0
      have hg : goes (gb e) [] i = true := rfl
      have hRi := hRi hg
      have hd0 : decide (Int.ofNat ([] : List Nat).length > Int.ofNat 0) = false := rfl
      have e1 : List.take 1 (List.drop 0 [ei i]) = ([] ++ [i]).map ei := rfl
      simp only [L_tRd_0, S_tRd_0, ofNat_lt, hi8, decide_true, ifB_t, (encL_is _).slK, hlen, hd0, ifB_f, h9, chk_t, hP, bindK_s, clipR, nclK_nils, hct]
      simp only [ei] at hRi e1
      simp only [e1, hg, if_true]
      simp only [List.nil_append] at hRi ⊢
      rw [hRi]
      simp only [bindK_s, pK_p, ifB_self]
      cases rndG (gb e) long f [i] with
      | none => simp only [resP, nilSK_nils, Bool.not_true, ifB_f, hw]; exact next
      | some l => simp only [resP, nilSK_sl, Bool.not_false, ifB_t]
    · rw [List.concat_eq_append] at hb1
      have hl : b.getLast? = some u := by rw [hb1]; simp
      have hu8 : u < 8 := hb u (by rw [hb1]; simp)
      have hbp : b.length = b'.length + 1 := by rw [hb1]; simp
      have hd0 : decide (Int.ofNat b.length > Int.ofNat 0) = true := by simp; omega
      have hz : IntKind.wrap .i64 (Int.ofNat b.length - Int.ofNat 1) = Int.ofNat b'.length := by
        rw [wrap_small]
        · simp [hbp]
        · simp [hbp]
        · simp [hbp]; omega
      have hget : (b.map ei)[b'.length]? = some (ei u) := by rw [hb1]; simp
      have hCu := hC u hu8 i hi8
      have hcl : clipR b = .cl (b.map ei) := by
        cases b with
        | nil => simp at hbp
        | cons _ _ => rfl
      simp only [ei] at hCu hNi hRi
      simp only [L_tRd_0, S_tRd_0, ofNat_lt, hi8, decide_true, ifB_t, (encL_is _).slK, hlen, hd0, h9, chk_t, hz, natK_ofNat, nthK_get hget, hct]
      simp only [ei, intK_int, hCu, bindK_s, pK_p, boolK_bool]
      rcases Bool.eq_false_or_eq_true (gb e u i) with hc | hc
      · simp only [hc, Bool.not_true, ifB_f, hNi, bindK_s, pK_p, boolK_bool]
        rcases Bool.eq_false_or_eq_true (b.any fun y => decide (i = y)) with hn | hn
        · have hg : goes (gb e) b i = false := by simp only [goes, hl, hc, hn]; rfl
          simp only [hn, ifB_t, hg, Bool.false_eq_true, if_false, hw]
          exact next
        · have hg : goes (gb e) b i = true := by simp only [goes, hl, hc, hn]; rfl
          have hRi := hRi hg
          have h3 : Nat.ble (((b.map ei).length + 1) * 8) 1099511627776 = true := ble_of (by simp; omega)
          have h4 : Nat.ble (0 + ((b.map ei).length + 1)) (b.map ei ++ [ei i]).length = true := ble_of (by simp)
          have h5 : List.take ((b.map ei).length + 1) (List.drop 0 (b.map ei ++ [ei i])) = (b ++ [i]).map ei := by
            rw [List.drop_zero, List.take_of_length_le (by simp), List.map_append]; rfl
          have hwd := widths_ei b
          simp only [hn, ifB_f, hP, hcl, bindK_s, nclK_cl]
          simp only [ei] at h3 h4 h5 hwd
          simp only [h3, h4, h5, hwd, chk_t, hg, if_true]
          rw [hRi]
          simp only [bindK_s, pK_p, ifB_self]
          cases rndG (gb e) long f (b ++ [i]) with
          | none => simp only [resP, nilSK_nils, Bool.not_true, ifB_f, hw]; exact next
          | some l => simp only [resP, nilSK_sl, Bool.not_false, ifB_t]
      · have hg : goes (gb e) b i = false := by simp only [goes, hl, hc]; rfl
        simp only [hc, Bool.not_false, ifB_t, hg, Bool.false_eq_true, if_false, hw]
        exact next
theorem round_spec (k : Nat) (rec : Rec1) {e : List Nat} {m long f : Nat} (he : GE e) {b : List Nat} (hb : ∀ t ∈ b, t < 8) (hlong : 2 ≤ long ∧ long < 50) (hble : b.length ≤ long) (hk : 9 < k)
    (hC : ∀ o < 8, ∀ t < 8, rec i_tCo [.agg (cells e m), ei o, ei t] = some (.p (.bool (gb e o t))))
    (hN : ∀ t < 8, rec i_sCn [encL b, ei t] = some (.p (.bool (b.any fun y => decide (t = y)))))
    (hP : rec i_sCl [encL b] = some (clipR b))
    (hR : ∀ t < 8, b.length < long → goes (gb e) b t = true → rec i_tRd [.agg (cells e m), .sl ((b ++ [t]).map ei), ei long] = some (.p (resP (rndG (gb e) long f (b ++ [t]))))) :
    F_tRd k rec (.agg (cells e m)) (encL b) (ei long) = some (.p (resP (rndG (gb e) long (f + 1) b))) := by
  have h9 : Nat.ble 9 (cells e m).length = true := by rw [cells_len he]; rfl
  have h9' : Nat.beq (cells e m).length 9 = true := by rw [cells_len he]; rfl
  have hct := cells_take he m
  have hlen : ((List.length (b.map ei) : Nat) : Int) = Int.ofNat b.length := by simp
  unfold F_tRd
  simp only [ei, intK_int, aggK_agg, h9', chk_t]
  simp only [(encL_is _).slK, hlen, ofNat_beq, rndG]
  by_cases c : b.length = long
  · have hz : IntKind.wrap .i64 (Int.ofNat long - Int.ofNat 1) = Int.ofNat (long - 1) := by
      rw [wrap_small]
      · simp; omega
      · simp; omega
      · simp; omega
    obtain ⟨y, l, hyl⟩ : ∃ y l, b = y :: l := by
      cases b with
      | nil => simp at c; omega
      | cons y l => exact ⟨y, l, rfl⟩
    have hget0 : (b.map ei)[0]? = some (ei (b.headD 0)) := by rw [hyl]; rfl
    have hget : (b.map ei)[long - 1]? = some (ei (b.getLastD 0)) := by
      rw [List.getElem?_map, ← c, ← List.getLast?_eq_getElem?, hyl]
      simp [List.getLast?_cons]
    have hh : b.headD 0 < 8 := hb _ (by rw [hyl]; simp)
    have hla : b.getLastD 0 < 8 := hb _ (by
      obtain ⟨b', u, hb1⟩ : ∃ b' u, b = b' ++ [u] := by
        rcases List.eq_nil_or_concat b with h | ⟨b', u, h⟩
        · rw [h] at hyl; simp at hyl
        · exact ⟨b', u, by rw [h, List.concat_eq_append]⟩
      rw [hb1]; simp)
    have hCu := hC _ hla _ hh
    have hen : encL b = .sl (b.map ei) := by rw [hyl]; rfl
    simp only [ei] at hCu
    simp only [c, decide_true, ifB_t, h9, chk_t, hz, natK_ofNat, nthK_get hget, nthK_get hget0, hct]
    simp only [ei, intK_int, hCu, bindK_s, pK_p, boolK_bool, if_true]
    rcases Bool.eq_false_or_eq_true (gb e (b.getLastD 0) (b.headD 0)) with hc | hc
    · simp only [hc, ifB_t, if_true, resP, hen]
    · simp only [hc, ifB_f, Bool.false_eq_true, if_false, resP]
  · simp only [c, decide_false, ifB_f, if_false]
    have key := round0 k rec (fun y => match y with
        | .a x14 => (some (AVal.p x14))
        | .b => (some (AVal.p PVal.nils))) (f := f) (long := long) he hb (by omega) hC hN hP (fun t ht hg => hR t ht (by omega) hg) 8 0 k rfl (by omega)
    refine key.trans ?_
    rw [List.drop_zero]
    cases firstO (fun t => if goes (gb e) b t = true then rndG (gb e) long f (b ++ [t]) else none) (List.range 8) with
    | none => rfl
    | some l => rfl
def circG (g : Nat → Nat → Bool) (lens : List Nat) : Option (List Nat) := firstO (fun n => rndG g n (n + 1) []) lens
def circR (r : Option (List Nat)) : PVal := match r with
  | none => .tup [.nils, .int .i64 (Int.ofNat 5)]
  | some l => .tup [.sl (l.map ei), .int .i64 (Int.ofNat 0)]
theorem circle0 (k : Nat) (rec : Rec1) (kx : ExtCi_0 → Option AVal) {e : List Nat} {m : Nat} (he : GE e)
    (hR : ∀ n, 2 ≤ n → n ≤ 8 → rec i_tRd [.agg (cells e m), .nils, ei n] = some (.p (resP (rndG (gb e) n (n + 1) [])))) :
    ∀ (r n j : Nat), n + r = 9 → 2 ≤ n → r < j →
    L_tCi_0 k rec kx j (.a (Int.ofNat n) (cells e m)) =
      (match circG (gb e) (List.range' n r) with
        | some l => kx (.a (.sl (l.map ei)) (Int.ofNat 0))
        | none => kx .b) := by
  intro r
  induction r with
  | zero =>
    intro n j hn _ hj
    obtain ⟨j, rfl⟩ : ∃ i, j = i + 1 := ⟨j - 1, by omega⟩
    have : n = 9 := by omega
    subst this
    have hd : decide (Int.ofNat 9 ≤ Int.ofNat 8) = false := rfl
    simp only [L_tCi_0, S_tCi_0, hd, ifB_f]
    rfl
  | succ r ih =>
    intro n j hn h2 hj
    obtain ⟨j, rfl⟩ : ∃ i, j = i + 1 := ⟨j - 1, by omega⟩
    have h9 : Nat.ble 9 (cells e m).length = true := by rw [cells_len he]; rfl
    have hct := cells_take he m
    have hd : decide (Int.ofNat n ≤ Int.ofNat 8) = true := by simp; omega
    have hw : IntKind.wrap .i64 (Int.ofNat n + Int.ofNat 1) = Int.ofNat (n + 1) := wrap_nat (by omega)
    have next := ih (n + 1) j (by omega) (by omega) (by omega)
    have hRn := hR n h2 (by omega)
    simp only [ei] at hRn
    simp only [L_tCi_0, S_tCi_0, hd, ifB_t, h9, chk_t, hct, hRn, bindK_s, pK_p, List.range'_succ, circG, firstO]
    cases rndG (gb e) n (n + 1) [] with
    | none => simp only [resP, nilSK_nils, Bool.not_true, ifB_f, hw]; exact next
    | some l => simp only [resP, nilSK_sl, Bool.not_false, ifB_t]
theorem Circle_ok (k : Nat) (rec : Rec1) {x : PVal} {e : List Nat} {m : Nat} (he : GE e) (hk : 10 < k)
    (hT : rec i_tTo [x] = some (.p (toldO e m)))
    (hR : ∀ n, 2 ≤ n → n ≤ 8 → rec i_tRd [.agg (cells e m), .nils, ei n] = some (.p (resP (rndG (gb e) n (n + 1) [])))) :
    F_tCi k rec x = some (.p (circR (circG (gb e) (List.range' 2 7)))) := by
  have h9 : Nat.beq (cells e m).length 9 = true := by rw [cells_len he]; rfl
  have hne : (Int.ofNat 0 != Int.ofNat 0) = false := rfl
  have key := circle0 k rec (fun y => match y with
          | .a x10 z11 => (some (AVal.p (PVal.tup [x10, (PVal.int IntKind.i64 z11)])))
          | .b => (some (AVal.p (PVal.tup [PVal.nils, (PVal.int IntKind.i64 (Int.ofNat 5))])))) (m := m) he hR 7 2 k rfl (by omega) (by omega)
  unfold F_tCi
  simp only [hT, bindK_s, pK_p, toldO, tupK_tup, consK_cons, intK_int, endK_nil, aggK_agg, h9, chk_t, hne, ifB_f, List.nil_append, List.append_nil]
  refine key.trans ?_
  cases circG (gb e) (List.range' 2 7) with
  | none => rfl
  | some l => rfl
theorem Circle_no (k : Nat) (rec : Rec1) {x : PVal} (hT : rec i_tTo [x] = some (.p toldN)) :
    F_tCi k rec x = some (.p (.tup [.nils, .int .i64 (Int.ofNat 2)])) := by
  have h9 : Nat.beq (cells zeros 0).length 9 = true := rfl
  have hne : (Int.ofNat 2 != Int.ofNat 0) = true := rfl
  unfold F_tCi
  simp only [hT, bindK_s, pK_p, toldN, tupK_tup, consK_cons, intK_int, endK_nil, aggK_agg, h9, chk_t, hne, ifB_t]
end Go.Proofs.YtlcbgidfdkbfcaaGreatDoor
namespace Go.Proofs.YtlcbgidfdkbfcaaGreatDoor
open Go Go.Proofs.YtlcbgidfdkbfcaaGreatDoor.Sw
set_option maxRecDepth 100000
def eI (z : Int) : PVal := .int .i64 z
theorem eI_nat (n : Nat) : eI (Int.ofNat n) = ei n := rfl
def okC : List Nat → List Int → Bool
  | _, [] => true
  | pre, z :: r => decide (0 ≤ z) && decide (z < 8) && !(pre.any fun y => decide (z.toNat = y)) && okC (pre ++ [z.toNat]) r
def allC (g : Nat → Nat → Bool) (l : List Nat) : Nat → Nat → Bool
  | _, 0 => true
  | i, r + 1 => g (l.getD i 0) (l.getD ((i + 1) % l.length) 0) && allC g l (i + 1) r
theorem proves2 (k : Nat) (rec : Rec1) (kx : ExtPr_2 → Option AVal) {x17 x18 : PVal} {e : List Nat} {m : Nat} (he : GE e) {cs : List Nat} (hx : IsSl x17 (cs.map ei)) (hy : IsSl x18 (cs.map ei)) (hn : cs.length < 1000) (hc : ∀ t ∈ cs, t < 8)
    (hC : ∀ o < 8, ∀ t < 8, rec i_tCo [.agg (cells e m), ei o, ei t] = some (.p (.bool (gb e o t)))) :
    ∀ (r i j : Nat), i + r = cs.length → r < j →
    L_tPr_2 k rec kx j (.a x17 x18 (Int.ofNat cs.length) (Int.ofNat i) (cells e m)) = (if allC (gb e) cs i r = true then kx .b else kx (.a (Int.ofNat 7))) := by
  intro r
  induction r with
  | zero =>
    intro i j hi hj
    obtain ⟨j, rfl⟩ : ∃ i, j = i + 1 := ⟨j - 1, by omega⟩
    have : i = cs.length := by omega
    subst this
    simp only [L_tPr_2, S_tPr_2, ofNat_lt, Nat.lt_irrefl, decide_false, ifB_f, allC, if_true]
  | succ r ih =>
    intro i j hi hj
    obtain ⟨j, rfl⟩ : ∃ i, j = i + 1 := ⟨j - 1, by omega⟩
    have hil : i < cs.length := by omega
    have hpos : 0 < cs.length := by omega
    have h9 : Nat.ble 9 (cells e m).length = true := by rw [cells_len he]; rfl
    have hct := cells_take he m
    have hw : IntKind.wrap .i64 (Int.ofNat i + Int.ofNat 1) = Int.ofNat (i + 1) := wrap_nat (by omega)
    have hlen : ((List.length (cs.map ei) : Nat) : Int) = Int.ofNat cs.length := by simp
    have hmod : Int.tmod (Int.ofNat (i + 1)) (Int.ofNat cs.length) = Int.ofNat ((i + 1) % cs.length) := rfl
    have hml : (i + 1) % cs.length < cs.length := Nat.mod_lt _ hpos
    have hd0 : decide (Int.ofNat cs.length = Int.ofNat 0) = false := by
      apply decide_eq_false
      intro hh
      have := Int.ofNat.inj hh
      omega
    have hg1 : (cs.map ei)[i]? = some (ei (cs.getD i 0)) := by
      rw [List.getElem?_map, List.getD_eq_getElem?_getD, List.getElem?_eq_getElem hil]; rfl
    have hg2 : (cs.map ei)[(i + 1) % cs.length]? = some (ei (cs.getD ((i + 1) % cs.length) 0)) := by
      rw [List.getElem?_map, List.getD_eq_getElem?_getD, List.getElem?_eq_getElem hml]; rfl
    have h1 : cs.getD i 0 < 8 := hc _ (by rw [List.getD_eq_getElem?_getD, List.getElem?_eq_getElem hil, Option.getD_some]; exact List.getElem_mem _)
    have h2 : cs.getD ((i + 1) % cs.length) 0 < 8 := hc _ (by rw [List.getD_eq_getElem?_getD, List.getElem?_eq_getElem hml, Option.getD_some]; exact List.getElem_mem _)
    have hCu := hC _ h1 _ h2
    have next := ih (i + 1) j (by omega) (by omega)
    simp only [ei] at hCu
    simp only [L_tPr_2, S_tPr_2, ofNat_lt, hil, decide_true, ifB_t, hx.slK, hy.slK, hlen, natK_ofNat, nthK_get hg1, h9, chk_t, hd0, ifB_f, hw, hmod, nthK_get hg2, hct, allC]
    simp only [ei, intK_int, hCu, bindK_s, pK_p, boolK_bool]
    rcases Bool.eq_false_or_eq_true (gb e (cs.getD i 0) (cs.getD ((i + 1) % cs.length) 0)) with hh | hh
    · simp only [hh, Bool.not_true, ifB_f, Bool.true_and]
      exact next
    · simp only [hh, Bool.not_false, ifB_t, Bool.false_and, Bool.false_eq_true, if_false]
theorem proves0 (k : Nat) (rec : Rec1) (kx : ExtPr_0 → Option AVal) {x y : PVal} {c : List PVal} {zs : List Int} (hx : IsSl x (zs.map eI)) (hy : IsSl y (zs.map eI)) (hn : zs.length < 1000)
    (hN : ∀ (v : PVal) (ys : List Nat) (t : Nat), IsSl v (ys.map ei) → ys.length < 1000 → rec i_sCn [v, ei t] = some (.p (.bool (ys.any fun y => decide (t = y))))) :
    ∀ (suf : List Int) (pre : List Nat) (j : Nat), zs = pre.map Int.ofNat ++ suf → suf.length < j →
    L_tPr_0 k rec kx j (.a x y (Int.ofNat zs.length) (Int.ofNat pre.length) c) = (if okC pre suf = true then kx (.b x c) else kx (.a (Int.ofNat 2))) := by
  intro suf
  induction suf with
  | nil =>
    intro pre j hys hj
    obtain ⟨j, rfl⟩ : ∃ i, j = i + 1 := ⟨j - 1, by omega⟩
    have : pre.length = zs.length := by rw [hys]; simp
    rw [this]
    simp only [L_tPr_0, S_tPr_0, ofNat_lt, Nat.lt_irrefl, decide_false, ifB_f, okC, if_true]
  | cons z suf ih =>
    intro pre j hys hj
    obtain ⟨j, rfl⟩ : ∃ i, j = i + 1 := ⟨j - 1, by omega⟩
    have hpl : pre.length < zs.length := by rw [hys]; simp
    have hget : (zs.map eI)[pre.length]? = some (eI z) := by rw [hys]; simp
    have hj2 : suf.length < j := by simp at hj; omega
    have hw : IntKind.wrap .i64 (Int.ofNat pre.length + Int.ofNat 1) = Int.ofNat (pre ++ [z.toNat]).length := by
      rw [wrap_nat (by omega)]; simp
    have hble : Nat.ble pre.length (zs.map eI).length = true := ble_of (by simp; omega)
    have hwd : wide 1 (zs.map eI) = true := by cases zs <;> rfl
    simp only [L_tPr_0, S_tPr_0, ofNat_lt, hpl, decide_true, ifB_t, hx.slK, hy.slK, natK_ofNat, nthK_get hget, eI, intK_int, okC]
    by_cases c1 : z < 0
    · have d1 : decide (z < Int.ofNat 0) = true := by simpa using c1
      have d2 : decide (0 ≤ z) = false := by simp; omega
      simp only [d1, ifB_t, d2, Bool.false_and, Bool.false_eq_true, if_false]
    by_cases c2 : z ≥ 8
    · have d1 : decide (z < Int.ofNat 0) = false := by simp; omega
      have d2 : decide (z ≥ Int.ofNat 8) = true := by simp; omega
      have d3 : decide (z < 8) = false := by simp; omega
      simp only [d1, ifB_t, ifB_f, d2, d3, Bool.and_false, Bool.false_and, Bool.false_eq_true, if_false]
    have d1 : decide (z < Int.ofNat 0) = false := by simp; omega
    have d2 : decide (z ≥ Int.ofNat 8) = false := by simp; omega
    have d3 : decide (0 ≤ z) = true := by simp; omega
    have d4 : decide (z < 8) = true := by simp; omega
    have hz : z = Int.ofNat z.toNat := by simp; omega
    have next := ih (pre ++ [z.toNat]) j (by rw [hys, List.map_append, List.append_assoc]; congr 1; simp; omega) hj2
    have hsl : IsSl (sliceP x 0 pre.length) (pre.map ei) := by
      have := hx.slice 0 pre.length
      have e : List.take (pre.length - 0) (List.drop 0 (zs.map eI)) = pre.map ei := by
        rw [hys, List.map_append, List.map_map, List.drop_zero, Nat.sub_zero, List.take_append_of_le_length (by simp), List.take_of_length_le (by simp)]
        rfl
      rw [e] at this
      exact this
    have hNi := hN _ _ z.toNat hsl (by omega)
    simp only [ei] at hNi
    rw [← hz] at hNi
    have hble' : Nat.ble pre.length (List.map (fun z => PVal.int IntKind.i64 z) zs).length = true := hble
    simp only [d1, d2, d3, d4, ifB_f, Bool.true_and, hble, hwd, chk_t, hNi, bindK_s, pK_p, boolK_bool]
    rcases Bool.eq_false_or_eq_true (pre.any fun y => decide (z.toNat = y)) with hh | hh
    · simp only [hh, ifB_t, Bool.not_true, Bool.false_and, Bool.false_eq_true, if_false]
    · simp only [hh, ifB_f, Bool.not_false, Bool.true_and, hw]
      exact next
def provR (g : Nat → Nat → Bool) (zs : List Int) : Nat :=
  if zs.length < 2 then 2 else if okC [] zs = true then (if allC g (zs.map Int.toNat) 0 zs.length = true then 0 else 7) else 2
theorem okC_nat : ∀ {suf : List Int} {pre : List Nat}, okC pre suf = true → suf = (suf.map Int.toNat).map Int.ofNat ∧ ∀ t ∈ suf.map Int.toNat, t < 8
  | [], _, _ => ⟨rfl, by simp⟩
  | z :: r, pre, h => by
    simp only [okC, Bool.and_eq_true, decide_eq_true_eq] at h
    have ih := okC_nat h.2
    have hz : z = Int.ofNat z.toNat := by simp; omega
    refine ⟨?_, ?_⟩
    · rw [List.map_cons, List.map_cons, ← hz, ← ih.1]
    · intro t ht
      rw [List.map_cons] at ht
      rcases List.mem_cons.1 ht with ht | ht
      · rw [ht]; omega
      · exact ih.2 t ht
theorem Proves_ok (k : Nat) (rec : Rec1) {h x : PVal} {e : List Nat} {m : Nat} (he : GE e) {zs : List Int} (hx : IsSl x (zs.map eI)) (hn : zs.length < 1000) (hk : zs.length < k)
    (hT : rec i_tTo [h] = some (.p (toldO e m)))
    (hN : ∀ (v : PVal) (ys : List Nat) (t : Nat), IsSl v (ys.map ei) → ys.length < 1000 → rec i_sCn [v, ei t] = some (.p (.bool (ys.any fun y => decide (t = y)))))
    (hC : ∀ o < 8, ∀ t < 8, rec i_tCo [.agg (cells e m), ei o, ei t] = some (.p (.bool (gb e o t)))) :
    F_tPr k rec h x = some (.p (ei (provR (gb e) zs))) := by
  have h9 : Nat.beq (cells e m).length 9 = true := by rw [cells_len he]; rfl
  have hne : (Int.ofNat 0 != Int.ofNat 0) = false := rfl
  have hlen : ((List.length (zs.map eI) : Nat) : Int) = Int.ofNat zs.length := by simp
  have hd : decide (Int.ofNat zs.length < Int.ofNat 2) = decide (zs.length < 2) := ofNat_lt _ _
  unfold F_tPr
  simp only [hT, bindK_s, pK_p, toldO, tupK_tup, consK_cons, intK_int, endK_nil, aggK_agg, h9, chk_t, hne, ifB_f, List.nil_append, List.append_nil, hx.slK, hlen, hd, provR]
  by_cases c : zs.length < 2
  · simp only [c, decide_true, ifB_t, if_true]; rfl
  simp only [c, decide_false, ifB_f, if_false]
  refine (proves0 k rec _ hx hx hn hN zs [] k (by simp) hk).trans ?_
  by_cases hok : okC [] zs = true
  · rw [if_pos hok, if_pos hok]
    obtain ⟨h1, h2⟩ := okC_nat hok
    have hx' : IsSl x ((zs.map Int.toNat).map ei) := by
      have : (zs.map Int.toNat).map ei = zs.map eI := by
        conv => rhs; rw [h1]
        rw [List.map_map (g := eI)]
        rfl
      rw [this]; exact hx
    have hll : (zs.map Int.toNat).length = zs.length := by simp
    have hll2 : ((List.length ((zs.map Int.toNat).map ei) : Nat) : Int) = Int.ofNat (zs.map Int.toNat).length := by simp
    simp only [hx'.slK, hll2]
    refine (proves2 k rec _ he hx' hx' (by omega) h2 hC zs.length 0 k (by omega) hk).trans ?_
    by_cases ha : allC (gb e) (zs.map Int.toNat) 0 zs.length = true
    · rw [if_pos ha, if_pos ha]; rfl
    · rw [if_neg ha, if_neg ha]; rfl
  · rw [if_neg hok, if_neg hok]; rfl
theorem Proves_no (k : Nat) (rec : Rec1) {h x : PVal} (hT : rec i_tTo [h] = some (.p toldN)) :
    F_tPr k rec h x = some (.p (ei 2)) := by
  have h9 : Nat.beq (cells zeros 0).length 9 = true := rfl
  have hne : (Int.ofNat 2 != Int.ofNat 0) = true := rfl
  unfold F_tPr
  simp only [hT, bindK_s, pK_p, toldN, tupK_tup, consK_cons, intK_int, endK_nil, aggK_agg, h9, chk_t, hne, ifB_t]
  rfl
end Go.Proofs.YtlcbgidfdkbfcaaGreatDoor
namespace Go.Proofs.YtlcbgidfdkbfcaaGreatDoor
open Go Go.Proofs.YtlcbgidfdkbfcaaGreatDoor.Sw
set_option maxRecDepth 100000
theorem in_spec (k : Nat) (rec : Rec1) (z : Int) (b : Nat) : F_rin k rec (eI z) (ei 0) (ei b) = some (.p (.bool (decide (0 ≤ z) && decide (z < Int.ofNat b + 1)))) := by
  unfold F_rin
  simp only [eI, ei, intK_int]
  by_cases c : 0 ≤ z
  · have d : decide (z ≥ Int.ofNat 0) = true := by simpa using c
    have d2 : decide (0 ≤ z) = true := by simpa using c
    have d3 : decide (z ≤ Int.ofNat b) = decide (z < Int.ofNat b + 1) := decide_eq_decide.2 (by omega)
    simp only [d, d2, d3, ifB_t, Bool.true_and]
  · have d : decide (z ≥ Int.ofNat 0) = false := by simpa using c
    have d2 : decide (0 ≤ z) = false := by simpa using c
    simp only [d, d2, ifB_f, Bool.false_and]
theorem listed_loop (k : Nat) (rec : Rec1) (kx : ExqListed_0 → Option AVal) {x : PVal} {t : Nat} {ys : List Nat} (hx : IsSl x (ys.map ei)) (hn : ys.length < 1000) :
    ∀ (suf pre : List Nat) (j : Nat), ys = pre ++ suf → suf.length < j →
    L_qListed_0 k rec kx j (.a x (Int.ofNat t) (Int.ofNat pre.length)) =
      (if suf.any (fun y => decide (t = y)) = true then kx (.a true) else kx .b) := by
  intro suf
  have hlen : ((List.length (ys.map ei) : Nat) : Int) = Int.ofNat ys.length := by simp
  induction suf with
  | nil =>
    intro pre j hys hj
    obtain ⟨j, rfl⟩ : ∃ i, j = i + 1 := ⟨j - 1, by omega⟩
    have : pre.length = ys.length := by rw [hys]; simp
    rw [this]
    simp only [L_qListed_0, S_qListed_0, hx.slK, hlen, ofNat_lt, Nat.lt_irrefl, decide_false, ifB_f, List.any_nil, Bool.false_eq_true, if_false]
  | cons b suf ih =>
    intro pre j hys hj
    obtain ⟨j, rfl⟩ : ∃ i, j = i + 1 := ⟨j - 1, by omega⟩
    have hpl : pre.length < ys.length := by rw [hys]; simp
    have hget : (ys.map ei)[pre.length]? = some (ei b) := by rw [hys]; simp
    have hj2 : suf.length < j := by simp at hj; omega
    have hw : IntKind.wrap .i64 (Int.ofNat pre.length + Int.ofNat 1) = Int.ofNat (pre ++ [b]).length := by
      rw [wrap_nat (by omega)]; simp
    have next := ih (pre ++ [b]) j (by rw [hys]; simp) hj2
    simp only [L_qListed_0, S_qListed_0, hx.slK, hlen, ofNat_lt, hpl, decide_true, ifB_t, natK_ofNat, nthK_get hget]
    simp only [ei, intK_int, ofNat_beq, List.any_cons]
    by_cases c : t = b
    · simp only [c, decide_true, ifB_t, Bool.true_or, if_true]
    · have c' : ¬ b = t := fun h => c h.symm
      simp only [c, c', decide_false, ifB_f, Bool.false_or, hw]
      exact next
theorem Listed_spec (k : Nat) (rec : Rec1) {x : PVal} {t : Nat} {ys : List Nat} (hx : IsSl x (ys.map ei)) (hn : ys.length < 1000) (hk : ys.length < k) :
    F_qListed k rec x (ei t) = some (.p (.bool (ys.any fun y => decide (t = y)))) := by
  unfold F_qListed
  simp only [ei, intK_int]
  refine (listed_loop k rec _ hx hn ys [] k rfl hk).trans ?_
  rcases Bool.eq_false_or_eq_true (ys.any fun y => decide (t = y)) with h | h
  · simp only [h, if_true]
  · simp only [h, Bool.false_eq_true, if_false]
def ListedH (rec : Rec1) : Prop := ∀ (v : PVal) (ys : List Nat) (t : Nat), IsSl v (ys.map ei) → ys.length < 1000 → rec i_qListed [v, ei t] = some (.p (.bool (ys.any fun y => decide (t = y))))
def sRi (x : PVal) (i : Nat) : List Nat → St_rrising_0
  | [] => .a x (Int.ofNat 8) (Int.ofNat i)
  | y :: l => .b x (Int.ofNat 8) (y :: l).length (Int.ofNat i) ((y :: l).map ei)
def xRi : List Nat → Exrrising_0
  | [] => .a
  | y :: l => .b (y :: l).length ((y :: l).map ei)
theorem rising0 (k : Nat) (rec : Rec1) (kx : Exrrising_0 → Option AVal) {x : PVal} {ys : List Nat} (hx : IsSl x (ys.map ei)) (hn : ys.length < 1000) (hL : ListedH rec) :
    ∀ (r i : Nat) (acc : List Nat) (j : Nat), i + r = 8 → r < j → acc.length ≤ i →
    L_rrising_0 k rec kx j (sRi x i acc) = kx (xRi (acc ++ ((List.range 8).drop i).filter fun t => ys.any fun y => decide (t = y))) := by
  intro r
  induction r with
  | zero =>
    intro i acc j hi hj _
    obtain ⟨j, rfl⟩ : ∃ i, j = i + 1 := ⟨j - 1, by omega⟩
    have : i = 8 := by omega
    subst this
    have e0 : (List.range 8).drop 8 = [] := rfl
    cases acc with
    | nil => simp only [L_rrising_0, S_rrising_0, sRi, ofNat_lt, Nat.lt_irrefl, decide_false, ifB_f, e0, List.filter_nil, List.append_nil, xRi]
    | cons y l => simp only [L_rrising_0, S_rrising_0, sRi, ofNat_lt, Nat.lt_irrefl, decide_false, ifB_f, e0, List.filter_nil, List.append_nil, xRi]
  | succ r ih =>
    intro i acc j hi hj ha
    obtain ⟨j, rfl⟩ : ∃ i, j = i + 1 := ⟨j - 1, by omega⟩
    have hi8 : i < 8 := by omega
    have hw : IntKind.wrap .i64 (Int.ofNat i + Int.ofNat 1) = Int.ofNat (i + 1) := wrap_nat (by omega)
    have hLi := hL x ys i hx hn
    have hdr : (List.range 8).drop i = i :: (List.range 8).drop (i + 1) := by
      rw [List.drop_eq_getElem_cons (l := List.range 8) (i := i) (by simpa using hi8)]
      simp
    simp only [ei] at hLi
    rw [hdr, List.filter_cons]
    rcases Bool.eq_false_or_eq_true (ys.any fun y => decide (i = y)) with h | h
    · have next := ih (i + 1) (acc ++ [i]) j (by omega) (by omega) (by simp; omega)
      rw [h, if_pos rfl]
      rw [List.append_assoc] at next
      simp only [List.cons_append, List.nil_append] at next
      refine Eq.trans ?_ next
      cases acc with
      | nil =>
        simp only [L_rrising_0, S_rrising_0, sRi, ofNat_lt, hi8, decide_true, ifB_t, hLi, bindK_s, pK_p, boolK_bool, h, hw]
        rfl
      | cons y l =>
        have hb : Nat.ble (((y :: l).length + 1) * 8) 1099511627776 = true := ble_of (by simp at ha ⊢; omega)
        have hm : ((y :: l).map ei).length = (y :: l).length := List.length_map _
        simp only [L_rrising_0, S_rrising_0, sRi, ofNat_lt, hi8, decide_true, ifB_t, hLi, bindK_s, pK_p, boolK_bool, h, hw, hb, hm, beq_self', chk_t, List.cons_append]
        simp [ei]
    · have next := ih (i + 1) acc j (by omega) (by omega) (by omega)
      rw [h, if_neg (by simp)]
      refine Eq.trans ?_ next
      cases acc with
      | nil => simp only [L_rrising_0, S_rrising_0, sRi, ofNat_lt, hi8, decide_true, ifB_t, hLi, bindK_s, pK_p, boolK_bool, h, ifB_f, hw]
      | cons y l => simp only [L_rrising_0, S_rrising_0, sRi, ofNat_lt, hi8, decide_true, ifB_t, hLi, bindK_s, pK_p, boolK_bool, h, ifB_f, hw]
def menL (ys : List Nat) : List Nat := (List.range 8).filter fun t => ys.any fun y => decide (t = y)
theorem rising_spec (k : Nat) (rec : Rec1) {x : PVal} {ys : List Nat} (hx : IsSl x (ys.map ei)) (hn : ys.length < 1000) (hk : 9 < k) (hL : ListedH rec) :
    F_rrising k rec x (ei 8) = some (.p (encL (menL ys))) := by
  unfold F_rrising
  simp only [ei, intK_int]
  refine (rising0 k rec _ hx hn hL 8 0 [] k rfl (by omega) (by simp)).trans ?_
  rw [List.drop_zero, List.nil_append]
  show _ = some (AVal.p (encL (menL ys)))
  unfold menL
  cases (List.range 8).filter fun t => ys.any fun y => decide (t = y) with
  | nil => rfl
  | cons y l =>
    have hb : Nat.ble (0 + (y :: l).length) ((y :: l).map ei).length = true := ble_of (by simp)
    simp only [xRi, hb, chk_t, List.drop_zero]
    rw [List.take_of_length_le (by simp)]
    rfl
def sAl (x : PVal) (i : Nat) : List Nat → St_rall_0
  | [] => .a x (Int.ofNat i)
  | y :: l => .b x (y :: l).length (Int.ofNat i) ((y :: l).map ei)
def xAl : List Nat → Exrall_0
  | [] => .a
  | y :: l => .b (y :: l).length ((y :: l).map ei)
theorem all0 (k : Nat) (rec : Rec1) (kx : Exrall_0 → Option AVal) {x : PVal} {ns : List NA} (hx : IsSl x (ns.map enN)) (hn : ns.length < 1000) :
    ∀ (suf pre : List NA) (j : Nat), ns = pre ++ suf → suf.length < j →
    L_rall_0 k rec kx j (sAl x pre.length (pre.map (·.t))) = kx (xAl (ns.map (·.t))) := by
  intro suf
  have hlen : ((List.length (ns.map enN) : Nat) : Int) = Int.ofNat ns.length := by simp
  induction suf with
  | nil =>
    intro pre j hys hj
    obtain ⟨j, rfl⟩ : ∃ i, j = i + 1 := ⟨j - 1, by omega⟩
    have hp : pre = ns := by rw [hys]; simp
    subst hp
    cases hc : pre.map (·.t) with
    | nil => simp only [L_rall_0, S_rall_0, sAl, hx.slK, hlen, ofNat_lt, Nat.lt_irrefl, decide_false, ifB_f, xAl]
    | cons y l => simp only [L_rall_0, S_rall_0, sAl, hx.slK, hlen, ofNat_lt, Nat.lt_irrefl, decide_false, ifB_f, xAl]
  | cons b suf ih =>
    intro pre j hys hj
    obtain ⟨j, rfl⟩ : ∃ i, j = i + 1 := ⟨j - 1, by omega⟩
    have hpl : pre.length < ns.length := by rw [hys]; simp
    have hget : (ns.map enN)[pre.length]? = some (enN b) := by rw [hys]; simp
    have hj2 : suf.length < j := by simp at hj; omega
    have hw : IntKind.wrap .i64 (Int.ofNat pre.length + Int.ofNat 1) = Int.ofNat (pre ++ [b]).length := by
      rw [wrap_nat (by omega)]; simp
    have next := ih (pre ++ [b]) j (by rw [hys]; simp) hj2
    refine Eq.trans ?_ next
    have hpm : (pre.map (·.t)).length = pre.length := List.length_map _
    rw [List.map_append]
    cases hc : pre.map (·.t) with
    | nil =>
      simp only [L_rall_0, S_rall_0, sAl, hx.slK, hlen, ofNat_lt, hpl, decide_true, ifB_t, natK_ofNat, nthK_get hget, enN, aggK_agg, consK_cons, ei, intK_int, boolK_bool, endK_nil, hw]
      rfl
    | cons y l =>
      rw [hc] at hpm
      have hb : Nat.ble (((y :: l).length + 1) * 8) 1099511627776 = true := ble_of (by omega)
      have hm : ((y :: l).map ei).length = (y :: l).length := List.length_map _
      simp only [L_rall_0, S_rall_0, sAl, hx.slK, hlen, ofNat_lt, hpl, decide_true, ifB_t, natK_ofNat, nthK_get hget, enN, aggK_agg, consK_cons]
      simp only [hm, beq_self', hb, chk_t, ei, intK_int, boolK_bool, endK_nil, hw, List.cons_append]
      have hm' : (List.map (fun n => PVal.int IntKind.i64 (Int.ofNat n)) (y :: l)).length = (y :: l).length := List.length_map _
      simp [ei]
theorem all_spec (k : Nat) (rec : Rec1) {x : PVal} {ns : List NA} (hx : IsSl x (ns.map enN)) (hn : ns.length < 1000) (hk : ns.length < k)
    (hR : ∀ (v : PVal) (ys : List Nat), IsSl v (ys.map ei) → ys.length < 1000 → rec i_rrising [v, ei 8] = some (.p (encL (menL ys)))) :
    F_rall k rec x = some (.p (encL (menL (ns.map (·.t))))) := by
  unfold F_rall
  refine (all0 k rec _ hx hn ns [] k rfl hk).trans ?_
  have hml : (ns.map (·.t)).length < 1000 := by simpa using hn
  have e8 : ei 8 = .int .i64 (Int.ofNat 8) := rfl
  cases hc : ns.map (·.t) with
  | nil =>
    have := hR .nils [] .nil (by decide)
    simp only [e8] at this
    simp only [xAl, this, bindK_s, pK_p]
  | cons y l =>
    rw [hc] at hml
    have := hR (.sl ((y :: l).map ei)) (y :: l) (.sl _) hml
    have hb : Nat.ble (0 + (y :: l).length) ((y :: l).map ei).length = true := ble_of (by simp)
    have ht : List.take (y :: l).length (List.drop 0 ((y :: l).map ei)) = (y :: l).map ei := by
      rw [List.drop_zero, List.take_of_length_le (by simp)]
    simp only [e8] at this
    simp only [xAl, hb, chk_t, ht, this, bindK_s, pK_p, ifB_self]
theorem acted0 (k : Nat) (rec : Rec1) (kx : Exracted_0 → Option AVal) {x : PVal} {hs : List Act} (hx : IsSl x (hs.map enA)) (hn : hs.length < 1000)
    (hI : ∀ (z : Int) (b : Nat), rec i_rin [eI z, ei 0, ei b] = some (.p (.bool (decide (0 ≤ z) && decide (z < Int.ofNat b + 1))))) :
    ∀ (suf pre : List Act) (j : Nat), hs = pre ++ suf → suf.length < j →
    L_racted_0 k rec kx j (.a x (Int.ofNat pre.length)) = (if suf.all okA = true then kx (.b x) else kx (.a false)) := by
  intro suf
  have hlen : ((List.length (hs.map enA) : Nat) : Int) = Int.ofNat hs.length := by simp
  induction suf with
  | nil =>
    intro pre j hys hj
    obtain ⟨j, rfl⟩ : ∃ i, j = i + 1 := ⟨j - 1, by omega⟩
    have hp : pre = hs := by rw [hys]; simp
    subst hp
    simp only [L_racted_0, S_racted_0, hx.slK, hlen, ofNat_lt, Nat.lt_irrefl, decide_false, ifB_f, List.all_nil, if_true]
  | cons b suf ih =>
    intro pre j hys hj
    obtain ⟨j, rfl⟩ : ∃ i, j = i + 1 := ⟨j - 1, by omega⟩
    have hpl : pre.length < hs.length := by rw [hys]; simp
    have hget : (hs.map enA)[pre.length]? = some (enA b) := by rw [hys]; simp
    have hj2 : suf.length < j := by simp at hj; omega
    have hw : IntKind.wrap .i64 (Int.ofNat pre.length + Int.ofNat 1) = Int.ofNat (pre ++ [b]).length := by
      rw [wrap_nat (by omega)]; simp
    have next := ih (pre ++ [b]) j (by rw [hys]; simp) hj2
    have h1 := hI b.t 7
    have h2 := hI b.v 4
    have e7 : Int.ofNat 7 + 1 = 8 := rfl
    have e4 : Int.ofNat 4 + 1 = 5 := rfl
    rw [e7] at h1
    rw [e4] at h2
    simp only [eI, ei] at h1 h2
    simp only [L_racted_0, S_racted_0, hx.slK, hlen, ofNat_lt, hpl, decide_true, ifB_t, natK_ofNat, nthK_get hget, enA, aggK_agg, consK_cons, intK_int, boolK_bool, endK_nil, h1, bindK_s, pK_p, List.all_cons, okA]
    rcases Bool.eq_false_or_eq_true (decide (0 ≤ b.t) && decide (b.t < 8)) with c1 | c1
    · simp only [c1, Bool.not_true, ifB_f, h2, bindK_s, pK_p, boolK_bool, Bool.true_and]
      rcases Bool.eq_false_or_eq_true (decide (0 ≤ b.v) && decide (b.v < 5)) with c2 | c2
      · simp only [c2, Bool.not_true, ifB_f, Bool.true_and, hw]
        exact next
      · simp only [c2, Bool.not_false, ifB_t, Bool.false_and, Bool.false_eq_true, if_false]
    · simp only [c1, Bool.not_false, ifB_t, Bool.false_and, Bool.false_eq_true, if_false]
theorem acted_spec (k : Nat) (rec : Rec1) {x : PVal} {hs : List Act} (hx : IsSl x (hs.map enA)) (hn : hs.length < 1000) (hk : hs.length < k)
    (hI : ∀ (z : Int) (b : Nat), rec i_rin [eI z, ei 0, ei b] = some (.p (.bool (decide (0 ≤ z) && decide (z < Int.ofNat b + 1))))) :
    F_racted k rec x = some (.p (.bool (legal hs))) := by
  have hlen : ((List.length (hs.map enA) : Nat) : Int) = Int.ofNat hs.length := by simp
  have hd : decide (Int.ofNat hs.length ≤ Int.ofNat 60) = decide (hs.length ≤ 60) := decide_eq_decide.2 (by simp; omega)
  unfold F_racted
  refine (acted0 k rec _ hx hn hI hs [] k rfl hk).trans ?_
  rcases Bool.eq_false_or_eq_true (hs.all okA) with c | c
  · simp only [c, if_true, hx.slK, hlen, hd, legal, Bool.true_and]
  · simp only [c, Bool.false_eq_true, if_false, legal, Bool.false_and]
end Go.Proofs.YtlcbgidfdkbfcaaGreatDoor
namespace Go.Proofs.YtlcbgidfdkbfcaaGreatDoor
open Go Go.Proofs.YtlcbgidfdkbfcaaGreatDoor.Sw
set_option maxRecDepth 100000
theorem before2 (k : Nat) (rec : Rec1) (kx : ExrBefore_2 → Option AVal) {x : PVal} {a b : Nat} {ns : List NA} {y : NA} {i : Nat} (hx : IsSl x (ns.map enN)) (hn : ns.length < 1000) (hi : ns[i]? = some y) :
    ∀ (suf pre : List NA) (j : Nat), ns = pre ++ suf → suf.length < j →
    L_rBefore_2 k rec kx j (.a x (Int.ofNat a) (Int.ofNat b) (Int.ofNat i) (Int.ofNat pre.length)) =
      (if suf.any (hit a b y) = true then kx (.a true) else kx (.b x (Int.ofNat a) (Int.ofNat b) (Int.ofNat i))) := by
  intro suf
  have hlen : ((List.length (ns.map enN) : Nat) : Int) = Int.ofNat ns.length := by simp
  have hgi : (ns.map enN)[i]? = some (enN y) := by rw [List.getElem?_map, hi]; rfl
  induction suf with
  | nil =>
    intro pre j hys hj
    obtain ⟨j, rfl⟩ : ∃ i, j = i + 1 := ⟨j - 1, by omega⟩
    have hp : pre = ns := by rw [hys]; simp
    subst hp
    simp only [L_rBefore_2, S_rBefore_2, hx.slK, hlen, ofNat_lt, Nat.lt_irrefl, decide_false, ifB_f, List.any_nil, Bool.false_eq_true, if_false]
  | cons c suf ih =>
    intro pre j hys hj
    obtain ⟨j, rfl⟩ : ∃ i, j = i + 1 := ⟨j - 1, by omega⟩
    have hpl : pre.length < ns.length := by rw [hys]; simp
    have hget : (ns.map enN)[pre.length]? = some (enN c) := by rw [hys]; simp
    have hj2 : suf.length < j := by simp at hj; omega
    have hw : IntKind.wrap .i64 (Int.ofNat pre.length + Int.ofNat 1) = Int.ofNat (pre ++ [c]).length := by
      rw [wrap_nat (by omega)]; simp
    have next := ih (pre ++ [c]) j (by rw [hys]; simp) hj2
    simp only [L_rBefore_2, S_rBefore_2, hx.slK, hlen, ofNat_lt, hpl, decide_true, ifB_t, natK_ofNat, nthK_get hget, nthK_get hgi]
    simp only [enN, aggK_agg, consK_cons, ei, intK_int, boolK_bool, endK_nil, ofNat_beq, ofNat_bne, List.any_cons, hw]
    by_cases c1 : y.t = a
    · by_cases c2 : c.t = b
      · by_cases c3 : a = b
        · have hf : hit a b y c = false := by unfold hit; apply decide_eq_false; intro h; exact h.2.2.1 c3
          simp only [hf, Bool.false_or]
          rw [← next]
          have c4 : decide (a = b) = true := by simpa using c3
          simp only [c1, c2, c4, decide_true, ifB_t, Bool.not_true, ifB_f]
        · by_cases c4 : y.v = c.v
          · cases hy : y.w with
            | true =>
              have hf : hit a b y c = true := by unfold hit; apply decide_eq_true; exact ⟨c1, c2, c3, c4, .inl hy⟩
              simp only [hf, Bool.true_or, if_true, c1, c2, c3, c4, decide_true, decide_false, ifB_t, Bool.not_false]
            | false =>
              cases hc : c.w with
              | true =>
                have hf : hit a b y c = true := by unfold hit; apply decide_eq_true; exact ⟨c1, c2, c3, c4, .inr hc⟩
                simp only [hf, Bool.true_or, if_true, c1, c2, c3, c4, decide_true, decide_false, ifB_t, ifB_f, Bool.not_false]
              | false =>
                have hf : hit a b y c = false := by
                  unfold hit; apply decide_eq_false; intro h
                  rcases h.2.2.2.2 with h | h
                  · rw [hy] at h; cases h
                  · rw [hc] at h; cases h
                simp only [hf, Bool.false_or, c1, c2, c3, c4, decide_true, decide_false, ifB_t, ifB_f, Bool.not_false]
                exact next
          · have hf : hit a b y c = false := by unfold hit; apply decide_eq_false; intro h; exact c4 h.2.2.2.1
            simp only [hf, Bool.false_or, c1, c2, c3, c4, decide_true, decide_false, ifB_t, ifB_f, Bool.not_false]
            exact next
      · have hf : hit a b y c = false := by unfold hit; apply decide_eq_false; intro h; exact c2 h.2.1
        simp only [hf, Bool.false_or, c1, c2, decide_true, decide_false, ifB_t, ifB_f]
        exact next
    · have hf : hit a b y c = false := by unfold hit; apply decide_eq_false; intro h; exact c1 h.1
      simp only [hf, Bool.false_or, c1, decide_false, ifB_f]
      exact next
theorem before0 (k : Nat) (rec : Rec1) (kx : ExrBefore_0 → Option AVal) {x : PVal} {a b : Nat} {ns : List NA} (hx : IsSl x (ns.map enN)) (hn : ns.length < 1000) (hk : ns.length < k) :
    ∀ (suf pre : List NA) (j : Nat), ns = pre ++ suf → suf.length < j →
    L_rBefore_0 k rec kx j (.a x (Int.ofNat a) (Int.ofNat b) (Int.ofNat pre.length)) = (if bef a b suf = true then kx (.b true) else kx .a) := by
  intro suf
  have hlen : ((List.length (ns.map enN) : Nat) : Int) = Int.ofNat ns.length := by simp
  induction suf with
  | nil =>
    intro pre j hys hj
    obtain ⟨j, rfl⟩ : ∃ i, j = i + 1 := ⟨j - 1, by omega⟩
    have hp : pre = ns := by rw [hys]; simp
    subst hp
    simp only [L_rBefore_0, S_rBefore_0, hx.slK, hlen, ofNat_lt, Nat.lt_irrefl, decide_false, ifB_f, bef, Bool.false_eq_true, if_false]
  | cons y suf ih =>
    intro pre j hys hj
    obtain ⟨j, rfl⟩ : ∃ i, j = i + 1 := ⟨j - 1, by omega⟩
    have hpl : pre.length < ns.length := by rw [hys]; simp
    have hgi : ns[pre.length]? = some y := by rw [hys]; simp
    have hj2 : suf.length < j := by simp at hj; omega
    have hw : IntKind.wrap .i64 (Int.ofNat pre.length + Int.ofNat 1) = Int.ofNat (pre ++ [y]).length := by
      rw [wrap_nat (by omega)]; simp
    have next := ih (pre ++ [y]) j (by rw [hys]; simp) hj2
    have key := before2 k rec (fun z => match z with
        | .a b93 => (kx (.b b93))
        | .b x94 z95 z96 z97 => (L_rBefore_0 k rec kx j (.a x94 z95 z96 (IntKind.wrap IntKind.i64 (z97 + (Int.ofNat 1)))))) (a := a) (b := b) hx hn hgi suf (pre ++ [y]) k (by rw [hys]; simp) (by have := congrArg List.length hys; simp at this; omega)
    simp only [L_rBefore_0, S_rBefore_0, hx.slK, hlen, ofNat_lt, hpl, decide_true, ifB_t, hw]
    refine key.trans ?_
    simp only [bef]
    rcases Bool.eq_false_or_eq_true (suf.any (hit a b y)) with c | c
    · simp only [c, Bool.true_or, if_true]
    · simp only [c, Bool.false_or, Bool.false_eq_true, if_false, hw]
      exact next
theorem Before_spec (k : Nat) (rec : Rec1) {x : PVal} {a b : Nat} {ns : List NA} (hx : IsSl x (ns.map enN)) (hn : ns.length < 1000) (hk : ns.length < k) :
    F_rBefore k rec x (ei a) (ei b) = some (.p (.bool (bef a b ns))) := by
  unfold F_rBefore
  simp only [ei, intK_int]
  refine (before0 k rec _ hx hn hk ns [] k rfl hk).trans ?_
  rcases Bool.eq_false_or_eq_true (bef a b ns) with c | c
  · simp only [c, if_true]
  · simp only [c, Bool.false_eq_true, if_false]
def gcl (g : Nat → Nat → Bool) (n : Nat) : List PVal := (List.range 64).map fun i => .bool (if i < n then g (i / 8) (i % 8) else false)
theorem gcl_len (g : Nat → Nat → Bool) (n : Nat) : (gcl g n).length = 64 := by simp [gcl]
theorem gcl_get (g : Nat → Nat → Bool) {a b : Nat} (ha : a < 8) (hb : b < 8) : (gcl g 64)[(0 + a * 8) + b * 1]? = some (.bool (g a b)) := by
  have h : (0 + a * 8) + b * 1 < 64 := by omega
  unfold gcl
  rw [List.getElem?_map, List.getElem?_range h]
  have e1 : ((0 + a * 8) + b * 1) / 8 = a := by omega
  have e2 : ((0 + a * 8) + b * 1) % 8 = b := by omega
  simp only [Option.map_some, e1, e2, h, if_true]
theorem gcl_set (g : Nat → Nat → Bool) {a b : Nat} (ha : a < 8) (hb : b < 8) : (gcl g (a * 8 + b)).set ((0 + a * 8) + b * 1) (.bool (g a b)) = gcl g (a * 8 + b + 1) := by
  apply List.ext_getElem?
  intro i
  unfold gcl
  by_cases h : (0 + a * 8) + b * 1 = i
  · subst h
    rw [List.getElem?_set_self (by simp; omega), List.getElem?_map, List.getElem?_range (by omega)]
    have e1 : ((0 + a * 8) + b * 1) / 8 = a := by omega
    have e2 : ((0 + a * 8) + b * 1) % 8 = b := by omega
    have e3 : (0 + a * 8) + b * 1 < a * 8 + b + 1 := by omega
    simp only [Option.map_some, e1, e2, e3, if_true]
  · rw [List.getElem?_set_ne h, List.getElem?_map, List.getElem?_map]
    by_cases hi : i < 64
    · rw [List.getElem?_range hi]
      have : (i < a * 8 + b) ↔ (i < a * 8 + b + 1) := by omega
      simp only [Option.map_some, this]
    · rw [List.getElem?_eq_none (by simp; omega)]; rfl
theorem drawn2 (k : Nat) (rec : Rec1) (kx : Exrdrawn_2 → Option AVal) {x : PVal} {l6 : List PVal} {g : Nat → Nat → Bool} {a : Nat} (ha : a < 8)
    (hB : ∀ b < 8, rec i_rBefore [x, ei a, ei b] = some (.p (.bool (g a b)))) :
    ∀ (r b j : Nat), b + r = 8 → r < j →
    L_rdrawn_2 k rec kx j (.a x (Int.ofNat a) (Int.ofNat b) l6 (gcl g (a * 8 + b))) = kx (.a x (Int.ofNat a) l6 (gcl g (a * 8 + 8))) := by
  intro r
  induction r with
  | zero =>
    intro b j hb hj
    obtain ⟨j, rfl⟩ : ∃ i, j = i + 1 := ⟨j - 1, by omega⟩
    have : b = 8 := by omega
    subst this
    simp only [L_rdrawn_2, S_rdrawn_2, ofNat_lt, Nat.lt_irrefl, decide_false, ifB_f]
  | succ r ih =>
    intro b j hb hj
    obtain ⟨j, rfl⟩ : ∃ i, j = i + 1 := ⟨j - 1, by omega⟩
    have hb8 : b < 8 := by omega
    have hw : IntKind.wrap .i64 (Int.ofNat b + Int.ofNat 1) = Int.ofNat (b + 1) := wrap_nat (by omega)
    have hBb := hB b hb8
    have hlt : Nat.blt ((0 + a * 8) + b * 1) (gcl g (a * 8 + b)).length = true := by rw [gcl_len]; exact blt_of (by omega)
    simp only [ei] at hBb
    simp only [L_rdrawn_2, S_rdrawn_2, ofNat_lt, hb8, decide_true, ifB_t, hBb, bindK_s, pK_p, boolK_bool, natK_ofNat, blt_of ha, blt_of hb8, chk_t, hlt, gcl_set g ha hb8, hw]
    exact ih (b + 1) j (by omega) (by omega)
theorem drawn0 (k : Nat) (rec : Rec1) (kx : Exrdrawn_0 → Option AVal) {x : PVal} {l6 : List PVal} {g : Nat → Nat → Bool} (hk : 9 < k)
    (hB : ∀ a < 8, ∀ b < 8, rec i_rBefore [x, ei a, ei b] = some (.p (.bool (g a b)))) :
    ∀ (r a j : Nat), a + r = 8 → r < j →
    L_rdrawn_0 k rec kx j (.a x (Int.ofNat a) l6 (gcl g (a * 8))) = kx (.a l6 (gcl g 64)) := by
  intro r
  induction r with
  | zero =>
    intro a j ha hj
    obtain ⟨j, rfl⟩ : ∃ i, j = i + 1 := ⟨j - 1, by omega⟩
    have : a = 8 := by omega
    subst this
    simp only [L_rdrawn_0, S_rdrawn_0, ofNat_lt, Nat.lt_irrefl, decide_false, ifB_f]
  | succ r ih =>
    intro a j ha hj
    obtain ⟨j, rfl⟩ : ∃ i, j = i + 1 := ⟨j - 1, by omega⟩
    have ha8 : a < 8 := by omega
    have hw : IntKind.wrap .i64 (Int.ofNat a + Int.ofNat 1) = Int.ofNat (a + 1) := wrap_nat (by omega)
    have key := drawn2 k rec (fun y => match y with
        | .a x17 z18 l19 l20 => (L_rdrawn_0 k rec kx j (.a x17 (IntKind.wrap IntKind.i64 (z18 + (Int.ofNat 1))) l19 l20))) (l6 := l6) ha8 (hB a ha8) 8 0 k rfl (by omega)
    have next := ih (a + 1) j (by omega) (by omega)
    have e1 : (a + 1) * 8 = a * 8 + 8 := by omega
    rw [e1] at next
    simp only [L_rdrawn_0, S_rdrawn_0, ofNat_lt, ha8, decide_true, ifB_t]
    refine key.trans ?_
    simp only [hw]
    exact next
theorem drawn_spec (k : Nat) (rec : Rec1) {x : PVal} {g : Nat → Nat → Bool} (hk : 9 < k)
    (hB : ∀ a < 8, ∀ b < 8, rec i_rBefore [x, ei a, ei b] = some (.p (.bool (g a b)))) :
    F_rdrawn k rec x = some (.p (.agg (gcl g 64))) := by
  have b0 : Nat.ble 64 (gcl g 64).length = true := by rw [gcl_len]; rfl
  have b1 : List.take 64 (List.drop 0 (gcl g 64)) = gcl g 64 := by
    rw [List.drop_zero, List.take_of_length_le (by rw [gcl_len]; exact Nat.le_refl _)]
  have b2 : Nat.beq (gcl g 64).length 64 = true := by rw [gcl_len]; rfl
  have b3 : Nat.ble 64 (gcl g 0).length = true := by rw [gcl_len]; rfl
  have b4 : List.drop 64 (gcl g 0) = [] := List.drop_eq_nil_of_le (by rw [gcl_len]; exact Nat.le_refl _)
  unfold F_rdrawn
  refine (drawn0 k rec (fun y => match y with
    | .a l1 l2 => (chk (Nat.ble 64 (List.length l2))
        (chk (Nat.beq (List.length (List.take 64 (List.drop 0 l2))) 64)
          (chk (Nat.ble 64 (List.length l1))
            (chk (Nat.ble 64 (List.length (((List.take 0 l1) ++ (List.take 64 (List.drop 0 l2))) ++ (List.drop 64 l1))))
              (some (AVal.p (PVal.agg (List.take 64 (List.drop 0 (((List.take 0 l1) ++ (List.take 64 (List.drop 0 l2))) ++ (List.drop 64 l1)))))))))))) (l6 := gcl g 0) hk hB 8 0 k rfl (by omega)).trans ?_
  simp only [b0, b1, b2, b3, b4, chk_t, List.take_zero, List.nil_append, List.append_nil]
theorem circled0 (k : Nat) (rec : Rec1) (kx : Exrcircled_0 → Option AVal) {x : PVal} {g : Nat → Nat → Bool} {cs : List Nat} (hx : IsSl x (cs.map ei)) (hn : cs.length < 1000) (hc : ∀ t ∈ cs, t < 8) :
    ∀ (r i j : Nat), i + r = cs.length → r < j →
    L_rcircled_0 k rec kx j (.a x (Int.ofNat i) (gcl g 64)) = (if allC g cs i r = true then kx .b else kx (.a false)) := by
  intro r
  have hlen : ((List.length (cs.map ei) : Nat) : Int) = Int.ofNat cs.length := by simp
  induction r with
  | zero =>
    intro i j hi hj
    obtain ⟨j, rfl⟩ : ∃ i, j = i + 1 := ⟨j - 1, by omega⟩
    have : i = cs.length := by omega
    subst this
    simp only [L_rcircled_0, S_rcircled_0, hx.slK, hlen, ofNat_lt, Nat.lt_irrefl, decide_false, ifB_f, allC, if_true]
  | succ r ih =>
    intro i j hi hj
    obtain ⟨j, rfl⟩ : ∃ i, j = i + 1 := ⟨j - 1, by omega⟩
    have hil : i < cs.length := by omega
    have hpos : 0 < cs.length := by omega
    have hw : IntKind.wrap .i64 (Int.ofNat i + Int.ofNat 1) = Int.ofNat (i + 1) := wrap_nat (by omega)
    have hmod : Int.tmod (Int.ofNat (i + 1)) (Int.ofNat cs.length) = Int.ofNat ((i + 1) % cs.length) := rfl
    have hml : (i + 1) % cs.length < cs.length := Nat.mod_lt _ hpos
    have hd0 : decide (Int.ofNat cs.length = Int.ofNat 0) = false := by
      apply decide_eq_false
      intro hh
      have := Int.ofNat.inj hh
      omega
    have hg1 : (cs.map ei)[i]? = some (ei (cs.getD i 0)) := by
      rw [List.getElem?_map, List.getD_eq_getElem?_getD, List.getElem?_eq_getElem hil]; rfl
    have hg2 : (cs.map ei)[(i + 1) % cs.length]? = some (ei (cs.getD ((i + 1) % cs.length) 0)) := by
      rw [List.getElem?_map, List.getD_eq_getElem?_getD, List.getElem?_eq_getElem hml]; rfl
    have h1 : cs.getD i 0 < 8 := hc _ (by rw [List.getD_eq_getElem?_getD, List.getElem?_eq_getElem hil, Option.getD_some]; exact List.getElem_mem _)
    have h2 : cs.getD ((i + 1) % cs.length) 0 < 8 := hc _ (by rw [List.getD_eq_getElem?_getD, List.getElem?_eq_getElem hml, Option.getD_some]; exact List.getElem_mem _)
    have next := ih (i + 1) j (by omega) (by omega)
    simp only [L_rcircled_0, S_rcircled_0, hx.slK, hlen, ofNat_lt, hil, decide_true, ifB_t, natK_ofNat, nthK_get hg1, hd0, ifB_f, hw, hmod, nthK_get hg2, allC]
    simp only [ei, intK_int, natK_ofNat, blt_of h1, blt_of h2, chk_t, nthK_get (gcl_get g h1 h2), boolK_bool]
    rcases Bool.eq_false_or_eq_true (g (cs.getD i 0) (cs.getD ((i + 1) % cs.length) 0)) with hh | hh
    · simp only [hh, Bool.not_true, ifB_f, Bool.true_and]
      exact next
    · simp only [hh, Bool.not_false, ifB_t, Bool.false_and, Bool.false_eq_true, if_false]
theorem circled_spec (k : Nat) (rec : Rec1) {x : PVal} {g : Nat → Nat → Bool} {cs : List Nat} (hx : IsSl x (cs.map ei)) (hn : cs.length < 1000) (hc : ∀ t ∈ cs, t < 8) (hk : cs.length < k) :
    F_rcircled k rec (.agg (gcl g 64)) x = some (.p (.bool (allC g cs 0 cs.length))) := by
  have b2 : Nat.beq (gcl g 64).length 64 = true := by rw [gcl_len]; rfl
  unfold F_rcircled
  simp only [aggK_agg, b2, chk_t]
  refine (circled0 k rec _ hx hn hc cs.length 0 k (by omega) hk).trans ?_
  rcases Bool.eq_false_or_eq_true (allC g cs 0 cs.length) with c | c
  · simp only [c, if_true]
  · simp only [c, Bool.false_eq_true, if_false]
end Go.Proofs.YtlcbgidfdkbfcaaGreatDoor
namespace Go.Proofs.YtlcbgidfdkbfcaaGreatDoor
open Go Go.Proofs.YtlcbgidfdkbfcaaGreatDoor.Sw
set_option maxRecDepth 100000
def sRE2 (a : Nat) (c : List PVal) (b : Nat) : List PVal → St_rEdges_2
  | [] => .a (Int.ofNat a) (Int.ofNat b) c
  | y :: l => .b (y :: l).length (Int.ofNat a) (Int.ofNat b) c (y :: l)
def xRE2 (a : Nat) (c : List PVal) : List PVal → ExrEdges_2
  | [] => .a (Int.ofNat a) c
  | y :: l => .b (y :: l).length (Int.ofNat a) c (y :: l)
theorem redges2 (k : Nat) (rec : Rec1) (kx : ExrEdges_2 → Option AVal) {a : Nat} {g : Nat → Nat → Bool} (ha : a < 8) :
    ∀ (r b : Nat) (acc : List PVal) (j : Nat), b + r = 8 → r < j → acc.length ≤ 8 * a + b →
    L_rEdges_2 k rec kx j (sRE2 a (gcl g 64) b acc) = kx (xRE2 a (gcl g 64) (acc ++ rowE a (((List.range 8).drop b).filter (g a)))) := by
  intro r
  induction r with
  | zero =>
    intro b acc j hb hj _
    obtain ⟨j, rfl⟩ : ∃ i, j = i + 1 := ⟨j - 1, by omega⟩
    have : b = 8 := by omega
    subst this
    have e0 : (List.range 8).drop 8 = [] := rfl
    cases acc with
    | nil => simp only [L_rEdges_2, S_rEdges_2, sRE2, ofNat_lt, Nat.lt_irrefl, decide_false, ifB_f, e0, List.filter_nil, rowE, List.map_nil, List.append_nil, xRE2]
    | cons y l => simp only [L_rEdges_2, S_rEdges_2, sRE2, ofNat_lt, Nat.lt_irrefl, decide_false, ifB_f, e0, List.filter_nil, rowE, List.map_nil, List.append_nil, xRE2]
  | succ r ih =>
    intro b acc j hb hj hacc
    obtain ⟨j, rfl⟩ : ∃ i, j = i + 1 := ⟨j - 1, by omega⟩
    have hb8 : b < 8 := by omega
    have hw : IntKind.wrap .i64 (Int.ofNat b + Int.ofNat 1) = Int.ofNat (b + 1) := wrap_nat (by omega)
    have hdr : (List.range 8).drop b = b :: (List.range 8).drop (b + 1) := by
      rw [List.drop_eq_getElem_cons (l := List.range 8) (i := b) (by simpa using hb8)]
      simp
    rw [hdr, List.filter_cons]
    rcases Bool.eq_false_or_eq_true (g a b) with h | h
    · have next := ih (b + 1) (acc ++ [eE a b]) j (by omega) (by omega) (by simp; omega)
      rw [h, if_pos rfl]
      rw [List.append_assoc] at next
      refine Eq.trans ?_ next
      cases acc with
      | nil =>
        simp only [L_rEdges_2, S_rEdges_2, sRE2, ofNat_lt, hb8, decide_true, ifB_t, natK_ofNat, blt_of ha, blt_of hb8, chk_t, nthK_get (gcl_get g ha hb8), boolK_bool, h, hw]
        rfl
      | cons y l =>
        have hb : Nat.ble (((y :: l).length + 1) * 16) 1099511627776 = true := ble_of (by simp at hacc ⊢; omega)
        simp only [L_rEdges_2, S_rEdges_2, sRE2, ofNat_lt, hb8, decide_true, ifB_t, natK_ofNat, blt_of ha, blt_of hb8, chk_t, nthK_get (gcl_get g ha hb8), boolK_bool, h, hw, hb, beq_self', List.cons_append]
        simp [eE, ei]
    · have next := ih (b + 1) acc j (by omega) (by omega) (by omega)
      rw [h, if_neg (by simp)]
      refine Eq.trans ?_ next
      cases acc with
      | nil => simp only [L_rEdges_2, S_rEdges_2, sRE2, ofNat_lt, hb8, decide_true, ifB_t, natK_ofNat, blt_of ha, blt_of hb8, chk_t, nthK_get (gcl_get g ha hb8), boolK_bool, h, ifB_f, hw]
      | cons y l => simp only [L_rEdges_2, S_rEdges_2, sRE2, ofNat_lt, hb8, decide_true, ifB_t, natK_ofNat, blt_of ha, blt_of hb8, chk_t, nthK_get (gcl_get g ha hb8), boolK_bool, h, ifB_f, hw]
def sRE0 (c : List PVal) (i : Nat) : List PVal → St_rEdges_0
  | [] => .a (Int.ofNat i) c
  | y :: l => .b (y :: l).length (Int.ofNat i) c (y :: l)
def xRE0 : List PVal → ExrEdges_0
  | [] => .a
  | y :: l => .b (y :: l).length (y :: l)
theorem redges0 (k : Nat) (rec : Rec1) (kx : ExrEdges_0 → Option AVal) {g : Nat → Nat → Bool} (hk : 9 < k) :
    ∀ (r i : Nat) (acc : List PVal) (j : Nat), i + r = 8 → r < j → acc.length ≤ 8 * i →
    L_rEdges_0 k rec kx j (sRE0 (gcl g 64) i acc) = kx (xRE0 (acc ++ edgesN g ((List.range 8).drop i))) := by
  intro r
  induction r with
  | zero =>
    intro i acc j hi hj _
    obtain ⟨j, rfl⟩ : ∃ i, j = i + 1 := ⟨j - 1, by omega⟩
    have : i = 8 := by omega
    subst this
    have e0 : edgesN g ((List.range 8).drop 8) = [] := rfl
    cases acc with
    | nil => simp only [L_rEdges_0, sRE0, S_rEdges_0, ofNat_lt, Nat.lt_irrefl, decide_false, ifB_f, e0, List.append_nil, xRE0]
    | cons y l => simp only [L_rEdges_0, sRE0, S_rEdges_0, ofNat_lt, Nat.lt_irrefl, decide_false, ifB_f, e0, List.append_nil, xRE0]
  | succ r ih =>
    intro i acc j hi hj ha
    obtain ⟨j, rfl⟩ : ∃ i, j = i + 1 := ⟨j - 1, by omega⟩
    have hi8 : i < 8 := by omega
    have hw : IntKind.wrap .i64 (Int.ofNat i + Int.ofNat 1) = Int.ofNat (i + 1) := wrap_nat (by omega)
    have hfl : ((List.range 8).filter (g i)).length ≤ 8 := Nat.le_trans (List.length_filter_le _ _) (by simp)
    have next := ih (i + 1) (acc ++ rowE i ((List.range 8).filter (g i))) j (by omega) (by omega) (by rw [List.length_append]; unfold rowE; rw [List.length_map]; omega)
    have e1 : (acc ++ rowE i ((List.range 8).filter (g i))) ++ edgesN g ((List.range 8).drop (i + 1)) = acc ++ edgesN g ((List.range 8).drop i) := by
      rw [List.drop_eq_getElem_cons (l := List.range 8) (i := i) (by simpa using hi8)]
      rw [List.getElem_range]
      simp only [edgesN, List.flatMap_cons, List.append_assoc]
    rw [e1] at next
    refine Eq.trans ?_ next
    have fin : ∀ l : List PVal, (fun y => match y with
          | .a z27 l28 => (L_rEdges_0 k rec kx j (.a (IntKind.wrap IntKind.i64 (z27 + (Int.ofNat 1))) l28))
          | .b n29 z30 l31 l32 => (L_rEdges_0 k rec kx j (.b n29 (IntKind.wrap IntKind.i64 (z30 + (Int.ofNat 1))) l31 l32)) : ExrEdges_2 → Option AVal) (xRE2 i (gcl g 64) l) = L_rEdges_0 k rec kx j (sRE0 (gcl g 64) (i + 1) l) := by
      intro l
      cases l with
      | nil => simp only [xRE2, sRE0, hw]
      | cons y l => simp only [xRE2, sRE0, hw]
    have key := redges2 k rec (fun y => match y with
          | .a z27 l28 => (L_rEdges_0 k rec kx j (.a (IntKind.wrap IntKind.i64 (z27 + (Int.ofNat 1))) l28))
          | .b n29 z30 l31 l32 => (L_rEdges_0 k rec kx j (.b n29 (IntKind.wrap IntKind.i64 (z30 + (Int.ofNat 1))) l31 l32))) (g := g) hi8 8 0 acc k rfl (by omega) (by omega)
    replace key := key.trans (fin _)
    rw [List.drop_zero] at key
    cases acc with
    | nil =>
      simp only [L_rEdges_0, sRE0, S_rEdges_0, ofNat_lt, hi8, decide_true, ifB_t]
      exact key
    | cons y l =>
      simp only [L_rEdges_0, sRE0, S_rEdges_0, ofNat_lt, hi8, decide_true, ifB_t]
      exact key
theorem REdges_ok (k : Nat) (rec : Rec1) {x : PVal} {g : Nat → Nat → Bool} (hk : 9 < k)
    (hA : rec i_racted [x] = some (.p (.bool true)))
    (hD : rec i_rdrawn [x] = some (.p (.agg (gcl g 64)))) :
    F_rEdges k rec x = some (.p (edgesR g)) := by
  have b2 : Nat.beq (gcl g 64).length 64 = true := by rw [gcl_len]; rfl
  unfold F_rEdges
  simp only [hA, hD, bindK_s, pK_p, boolK_bool, Bool.not_true, ifB_f, aggK_agg, b2, chk_t, List.nil_append, List.append_nil]
  refine (redges0 k rec _ hk 8 0 [] k rfl (by omega) (by simp)).trans ?_
  simp only [List.drop_zero, List.nil_append, edgesR]
  cases edgesN g (List.range 8) with
  | nil => rfl
  | cons y l =>
    have hb : Nat.ble (0 + (y :: l).length) (y :: l).length = true := ble_of (by simp)
    simp only [xRE0, hb, chk_t, List.drop_zero, List.take_length, encS]
theorem REdges_no (k : Nat) (rec : Rec1) {x : PVal} (hA : rec i_racted [x] = some (.p (.bool false))) :
    F_rEdges k rec x = some (.p (.tup [.nils, .int .i64 (Int.ofNat 2)])) := by
  unfold F_rEdges
  simp only [hA, bindK_s, pK_p, boolK_bool, Bool.not_false, ifB_t]
theorem RProves0 (k : Nat) (rec : Rec1) (kx : ExrProves_0 → Option AVal) {h x : PVal} {zs : List Int} (hx : IsSl x (zs.map eI)) (hn : zs.length < 1000) (hL : ListedH rec)
    (hI : ∀ (z : Int) (b : Nat), rec i_rin [eI z, ei 0, ei b] = some (.p (.bool (decide (0 ≤ z) && decide (z < Int.ofNat b + 1))))) :
    ∀ (suf : List Int) (pre : List Nat) (j : Nat), zs = pre.map Int.ofNat ++ suf → suf.length < j →
    L_rProves_0 k rec kx j (.a h x (Int.ofNat pre.length)) = (if okC pre suf = true then kx (.b h x) else kx (.a (Int.ofNat 2))) := by
  intro suf
  have hlen : ((List.length (zs.map eI) : Nat) : Int) = Int.ofNat zs.length := by simp
  induction suf with
  | nil =>
    intro pre j hys hj
    obtain ⟨j, rfl⟩ : ∃ i, j = i + 1 := ⟨j - 1, by omega⟩
    have : pre.length = zs.length := by rw [hys]; simp
    rw [this]
    simp only [L_rProves_0, S_rProves_0, hx.slK, hlen, ofNat_lt, Nat.lt_irrefl, decide_false, ifB_f, okC, if_true]
  | cons z suf ih =>
    intro pre j hys hj
    obtain ⟨j, rfl⟩ : ∃ i, j = i + 1 := ⟨j - 1, by omega⟩
    have hpl : pre.length < zs.length := by rw [hys]; simp
    have hget : (zs.map eI)[pre.length]? = some (eI z) := by rw [hys]; simp
    have hj2 : suf.length < j := by simp at hj; omega
    have hw : IntKind.wrap .i64 (Int.ofNat pre.length + Int.ofNat 1) = Int.ofNat (pre ++ [z.toNat]).length := by
      rw [wrap_nat (by omega)]; simp
    have hble : Nat.ble pre.length (zs.map eI).length = true := ble_of (by simp; omega)
    have hwd : wide 1 (zs.map eI) = true := by cases zs <;> rfl
    have h1 := hI z 7
    have e7 : Int.ofNat 7 + 1 = 8 := rfl
    rw [e7] at h1
    simp only [eI, ei] at h1
    have hble' : Nat.ble pre.length (List.map (fun z => PVal.int IntKind.i64 z) zs).length = true := hble
    simp only [L_rProves_0, S_rProves_0, hx.slK, hlen, ofNat_lt, hpl, decide_true, ifB_t, natK_ofNat, nthK_get hget, hble, hwd, chk_t]
    simp only [eI, intK_int, okC, h1, bindK_s, pK_p, boolK_bool]
    rcases Bool.eq_false_or_eq_true (decide (0 ≤ z) && decide (z < 8)) with c | c
    · have c' := c
      simp only [Bool.and_eq_true, decide_eq_true_eq] at c'
      have hz : z = Int.ofNat z.toNat := by simp; omega
      have next := ih (pre ++ [z.toNat]) j (by rw [hys, List.map_append, List.append_assoc]; congr 1; simp; omega) hj2
      have hsl : IsSl (sliceP x 0 pre.length) (pre.map ei) := by
        have := hx.slice 0 pre.length
        have e : List.take (pre.length - 0) (List.drop 0 (zs.map eI)) = pre.map ei := by
          rw [hys, List.map_append, List.map_map, List.drop_zero, Nat.sub_zero, List.take_append_of_le_length (by simp), List.take_of_length_le (by simp)]
          rfl
        rw [e] at this
        exact this
      have hLi := hL _ _ z.toNat hsl (by omega)
      simp only [ei] at hLi
      rw [← hz] at hLi
      simp only [c, Bool.not_true, ifB_f, Bool.true_and, hLi, bindK_s, pK_p, boolK_bool]
      rcases Bool.eq_false_or_eq_true (pre.any fun y => decide (z.toNat = y)) with hh | hh
      · simp only [hh, ifB_t, Bool.not_true, Bool.false_and, Bool.false_eq_true, if_false]
      · simp only [hh, ifB_f, Bool.not_false, Bool.true_and, hw]
        exact next
    · simp only [c, Bool.not_false, ifB_t, Bool.false_and, Bool.false_eq_true, if_false]
theorem RProves_ok (k : Nat) (rec : Rec1) {h x : PVal} {g : Nat → Nat → Bool} {zs : List Int} (hx : IsSl x (zs.map eI)) (hn : zs.length < 1000) (hk : zs.length < k)
    (hA : rec i_racted [h] = some (.p (.bool true)))
    (hD : rec i_rdrawn [h] = some (.p (.agg (gcl g 64)))) (hL : ListedH rec)
    (hI : ∀ (z : Int) (b : Nat), rec i_rin [eI z, ei 0, ei b] = some (.p (.bool (decide (0 ≤ z) && decide (z < Int.ofNat b + 1)))))
    (hC : ∀ (v : PVal) (cs : List Nat), IsSl v (cs.map ei) → cs.length < 1000 → (∀ t ∈ cs, t < 8) → rec i_rcircled [.agg (gcl g 64), v] = some (.p (.bool (allC g cs 0 cs.length)))) :
    F_rProves k rec h x = some (.p (ei (provR g zs))) := by
  have hlen : ((List.length (zs.map eI) : Nat) : Int) = Int.ofNat zs.length := by simp
  have hd : decide (Int.ofNat zs.length < Int.ofNat 2) = decide (zs.length < 2) := ofNat_lt _ _
  unfold F_rProves
  simp only [hA, bindK_s, pK_p, boolK_bool, Bool.not_true, ifB_f, hx.slK, hlen, hd, provR]
  by_cases c : zs.length < 2
  · simp only [c, decide_true, ifB_t, if_true]; rfl
  simp only [c, decide_false, ifB_f, if_false]
  refine (RProves0 k rec _ hx hn hL hI zs [] k (by simp) hk).trans ?_
  by_cases hok : okC [] zs = true
  · rw [if_pos hok, if_pos hok]
    obtain ⟨h1, h2⟩ := okC_nat hok
    have hx' : IsSl x ((zs.map Int.toNat).map ei) := by
      have : (zs.map Int.toNat).map ei = zs.map eI := by
        conv => rhs; rw [h1]
        rw [List.map_map (g := eI)]
        rfl
      rw [this]; exact hx
    have hCi := hC x _ hx' (by simpa using hn) h2
    have hll : (zs.map Int.toNat).length = zs.length := by simp
    rw [hll] at hCi
    simp only [hD, hCi, bindK_s, pK_p, boolK_bool]
    by_cases ha : allC g (zs.map Int.toNat) 0 zs.length = true
    · rw [if_pos ha, ha]; rfl
    · rw [if_neg ha, Bool.eq_false_iff.2 ha]; rfl
  · rw [if_neg hok, if_neg hok]; rfl
theorem RProves_no (k : Nat) (rec : Rec1) {h x : PVal} (hA : rec i_racted [h] = some (.p (.bool false))) :
    F_rProves k rec h x = some (.p (ei 2)) := by
  unfold F_rProves
  simp only [hA, bindK_s, pK_p, boolK_bool, Bool.not_false, ifB_t]
  rfl
def goesH (g : Nat → Nat → Bool) (b : List Nat) (t : Nat) : Bool := !(b.any fun y => decide (t = y)) && (match b.getLast? with
  | none => true
  | some u => g u t)
def rndH (g : Nat → Nat → Bool) (men : List Nat) (long : Nat) : Nat → List Nat → Option (List Nat)
  | 0, _ => none
  | f + 1, b => if b.length = long then (if allC g b 0 b.length = true then some b else none)
    else firstO (fun t => if goesH g b t = true then rndH g men long f (b ++ [t]) else none) men
theorem rndH_ne {g : Nat → Nat → Bool} {men : List Nat} {long : Nat} (h0 : 0 < long) : ∀ {f : Nat} {b l : List Nat}, rndH g men long f b = some l → l ≠ []
  | 0, _, _, h => by simp [rndH] at h
  | f + 1, b, l, h => by
    unfold rndH at h
    split at h
    · rename_i hl
      split at h
      · cases h
        intro hh
        rw [hh] at hl
        simp at hl
        omega
      · cases h
    · have : ∀ (ms : List Nat), firstO (fun t => if goesH g b t = true then rndH g men long f (b ++ [t]) else none) ms = some l → l ≠ [] := by
        intro ms
        induction ms with
        | nil => intro h; simp [firstO] at h
        | cons t r ih =>
          intro h
          unfold firstO at h
          split at h
          · rename_i v hv
            cases h
            split at hv
            · exact rndH_ne h0 hv
            · cases hv
          · exact ih h
      exact this men h
theorem rround0 (k : Nat) (rec : Rec1) (kx : Exrround_0 → Option AVal) {g : Nat → Nat → Bool} {x : PVal} {men : List Nat} {long f : Nat} (hlong : 0 < long) {b : List Nat} (hb : ∀ t ∈ b, t < 8) (hbl : b.length < 100) (hm : ∀ t ∈ men, t < 8) (hml : men.length < 100)
    (hx : IsSl x (men.map ei)) (hL : ListedH rec)
    (hR : ∀ t < 8, goesH g b t = true → rec i_rround [.agg (gcl g 64), x, ei long, .sl ((b ++ [t]).map ei)] = some (.p (resP (rndH g men long f (b ++ [t]))))) :
    ∀ (suf pre : List Nat) (j : Nat), men = pre ++ suf → suf.length < j →
    L_rround_0 k rec kx j (.a x (Int.ofNat long) (encL b) (Int.ofNat pre.length) (gcl g 64)) =
      (match firstO (fun t => if goesH g b t = true then rndH g men long f (b ++ [t]) else none) suf with
        | some l => kx (.a (.sl (l.map ei)))
        | none => kx .b) := by
  intro suf
  have hlen : ((List.length (men.map ei) : Nat) : Int) = Int.ofNat men.length := by simp
  have hlenb : ((List.length (b.map ei) : Nat) : Int) = Int.ofNat b.length := by simp
  induction suf with
  | nil =>
    intro pre j hys hj
    obtain ⟨j, rfl⟩ : ∃ i, j = i + 1 := ⟨j - 1, by omega⟩
    have : pre.length = men.length := by rw [hys]; simp
    rw [this]
    simp only [L_rround_0, S_rround_0, hx.slK, hlen, ofNat_lt, Nat.lt_irrefl, decide_false, ifB_f]
    rfl
  | cons i suf ih =>
    intro pre j hys hj
    obtain ⟨j, rfl⟩ : ∃ i, j = i + 1 := ⟨j - 1, by omega⟩
    have hpl : pre.length < men.length := by rw [hys]; simp
    have hget : (men.map ei)[pre.length]? = some (ei i) := by rw [hys]; simp
    have hj2 : suf.length < j := by simp at hj; omega
    have hi8 : i < 8 := hm i (by rw [hys]; simp)
    have hw : IntKind.wrap .i64 (Int.ofNat pre.length + Int.ofNat 1) = Int.ofNat (pre ++ [i]).length := by
      rw [wrap_nat (by omega)]; simp
    have next := ih (pre ++ [i]) j (by rw [hys]; simp) hj2
    have hRi := hR i hi8
    have hLi := hL (encL b) b i (encL_is b) (by omega)
    have b0 : Nat.ble 64 (gcl g 64).length = true := by rw [gcl_len]; rfl
    have b1 : List.take 64 (List.drop 0 (gcl g 64)) = gcl g 64 := by
      rw [List.drop_zero, List.take_of_length_le (by rw [gcl_len]; exact Nat.le_refl _)]
    have hdn : ∀ l : List Nat, l ≠ [] → decide (((List.length (l.map ei) : Nat) : Int) > Int.ofNat 0) = true := by
      intro l hl
      cases l with
      | nil => exact absurd rfl hl
      | cons _ _ => simp
    have hne : ∀ l, rndH g men long f (b ++ [i]) = some l → l ≠ [] := fun l h => rndH_ne hlong h
    simp only [ei] at hLi
    simp only [L_rround_0, S_rround_0, hx.slK, (encL_is _).slK, hlen, hlenb, ofNat_lt, hpl, decide_true, ifB_t, natK_ofNat, nthK_get hget]
    simp only [ei, intK_int, hLi, bindK_s, pK_p, boolK_bool, firstO]
    have hdn' : ∀ l : List Nat, l ≠ [] → decide (((List.length (l.map fun n => PVal.int IntKind.i64 (Int.ofNat n)) : Nat) : Int) > Int.ofNat 0) = true := hdn
    rcases Bool.eq_false_or_eq_true (b.any fun y => decide (i = y)) with hn | hn
    · have hg : goesH g b i = false := by simp only [goesH, hn, Bool.not_true, Bool.false_and]
      simp only [hn, ifB_t, hg, Bool.false_eq_true, if_false, hw]
      exact next
    · simp only [hn, ifB_f]
      rcases List.eq_nil_or_concat b with hb0 | ⟨b', u, hb1⟩
      · subst hb0
        have hg : goesH g [] i = true := rfl
        have hRi := hRi hg
        have hd0 : decide (0 < ([] : List Nat).length) = false := rfl
        have e1 : List.take 1 (List.drop 0 [ei i]) = ([] ++ [i]).map ei := rfl
        have e2 : List.map (fun n => PVal.int IntKind.i64 (Int.ofNat n)) [] = [] := rfl
        simp only [ei] at e1 hRi
        simp only [hd0, ifB_f, b0, chk_t, e2, listK_nil, b1, e1, hg, if_true, widths, List.map_nil, hRi, bindK_s, pK_p, ifB_self]
        cases hr : rndH g men long f ([] ++ [i]) with
        | none => simp only [resP, slK_nils, List.length_nil, hw]; exact next
        | some l =>
          simp only [resP, slK_sl, hdn l (hne l hr), ifB_t]
      · rw [List.concat_eq_append] at hb1
        have hl : b.getLast? = some u := by rw [hb1]; simp
        have hu8 : u < 8 := hb u (by rw [hb1]; simp)
        have hbp : b.length = b'.length + 1 := by rw [hb1]; simp
        have hd0 : decide (0 < b.length) = true := by simp; omega
        have hz : IntKind.wrap .i64 (Int.ofNat b.length - Int.ofNat 1) = Int.ofNat b'.length := by
          rw [wrap_small]
          · simp [hbp]
          · simp [hbp]
          · simp [hbp]; omega
        have hgetu : (b.map ei)[b'.length]? = some (ei u) := by rw [hb1]; simp
        have hcells := gcl_get g hu8 hi8
        simp only [hd0, ifB_t, hz, natK_ofNat]
        simp only [nthK_get hgetu]
        simp only [ei, intK_int, natK_ofNat, blt_of hu8, blt_of hi8, chk_t, nthK_get hcells, boolK_bool]
        rcases Bool.eq_false_or_eq_true (g u i) with hc | hc
        · have hg : goesH g b i = true := by simp only [goesH, hl, hc, hn]; rfl
          have hRi := hRi hg
          obtain ⟨y, l, hyl⟩ : ∃ y l, b = y :: l := by
            cases b with
            | nil => simp at hbp
            | cons y l => exact ⟨y, l, rfl⟩
          have hwd := widths_ei b
          have hmy : b.map ei = ei y :: l.map ei := by rw [hyl]; rfl
          rw [hmy] at hwd
          have hll : (ei y :: l.map ei).length = b.length := by rw [hyl]; simp
          have h3 : Nat.ble (b.length * 8) 1099511627776 = true := ble_of (by omega)
          have h4 : Nat.ble ((b.length + 1) * 8) 1099511627776 = true := ble_of (by omega)
          have h5 : Nat.ble (0 + (b.length + 1)) (ei y :: l.map ei ++ [PVal.int IntKind.i64 (Int.ofNat i)]).length = true := ble_of (by rw [List.length_append, hll]; simp)
          have h6 : List.take (b.length + 1) (List.drop 0 (ei y :: l.map ei ++ [PVal.int IntKind.i64 (Int.ofNat i)])) = (b ++ [i]).map ei := by
            rw [List.drop_zero, List.take_of_length_le (by rw [List.length_append, hll]; simp), List.map_append, hyl]; rfl
          simp only [hc, Bool.not_true, ifB_f, b0, chk_t, hwd, nthK_get hget, hmy, listK_cons, hll, h3]
          simp only [ei] at hRi h5 h6 hwd
          simp only [ei, intK_int] at *
          simp only [hwd, hll, beq_self', h4, h5, b1, h6, chk_t, hg, if_true, hRi, bindK_s, pK_p, ifB_self]
          cases hr : rndH g men long f (b ++ [i]) with
          | none => simp only [resP, slK_nils, List.length_nil, hw]; exact next
          | some l =>
            simp only [resP, slK_sl, hdn l (hne l hr), ifB_t]
        · have hg : goesH g b i = false := by simp only [goesH, hl, hc, Bool.and_false]
          simp only [hc, Bool.not_false, ifB_t, hg, Bool.false_eq_true, if_false, hw]
          exact next
theorem rround_spec (k : Nat) (rec : Rec1) {g : Nat → Nat → Bool} {x : PVal} {men : List Nat} {long f : Nat} {b : List Nat} (hb : ∀ t ∈ b, t < 8) (hlong : 2 ≤ long ∧ long < 50) (hble : b.length ≤ long) (hm : ∀ t ∈ men, t < 8) (hml : men.length < 100) (hk : men.length < k)
    (hx : IsSl x (men.map ei)) (hL : ListedH rec)
    (hC : ∀ (v : PVal) (cs : List Nat), IsSl v (cs.map ei) → cs.length < 1000 → (∀ t ∈ cs, t < 8) → rec i_rcircled [.agg (gcl g 64), v] = some (.p (.bool (allC g cs 0 cs.length))))
    (hR : ∀ t < 8, b.length < long → goesH g b t = true → rec i_rround [.agg (gcl g 64), x, ei long, .sl ((b ++ [t]).map ei)] = some (.p (resP (rndH g men long f (b ++ [t]))))) :
    F_rround k rec (.agg (gcl g 64)) x (ei long) (encL b) = some (.p (resP (rndH g men long (f + 1) b))) := by
  have b0 : Nat.ble 64 (gcl g 64).length = true := by rw [gcl_len]; rfl
  have b1 : List.take 64 (List.drop 0 (gcl g 64)) = gcl g 64 := by
    rw [List.drop_zero, List.take_of_length_le (by rw [gcl_len]; exact Nat.le_refl _)]
  have b2 : Nat.beq (gcl g 64).length 64 = true := by rw [gcl_len]; rfl
  have hlen : ((List.length (b.map ei) : Nat) : Int) = Int.ofNat b.length := by simp
  unfold F_rround
  simp only [ei, intK_int, aggK_agg, b2, chk_t]
  simp only [(encL_is _).slK, hlen, ofNat_beq, rndH]
  by_cases c : b.length = long
  · have hCi := hC (encL b) b (encL_is b) (by omega) hb
    obtain ⟨y, l, hyl⟩ : ∃ y l, b = y :: l := by
      cases b with
      | nil => simp at c; omega
      | cons y l => exact ⟨y, l, rfl⟩
    have hen : encL b = .sl (b.map ei) := by rw [hyl]; rfl
    simp only [c, decide_true, ifB_t, b0, chk_t, b1, if_true]
    rw [c] at hCi
    simp only [hCi, bindK_s, pK_p, boolK_bool]
    rcases Bool.eq_false_or_eq_true (allC g b 0 long) with hc | hc
    · simp only [hc, ifB_t, if_true, resP, hen]
    · simp only [hc, ifB_f, Bool.false_eq_true, if_false, resP]
  · simp only [c, decide_false, ifB_f, if_false]
    refine (rround0 k rec _ (f := f) (by omega) hb (by omega) hm hml hx hL (fun t ht hg => hR t ht (by omega) hg) men [] k rfl hk).trans ?_
    cases firstO (fun t => if goesH g b t = true then rndH g men long f (b ++ [t]) else none) men with
    | none => rfl
    | some l => rfl
def circH (g : Nat → Nat → Bool) (men lens : List Nat) : Option (List Nat) := firstO (fun n => rndH g men n (n + 1) []) lens
theorem rcircle0 (k : Nat) (rec : Rec1) (kx : ExrCircle_0 → Option AVal) {g : Nat → Nat → Bool} {x : PVal} {men : List Nat} (hml : men.length < 100) (hx : IsSl x (men.map ei))
    (hR : ∀ n, 2 ≤ n → n ≤ men.length → rec i_rround [.agg (gcl g 64), x, ei n, .nils] = some (.p (resP (rndH g men n (n + 1) [])))) :
    ∀ (r n j : Nat), (n + r = men.length + 1 ∨ (r = 0 ∧ men.length < n)) → 2 ≤ n → n < 1000 → r < j →
    L_rCircle_0 k rec kx j (.a x (Int.ofNat n) (gcl g 64)) =
      (match circH g men (List.range' n r) with
        | some l => kx (.a (.sl (l.map ei)) (Int.ofNat 0))
        | none => kx .b) := by
  intro r
  have hlen : ((List.length (men.map ei) : Nat) : Int) = Int.ofNat men.length := by simp
  induction r with
  | zero =>
    intro n j hn _ hnn hj
    obtain ⟨j, rfl⟩ : ∃ i, j = i + 1 := ⟨j - 1, by omega⟩
    have hd : decide (Int.ofNat n ≤ Int.ofNat men.length) = false := by simp; omega
    simp only [L_rCircle_0, S_rCircle_0, hx.slK, hlen, hd, ifB_f]
    rfl
  | succ r ih =>
    intro n j hn h2 hnn hj
    obtain ⟨j, rfl⟩ : ∃ i, j = i + 1 := ⟨j - 1, by omega⟩
    have b0 : Nat.ble 64 (gcl g 64).length = true := by rw [gcl_len]; rfl
    have b1 : List.take 64 (List.drop 0 (gcl g 64)) = gcl g 64 := by
      rw [List.drop_zero, List.take_of_length_le (by rw [gcl_len]; exact Nat.le_refl _)]
    have hd : decide (Int.ofNat n ≤ Int.ofNat men.length) = true := by simp; omega
    have hw : IntKind.wrap .i64 (Int.ofNat n + Int.ofNat 1) = Int.ofNat (n + 1) := wrap_nat (by omega)
    have next := ih (n + 1) j (by omega) (by omega) (by omega) (by omega)
    have hRn := hR n h2 (by omega)
    simp only [ei] at hRn
    simp only [L_rCircle_0, S_rCircle_0, hx.slK, hlen, hd, ifB_t, b0, b1, chk_t, hRn, bindK_s, pK_p, List.range'_succ, circH, firstO]
    cases hr : rndH g men n (n + 1) [] with
    | none =>
      simp only [resP, slK_nils, List.length_nil, hw]
      exact next
    | some l =>
      have hl := rndH_ne (by omega) hr
      have hdn : decide (((List.length (l.map ei) : Nat) : Int) > Int.ofNat 0) = true := by
        cases l with
        | nil => exact absurd rfl hl
        | cons _ _ => simp
      simp only [resP, slK_sl, hdn, ifB_t]
theorem RCircle_ok (k : Nat) (rec : Rec1) {h x : PVal} {g : Nat → Nat → Bool} {men : List Nat} (hml : men.length < 100) (hk : men.length < k) (hk2 : 2 < k) (hx : IsSl x (men.map ei))
    (hA : rec i_racted [h] = some (.p (.bool true)))
    (hAl : rec i_rall [h] = some (.p x))
    (hD : rec i_rdrawn [h] = some (.p (.agg (gcl g 64))))
    (hR : ∀ n, 2 ≤ n → n ≤ men.length → rec i_rround [.agg (gcl g 64), x, ei n, .nils] = some (.p (resP (rndH g men n (n + 1) [])))) :
    F_rCircle k rec h = some (.p (circR (circH g men (List.range' 2 (men.length - 1))))) := by
  have b2 : Nat.beq (gcl g 64).length 64 = true := by rw [gcl_len]; rfl
  unfold F_rCircle
  simp only [hA, hAl, hD, bindK_s, pK_p, boolK_bool, Bool.not_true, ifB_f, aggK_agg, b2, chk_t, List.nil_append, List.append_nil]
  refine (rcircle0 k rec _ hml hx hR (men.length - 1) 2 k (by omega) (by omega) (by omega) (by omega)).trans ?_
  cases circH g men (List.range' 2 (men.length - 1)) with
  | none => rfl
  | some l => rfl
theorem RCircle_no (k : Nat) (rec : Rec1) {h : PVal} (hA : rec i_racted [h] = some (.p (.bool false))) :
    F_rCircle k rec h = some (.p (.tup [.nils, .int .i64 (Int.ofNat 2)])) := by
  unfold F_rCircle
  simp only [hA, bindK_s, pK_p, boolK_bool, Bool.not_false, ifB_t]
end Go.Proofs.YtlcbgidfdkbfcaaGreatDoor
namespace Go.Proofs.YtlcbgidfdkbfcaaGreatDoor
open Go Go.Proofs.YtlcbgidfdkbfcaaGreatDoor.Sw
set_option maxRecDepth 100000
theorem ixF_cons (q : Nat → Bool) (i y : Nat) (r : List Nat) : ixF q i (y :: r) = if q y = true then Int.ofNat i else ixF q (i + 1) r := rfl
def freeG (g : Nat → Nat → Bool) (all : List Nat) (t : Nat) : Bool := !(all.any fun o => g o t)
theorem pick_ix {g : Nat → Nat → Bool} {all : List Nat} : ∀ (suf : List Nat) (i : Nat),
    (∃ A t B, suf = A ++ t :: B ∧ ixF (freeG g all) i suf = Int.ofNat (i + A.length) ∧ pickG g all suf = some t) ∨ (ixF (freeG g all) i suf = Int.negSucc 0 ∧ pickG g all suf = none)
  | [], i => .inr ⟨rfl, rfl⟩
  | t :: r, i => by
    rcases Bool.eq_false_or_eq_true (all.any fun o => g o t) with h | h
    · have hf : freeG g all t = false := by simp only [freeG, h, Bool.not_true]
      rcases pick_ix (g := g) (all := all) r (i + 1) with ⟨A, u, B, h1, h2, h3⟩ | ⟨h2, h3⟩
      · refine .inl ⟨t :: A, u, B, by rw [h1]; rfl, ?_, ?_⟩
        · unfold ixF
          rw [hf, if_neg (by simp), h2]
          congr 1
          simp; omega
        · unfold pickG
          rw [h, if_pos rfl, h3]
      · refine .inr ⟨?_, ?_⟩
        · unfold ixF
          rw [hf, if_neg (by simp), h2]
        · unfold pickG
          rw [h, if_pos rfl, h3]
    · have hf : freeG g all t = true := by simp only [freeG, h, Bool.not_false]
      refine .inl ⟨[], t, r, rfl, ?_, ?_⟩
      · unfold ixF
        rw [hf, if_pos rfl]; simp
      · unfold pickG
        rw [h, if_neg (by simp)]
theorem rorder4a (k : Nat) (rec : Rec1) (kx : ExrOrder_4 → Option AVal) {g : Nat → Nat → Bool} {x : PVal} {left : List Nat} {at' : Int} {i t : Nat} (hx : IsSl x (left.map ei)) (hl : ∀ t ∈ left, t < 8) (hn : left.length < 1000) (hi : left[i]? = some t) :
    ∀ (suf pre : List Nat) (fr : Bool) (j : Nat), left = pre ++ suf → suf.length < j →
    L_rOrder_4 k rec kx j (.a x at' (Int.ofNat i) fr (Int.ofNat pre.length) (gcl g 64)) = kx (.a x at' (Int.ofNat i) (fr && freeG g suf t) (gcl g 64)) := by
  intro suf
  have hlen : ((List.length (left.map ei) : Nat) : Int) = Int.ofNat left.length := by simp
  have ht8 : t < 8 := hl t (List.mem_of_getElem? hi)
  have hgi : (left.map ei)[i]? = some (ei t) := by rw [List.getElem?_map, hi]; rfl
  induction suf with
  | nil =>
    intro pre fr j hys hj
    obtain ⟨j, rfl⟩ : ∃ i, j = i + 1 := ⟨j - 1, by omega⟩
    have : pre.length = left.length := by rw [hys]; simp
    rw [this]
    simp only [L_rOrder_4, S_rOrder_4, hx.slK, hlen, ofNat_lt, Nat.lt_irrefl, decide_false, ifB_f, freeG, List.any_nil, Bool.not_false, Bool.and_true]
  | cons o suf ih =>
    intro pre fr j hys hj
    obtain ⟨j, rfl⟩ : ∃ i, j = i + 1 := ⟨j - 1, by omega⟩
    have hpl : pre.length < left.length := by rw [hys]; simp
    have hget : (left.map ei)[pre.length]? = some (ei o) := by rw [hys]; simp
    have ho8 : o < 8 := hl o (by rw [hys]; simp)
    have hj2 : suf.length < j := by simp at hj; omega
    have hw : IntKind.wrap .i64 (Int.ofNat pre.length + Int.ofNat 1) = Int.ofNat (pre ++ [o]).length := by
      rw [wrap_nat (by omega)]; simp
    have next := fun fr => ih (pre ++ [o]) fr j (by rw [hys]; simp) hj2
    have e1 : freeG g (o :: suf) t = (!(g o t) && freeG g suf t) := by simp only [freeG, List.any_cons, Bool.not_or]
    rw [e1, ← Bool.and_assoc]
    cases fr with
    | true =>
      simp only [L_rOrder_4, S_rOrder_4, hx.slK, hlen, ofNat_lt, hpl, decide_true, ifB_t, natK_ofNat, nthK_get hget, nthK_get hgi]
      simp only [ei, intK_int, natK_ofNat, blt_of ho8, blt_of ht8, chk_t, nthK_get (gcl_get g ho8 ht8), boolK_bool, hw, Bool.true_and]
      exact next _
    | false =>
      simp only [L_rOrder_4, S_rOrder_4, hx.slK, hlen, ofNat_lt, hpl, decide_true, ifB_t, ifB_f, hw, Bool.false_and]
      have := next false
      simpa only [Bool.false_and] using this
theorem rorder4b (k : Nat) (rec : Rec1) (kx : ExrOrder_4 → Option AVal) {g : Nat → Nat → Bool} {n2 : Nat} {acc : List PVal} {left : List Nat} {at' : Int} {i t : Nat} (hl : ∀ t ∈ left, t < 8) (hn : left.length < 1000) (hi : left[i]? = some t) :
    ∀ (suf pre : List Nat) (fr : Bool) (j : Nat), left = pre ++ suf → suf.length < j →
    L_rOrder_4 k rec kx j (.b left.length n2 at' (Int.ofNat i) fr (Int.ofNat pre.length) (left.map ei) (gcl g 64) acc) = kx (.b left.length n2 at' (Int.ofNat i) (fr && freeG g suf t) (left.map ei) (gcl g 64) acc) := by
  intro suf
  have ht8 : t < 8 := hl t (List.mem_of_getElem? hi)
  have hil : i < left.length := (List.getElem?_eq_some_iff.1 hi).1
  have hgi : (left.map ei)[0 + i]? = some (ei t) := by rw [Nat.zero_add, List.getElem?_map, hi]; rfl
  induction suf with
  | nil =>
    intro pre fr j hys hj
    obtain ⟨j, rfl⟩ : ∃ i, j = i + 1 := ⟨j - 1, by omega⟩
    have : pre.length = left.length := by rw [hys]; simp
    rw [this]
    have hd : decide (Int.ofNat left.length < ((left.length : Nat) : Int)) = false := by simp
    simp only [L_rOrder_4, S_rOrder_4, hd, ifB_f, freeG, List.any_nil, Bool.not_false, Bool.and_true]
  | cons o suf ih =>
    intro pre fr j hys hj
    obtain ⟨j, rfl⟩ : ∃ i, j = i + 1 := ⟨j - 1, by omega⟩
    have hpl : pre.length < left.length := by rw [hys]; simp
    have hget : (left.map ei)[0 + pre.length]? = some (ei o) := by rw [Nat.zero_add, hys]; simp
    have ho8 : o < 8 := hl o (by rw [hys]; simp)
    have hj2 : suf.length < j := by simp at hj; omega
    have hw : IntKind.wrap .i64 (Int.ofNat pre.length + Int.ofNat 1) = Int.ofNat (pre ++ [o]).length := by
      rw [wrap_nat (by omega)]; simp
    have next := fun fr => ih (pre ++ [o]) fr j (by rw [hys]; simp) hj2
    have hd : decide (Int.ofNat pre.length < ((left.length : Nat) : Int)) = true := by simpa using hpl
    have e1 : freeG g (o :: suf) t = (!(g o t) && freeG g suf t) := by simp only [freeG, List.any_cons, Bool.not_or]
    rw [e1, ← Bool.and_assoc]
    cases fr with
    | true =>
      simp only [L_rOrder_4, S_rOrder_4, hd, ifB_t, natK_ofNat, blt_of hpl, blt_of hil, chk_t, nthK_get hget, nthK_get hgi]
      simp only [ei, oneP_int, ifB_t, intK_int, natK_ofNat, blt_of ho8, blt_of ht8, chk_t, nthK_get (gcl_get g ho8 ht8), boolK_bool, hw, Bool.true_and]
      exact next _
    | false =>
      simp only [L_rOrder_4, S_rOrder_4, hd, ifB_t, ifB_f, hw, Bool.false_and]
      have := next false
      simpa only [Bool.false_and] using this
theorem dec_nat {n : Nat} (h : n < 1000) : IntKind.wrap .i64 (Int.ofNat (n + 1) - Int.ofNat 1) = Int.ofNat n := by
  rw [wrap_small]
  · simp
  · simp
  · simp; omega
theorem dec_zero : IntKind.wrap .i64 (Int.ofNat 0 - Int.ofNat 1) = Int.negSucc 0 := rfl
def pred1 : Nat → Int
  | 0 => Int.negSucc 0
  | n + 1 => Int.ofNat n
theorem pred1_wrap {n : Nat} (h : n < 1000) : IntKind.wrap .i64 (Int.ofNat n - Int.ofNat 1) = pred1 n := by
  cases n with
  | zero => rfl
  | succ n => exact dec_nat (by omega)
theorem rorder2a (k : Nat) (rec : Rec1) (kx : ExrOrder_2 → Option AVal) {g : Nat → Nat → Bool} {x : PVal} {left : List Nat} (hx : IsSl x (left.map ei)) (hl : ∀ t ∈ left, t < 8) (hn : left.length < 1000) (hk : left.length < k) :
    ∀ (n : Nat) (pre suf : List Nat) (j : Nat), pre.length = n → left = pre ++ suf → n < j →
    L_rOrder_2 k rec kx j (.a x (ixF (freeG g left) pre.length suf) (pred1 n) (gcl g 64)) = kx (.a x (ixF (freeG g left) 0 left) (gcl g 64)) := by
  intro n
  induction n with
  | zero =>
    intro pre suf j hp hys hj
    obtain ⟨j, rfl⟩ : ∃ i, j = i + 1 := ⟨j - 1, by omega⟩
    have : pre = [] := List.length_eq_zero_iff.1 hp
    subst this
    have hd : decide ((Int.negSucc 0) ≥ Int.ofNat 0) = false := rfl
    simp only [L_rOrder_2, S_rOrder_2, pred1, hd, ifB_f]
    rw [hys]; rfl
  | succ n ih =>
    intro pre suf j hp hys hj
    obtain ⟨j, rfl⟩ : ∃ i, j = i + 1 := ⟨j - 1, by omega⟩
    obtain ⟨pre', t, rfl⟩ : ∃ pre' t, pre = pre' ++ [t] := by
      rcases List.eq_nil_or_concat pre with h | ⟨b', u, h⟩
      · rw [h] at hp; simp at hp
      · exact ⟨b', u, by rw [h, List.concat_eq_append]⟩
    have hpn : pre'.length = n := by simpa using hp
    have hys' : left = pre' ++ (t :: suf) := by rw [hys]; simp
    have hi : left[n]? = some t := by rw [hys', ← hpn]; simp
    have hnl : n < left.length := by rw [hys', ← hpn]; simp
    have hd : decide (Int.ofNat n ≥ Int.ofNat 0) = true := by simp
    have next := ih pre' (t :: suf) j hpn hys' (by omega)
    have key := rorder4a k rec (fun y => match y with
        | .a x78 z79 z80 b81 l82 => (ifB b81
            (L_rOrder_2 k rec kx j (.a x78 z80 (IntKind.wrap IntKind.i64 (z80 - (Int.ofNat 1))) l82))
            (L_rOrder_2 k rec kx j (.a x78 z79 (IntKind.wrap IntKind.i64 (z80 - (Int.ofNat 1))) l82)))
        | .b n83 n84 z85 z86 b87 l88 l89 l90 => (ifB b87
            (L_rOrder_2 k rec kx j (.b n83 n84 z86 (IntKind.wrap IntKind.i64 (z86 - (Int.ofNat 1))) l88 l89 l90))
            (L_rOrder_2 k rec kx j (.b n83 n84 z85 (IntKind.wrap IntKind.i64 (z86 - (Int.ofNat 1))) l88 l89 l90)))) (g := g) (at' := ixF (freeG g left) (pre' ++ [t]).length suf) hx hl hn hi left [] true k rfl hk
    simp only [L_rOrder_2, S_rOrder_2, pred1, hd, ifB_t]
    refine key.trans ?_
    simp only [Bool.true_and, pred1_wrap (show n < 1000 by omega)]
    rw [ixF_cons] at next
    rcases Bool.eq_false_or_eq_true (freeG g left t) with h | h
    · rw [h, if_pos rfl, hpn] at next
      simp only [h, ifB_t]
      exact next
    · rw [h, if_neg (by simp)] at next
      simp only [h, ifB_f]
      have e : (pre' ++ [t]).length = pre'.length + 1 := by simp
      rw [e]
      exact next
theorem rorder2b (k : Nat) (rec : Rec1) (kx : ExrOrder_2 → Option AVal) {g : Nat → Nat → Bool} {n2 : Nat} {acc : List PVal} {left : List Nat} (hl : ∀ t ∈ left, t < 8) (hn : left.length < 1000) (hk : left.length < k) :
    ∀ (n : Nat) (pre suf : List Nat) (j : Nat), pre.length = n → left = pre ++ suf → n < j →
    L_rOrder_2 k rec kx j (.b left.length n2 (ixF (freeG g left) pre.length suf) (pred1 n) (left.map ei) (gcl g 64) acc) = kx (.b left.length n2 (ixF (freeG g left) 0 left) (left.map ei) (gcl g 64) acc) := by
  intro n
  induction n with
  | zero =>
    intro pre suf j hp hys hj
    obtain ⟨j, rfl⟩ : ∃ i, j = i + 1 := ⟨j - 1, by omega⟩
    have : pre = [] := List.length_eq_zero_iff.1 hp
    subst this
    have hd : decide ((Int.negSucc 0) ≥ Int.ofNat 0) = false := rfl
    simp only [L_rOrder_2, S_rOrder_2, pred1, hd, ifB_f]
    rw [hys]; rfl
  | succ n ih =>
    intro pre suf j hp hys hj
    obtain ⟨j, rfl⟩ : ∃ i, j = i + 1 := ⟨j - 1, by omega⟩
    obtain ⟨pre', t, rfl⟩ : ∃ pre' t, pre = pre' ++ [t] := by
      rcases List.eq_nil_or_concat pre with h | ⟨b', u, h⟩
      · rw [h] at hp; simp at hp
      · exact ⟨b', u, by rw [h, List.concat_eq_append]⟩
    have hpn : pre'.length = n := by simpa using hp
    have hys' : left = pre' ++ (t :: suf) := by rw [hys]; simp
    have hi : left[n]? = some t := by rw [hys', ← hpn]; simp
    have hnl : n < left.length := by rw [hys', ← hpn]; simp
    have hd : decide (Int.ofNat n ≥ Int.ofNat 0) = true := by simp
    have next := ih pre' (t :: suf) j hpn hys' (by omega)
    have key := rorder4b k rec (fun y => match y with
        | .a x78 z79 z80 b81 l82 => (ifB b81
            (L_rOrder_2 k rec kx j (.a x78 z80 (IntKind.wrap IntKind.i64 (z80 - (Int.ofNat 1))) l82))
            (L_rOrder_2 k rec kx j (.a x78 z79 (IntKind.wrap IntKind.i64 (z80 - (Int.ofNat 1))) l82)))
        | .b n83 n84 z85 z86 b87 l88 l89 l90 => (ifB b87
            (L_rOrder_2 k rec kx j (.b n83 n84 z86 (IntKind.wrap IntKind.i64 (z86 - (Int.ofNat 1))) l88 l89 l90))
            (L_rOrder_2 k rec kx j (.b n83 n84 z85 (IntKind.wrap IntKind.i64 (z86 - (Int.ofNat 1))) l88 l89 l90)))) (g := g) (n2 := n2) (acc := acc) (at' := ixF (freeG g left) (pre' ++ [t]).length suf) hl hn hi left [] true k rfl hk
    simp only [L_rOrder_2, S_rOrder_2, pred1, hd, ifB_t]
    refine key.trans ?_
    simp only [Bool.true_and, pred1_wrap (show n < 1000 by omega)]
    rw [ixF_cons] at next
    rcases Bool.eq_false_or_eq_true (freeG g left t) with h | h
    · rw [h, if_pos rfl, hpn] at next
      simp only [h, ifB_t]
      exact next
    · rw [h, if_neg (by simp)] at next
      simp only [h, ifB_f]
      have e : (pre' ++ [t]).length = pre'.length + 1 := by simp
      rw [e]
      exact next
end Go.Proofs.YtlcbgidfdkbfcaaGreatDoor
namespace Go.Proofs.YtlcbgidfdkbfcaaGreatDoor
open Go Go.Proofs.YtlcbgidfdkbfcaaGreatDoor.Sw
set_option maxRecDepth 100000
def sRO (g : Nat → Nat → Bool) (acc : List Nat) : List Nat → St_rOrder_0
  | [] => .b acc.length (gcl g 64) (acc.map ei)
  | y :: l => .c (y :: l).length acc.length ((y :: l).map ei) (gcl g 64) (acc.map ei)
theorem split_take {left A B : List Nat} {t : Nat} (hE : left = A ++ t :: B) : List.take (A.length - 0) (List.drop 0 (left.map ei)) = A.map ei := by
  rw [hE, List.map_append, List.drop_zero, Nat.sub_zero, List.take_append_of_le_length (by simp), List.take_of_length_le (by simp)]
theorem split_drop {left A B : List Nat} {t : Nat} (hE : left = A ++ t :: B) (n : Nat) (hn : n = left.length) : List.take (n - (A.length + 1)) (List.drop (A.length + 1) (left.map ei)) = B.map ei := by
  have h : A ++ t :: B = (A ++ [t]) ++ B := by simp
  rw [hn, hE, h, List.map_append, List.drop_append_of_le_length (by simp), List.drop_eq_nil_of_le (by simp), List.nil_append, List.take_of_length_le (by simp; omega)]
set_option maxHeartbeats 1000000 in
theorem rstep_a (k : Nat) (rec : Rec1) (kx : ExrOrder_0 → Option AVal) {g : Nat → Nat → Bool} {x : PVal} {left A B : List Nat} {t : Nat} (hx : IsSl x (left.map ei)) (hl : ∀ t ∈ left, t < 8) (hn : left.length < 100) (hk : left.length < k) (hE : left = A ++ t :: B) (j : Nat)
    (hp : ixF (freeG g left) 0 left = Int.ofNat A.length) :
    L_rOrder_0 k rec kx (j + 1) (.a x (gcl g 64)) = L_rOrder_0 k rec kx j (sRO g [t] (A ++ B)) := by
  have hlen : ((List.length (left.map ei) : Nat) : Int) = Int.ofNat left.length := by simp
  have hpos : decide (0 < left.length) = true := by rw [hE]; simp; omega
  have hAl : A.length < left.length := by rw [hE]; simp
  have hw : IntKind.wrap .i64 (Int.ofNat A.length + Int.ofNat 1) = Int.ofNat (A.length + 1) := wrap_nat (by omega)
  have hget : (left.map ei)[A.length]? = some (ei t) := by rw [hE]; simp
  have hneg : decide (Int.ofNat A.length < Int.ofNat 0) = false := ofNat_neg _
  have w1 : wide 1 (left.map ei) = true := wide_ei left
  have c1 : Nat.ble A.length (left.map ei).length = true := ble_of (by simp; omega)
  have c2 : Nat.ble (A.length + 1) (left.map ei).length = true := ble_of (by simp; omega)
  have c3 : Nat.ble (left.map ei).length (left.map ei).length = true := ble_of (Nat.le_refl _)
  have s1 : IsSl (sliceP x 0 A.length) (A.map ei) := by
    have := hx.slice 0 A.length
    rw [split_take hE] at this; exact this
  have s2 : IsSl (sliceP x (A.length + 1) (left.map ei).length) (B.map ei) := by
    have := hx.slice (A.length + 1) (left.map ei).length
    rw [split_drop hE _ (by simp)] at this; exact this
  have w2 := widths_ei A
  have w3 := widths_ei B
  have lA : A.length ≤ 100 := by omega
  have lB : B.length ≤ 100 := by rw [hE] at hn; simp at hn; omega
  have hpw := pred1_wrap (n := left.length) (by omega)
  have h2 : ∀ kx2, L_rOrder_2 k rec kx2 k (.a x (Int.negSucc 0) (pred1 left.length) (gcl g 64)) = kx2 (.a x (Int.ofNat A.length) (gcl g 64)) := by
    intro kx2
    have := rorder2a k rec kx2 (g := g) hx hl (by omega) hk left.length left [] k rfl (by simp) hk
    rw [hp] at this
    exact this
  simp only [L_rOrder_0, S_rOrder_0, hx.slK, hlen, ofNat_lt, hpos, ifB_t, hpw]
  refine (h2 _).trans ?_
  simp only [hneg, ifB_f, hx.slK, natK_ofNat, nthK_get hget, c1, w1, chk_t, s1.slK, w2, hw, c2, c3, s2.slK, w3, beq_self']
  simp only [ei, intK_int]
  cases A with
  | nil =>
    cases B with
    | nil => rfl
    | cons b B =>
      have c4 : Nat.ble (((b :: B).map ei).length * 8) 1099511627776 = true := ble_of (by simp at lB ⊢; omega)
      simp only [List.map_cons, List.map_nil, listK_nil, listK_cons]
      simp only [List.map_cons, ei] at c4
      simp only [ei, c4, chk_t, List.nil_append, sRO]
      simp [ei]
  | cons a A =>
    have c4 : Nat.ble (((a :: A).map ei).length * 8) 1099511627776 = true := ble_of (by simp at lA ⊢; omega)
    cases B with
    | nil =>
      have c5 : Nat.ble ((((a :: A).map ei).length + ([] : List PVal).length) * 8) 1099511627776 = true := c4
      simp only [List.map_cons, List.map_nil, listK_nil, listK_cons]
      simp only [List.map_cons, ei] at c4 c5
      simp only [ei, c4, c5, chk_t, List.append_nil, sRO]
      simp [ei]
    | cons b B =>
      have c5 : Nat.ble ((((a :: A).map ei).length + ((b :: B).map ei).length) * 8) 1099511627776 = true := ble_of (by simp at lA lB ⊢; omega)
      simp only [List.map_cons, List.map_nil, listK_nil, listK_cons]
      simp only [List.map_cons, ei] at c4 c5
      simp only [ei, c4, c5, chk_t, List.cons_append, sRO]
      simp [ei]
      congr 2
      omega
set_option maxHeartbeats 1000000 in
theorem rstep_c (k : Nat) (rec : Rec1) (kx : ExrOrder_0 → Option AVal) {g : Nat → Nat → Bool} {left A B acc : List Nat} {t : Nat} (hl : ∀ t ∈ left, t < 8) (hn : left.length < 100) (hk : left.length < k) (hE : left = A ++ t :: B) (hacc : acc.length < 1000) (j : Nat)
    (hp : ixF (freeG g left) 0 left = Int.ofNat A.length) :
    L_rOrder_0 k rec kx (j + 1) (.c left.length acc.length (left.map ei) (gcl g 64) (acc.map ei)) = L_rOrder_0 k rec kx j (sRO g (acc ++ [t]) (A ++ B)) := by
  have hlen : ((List.length (left.map ei) : Nat) : Int) = Int.ofNat left.length := by simp
  have hlen' : ((left.length : Nat) : Int) = Int.ofNat left.length := rfl
  have hpos : decide (0 < left.length) = true := by rw [hE]; simp; omega
  have hAl : A.length < left.length := by rw [hE]; simp
  have hw : IntKind.wrap .i64 (Int.ofNat A.length + Int.ofNat 1) = Int.ofNat (A.length + 1) := wrap_nat (by omega)
  have hget : (left.map ei)[0 + A.length]? = some (ei t) := by rw [Nat.zero_add, hE]; simp
  have hneg : decide (Int.ofNat A.length < Int.ofNat 0) = false := ofNat_neg _
  have c0 : Nat.blt A.length left.length = true := blt_of hAl
  have c1 : Nat.ble A.length left.length = true := ble_of (by omega)
  have c2 : Nat.ble (A.length + 1) left.length = true := ble_of (by omega)
  have c3 : Nat.ble left.length left.length = true := ble_of (Nat.le_refl _)
  have c6 : Nat.ble ((acc.length + 1) * 8) 1099511627776 = true := ble_of (by omega)
  have c7 : Nat.beq acc.length (acc.map ei).length = true := by rw [List.length_map]; exact beq_self' _
  have c8 : Nat.ble (0 + (A.length - 0)) (left.map ei).length = true := ble_of (by simp; omega)
  have c9 : Nat.ble ((0 + (A.length + 1)) + (left.length - (A.length + 1))) (left.map ei).length = true := ble_of (by simp; omega)
  have t1 := split_take hE
  have t2 := split_drop hE left.length rfl
  have z1 : 0 + (A.length + 1) = A.length + 1 := Nat.zero_add _
  have w2 := widths_ei A
  have w3 := widths_ei B
  have lA : A.length ≤ 100 := by omega
  have lB : B.length ≤ 100 := by rw [hE] at hn; simp at hn; omega
  have lE : left.length = A.length + 1 + B.length := by rw [hE]; simp; omega
  have hpw := pred1_wrap (n := left.length) (by omega)
  have h2 : ∀ kx2, L_rOrder_2 k rec kx2 k (.b left.length acc.length (Int.negSucc 0) (pred1 left.length) (left.map ei) (gcl g 64) (acc.map ei)) = kx2 (.b left.length acc.length (Int.ofNat A.length) (left.map ei) (gcl g 64) (acc.map ei)) := by
    intro kx2
    have := rorder2b k rec kx2 (g := g) (n2 := acc.length) (acc := acc.map ei) hl (by omega) hk left.length left [] k rfl (by simp) hk
    rw [hp] at this
    exact this
  have hacc2 : acc.map ei ++ [ei t] = (acc ++ [t]).map ei := by simp
  have hacc3 : acc.length + 1 = (acc ++ [t]).length := by simp
  simp only [L_rOrder_0, S_rOrder_0, hlen', ofNat_lt, hpos, ifB_t, hpw]
  refine (h2 _).trans ?_
  have bA : A = [] ∨ Nat.beq 0 A.length = false := by
    cases A with
    | nil => exact .inl rfl
    | cons _ _ => exact .inr rfl
  have bB : (B = [] ∧ Nat.beq (A.length + 1) left.length = true) ∨ (B ≠ [] ∧ Nat.beq (A.length + 1) left.length = false) := by
    cases B with
    | nil => exact .inl ⟨rfl, by rw [lE]; simp⟩
    | cons _ _ => exact .inr ⟨List.cons_ne_nil _ _, by
        cases hh : Nat.beq (A.length + 1) left.length with
        | false => rfl
        | true => have := Nat.eq_of_beq_eq_true hh; simp at lE; omega⟩
  have bz : Nat.beq (A.length + 1) 0 = false := rfl
  simp only [hneg, ifB_f, natK_ofNat, c0, c1, chk_t, nthK_get hget]
  simp only [ei, oneP_int, ifB_t, intK_int]
  simp only [ei] at hacc2
  have c6' : Nat.ble ((acc ++ [t]).length * 8) 1099511627776 = true := by rw [← hacc3]; exact c6
  simp only [c7, c6, c6', chk_t, hacc2, hacc3, c8, t1, hw, natK_ofNat, c2, c3, w2, ifB_self]
  rcases bA with hA | hA
  · subst hA
    rcases bB with ⟨hB, hB2⟩ | ⟨hB, hB2⟩
    · subst hB
      simp only [List.length_nil, beq_self', ifB_t] at hB2 ⊢
      simp only [hB2, ifB_t]
      rfl
    · obtain ⟨b, B', rfl⟩ : ∃ b B', B = b :: B' := by
        cases B with
        | nil => exact absurd rfl hB
        | cons b B' => exact ⟨b, B', rfl⟩
      have c4 : Nat.ble (((b :: B').map ei).length * 8) 1099511627776 = true := ble_of (by simp at lB ⊢; omega)
      simp only [List.length_nil, beq_self', ifB_t] at hB2 c9 t2 z1 ⊢
      try simp only [z1] at c9
      simp only [hB2, ifB_f, z1, c9, chk_t, t2, w3]
      simp only [List.map_cons, listK_cons]
      simp only [List.map_cons, ei] at c4
      simp only [ei, c4, chk_t, List.nil_append, sRO]
      simp [ei]
  · obtain ⟨a, A', rfl⟩ : ∃ a A', A = a :: A' := by
      cases A with
      | nil => simp at hA
      | cons a A' => exact ⟨a, A', rfl⟩
    have c4 : Nat.ble (((a :: A').map ei).length * 8) 1099511627776 = true := ble_of (by simp at lA ⊢; omega)
    simp only [hA, ifB_f]
    rcases bB with ⟨hB, hB2⟩ | ⟨hB, hB2⟩
    · subst hB
      have c5 : Nat.ble ((((a :: A').map ei).length + 0) * 8) 1099511627776 = true := c4
      simp only [hB2, ifB_t]
      simp only [List.map_cons, listK_cons]
      simp only [List.map_cons, ei] at c4 c5
      simp only [ei, c4, c5, chk_t, beq_self', ifB_self, List.append_nil, sRO]
      simp [ei]
    · obtain ⟨b, B', rfl⟩ : ∃ b B', B = b :: B' := by
        cases B with
        | nil => exact absurd rfl hB
        | cons b B' => exact ⟨b, B', rfl⟩
      have c5 : Nat.ble ((((a :: A').map ei).length + ((b :: B').map ei).length) * 8) 1099511627776 = true := ble_of (by simp at lA lB ⊢; omega)
      simp only [z1] at c9
      simp only [hB2, ifB_f, z1, c9, chk_t, t2, w3]
      simp only [List.map_cons, listK_cons]
      simp only [List.map_cons, ei] at c4 c5
      simp only [ei, c4, c5, chk_t, beq_self', List.cons_append, sRO]
      simp [ei]
      congr 2
      omega
end Go.Proofs.YtlcbgidfdkbfcaaGreatDoor
namespace Go.Proofs.YtlcbgidfdkbfcaaGreatDoor
open Go Go.Proofs.YtlcbgidfdkbfcaaGreatDoor.Sw
set_option maxRecDepth 100000
def xRO : List Nat → ExrOrder_0
  | [] => .a
  | y :: l => .c (y :: l).length ((y :: l).map ei)
theorem filter_split {A B : List Nat} {t : Nat} (hn : (A ++ t :: B).Nodup) : (A ++ t :: B).filter (fun x => !Nat.beq x t) = A ++ B := by
  have hb : ∀ x, x ≠ t → (!Nat.beq x t) = true := by
    intro x hx
    cases hh : Nat.beq x t with
    | false => rfl
    | true => exact absurd (Nat.eq_of_beq_eq_true hh) hx
  rw [List.nodup_append] at hn
  obtain ⟨_, h2, h3⟩ := hn
  rw [List.nodup_cons] at h2
  rw [List.filter_append, List.filter_cons]
  have e1 : A.filter (fun x => !Nat.beq x t) = A := List.filter_eq_self.2 fun x hx => hb x (fun h => h3 x hx t (List.mem_cons_self ..) h)
  have e2 : B.filter (fun x => !Nat.beq x t) = B := List.filter_eq_self.2 fun x hx => hb x (fun h => h2.1 (h ▸ hx))
  rw [e1, e2, beq_self']
  rfl
theorem rorder0 (k : Nat) (rec : Rec1) (kx : ExrOrder_0 → Option AVal) {g : Nat → Nat → Bool} :
    ∀ (f : Nat) (left acc : List Nat) (j : Nat), (∀ t ∈ left, t < 8) → left.Nodup → left.length < k → left.length < 100 → left.length < f → f < j → acc.length + f < 1000 → acc ≠ [] →
    L_rOrder_0 k rec kx j (sRO g acc left) =
      (match ordG g f left acc with
        | none => kx (.b (Int.ofNat 5))
        | some l => kx (xRO l)) := by
  intro f
  induction f with
  | zero => intro left acc j _ _ _ _ h; omega
  | succ f ih =>
    intro left acc j hl hnd hk hn hf hj ha hacc
    obtain ⟨j, rfl⟩ : ∃ i, j = i + 1 := ⟨j - 1, by omega⟩
    cases hc : left with
    | nil =>
      simp only [L_rOrder_0, S_rOrder_0, sRO, ordG, List.isEmpty_nil, if_true]
      cases acc with
      | nil => exact absurd rfl hacc
      | cons y l => rfl
    | cons y l =>
      rw [← hc]
      have hE : left.isEmpty = false := by rw [hc]; rfl
      have hs : sRO g acc left = .c left.length acc.length (left.map ei) (gcl g 64) (acc.map ei) := by rw [hc]; rfl
      simp only [ordG, hE, Bool.false_eq_true, if_false]
      rw [hs]
      rcases pick_ix (g := g) (all := left) left 0 with ⟨A, t, B, h1, h2, h3⟩ | ⟨h2, h3⟩
      · rw [Nat.zero_add] at h2
        rw [rstep_c k rec kx hl hn hk h1 (by omega) j h2]
        simp only [h3]
        have hnd' := hnd
        rw [h1] at hnd'
        have hfs := filter_split hnd'
        rw [← h1] at hfs
        rw [hfs]
        have hlen : (A ++ B).length + 1 = left.length := by rw [h1]; simp; omega
        refine ih (A ++ B) (acc ++ [t]) j ?_ ?_ (by omega) (by omega) (by omega) (by omega) (by simp; omega) (by simp)
        · intro x hx
          apply hl
          rw [h1]
          rcases List.mem_append.1 hx with hx | hx
          · exact List.mem_append_left _ hx
          · exact List.mem_append_right _ (List.mem_cons_of_mem _ hx)
        · rw [← hfs]
          exact hnd.filter _
      · have hlen' : ((left.length : Nat) : Int) = Int.ofNat left.length := rfl
        have hpos : decide (0 < left.length) = true := by rw [hc]; simp
        have hpw := pred1_wrap (n := left.length) (by omega)
        have hneg : decide ((Int.negSucc 0) < Int.ofNat 0) = true := rfl
        have h4 : ∀ kx2, L_rOrder_2 k rec kx2 k (.b left.length acc.length (Int.negSucc 0) (pred1 left.length) (left.map ei) (gcl g 64) (acc.map ei)) = kx2 (.b left.length acc.length (Int.negSucc 0) (left.map ei) (gcl g 64) (acc.map ei)) := by
          intro kx2
          have := rorder2b k rec kx2 (g := g) (n2 := acc.length) (acc := acc.map ei) hl (by omega) hk left.length left [] k rfl (by simp) hk
          rw [h2] at this
          exact this
        simp only [L_rOrder_0, S_rOrder_0, hlen', ofNat_lt, hpos, ifB_t, hpw, h3]
        refine (h4 _).trans ?_
        simp only [hneg, ifB_t]
theorem rorderA (k : Nat) (rec : Rec1) (kx : ExrOrder_0 → Option AVal) {g : Nat → Nat → Bool} {x : PVal} {left : List Nat} (hx : IsSl x (left.map ei)) (hl : ∀ t ∈ left, t < 8) (hnd : left.Nodup) (hk : left.length < k) (hn : left.length < 9) (hk2 : 10 < k) :
    L_rOrder_0 k rec kx k (.a x (gcl g 64)) =
      (match ordG g 9 left [] with
        | none => kx (.b (Int.ofNat 5))
        | some l => kx (xRO l)) := by
  obtain ⟨j, rfl⟩ : ∃ i, k = i + 1 := ⟨k - 1, by omega⟩
  have hlen : ((List.length (left.map ei) : Nat) : Int) = Int.ofNat left.length := by simp
  cases hc : left with
  | nil =>
    have hd : decide (0 < left.length) = false := by rw [hc]; rfl
    simp only [L_rOrder_0, S_rOrder_0, hx.slK, hlen, ofNat_lt, hd, ifB_f]
    rfl
  | cons y l =>
    rw [← hc]
    have hE : left.isEmpty = false := by rw [hc]; rfl
    rw [show (9 : Nat) = 8 + 1 from rfl]
    simp only [ordG.eq_2, hE, Bool.false_eq_true, if_false]
    rcases pick_ix (g := g) (all := left) left 0 with ⟨A, t, B, h1, h2, h3⟩ | ⟨h2, h3⟩
    · rw [Nat.zero_add] at h2
      rw [rstep_a (j + 1) rec kx hx hl (by omega) hk h1 j h2]
      simp only [h3]
      have hnd' := hnd
      rw [h1] at hnd'
      have hfs := filter_split hnd'
      rw [← h1] at hfs
      rw [hfs]
      have hlen : (A ++ B).length + 1 = left.length := by rw [h1]; simp; omega
      refine rorder0 (j + 1) rec kx 8 (A ++ B) ([] ++ [t]) j ?_ ?_ (by omega) (by omega) (by omega) (by omega) (by simp) (by simp)
      · intro x hx
        apply hl
        rw [h1]
        rcases List.mem_append.1 hx with hx | hx
        · exact List.mem_append_left _ hx
        · exact List.mem_append_right _ (List.mem_cons_of_mem _ hx)
      · rw [← hfs]
        exact hnd.filter _
    · have hpos : decide (0 < left.length) = true := by rw [hc]; simp
      have hpw := pred1_wrap (n := left.length) (by omega)
      have hneg : decide ((Int.negSucc 0) < Int.ofNat 0) = true := rfl
      have h4 : ∀ kx2, L_rOrder_2 (j + 1) rec kx2 (j + 1) (.a x (Int.negSucc 0) (pred1 left.length) (gcl g 64)) = kx2 (.a x (Int.negSucc 0) (gcl g 64)) := by
        intro kx2
        have := rorder2a (j + 1) rec kx2 (g := g) hx hl (by omega) hk left.length left [] (j + 1) rfl (by simp) hk
        rw [h2] at this
        exact this
      simp only [L_rOrder_0, S_rOrder_0, hx.slK, hlen, ofNat_lt, hpos, ifB_t, hpw, h3]
      refine (h4 _).trans ?_
      simp only [hneg, ifB_t]
theorem ROrder_ok (k : Nat) (rec : Rec1) {h x : PVal} {g : Nat → Nat → Bool} {men : List Nat} (hx : IsSl x (men.map ei)) (hl : ∀ t ∈ men, t < 8) (hnd : men.Nodup) (hn : men.length < 9) (hk2 : 10 < k)
    (hA : rec i_racted [h] = some (.p (.bool true)))
    (hAl : rec i_rall [h] = some (.p x))
    (hD : rec i_rdrawn [h] = some (.p (.agg (gcl g 64)))) :
    F_rOrder k rec h = some (.p (orderR (ordG g 9 men []))) := by
  have b2 : Nat.beq (gcl g 64).length 64 = true := by rw [gcl_len]; rfl
  unfold F_rOrder
  simp only [hA, hAl, hD, bindK_s, pK_p, boolK_bool, Bool.not_true, ifB_f, aggK_agg, b2, chk_t, List.nil_append, List.append_nil]
  refine (rorderA k rec _ hx hl hnd (by omega) hn hk2).trans ?_
  cases ordG g 9 men [] with
  | none => rfl
  | some l =>
    cases l with
    | nil => rfl
    | cons y l =>
      have hb : Nat.ble (0 + (y :: l).length) ((y :: l).map ei).length = true := ble_of (by simp)
      simp only [xRO, hb, chk_t, List.drop_zero, orderR, encL]
      rw [List.take_of_length_le (by simp)]
      rfl
theorem ROrder_no (k : Nat) (rec : Rec1) {h : PVal} (hA : rec i_racted [h] = some (.p (.bool false))) :
    F_rOrder k rec h = some (.p (.tup [.nils, .int .i64 (Int.ofNat 2)])) := by
  unfold F_rOrder
  simp only [hA, bindK_s, pK_p, boolK_bool, Bool.not_false, ifB_t]
def chainG (g : Nat → Nat → Bool) (b : List Nat) : Prop := ∀ i, i + 1 < b.length → g (b.getD i 0) (b.getD (i + 1) 0) = true
theorem chain_snoc {g : Nat → Nat → Bool} {b : List Nat} {t : Nat} (h : chainG g b) (hg : goes g b t = true) : chainG g (b ++ [t]) := by
  intro i hi
  simp only [List.length_append, List.length_cons, List.length_nil] at hi
  by_cases c : i + 1 < b.length
  · have := h i c
    rw [List.getD_eq_getElem?_getD, List.getD_eq_getElem?_getD] at this ⊢
    rw [List.getElem?_append_left (by omega), List.getElem?_append_left c]
    exact this
  · have hil : i + 1 = b.length := by omega
    rw [List.getD_eq_getElem?_getD, List.getD_eq_getElem?_getD, List.getElem?_append_left (by omega), List.getElem?_append_right (by omega), ← hil]
    simp only [Nat.sub_self, List.getElem?_cons_zero, Option.getD_some]
    have hl : b.getLast? = some (b[i]?.getD 0) := by
      rw [List.getLast?_eq_getElem?, ← hil, Nat.add_sub_cancel, List.getElem?_eq_getElem (by omega)]
      rfl
    simp only [goes, hl, Bool.and_eq_true] at hg
    exact hg.1
theorem all_chain {g : Nat → Nat → Bool} {b : List Nat} (h : chainG g b) (hb : b ≠ []) : ∀ (r i : Nat), i + r = b.length → 0 < r → allC g b i r = g (b.getLastD 0) (b.headD 0)
  | 0, _, _, h0 => by omega
  | r + 1, i, hi, _ => by
    unfold allC
    by_cases c : r = 0
    · subst c
      have e1 : (i + 1) % b.length = 0 := by rw [hi, Nat.mod_self]
      have e2 : b.getD i 0 = b.getLastD 0 := by
        rw [List.getLastD_eq_getLast?, List.getLast?_eq_getElem?, List.getD_eq_getElem?_getD]
        congr 2; omega
      have e3 : b.getD 0 0 = b.headD 0 := by cases b <;> rfl
      rw [e1, e2, e3, allC, Bool.and_true]
    · have hlt : i + 1 < b.length := by omega
      rw [Nat.mod_eq_of_lt hlt, h i hlt, Bool.true_and]
      exact all_chain h hb r (i + 1) (by omega) (by omega)
theorem goes_eq (g : Nat → Nat → Bool) (b : List Nat) (t : Nat) : goesH g b t = goes g b t := by
  unfold goesH goes
  cases hl : b.getLast? with
  | none =>
    have : b = [] := List.getLast?_eq_none_iff.1 hl
    subst this; rfl
  | some u => exact Bool.and_comm _ _
theorem firstO_congr {β : Type} {f h : Nat → Option β} : ∀ {l : List Nat}, (∀ t ∈ l, f t = h t) → firstO f l = firstO h l
  | [], _ => rfl
  | t :: r, H => by
    unfold firstO
    rw [H t (List.mem_cons_self ..), firstO_congr fun x hx => H x (List.mem_cons_of_mem _ hx)]
theorem firstO_filter {β : Type} {f : Nat → Option β} {p : Nat → Bool} : ∀ {l : List Nat}, (∀ t ∈ l, p t = false → f t = none) → firstO f (l.filter p) = firstO f l
  | [], _ => rfl
  | t :: r, H => by
    have ih := firstO_filter (f := f) (p := p) (l := r) fun x hx => H x (List.mem_cons_of_mem _ hx)
    rw [List.filter_cons]
    cases hp : p t with
    | true => simp only [if_true, firstO, ih]
    | false =>
      simp only [Bool.false_eq_true, if_false, firstO, ih]
      rw [H t (List.mem_cons_self ..) hp]
theorem firstO_none {β : Type} {f : Nat → Option β} : ∀ {l : List Nat}, (∀ t ∈ l, f t = none) → firstO f l = none
  | [], _ => rfl
  | t :: r, H => by
    unfold firstO
    rw [H t (List.mem_cons_self ..), firstO_none fun x hx => H x (List.mem_cons_of_mem _ hx)]
theorem firstO_some {β : Type} {f : Nat → Option β} {v : β} : ∀ {l : List Nat}, firstO f l = some v → ∃ t ∈ l, f t = some v
  | [], h => by simp [firstO] at h
  | t :: r, h => by
    unfold firstO at h
    cases hf : f t with
    | some w => rw [hf] at h; simp only [Option.some.injEq] at h; exact ⟨t, List.mem_cons_self .., by rw [hf, h]⟩
    | none =>
      rw [hf] at h
      obtain ⟨u, hu, hv⟩ := firstO_some h
      exact ⟨u, List.mem_cons_of_mem _ hu, hv⟩
def within (g : Nat → Nat → Bool) (men : List Nat) : Prop := ∀ a b, g a b = true → a ∈ men ∧ b ∈ men
theorem rnd_eq {g : Nat → Nat → Bool} {p : Nat → Bool} {long : Nat} (h2 : 2 ≤ long) (hw : ∀ a b, g a b = true → p a = true ∧ p b = true) : ∀ (f : Nat) (b : List Nat), chainG g b → rndH g ((List.range 8).filter p) long f b = rndG g long f b
  | 0, _, _ => rfl
  | f + 1, b, hc => by
    unfold rndH rndG
    by_cases hl : b.length = long
    · rw [if_pos hl, if_pos hl]
      have hb : b ≠ [] := by intro h; rw [h] at hl; simp at hl; omega
      rw [all_chain hc hb b.length 0 (by omega) (by omega)]
    · rw [if_neg hl, if_neg hl]
      rw [firstO_congr (h := fun t => if goes g b t = true then rndG g long f (b ++ [t]) else none)]
      · apply firstO_filter
        intro t _ hp
        show (if goes g b t = true then rndG g long f (b ++ [t]) else none) = none
        by_cases hg : goes g b t = true
        · rw [if_pos hg]
          have hnb : b = [] := by
            rcases List.eq_nil_or_concat b with h | ⟨b', u, h⟩
            · exact h
            · rw [List.concat_eq_append] at h
              have hl : b.getLast? = some u := by rw [h]; simp
              simp only [goes, hl, Bool.and_eq_true] at hg
              rw [(hw _ _ hg.1).2] at hp
              cases hp
          subst hnb
          cases f with
          | zero => rfl
          | succ f =>
            unfold rndG
            rw [if_neg (by simp; omega)]
            apply firstO_none
            intro u _
            rw [if_neg]
            intro h
            have hl : ([] ++ [t] : List Nat).getLast? = some t := rfl
            simp only [goes, hl, Bool.and_eq_true] at h
            rw [(hw _ _ h.1).1] at hp
            cases hp
        · rw [if_neg hg]
      · intro t _
        show (if goesH g b t = true then rndH g _ long f (b ++ [t]) else none) = _
        rw [goes_eq]
        by_cases hg : goes g b t = true
        · rw [if_pos hg, if_pos hg, rnd_eq h2 hw f (b ++ [t]) (chain_snoc hc hg)]
        · rw [if_neg hg, if_neg hg]
theorem rndH_in {g : Nat → Nat → Bool} {men : List Nat} {long : Nat} : ∀ {f : Nat} {b l : List Nat}, rndH g men long f b = some l → b.Nodup → (∀ x ∈ b, x ∈ men) → l.Nodup ∧ (∀ x ∈ l, x ∈ men) ∧ l.length = long
  | 0, _, _, h, _, _ => by simp [rndH] at h
  | f + 1, b, l, h, hn, hm => by
    unfold rndH at h
    by_cases hl : b.length = long
    · rw [if_pos hl] at h
      split at h
      · cases h; exact ⟨hn, hm, hl⟩
      · cases h
    · rw [if_neg hl] at h
      obtain ⟨t, ht, hv⟩ := firstO_some h
      split at hv
      · rename_i hg
        simp only [goesH, Bool.and_eq_true] at hg
        refine rndH_in hv ?_ ?_
        · rw [List.nodup_append]
          refine ⟨hn, by simp, ?_⟩
          intro x hx y hy hxy
          simp only [List.mem_singleton] at hy
          subst hy
          subst hxy
          have := hg.1
          simp only [Bool.not_eq_true', List.any_eq_false, decide_eq_true_eq] at this
          exact this x hx rfl
        · intro x hx
          rcases List.mem_append.1 hx with hx | hx
          · exact hm x hx
          · simp only [List.mem_singleton] at hx
            rw [hx]; exact ht
      · cases hv
theorem circ_eq {g : Nat → Nat → Bool} {p : Nat → Bool} (hw : ∀ a b, g a b = true → p a = true ∧ p b = true) :
    circH g ((List.range 8).filter p) (List.range' 2 (((List.range 8).filter p).length - 1)) = circG g (List.range' 2 7) := by
  have hml : ((List.range 8).filter p).length ≤ 8 := Nat.le_trans (List.length_filter_le _ _) (by simp)
  unfold circH circG
  have hc : chainG g [] := by intro i hi; simp at hi
  have e : ∀ n, 2 ≤ n → rndH g ((List.range 8).filter p) n (n + 1) [] = rndG g n (n + 1) [] := fun n hn => rnd_eq hn hw _ _ hc
  rw [firstO_congr (h := fun n => rndG g n (n + 1) []) (l := List.range' 2 (((List.range 8).filter p).length - 1))]
  · have hr : List.range' 2 7 = List.range' 2 (((List.range 8).filter p).length - 1) ++ List.range' (2 + (((List.range 8).filter p).length - 1)) (7 - (((List.range 8).filter p).length - 1)) := by
      have h7 : ∀ m, m ≤ 7 → List.range' 2 7 = List.range' 2 m ++ List.range' (2 + m) (7 - m) := by
        intro m hm
        rw [List.range'_append_1, Nat.add_sub_cancel' hm]
      exact h7 _ (by omega)
    rw [hr]
    have app : ∀ {f : Nat → Option (List Nat)} {l1 l2 : List Nat}, (∀ t ∈ l2, f t = none) → firstO f (l1 ++ l2) = firstO f l1 := by
      intro f l1 l2 H
      induction l1 with
      | nil => exact firstO_none H
      | cons t r ih => simp only [List.cons_append, firstO, ih]
    rw [app]
    intro n hn
    rw [List.mem_range'_1] at hn
    have hn2 : 2 ≤ n := by omega
    rw [← e n hn2]
    cases hr : rndH g ((List.range 8).filter p) n (n + 1) [] with
    | none => rfl
    | some l =>
      obtain ⟨h1, h2, h3⟩ := rndH_in hr List.nodup_nil (by simp)
      have := h1.length_le_of_subset (fun x hx => h2 x hx)
      omega
  · intro n hn
    rw [List.mem_range'_1] at hn
    exact e n hn.1
end Go.Proofs.YtlcbgidfdkbfcaaGreatDoor
namespace Go.Proofs.YtlcbgidfdkbfcaaGreatDoor
open Go Go.Proofs.YtlcbgidfdkbfcaaGreatDoor.Sw
set_option maxRecDepth 100000
theorem same0 (k : Nat) (rec : Rec1) (kx : ExqSame_0 → Option AVal) {x y : PVal} {l : List Nat} (hx : IsSl x (l.map ei)) (hy : IsSl y (l.map ei)) (hn : l.length < 1000) :
    ∀ (r i j : Nat), i + r = l.length → r < j → L_qSame_0 k rec kx j (.a x y (Int.ofNat i)) = kx .b := by
  intro r
  have hlen : ((List.length (l.map ei) : Nat) : Int) = Int.ofNat l.length := by simp
  induction r with
  | zero =>
    intro i j hi hj
    obtain ⟨j, rfl⟩ : ∃ i, j = i + 1 := ⟨j - 1, by omega⟩
    have : i = l.length := by omega
    subst this
    simp only [L_qSame_0, S_qSame_0, hx.slK, hlen, ofNat_lt, Nat.lt_irrefl, decide_false, ifB_f]
  | succ r ih =>
    intro i j hi hj
    obtain ⟨j, rfl⟩ : ∃ i, j = i + 1 := ⟨j - 1, by omega⟩
    have hil : i < l.length := by omega
    have hget : (l.map ei)[i]? = some (ei l[i]) := by rw [List.getElem?_map, List.getElem?_eq_getElem hil]; rfl
    have hw : IntKind.wrap .i64 (Int.ofNat i + Int.ofNat 1) = Int.ofNat (i + 1) := wrap_nat (by omega)
    simp only [L_qSame_0, S_qSame_0, hx.slK, hy.slK, hlen, ofNat_lt, hil, decide_true, ifB_t, natK_ofNat, nthK_get hget]
    simp only [ei, intK_int, ofNat_bne, decide_true, Bool.not_true, ifB_f, hw]
    exact ih (i + 1) j (by omega) (by omega)
theorem Same_spec (k : Nat) (rec : Rec1) {x y : PVal} {l : List Nat} (hx : IsSl x (l.map ei)) (hy : IsSl y (l.map ei)) (hn : l.length < 1000) (hk : l.length < k) :
    F_qSame k rec x y = some (.p (.bool true)) := by
  have hb : ((((List.length (l.map ei) : Nat) : Int)) != ((List.length (l.map ei) : Nat) : Int)) = false := by simp
  unfold F_qSame
  simp only [hx.slK, hy.slK, hb, ifB_f]
  exact (same0 k rec _ hx hy hn l.length 0 k (by omega) hk).trans rfl
theorem hist0 (k : Nat) (rec : Rec1) (kx : ExlTH_0 → Option AVal) {h c x : PVal} {l : List (Nat × Nat)} (hx : IsSl x (l.map fun p => eE p.1 p.2)) (hn : l.length < 1000) :
    ∀ (r i j : Nat), i + r = l.length → r < j → L_lTH_0 k rec kx j (.a h c x x (Int.ofNat i)) = kx (.b h c) := by
  intro r
  have hlen : ((List.length (l.map fun p => eE p.1 p.2) : Nat) : Int) = Int.ofNat l.length := by simp
  induction r with
  | zero =>
    intro i j hi hj
    obtain ⟨j, rfl⟩ : ∃ i, j = i + 1 := ⟨j - 1, by omega⟩
    have : i = l.length := by omega
    subst this
    simp only [L_lTH_0, S_lTH_0, hx.slK, hlen, ofNat_lt, Nat.lt_irrefl, decide_false, ifB_f]
  | succ r ih =>
    intro i j hi hj
    obtain ⟨j, rfl⟩ : ∃ i, j = i + 1 := ⟨j - 1, by omega⟩
    have hil : i < l.length := by omega
    have hget : (l.map fun p => eE p.1 p.2)[i]? = some (eE l[i].1 l[i].2) := by rw [List.getElem?_map, List.getElem?_eq_getElem hil]; rfl
    have hw : IntKind.wrap .i64 (Int.ofNat i + Int.ofNat 1) = Int.ofNat (i + 1) := wrap_nat (by omega)
    simp only [L_lTH_0, S_lTH_0, hx.slK, hlen, ofNat_lt, hil, decide_true, ifB_t, natK_ofNat, nthK_get hget]
    have hs : (!(selB true (selB true true false) false)) = false := rfl
    simp only [eE, aggK_agg, consK_cons, endK_nil, ei, intK_int, ofNat_beq, decide_true, hs, ifB_f, hw]
    exact ih (i + 1) j (by omega) (by omega)
theorem law_big1 (k : Nat) (rec : Rec1) {h c : PVal} {hs : List Act} (hh : IsSl h (hs.map enA)) (hb : 80 < hs.length) (hW : rec i_lWk [] = some (.p (.bool true))) :
    F_lTH k rec h c = some (.p (.bool true)) := by
  have hlen : ((List.length (hs.map enA) : Nat) : Int) = Int.ofNat hs.length := by simp
  have hd : decide (Int.ofNat hs.length > Int.ofNat 80) = true := by simp; omega
  unfold F_lTH
  simp only [hh.slK, hlen, hd, ifB_t, hW, bindK_s, pK_p, boolK_bool]
theorem law_big2 (k : Nat) (rec : Rec1) {h c : PVal} {hs : List Act} {zs : List Int} (hh : IsSl h (hs.map enA)) (hc : IsSl c (zs.map eI)) (hb : ¬ 80 < hs.length) (hb2 : 20 < zs.length) (hW : rec i_lWk [] = some (.p (.bool true))) :
    F_lTH k rec h c = some (.p (.bool true)) := by
  have hlen : ((List.length (hs.map enA) : Nat) : Int) = Int.ofNat hs.length := by simp
  have hlen2 : ((List.length (zs.map eI) : Nat) : Int) = Int.ofNat zs.length := by simp
  have hd : decide (Int.ofNat hs.length > Int.ofNat 80) = false := by simp; omega
  have hd2 : decide (Int.ofNat zs.length > Int.ofNat 20) = true := by simp; omega
  unfold F_lTH
  simp only [hh.slK, hc.slK, hlen, hlen2, hd, hd2, ifB_t, ifB_f, hW, bindK_s, pK_p, boolK_bool]
theorem law_same (k : Nat) (rec : Rec1) {h c : PVal} {hs : List Act} {zs : List Int} (hh : IsSl h (hs.map enA)) (hc : IsSl c (zs.map eI)) (hb : ¬ 80 < hs.length) (hb2 : ¬ 20 < zs.length) (hk : 100 < k)
    {ex : PVal} {el : List (Nat × Nat)} {ee : Nat} (hex : IsSl ex (el.map fun p => eE p.1 p.2)) (hen : el.length < 100)
    (hE1 : rec i_tEd [h] = some (.p (.tup [ex, ei ee]))) (hE2 : rec i_rEdges [h] = some (.p (.tup [ex, ei ee])))
    {ox : PVal} {ol : List Nat} {oe : Nat} (hox : IsSl ox (ol.map ei))
    (hO1 : rec i_tOr [h] = some (.p (.tup [ox, ei oe]))) (hO2 : rec i_rOrder [h] = some (.p (.tup [ox, ei oe])))
    (hOS : rec i_qSame [ox, ox] = some (.p (.bool true)))
    {cx : PVal} {ce : Nat}
    (hC1 : rec i_tCi [h] = some (.p (.tup [cx, ei ce]))) (hC2 : rec i_rCircle [h] = some (.p (.tup [cx, ei ce])))
    (hCS : rec i_qSame [cx, cx] = some (.p (.bool true)))
    {pn : Nat} (hP1 : rec i_tPr [h, c] = some (.p (ei pn))) (hP2 : rec i_rProves [h, c] = some (.p (ei pn)))
    (hW : rec i_lWk [] = some (.p (.bool true))) :
    F_lTH k rec h c = some (.p (.bool true)) := by
  have hlen : ((List.length (hs.map enA) : Nat) : Int) = Int.ofNat hs.length := by simp
  have hlen2 : ((List.length (zs.map eI) : Nat) : Int) = Int.ofNat zs.length := by simp
  have hd : decide (Int.ofNat hs.length > Int.ofNat 80) = false := by simp; omega
  have hd2 : decide (Int.ofNat zs.length > Int.ofNat 20) = false := by simp; omega
  have hbn : ∀ z : Int, (z != z) = false := by intro z; simp
  have hbe : ∀ z : Int, (z == z) = true := by intro z; simp
  unfold F_lTH
  simp only [ei] at hE1 hE2 hO1 hO2 hC1 hC2 hP1 hP2
  simp only [hh.slK, hc.slK, hlen, hlen2, hd, hd2, ifB_f, hE1, hE2, bindK_s, pK_p, tupK_tup, consK_cons, intK_int, endK_nil, hex.slK, hbn]
  refine (hist0 k rec _ hex (by omega) el.length 0 k (by omega) (by omega)).trans ?_
  simp only [hO1, hO2, hC1, hC2, hOS, hCS, hP1, hP2, bindK_s, pK_p, tupK_tup, consK_cons, intK_int, endK_nil, boolK_bool, ifB_t, hbe, hW]
end Go.Proofs.YtlcbgidfdkbfcaaGreatDoor
namespace Go.Proofs.YtlcbgidfdkbfcaaGreatDoor
open Go Go.Proofs.YtlcbgidfdkbfcaaGreatDoor.Sw
theorem lWk_known : Known prog gl i_lWk [] (.p (.bool true)) [] := Thk.k31
end Go.Proofs.YtlcbgidfdkbfcaaGreatDoor
namespace Go.Proofs.YtlcbgidfdkbfcaaGreatDoor
open Go Go.Proofs.YtlcbgidfdkbfcaaGreatDoor.Sw
set_option maxRecDepth 100000
noncomputable section
def lk : Nat := 2000
def ents : List (EntX prog gl) := [
  ent0 i_lWk (fun _ => some (.p (.bool true))) (fun _ _ hv _ => by cases hv; exact ⟨rfl, lWk_known⟩),
  ent1 i_tLi (F_tLi lk) F_tLi_known,
  ent1 i_tTo (F_tTo lk) F_tTo_known,
  ent3 i_tCo (F_tCo lk) F_tCo_known,
  ent1 i_tEd (F_tEd lk) F_tEd_known,
  ent1 i_rEdges (F_rEdges lk) F_rEdges_known,
  ent1 i_tOr (F_tOr lk) F_tOr_known,
  ent1 i_rOrder (F_rOrder lk) F_rOrder_known,
  ent1 i_tCi (F_tCi lk) F_tCi_known,
  ent1 i_rCircle (F_rCircle lk) F_rCircle_known,
  ent2 i_qSame (F_qSame lk) F_qSame_known,
  ent2 i_tPr (F_tPr lk) F_tPr_known,
  ent2 i_rProves (F_rProves lk) F_rProves_known,
  ent1 i_racted (F_racted lk) F_racted_known,
  ent1 i_rdrawn (F_rdrawn lk) F_rdrawn_known,
  ent2 i_sCF (F_sCF lk) F_sCF_known,
  ent3 i_tOr_1 (F_tOr_1 lk) F_tOr_1_known,
  ent1 i_rall (F_rall lk) F_rall_known,
  ent3 i_tRd (F_tRd lk) F_tRd_known,
  ent4 i_rround (F_rround lk) F_rround_known,
  ent2 i_sCn (F_sCn lk) F_sCn_known,
  ent3 i_rin (F_rin lk) F_rin_known,
  ent2 i_qListed (F_qListed lk) F_qListed_known,
  ent2 i_rcircled (F_rcircled lk) F_rcircled_known,
  ent3 i_rBefore (F_rBefore lk) F_rBefore_known,
  ent2 i_sXF (F_sXF lk) F_sXF_known,
  ent2 i_rrising (F_rrising lk) F_rrising_known,
  ent1 i_sCl (F_sCl lk) F_sCl_known,
  ent2 i_sIx (F_sIx lk) F_sIx_known,
  ent2 i_lTH (F_lTH lk) F_lTH_known
]
theorem lv_tLi (n : Nat) (p0 : PVal) : level ents (n + 1) i_tLi [p0] = good (F_tLi lk (level ents n) p0) := rfl
theorem lv_tTo (n : Nat) (p0 : PVal) : level ents (n + 1) i_tTo [p0] = good (F_tTo lk (level ents n) p0) := rfl
theorem lv_tCo (n : Nat) (p0 p1 p2 : PVal) : level ents (n + 1) i_tCo [p0, p1, p2] = good (F_tCo lk (level ents n) p0 p1 p2) := rfl
theorem lv_tEd (n : Nat) (p0 : PVal) : level ents (n + 1) i_tEd [p0] = good (F_tEd lk (level ents n) p0) := rfl
theorem lv_rEdges (n : Nat) (p0 : PVal) : level ents (n + 1) i_rEdges [p0] = good (F_rEdges lk (level ents n) p0) := rfl
theorem lv_tOr (n : Nat) (p0 : PVal) : level ents (n + 1) i_tOr [p0] = good (F_tOr lk (level ents n) p0) := rfl
theorem lv_rOrder (n : Nat) (p0 : PVal) : level ents (n + 1) i_rOrder [p0] = good (F_rOrder lk (level ents n) p0) := rfl
theorem lv_tCi (n : Nat) (p0 : PVal) : level ents (n + 1) i_tCi [p0] = good (F_tCi lk (level ents n) p0) := rfl
theorem lv_rCircle (n : Nat) (p0 : PVal) : level ents (n + 1) i_rCircle [p0] = good (F_rCircle lk (level ents n) p0) := rfl
theorem lv_qSame (n : Nat) (p0 p1 : PVal) : level ents (n + 1) i_qSame [p0, p1] = good (F_qSame lk (level ents n) p0 p1) := rfl
theorem lv_tPr (n : Nat) (p0 p1 : PVal) : level ents (n + 1) i_tPr [p0, p1] = good (F_tPr lk (level ents n) p0 p1) := rfl
theorem lv_rProves (n : Nat) (p0 p1 : PVal) : level ents (n + 1) i_rProves [p0, p1] = good (F_rProves lk (level ents n) p0 p1) := rfl
theorem lv_racted (n : Nat) (p0 : PVal) : level ents (n + 1) i_racted [p0] = good (F_racted lk (level ents n) p0) := rfl
theorem lv_rdrawn (n : Nat) (p0 : PVal) : level ents (n + 1) i_rdrawn [p0] = good (F_rdrawn lk (level ents n) p0) := rfl
theorem lv_sCF (n : Nat) (p0 p1 : PVal) : level ents (n + 1) i_sCF [p0, p1] = good (F_sCF lk (level ents n) p0 p1) := rfl
theorem lv_tOr_1 (n : Nat) (p0 p1 p2 : PVal) : level ents (n + 1) i_tOr_1 [p0, p1, p2] = good (F_tOr_1 lk (level ents n) p0 p1 p2) := rfl
theorem lv_rall (n : Nat) (p0 : PVal) : level ents (n + 1) i_rall [p0] = good (F_rall lk (level ents n) p0) := rfl
theorem lv_tRd (n : Nat) (p0 p1 p2 : PVal) : level ents (n + 1) i_tRd [p0, p1, p2] = good (F_tRd lk (level ents n) p0 p1 p2) := rfl
theorem lv_rround (n : Nat) (p0 p1 p2 p3 : PVal) : level ents (n + 1) i_rround [p0, p1, p2, p3] = good (F_rround lk (level ents n) p0 p1 p2 p3) := rfl
theorem lv_sCn (n : Nat) (p0 p1 : PVal) : level ents (n + 1) i_sCn [p0, p1] = good (F_sCn lk (level ents n) p0 p1) := rfl
theorem lv_rin (n : Nat) (p0 p1 p2 : PVal) : level ents (n + 1) i_rin [p0, p1, p2] = good (F_rin lk (level ents n) p0 p1 p2) := rfl
theorem lv_qListed (n : Nat) (p0 p1 : PVal) : level ents (n + 1) i_qListed [p0, p1] = good (F_qListed lk (level ents n) p0 p1) := rfl
theorem lv_rcircled (n : Nat) (p0 p1 : PVal) : level ents (n + 1) i_rcircled [p0, p1] = good (F_rcircled lk (level ents n) p0 p1) := rfl
theorem lv_rBefore (n : Nat) (p0 p1 p2 : PVal) : level ents (n + 1) i_rBefore [p0, p1, p2] = good (F_rBefore lk (level ents n) p0 p1 p2) := rfl
theorem lv_sXF (n : Nat) (p0 p1 : PVal) : level ents (n + 1) i_sXF [p0, p1] = good (F_sXF lk (level ents n) p0 p1) := rfl
theorem lv_rrising (n : Nat) (p0 p1 : PVal) : level ents (n + 1) i_rrising [p0, p1] = good (F_rrising lk (level ents n) p0 p1) := rfl
theorem lv_sCl (n : Nat) (p0 : PVal) : level ents (n + 1) i_sCl [p0] = good (F_sCl lk (level ents n) p0) := rfl
theorem lv_sIx (n : Nat) (p0 p1 : PVal) : level ents (n + 1) i_sIx [p0, p1] = good (F_sIx lk (level ents n) p0 p1) := rfl
theorem lv_lTH (n : Nat) (p0 p1 : PVal) : level ents (n + 1) i_lTH [p0, p1] = good (F_lTH lk (level ents n) p0 p1) := rfl
end
end Go.Proofs.YtlcbgidfdkbfcaaGreatDoor
namespace Go.Proofs.YtlcbgidfdkbfcaaGreatDoor
open Go Go.Proofs.YtlcbgidfdkbfcaaGreatDoor.Sw
set_option maxRecDepth 100000
noncomputable section
abbrev lv (N : Nat) : Rec1 := level ents N
theorem lk_eq : lk = 1990 + 10 := rfl
theorem lk_lt {n : Nat} (h : n < 1000) : n < lk := by show n < 2000; omega
theorem bef_any {a b : Nat} : ∀ {l : List NA}, bef a b l = true → (l.any fun x => decide (x.t = a)) = true ∧ (l.any fun x => decide (x.t = b)) = true
  | [], h => by simp [bef] at h
  | y :: r, h => by
    simp only [bef, Bool.or_eq_true] at h
    rcases h with h | h
    · obtain ⟨x, hx, hh⟩ := List.any_eq_true.1 h
      simp only [hit, decide_eq_true_eq] at hh
      refine ⟨?_, ?_⟩
      · rw [List.any_cons]; simp [hh.1]
      · rw [List.any_cons, List.any_eq_true.2 ⟨x, hx, by simp [hh.2.1]⟩, Bool.or_true]
    · obtain ⟨h1, h2⟩ := bef_any h
      exact ⟨by rw [List.any_cons, h1, Bool.or_true], by rw [List.any_cons, h2, Bool.or_true]⟩
theorem legal_nat {hs : List Act} (hl : legal hs = true) : hs.map enA = (hs.map naA).map enN ∧ ∀ y ∈ hs.map naA, y.t < 8 := by
  simp only [legal, Bool.and_eq_true, List.all_eq_true] at hl
  refine ⟨?_, ?_⟩
  · rw [List.map_map]
    exact List.map_congr_left fun a ha => enA_na (hl.1 a ha)
  · intro y hy
    obtain ⟨a, ha, rfl⟩ := List.mem_map.1 hy
    exact naA_lt (hl.1 a ha)
section
variable {N : Nat}
theorem K_works (hN : 1 ≤ N) : lv N i_lWk [] = some (.p (.bool true)) := by
  obtain ⟨M, rfl⟩ : ∃ M, N = M + 1 := ⟨N - 1, by omega⟩
  rfl
theorem K_list (hN : 1 ≤ N) {m : Nat} (hm : m < 256) : lv N i_tLi [eu m] = some (.p (encL (bits m))) := by
  obtain ⟨M, rfl⟩ : ∃ M, N = M + 1 := ⟨N - 1, by omega⟩
  rw [lv, lv_tLi, lk_eq, eu, list_spec 1990 _ hm]; rfl
theorem K_comes (hN : 1 ≤ N) {e : List Nat} (he : GE e) {m : Nat} (a : Nat) (ha : a < 8) (b : Nat) (hb : b < 8) : lv N i_tCo [.agg (cells e m), ei a, ei b] = some (.p (.bool (gb e a b))) := by
  obtain ⟨M, rfl⟩ : ∃ M, N = M + 1 := ⟨N - 1, by omega⟩
  rw [lv, lv_tCo, comes_spec he ha hb]; rfl
theorem K_order1 (hN : 2 ≤ N) {e : List Nat} (he : GE e) {m o t : Nat} (ho : o < 8) (ht : t < 8) : lv N i_tOr_1 [ei o, .ip (.agg (cells e m)), .ip (ipOf [ei t])] = some (.p (.bool (gb e o t))) := by
  obtain ⟨M, rfl⟩ : ∃ M, N = M + 1 := ⟨N - 1, by omega⟩
  rw [lv, lv_tOr_1, Order1_spec _ _ he (K_comes (by omega) he o ho t ht)]; rfl
theorem K_contF (hN : 4 ≤ N) {e : List Nat} (he : GE e) {m : Nat} (m' : Nat) (hm : m' < 256) (t : Nat) (ht : t < 8) :
    lv N i_sCF [encL (bits m'), .fn (.func i_tOr_1) [.ip (.agg (cells e m)), .ip (ipOf [ei t])]] = some (.p (.bool ((bits m').any fun o => gb e o t))) := by
  obtain ⟨M, rfl⟩ : ∃ M, N = M + 2 := ⟨N - 2, by omega⟩
  have hbl := bits_len m'
  rw [lv, lv_sCF, ContainsFunc_spec (ys := bits m') (q := fun o => gb e o t)]
  · rfl
  · rw [lv_sXF, IndexFunc_spec (ys := bits m') (q := fun o => gb e o t) _ _ (encL_is _) (by omega) (lk_lt (by omega)) rfl]
    · rfl
    · intro y hy
      have hy8 : y < 8 := by
        simp only [bits, List.mem_filter, List.mem_range] at hy
        exact hy.1
      exact K_order1 (N := M) (by omega) he hy8 ht
theorem K_index (hN : 1 ≤ N) {x : PVal} {ys : List Nat} (hx : IsSl x (ys.map ei)) (hn : ys.length < 1000) (t : Nat) : lv N i_sIx [x, ei t] = some (.p (.int .i64 (ixF (fun y => decide (t = y)) 0 ys))) := by
  obtain ⟨M, rfl⟩ : ∃ M, N = M + 1 := ⟨N - 1, by omega⟩
  rw [lv, lv_sIx, Index_spec _ _ hx hn (lk_lt hn)]; rfl
theorem K_contains (hN : 2 ≤ N) (x : PVal) (ys : List Nat) (t : Nat) (hx : IsSl x (ys.map ei)) (hn : ys.length < 1000) : lv N i_sCn [x, ei t] = some (.p (.bool (ys.any fun y => decide (t = y)))) := by
  obtain ⟨M, rfl⟩ : ∃ M, N = M + 1 := ⟨N - 1, by omega⟩
  rw [lv, lv_sCn, Contains_spec _ _ (K_index (by omega) hx hn t)]; rfl
theorem K_clip (hN : 1 ≤ N) (b : List Nat) : lv N i_sCl [encL b] = some (clipR b) := by
  obtain ⟨M, rfl⟩ : ∃ M, N = M + 1 := ⟨N - 1, by omega⟩
  rw [lv, lv_sCl, Clip_spec]
  cases b <;> rfl
theorem K_round {e : List Nat} (he : GE e) {m long : Nat} (hlong : 2 ≤ long ∧ long < 50) : ∀ (f : Nat) (b : List Nat) (N : Nat), b.length + f = long + 1 → 3 + f ≤ N → (∀ t ∈ b, t < 8) →
    b.length ≤ long → lv N i_tRd [.agg (cells e m), encL b, ei long] = some (.p (resP (rndG (gb e) long f b)))
  | 0, b, N, h1, h2, hb, hbl => by omega
  | f + 1, b, N, h1, h2, hb, hbl => by
    obtain ⟨M, rfl⟩ : ∃ M, N = M + 1 := ⟨N - 1, by omega⟩
    rw [lv, lv_tRd, round_spec (f := f) _ _ he hb hlong hbl (lk_lt (by omega))]
    · rfl
    · exact fun o ho t ht => K_comes (N := M) (by omega) he o ho t ht
    · exact fun t _ => K_contains (N := M) (by omega) _ b t (encL_is b) (by omega)
    · exact K_clip (N := M) (by omega) b
    · intro t ht hlt _
      have := K_round (m := m) he hlong f (b ++ [t]) M (by simp; omega) (by omega) (by
        intro x hx
        rcases List.mem_append.1 hx with hx | hx
        · exact hb x hx
        · simp only [List.mem_singleton] at hx; rw [hx]; exact ht) (by simp; omega)
      have hen : encL (b ++ [t]) = .sl ((b ++ [t]).map ei) := by
        cases b <;> rfl
      rw [hen] at this
      exact this
theorem K_listed (hN : 1 ≤ N) : ListedH (lv N) := by
  obtain ⟨M, rfl⟩ : ∃ M, N = M + 1 := ⟨N - 1, by omega⟩
  intro v ys t hv hn
  rw [lv, lv_qListed, Listed_spec _ _ hv hn (lk_lt hn)]; rfl
theorem K_in (hN : 1 ≤ N) (z : Int) (b : Nat) : lv N i_rin [eI z, ei 0, ei b] = some (.p (.bool (decide (0 ≤ z) && decide (z < Int.ofNat b + 1)))) := by
  obtain ⟨M, rfl⟩ : ∃ M, N = M + 1 := ⟨N - 1, by omega⟩
  rw [lv, lv_rin, in_spec]; rfl
theorem K_rising (hN : 2 ≤ N) (v : PVal) (ys : List Nat) (hv : IsSl v (ys.map ei)) (hn : ys.length < 1000) : lv N i_rrising [v, ei 8] = some (.p (encL (menL ys))) := by
  obtain ⟨M, rfl⟩ : ∃ M, N = M + 1 := ⟨N - 1, by omega⟩
  rw [lv, lv_rrising, rising_spec _ _ hv hn (lk_lt (by omega)) (K_listed (by omega))]; rfl
theorem K_same (hN : 1 ≤ N) {x : PVal} {l : List Nat} (hx : IsSl x (l.map ei)) (hn : l.length < 1000) : lv N i_qSame [x, x] = some (.p (.bool true)) := by
  obtain ⟨M, rfl⟩ : ∃ M, N = M + 1 := ⟨N - 1, by omega⟩
  rw [lv, lv_qSame, Same_spec _ _ hx hx hn (lk_lt hn)]; rfl
theorem K_circled (hN : 1 ≤ N) {g : Nat → Nat → Bool} (v : PVal) (cs : List Nat) (hv : IsSl v (cs.map ei)) (hn : cs.length < 1000) (hc : ∀ t ∈ cs, t < 8) : lv N i_rcircled [.agg (gcl g 64), v] = some (.p (.bool (allC g cs 0 cs.length))) := by
  obtain ⟨M, rfl⟩ : ∃ M, N = M + 1 := ⟨N - 1, by omega⟩
  rw [lv, lv_rcircled, circled_spec _ _ hv hn hc (lk_lt hn)]; rfl
theorem K_rround {g : Nat → Nat → Bool} {x : PVal} {men : List Nat} (hm : ∀ t ∈ men, t < 8) (hml : men.length < 100) (hx : IsSl x (men.map ei)) {long : Nat} (hlong : 2 ≤ long ∧ long < 50) : ∀ (f : Nat) (b : List Nat) (N : Nat), b.length + f = long + 1 → 2 + f ≤ N → (∀ t ∈ b, t < 8) →
    b.length ≤ long → lv N i_rround [.agg (gcl g 64), x, ei long, encL b] = some (.p (resP (rndH g men long f b)))
  | 0, b, N, h1, h2, hb, hbl => by omega
  | f + 1, b, N, h1, h2, hb, hbl => by
    obtain ⟨M, rfl⟩ : ∃ M, N = M + 1 := ⟨N - 1, by omega⟩
    rw [lv, lv_rround, rround_spec (f := f) _ _ hb hlong hbl hm hml (lk_lt (by omega)) hx (K_listed (N := M) (by omega))]
    · rfl
    · exact fun v cs hv hn hc => K_circled (N := M) (by omega) v cs hv hn hc
    · intro t ht hlt _
      have := K_rround (g := g) hm hml hx hlong f (b ++ [t]) M (by simp; omega) (by omega) (by
        intro x hx
        rcases List.mem_append.1 hx with hx | hx
        · exact hb x hx
        · simp only [List.mem_singleton] at hx; rw [hx]; exact ht) (by simp; omega)
      have hen : encL (b ++ [t]) = .sl ((b ++ [t]).map ei) := by
        cases b <;> rfl
      rw [hen] at this
      exact this
end
section
variable {h c : PVal} {hs : List Act} {zs : List Int} {N : Nat}
theorem K_acted (hN : 2 ≤ N) (hh : IsSl h (hs.map enA)) (hn : hs.length < 1000) : lv N i_racted [h] = some (.p (.bool (legal hs))) := by
  obtain ⟨M, rfl⟩ : ∃ M, N = M + 1 := ⟨N - 1, by omega⟩
  rw [lv, lv_racted, acted_spec _ _ hh hn (lk_lt hn) (fun z b => K_in (N := M) (by omega) z b)]; rfl
theorem K_told_no (hN : 1 ≤ N) (hh : IsSl h (hs.map enA)) (hn : hs.length < 1000) (hl : legal hs = false) : lv N i_tTo [h] = some (.p toldN) := by
  obtain ⟨M, rfl⟩ : ∃ M, N = M + 1 := ⟨N - 1, by omega⟩
  rw [lv, lv_tTo, told_no _ _ hh (lk_lt hn) hl]; rfl
structure Facts (h : PVal) (ns : List NA) (e : List Nat) (m : Nat) : Prop where
  told : Told ns e m
  call : ∀ N, 1 ≤ N → lv N i_tTo [h] = some (.p (toldO e m))
theorem histFacts (hh : IsSl h (hs.map enA)) (hn : hs.length < 1000) (hl : legal hs = true) : ∃ e m, Facts h (hs.map naA) e m := by
  obtain ⟨e, m, h2, h1⟩ := told_ok hh hl
  refine ⟨e, m, h2, fun N hN => ?_⟩
  obtain ⟨M, rfl⟩ : ∃ M, N = M + 1 := ⟨N - 1, by omega⟩
  rw [lv, lv_tTo, h1 _ _ (lk_lt hn)]; rfl
theorem gb_bef {ns : List NA} {e : List Nat} {m : Nat} (F : Told ns e m) : gb e = fun a b => bef a b ns := funext fun a => funext fun b => F.g a b
theorem bits_men {ns : List NA} {e : List Nat} {m : Nat} (F : Told ns e m) : bits m = menL (ns.map (·.t)) := by
  unfold bits menL
  apply List.filter_congr
  intro i _
  rw [F.men, List.any_map]
  congr 1
  funext x
  exact decide_eq_decide.2 ⟨fun h => h.symm, fun h => h.symm⟩
theorem edges_len (g : Nat → Nat → Bool) : (edgesN g (List.range 8)).length < 100 := by
  unfold edgesN
  rw [List.length_flatMap]
  have : ∀ l : List Nat, (l.map fun a => (rowE a ((List.range 8).filter (g a))).length).sum ≤ 8 * l.length := by
    intro l
    induction l with
    | nil => simp
    | cons a l ih =>
      have : (rowE a ((List.range 8).filter (g a))).length ≤ 8 := by
        unfold rowE
        rw [List.length_map]
        exact Nat.le_trans (List.length_filter_le _ _) (by simp)
      rw [List.map_cons, List.sum_cons, List.length_cons]
      omega
  have := this (List.range 8)
  simp only [List.length_range] at this
  omega
theorem edges_map (g : Nat → Nat → Bool) (l : List Nat) : edgesN g l = (l.flatMap fun a => ((List.range 8).filter (g a)).map fun b => (a, b)).map fun p => eE p.1 p.2 := by
  unfold edgesN rowE
  rw [List.map_flatMap]
  congr 1
  funext a
  rw [List.map_map]
  rfl
theorem K_drawn {ns : List NA} (hN : 2 ≤ N) (hh : IsSl h (ns.map enN)) (hn : ns.length < 1000) : lv N i_rdrawn [h] = some (.p (.agg (gcl (fun a b => bef a b ns) 64))) := by
  obtain ⟨M, rfl⟩ : ∃ M, N = M + 2 := ⟨N - 2, by omega⟩
  rw [lv, lv_rdrawn, drawn_spec (g := fun a b => bef a b ns) _ _ (lk_lt (by omega))]
  · rfl
  · intro a _ b _
    rw [lv_rBefore, Before_spec _ _ hh hn (lk_lt hn)]; rfl
theorem K_all {ns : List NA} (hN : 3 ≤ N) (hh : IsSl h (ns.map enN)) (hn : ns.length < 1000) : lv N i_rall [h] = some (.p (encL (menL (ns.map (·.t))))) := by
  obtain ⟨M, rfl⟩ : ∃ M, N = M + 1 := ⟨N - 1, by omega⟩
  rw [lv, lv_rall, all_spec _ _ hh hn (lk_lt hn) (fun v ys hv hn => K_rising (N := M) (by omega) v ys hv hn)]; rfl
theorem menL_lt (l : List Nat) : ∀ t ∈ menL l, t < 8 := by
  intro t ht
  simp only [menL, List.mem_filter, List.mem_range] at ht
  exact ht.1
theorem menL_len (l : List Nat) : (menL l).length ≤ 8 := Nat.le_trans (List.length_filter_le _ _) (by simp)
theorem menL_nodup (l : List Nat) : (menL l).Nodup := List.nodup_range.filter _
theorem law_true (hh : IsSl h (hs.map enA)) (hc : IsSl c (zs.map eI)) : lv 20 i_lTH [h, c] = some (.p (.bool true)) := by
  rw [lv, lv_lTH]
  by_cases h1 : 80 < hs.length
  · rw [law_big1 _ _ hh h1 (K_works (by omega))]; rfl
  by_cases h2 : 20 < zs.length
  · rw [law_big2 _ _ hh hc h1 h2 (K_works (by omega))]; rfl
  have hn : hs.length < 1000 := by omega
  have hz : zs.length < 1000 := by omega
  rcases Bool.eq_false_or_eq_true (legal hs) with hl | hl
  · obtain ⟨e, m, F⟩ := histFacts hh hn hl
    obtain ⟨hE, h8⟩ := legal_nat hl
    have hh' : IsSl h ((hs.map naA).map enN) := by rw [← hE]; exact hh
    have hnn : (hs.map naA).length < 1000 := by simpa using hn
    have ge := F.told.ge
    have hg := gb_bef F.told
    have hb := bits_men F.told
    have hac : ∀ N, 2 ≤ N → lv N i_racted [h] = some (.p (.bool true)) := fun N hN => by rw [K_acted hN hh hn, hl]
    have hD : ∀ N, 2 ≤ N → lv N i_rdrawn [h] = some (.p (.agg (gcl (gb e) 64))) := fun N hN => by rw [K_drawn hN hh' hnn, hg]
    have hA : ∀ N, 3 ≤ N → lv N i_rall [h] = some (.p (encL (bits m))) := fun N hN => by rw [K_all hN hh' hnn, hb]
    have hmb : bits m = (List.range 8).filter m.testBit := rfl
    have hw : ∀ a b, gb e a b = true → m.testBit a = true ∧ m.testBit b = true := by
      intro a b hab
      rw [F.told.g] at hab
      rw [F.told.men, F.told.men]
      exact bef_any hab
    have hml8 : ∀ t ∈ bits m, t < 8 := by rw [hb]; exact menL_lt _
    have hmll : (bits m).length ≤ 8 := bits_len m
    have hmnd : (bits m).Nodup := by rw [hb]; exact menL_nodup _
    have E1 : lv 19 i_tEd [h] = some (.p (edgesR (gb e))) := by
      rw [lv, lv_tEd, Edges_ok _ _ ge (lk_lt (by omega)) (F.call 18 (by omega)) (fun m hm => K_list (by omega) hm)]; rfl
    have E2 : lv 19 i_rEdges [h] = some (.p (edgesR (gb e))) := by
      rw [lv, lv_rEdges, REdges_ok _ _ (lk_lt (by omega)) (hac 18 (by omega)) (hD 18 (by omega))]; rfl
    have O1 : lv 19 i_tOr [h] = some (.p (orderR (ordG (gb e) 9 (bits m) []))) := by
      rw [lv, lv_tOr, Order_ok _ _ ge F.told.mlt (lk_lt (by omega)) (F.call 18 (by omega)) (fun m hm => K_list (by omega) hm) (fun m' hm t ht => K_contF (by omega) ge m' hm t ht)]
      cases ordG (gb e) 9 (bits m) [] <;> rfl
    have O2 : lv 19 i_rOrder [h] = some (.p (orderR (ordG (gb e) 9 (bits m) []))) := by
      rw [lv, lv_rOrder, ROrder_ok _ _ (encL_is (bits m)) hml8 hmnd (by omega) (lk_lt (by omega)) (hac 18 (by omega)) (hA 18 (by omega)) (hD 18 (by omega))]
      cases ordG (gb e) 9 (bits m) [] <;> rfl
    have C1 : lv 19 i_tCi [h] = some (.p (circR (circG (gb e) (List.range' 2 7)))) := by
      rw [lv, lv_tCi, Circle_ok _ _ ge (lk_lt (by omega)) (F.call 18 (by omega)) (fun n h2 h8 => K_round (m := m) ge ⟨h2, by omega⟩ (n + 1) [] 18 (by simp) (by omega) (by simp) (by simp))]
      cases circG (gb e) (List.range' 2 7) <;> rfl
    have C2 : lv 19 i_rCircle [h] = some (.p (circR (circG (gb e) (List.range' 2 7)))) := by
      rw [lv, lv_rCircle, RCircle_ok _ _ (by omega) (lk_lt (by omega)) (lk_lt (by omega)) (encL_is (bits m)) (hac 18 (by omega)) (hA 18 (by omega)) (hD 18 (by omega)) (fun n h2 h8 => K_rround (g := gb e) hml8 (by omega) (encL_is (bits m)) ⟨h2, by omega⟩ (n + 1) [] 18 (by simp) (by omega) (by simp) (by simp)), hmb, circ_eq hw]
      cases circG (gb e) (List.range' 2 7) <;> rfl
    have P1 : lv 19 i_tPr [h, c] = some (.p (ei (provR (gb e) zs))) := by
      rw [lv, lv_tPr, Proves_ok _ _ ge hc hz (lk_lt hz) (F.call 18 (by omega)) (fun v ys t hv hn => K_contains (by omega) v ys t hv hn) (fun o ho t ht => K_comes (by omega) ge o ho t ht)]; rfl
    have P2 : lv 19 i_rProves [h, c] = some (.p (ei (provR (gb e) zs))) := by
      rw [lv, lv_rProves, RProves_ok (g := gb e) _ _ hc hz (lk_lt hz) (hac 18 (by omega)) (hD 18 (by omega)) (K_listed (by omega)) (fun z b => K_in (by omega) z b) (fun v cs hv hn h8 => K_circled (by omega) v cs hv hn h8)]; rfl
    have hox : ∃ ox ol oe, orderR (ordG (gb e) 9 (bits m) []) = .tup [ox, ei oe] ∧ IsSl ox (List.map ei ol) ∧ ol.length < 1000 := by
      cases ho : ordG (gb e) 9 (bits m) [] with
      | none => exact ⟨.nils, [], 5, rfl, .nil, by simp⟩
      | some l =>
        refine ⟨encL l, l, 0, rfl, encL_is l, ?_⟩
        have ordl : ∀ f left acc l, ordG (gb e) f left acc = some l → l.length ≤ acc.length + f := by
          intro f
          induction f with
          | zero => intro left acc l h; simp [ordG] at h
          | succ f ih =>
            intro left acc l h
            unfold ordG at h
            split at h
            · cases h; omega
            · split at h
              · cases h
              · have := ih _ _ _ h
                simp at this; omega
        have := ordl _ _ _ _ ho
        simp at this; omega
    obtain ⟨ox, ol, oe, ho1, ho2, ho3⟩ := hox
    have hcx : ∃ cx cl ce, circR (circG (gb e) (List.range' 2 7)) = .tup [cx, ei ce] ∧ IsSl cx (List.map ei cl) ∧ cl.length < 1000 := by
      cases ho : circG (gb e) (List.range' 2 7) with
      | none => exact ⟨.nils, [], 5, rfl, .nil, by simp⟩
      | some l =>
        refine ⟨.sl (l.map ei), l, 0, rfl, .sl _, ?_⟩
        rw [← circ_eq hw] at ho
        obtain ⟨n, hn, hr⟩ := firstO_some ho
        rw [List.mem_range'_1] at hn
        obtain ⟨_, _, h3⟩ := rndH_in hr List.nodup_nil (by simp)
        have hmll' : ((List.range 8).filter m.testBit).length ≤ 8 := hmll
        omega
    obtain ⟨cx, cl, ce, hc1, hc2, hc3⟩ := hcx
    have hen := edges_len (gb e)
    rw [edges_map, List.length_map] at hen
    rw [ho1] at O1 O2
    rw [hc1] at C1 C2
    rw [law_same lk (lv 19) hh hc h1 h2 (lk_lt (by omega)) (by rw [← edges_map]; exact encS_is _) hen E1 E2 ho2 O1 O2 (K_same (by omega) ho2 ho3) C1 C2 (K_same (by omega) hc2 hc3) P1 P2 (K_works (by omega))]
    rfl
  · have hT : lv 18 i_tTo [h] = some (.p toldN) := K_told_no (by omega) hh hn hl
    have hac : lv 18 i_racted [h] = some (.p (.bool false)) := by rw [K_acted (by omega) hh hn, hl]
    have e2 : (PVal.tup [.nils, .int .i64 (Int.ofNat 2)]) = .tup [.nils, ei 2] := rfl
    have E1 : lv 19 i_tEd [h] = some (.p (.tup [.nils, ei 2])) := by rw [lv, lv_tEd, Edges_no _ _ hT]; rfl
    have E2 : lv 19 i_rEdges [h] = some (.p (.tup [.nils, ei 2])) := by rw [lv, lv_rEdges, REdges_no _ _ hac]; rfl
    have O1 : lv 19 i_tOr [h] = some (.p (.tup [.nils, ei 2])) := by rw [lv, lv_tOr, Order_no _ _ hT]; rfl
    have O2 : lv 19 i_rOrder [h] = some (.p (.tup [.nils, ei 2])) := by rw [lv, lv_rOrder, ROrder_no _ _ hac]; rfl
    have C1 : lv 19 i_tCi [h] = some (.p (.tup [.nils, ei 2])) := by rw [lv, lv_tCi, Circle_no _ _ hT]; rfl
    have C2 : lv 19 i_rCircle [h] = some (.p (.tup [.nils, ei 2])) := by rw [lv, lv_rCircle, RCircle_no _ _ hac]; rfl
    have P1 : lv 19 i_tPr [h, c] = some (.p (ei 2)) := by rw [lv, lv_tPr, Proves_no _ _ hT]; rfl
    have P2 : lv 19 i_rProves [h, c] = some (.p (ei 2)) := by rw [lv, lv_rProves, RProves_no _ _ hac]; rfl
    have nl : IsSl .nils (List.map ei []) := .nil
    have nlE : IsSl .nils ((([] : List (Nat × Nat))).map fun p => eE p.1 p.2) := .nil
    rw [law_same lk (lv 19) hh hc h1 h2 (lk_lt (by omega)) nlE (by simp) E1 E2 nl O1 O2 (K_same (by omega) nl (by simp)) C1 C2 (K_same (by omega) nl (by simp)) P1 P2 (K_works (by omega))]
    rfl
end
end
end Go.Proofs.YtlcbgidfdkbfcaaGreatDoor
namespace Go.Proofs.YtlcbgidfdkbfcaaGreatDoor
open Go.ChangeShapes Go.WideShapes Go.ChangeAt Go.RowKit Go.Proofs.YtlcbgidfdkbfcaaGreatDoor.Sw
theorem paramsH : Tryz.f3.params = #[22, 23] := by kernel_rfl
theorem resultsH : Tryz.f3.resultTypes = #[4] := by kernel_rfl
theorem undH : Tryz.prog.underlying 22 = some (.slice 59) := by kernel_rfl
theorem undC : Tryz.prog.underlying 23 = some (.slice 3) := by kernel_rfl
theorem undI : Tryz.prog.underlying 3 = some (.int .i64) := by kernel_rfl
theorem undB : Tryz.prog.underlying 4 = some .bool := by kernel_rfl
theorem cellsI : Tryz.prog.cellsOf 3 = 1 := by kernel_rfl
theorem cellsE : Tryz.prog.cellsOf 59 = 3 := by kernel_rfl
theorem laidOutH : laidOutB Tryz.prog = true := by kernel_rfl
theorem shut_b {H : Type} {enc : TypeId × Value → H} {W : World} {base : Nat} {sp : Nat → Bool} {held : Bool} (b : Bool) : DataW.Trod enc Tryz.prog W base sp held 4 (.bool b) (.lit (.bool b)) [] := ⟨1, by simp [DataW.trod, Value.cells, undB]⟩
noncomputable def fieldsE : Array Field := match Tryz.prog.underlying 59 with
  | some (.struct fs) => fs
  | _ => #[]
theorem undE : Tryz.prog.underlying 59 = some (.struct #[fieldsE[0]!, fieldsE[1]!, fieldsE[2]!]) := by kernel_rfl
theorem lawKnown {h c : PVal} {hs : List Act} {zs : List Int} (hh : IsSl h (hs.map enA)) (hc : IsSl c (zs.map eI)) : Known prog gl 3 ([h, c].map .p) (.p (.bool true)) [] :=
  (level_known ents 20 _ _ _ (law_true hh hc)).2
theorem lawCalls {W : World} (hG : Glob gl (old W) W) {v0 v1 : Value} {h c : PVal} {hs : List Act} {zs : List Int} (hh : IsSl h (hs.map enA)) (hc : IsSl c (zs.map eI)) (h0 : RepP (old W) W h v0) (h1 : RepP (old W) W c v1) :
    Calls Tryz.prog 3 #[v0, v1] W (fun e w' => e = .returned (.bool true) ∧ Below W.heap.size W w') :=
  known_args (ps := [h, c]) (us := [v0, v1]) (lawKnown hh hc) hG ⟨_, _, rfl, h0, _, _, rfl, h1, rfl⟩
set_option maxRecDepth 100000 in
theorem contract (H : Type) (enc : TypeId × Value → H) (W : World) (base : Nat) (args : Array Value) (ds gs : List (DataW H)) (before : List MemPlace)
    (hval0 : ∀ (j : Nat) t v, Tryz.f3.params[j]? = some t → args[j]? = some v → Value.okWide Tryz.prog W .any base t v)
    (hW : DataW.Whole enc Tryz.prog Tryz.f3.params.toList Rows.txnHistoriesSpec.vars false W args.toList ds gs before) (hG : Glob gl (old W) W) :
    Calls Tryz.prog 3 args W fun e W' => ∃ v, e = .returned v ∧ Rows.txnHistoriesSpec.post enc Tryz.prog Tryz.f3 false true false false W args v W' := by
  have hW' := hW
  obtain ⟨p, q, hA0, hV, rfl, hfz, hnd⟩ := hW
  have hA : DataW.TrodAll enc Tryz.prog W 0 (fun _ => true) true Tryz.f3.params.toList args.toList ds p := hA0
  rw [paramsH] at hA
  have hval := hval0
  rw [paramsH] at hval
  obtain ⟨v0, v1, d0, d1, p0, p1, rfl, rfl, rfl, h0, h1⟩ := trodAll_two hA
  obtain ⟨rfl, rfl⟩ := trodVars_none hV
  have hok0 := hval 0 22 v0 rfl rfl
  have hok1 := hval 1 23 v1 rfl rfl
  have o0 : fieldsE[0]!.offset = 0 := by kernel_rfl
  have o1 : fieldsE[1]!.offset = 1 := by kernel_rfl
  have o2 : fieldsE[2]!.offset = 2 := by kernel_rfl
  have c0 : Tryz.prog.cellsOf fieldsE[0]!.type = 1 := by kernel_rfl
  have c1 : Tryz.prog.cellsOf fieldsE[1]!.type = 1 := by kernel_rfl
  have c2 : Tryz.prog.cellsOf fieldsE[2]!.type = 1 := by kernel_rfl
  have u0 : Tryz.prog.underlying fieldsE[0]!.type = some (.int .i64) := by kernel_rfl
  have u1 : Tryz.prog.underlying fieldsE[1]!.type = some .bool := by kernel_rfl
  have u2 : Tryz.prog.underlying fieldsE[2]!.type = some (.int .i64) := by kernel_rfl
  obtain ⟨ph, l, hl, hr0⟩ := arg_ibi undH undE cellsE o0 o1 o2 c0 c1 c2 u0 u1 u2 hok0 h0
  obtain ⟨pc, zs, hz, hr1⟩ := arg_ints undC undI cellsI hok1 h1
  have hh : IsSl ph ((l.map fun x => (⟨x.1, x.2.1, x.2.2⟩ : Act)).map enA) := by
    rcases hl with ⟨rfl, rfl⟩ | rfl
    · exact .nil
    · rw [List.map_map]; exact .sl _
  have hc : IsSl pc (zs.map eI) := by
    rcases hz with ⟨rfl, rfl⟩ | rfl
    · exact .nil
    · exact .sl _
  refine (lawCalls hG hh hc hr0 hr1).mono fun e W' ⟨he, hb⟩ => ?_
  subst he
  have hlt0 : ∀ x ∈ p0, x.block < W.heap.size := fun x hx => by simpa using hW'.lt x (by simp [hx])
  have hlt1 : ∀ x ∈ p1, x.block < W.heap.size := fun x hx => by simpa using hW'.lt x (by simp [hx])
  refine ⟨_, rfl, _, [], _, [], p0 ++ p1, [], hW', ?_, ?_, rfl, keptBut_of_below hb _, fun h => by cases h⟩
  · rw [resultsH]
    exact trodAll_cons_mk (shut_b _) trodAll_mk0
  · rw [paramsH]
    exact trodAll_mk2 (Below.trod laidOutH (by kernel_rfl) (of_decide_eq_true (by kernel_rfl)) h0 hb hlt0) (Below.trod laidOutH (by kernel_rfl) (of_decide_eq_true (by kernel_rfl)) h1 hb hlt1)
end Go.Proofs.YtlcbgidfdkbfcaaGreatDoor

