/- residual texts. -/
import Derived.Test.YtlcbgidfdkbfcaaGreatDoorXhA
set_option linter.unusedVariables false
set_option linter.unusedSimpArgs false
namespace Go.Proofs.YtlcbgidfdkbfcaaGreatDoor
open Go Go.Proofs.YtlcbgidfdkbfcaaGreatDoor.Sw
set_option maxRecDepth 100000
noncomputable section
abbrev OA := Option AVal
abbrev KX := XE → Tr AVal → XSt → OA
def ctLi : Code := match fn_tLi.body with
  | some c => c
  | none => .skip
def cftLi : Cfg := ⟨shOf prog, sitesOf prog [] [] [], ximp⟩
inductive St_tLi_0 where
  | a (a0 : Int) (a1 : Int)
  | b (a0 : Int) (a1 : Nat) (a2 : Int) (a3 : List PVal)
inductive ExtLi_0 where
  | a
  | b (a0 : Nat) (a1 : List PVal)
def mktLi_0 (s : St_tLi_0) : XC := match s with
  | .a v0 v1 => (XC.mk (List.cons (AVal.p (PVal.int .u64 v0)) (List.cons (AVal.p PVal.nils) (List.cons (AVal.p (PVal.int .i64 v1)) []))) [])
  | .b v0 v1 v2 v3 => (XC.mk (List.cons (AVal.p (PVal.int .u64 v0)) (List.cons (AVal.arr 0 0 0 v1 false) (List.cons (AVal.p (PVal.int .i64 v2)) []))) (List.cons (XObj.arr 1 v3 0 0 0) []))
def rdtLi_0 {α : Type} (c : XC) (K : St_tLi_0 → Option α) : Option α := match c with
  | (XC.mk (List.cons (AVal.p (PVal.int .u64 v0)) (List.cons (AVal.p PVal.nils) (List.cons (AVal.p (PVal.int .i64 v1)) []))) []) => K (.a v0 v1)
  | (XC.mk (List.cons (AVal.p (PVal.int .u64 v0)) (List.cons (AVal.arr 0 0 0 v1 false) (List.cons (AVal.p (PVal.int .i64 v2)) []))) (List.cons (XObj.arr 1 v3 0 0 0) [])) => K (.b v0 v1 v2 v3)
  | _ => none
theorem rdtLi_0_some {α : Type} {r : α} {c : XC} {K : St_tLi_0 → Option α} (h : rdtLi_0 c K = some r) : ∃ s, c = mktLi_0 s ∧ K s = some r := by
  unfold rdtLi_0 at h
  split at h <;> first | exact ⟨_, rfl, h⟩ | simp at h
def outstLi_0 : XE → List Nat := (outsOf [(0, [3])] [2])
def livetLi_0 : List Nat := [0, 3, 4]
def kxtLi_0 (K : KX) (x : ExtLi_0) : OA := match x with
  | .a => K XE.normal (tmOf gl (outstLi_0 (XE.exit 0)) (XC.vals (XC.mk (List.cons (AVal.p PVal.nils) []) []))) (XC.st (XC.mk (List.cons (AVal.p PVal.nils) []) []))
  | .b v0 v1 => K XE.normal (tmOf gl (outstLi_0 (XE.exit 0)) (XC.vals (XC.mk (List.cons (AVal.arr 0 0 0 v0 false) []) (List.cons (XObj.arr 1 v1 0 0 0) [])))) (XC.st (XC.mk (List.cons (AVal.arr 0 0 0 v0 false) []) (List.cons (XObj.arr 1 v1 0 0 0) [])))
def btLi_0 : Code := match findLoop 0 ctLi with
  | some c => c
  | none => .skip
def S_tLi_0 (k : Nat) (rec : Rec1) (kn : St_tLi_0 → OA) (kx : ExtLi_0 → OA) (s : St_tLi_0) : OA := match s with
  | .a z4 z5 =>
    (ifB (decide (z5 < (Int.ofNat 0)))
      none
      (ifB ((Int.fdiv z4 ((Int.ofNat 2) ^ (min (Int.toNat z5) 64))) != (Int.ofNat 0))
        (ifB (decide (z5 < (Int.ofNat 0)))
          none
          (ifB ((bAnd .u64 (Int.fdiv z4 ((Int.ofNat 2) ^ (min (Int.toNat z5) 64))) (Int.ofNat 1)) == (Int.ofNat 1))
            (kn (.b z4 1 (IntKind.wrap .i64 (z5 + (Int.ofNat 1))) [(PVal.int .i64 z5)]))
            (kn (.a z4 (IntKind.wrap .i64 (z5 + (Int.ofNat 1)))))))
        (kx (.a))))
  | .b z6 n7 z8 l9 =>
    (ifB (decide (z8 < (Int.ofNat 0)))
      none
      (ifB ((Int.fdiv z6 ((Int.ofNat 2) ^ (min (Int.toNat z8) 64))) != (Int.ofNat 0))
        (ifB (decide (z8 < (Int.ofNat 0)))
          none
          (ifB ((bAnd .u64 (Int.fdiv z6 ((Int.ofNat 2) ^ (min (Int.toNat z8) 64))) (Int.ofNat 1)) == (Int.ofNat 1))
            (chk (Nat.beq n7 (List.length l9))
              (chk (Nat.ble ((n7 + 1) * 8) 1099511627776)
                (kn (.b z6 (n7 + 1) (IntKind.wrap .i64 (z8 + (Int.ofNat 1))) (l9 ++ [(PVal.int .i64 z8)])))))
            (kn (.b z6 n7 (IntKind.wrap .i64 (z8 + (Int.ofNat 1))) l9))))
        (kx (.b n7 l9))))
def L_tLi_0 (k : Nat) (rec : Rec1) (kx : ExtLi_0 → OA) : Nat → St_tLi_0 → OA
  | 0, _ => none
  | j + 1, s => S_tLi_0 k rec (L_tLi_0 k rec kx j) kx s
def lotLi (k : Nat) (rec : Rec1) : Loops AVal := fun id tm σ K =>
  match Nat.beq id 0 with
  | true => canon livetLi_0 tm σ fun c => rdtLi_0 c fun s => L_tLi_0 k rec (kxtLi_0 K) k s
  | false => none
def F_tLi (k : Nat) (rec : Rec1) (p0 : PVal) : OA :=
  (intK .u64 p0 fun z1 =>
  (L_tLi_0 k rec (fun x => match x with
    | .a => (some (AVal.p PVal.nils))
    | .b n2 l3 => (chk (Nat.ble (0 + n2) (List.length l3))
        (some (AVal.p (PVal.sl (List.take n2 (List.drop 0 l3))))))) k (.a z1 (Int.ofNat 0))))
theorem S_tLi_0_eq (k : Nat) (rec : Rec1) (Kn : XC → OA) (K : KX) (s : St_tLi_0) : codeK prog cftLi rec 21 (lotLi k rec) btLi_0 (tmOf gl livetLi_0 (mktLi_0 s).vals) (mktLi_0 s).st (roundK gl 0 livetLi_0 outstLi_0 Kn K) = S_tLi_0 k rec (fun s => Kn (mktLi_0 s)) (kxtLi_0 K) s := by
  cases s <;> kernel_rfl
theorem L_tLi_0_eq (k : Nat) (rec : Rec1) (K : KX) : ∀ (j : Nat) (s : St_tLi_0), loopX prog cftLi rec 21 gl (lotLi k rec) 0 livetLi_0 outstLi_0 btLi_0 j (mktLi_0 s) K = L_tLi_0 k rec (kxtLi_0 K) j s
  | 0, _ => rfl
  | j + 1, s => by
    simp only [loopX]
    rw [S_tLi_0_eq]
    exact congrArg (fun q => S_tLi_0 k rec q (kxtLi_0 K) s) (funext fun s' => L_tLi_0_eq k rec K j s')
theorem xltLi {k : Nat} {rec : Rec1} (h : RecKnown prog gl rec) : XLoops prog gl 21 (lotLi k rec) ctLi :=
  ⟨_, loopsIn_of _ (by rw [show topLoops ctLi = [(0, btLi_0)] from by kernel_rfl]; simp), (LoopsOk.add (evCall_ok (memoX_ok h) fine 1) (recOk h cftLi.imp 0 0) fine (Nat.le_of_ble_eq_true rfl) LoopsOk.none 0 livetLi_0 outstLi_0 btLi_0 (by kernel_rfl) (loopsIn_of _ (by rw [show topLoops btLi_0 = [] from by kernel_rfl]; simp)) (fun tm σ K r hk => ⟨k, canon_mono (fun c hc => by
    obtain ⟨s, e, hs⟩ := rdtLi_0_some hc
    rw [e, L_tLi_0_eq]
    exact hs) hk⟩))⟩
theorem F_tLi_eq (k : Nat) (rec : Rec1) (p0 : PVal) : fnX prog cftLi .pure rec gl (fun _ => lotLi k rec) i_tLi [p0] = F_tLi k rec p0 := by kernel_rfl
theorem F_tLi_known {k : Nat} {rec : Rec1} (h : RecKnown prog gl rec) {p0 : PVal} {v : AVal} (hv : F_tLi k rec p0 = some v) (hg : goodV v = true) : goodV v = true ∧ Known prog gl i_tLi ([p0].map .p) (adopt 0 v).1 (adopt 0 v).2 :=
  fnX_fact (cf := cftLi) (out := .pure) (lo := lotLi k rec) fine h func_tLi (by kernel_rfl : fn_tLi.body = some ctLi) (by kernel_rfl) (xltLi h) ((F_tLi_eq k rec p0).trans hv) hg
def ctTo : Code := match fn_tTo.body with
  | some c => c
  | none => .skip
def cftTo : Cfg := ⟨shOf prog, sitesOf prog [] [] [], ximp⟩
inductive St_tTo_2 where
  | a (a0 : PVal) (a1 : PVal) (a2 : Int) (a3 : Int) (a4 : PVal) (a5 : Int) (a6 : Int) (a7 : List PVal) (a8 : List PVal) (a9 : Int) (a10 : Bool) (a11 : Int)
inductive ExtTo_2 where
  | a (a0 : PVal) (a1 : PVal) (a2 : Int) (a3 : Int) (a4 : List PVal) (a5 : List PVal)
def mktTo_2 (s : St_tTo_2) : XC := match s with
  | .a v0 v1 v2 v3 v4 v5 v6 v7 v8 v9 v10 v11 => (XC.mk (List.cons (AVal.p v0) (List.cons (AVal.box 0 0) (List.cons (AVal.box 1 0) (List.cons (AVal.box 2 0) (List.cons (AVal.p v1) (List.cons (AVal.p (PVal.int .i64 v2)) (List.cons (AVal.p (PVal.int .i64 v3)) (List.cons (AVal.p v4) (List.cons (AVal.p (PVal.int .i64 v5)) (List.cons (AVal.p (PVal.int .i64 v6)) [])))))))))) (List.cons (XObj.pbox v7) (List.cons (XObj.pbox v8) (List.cons (XObj.box (List.cons (AVal.p (PVal.int .i64 v9)) (List.cons (AVal.p (PVal.bool v10)) (List.cons (AVal.p (PVal.int .i64 v11)) [])))) []))))
def rdtTo_2 {α : Type} (c : XC) (K : St_tTo_2 → Option α) : Option α := match c with
  | (XC.mk (List.cons (AVal.p v0) (List.cons (AVal.box 0 0) (List.cons (AVal.box 1 0) (List.cons (AVal.box 2 0) (List.cons (AVal.p v1) (List.cons (AVal.p (PVal.int .i64 v2)) (List.cons (AVal.p (PVal.int .i64 v3)) (List.cons (AVal.p v4) (List.cons (AVal.p (PVal.int .i64 v5)) (List.cons (AVal.p (PVal.int .i64 v6)) [])))))))))) (List.cons (XObj.pbox v7) (List.cons (XObj.pbox v8) (List.cons (XObj.box (List.cons (AVal.p (PVal.int .i64 v9)) (List.cons (AVal.p (PVal.bool v10)) (List.cons (AVal.p (PVal.int .i64 v11)) [])))) [])))) => K (.a v0 v1 v2 v3 v4 v5 v6 v7 v8 v9 v10 v11)
  | _ => none
theorem rdtTo_2_some {α : Type} {r : α} {c : XC} {K : St_tTo_2 → Option α} (h : rdtTo_2 c K = some r) : ∃ s, c = mktTo_2 s ∧ K s = some r := by
  unfold rdtTo_2 at h
  split at h <;> first | exact ⟨_, rfl, h⟩ | simp at h
def outstTo_2 : XE → List Nat := (outsOf [(2, [0, 2, 4, 13, 14, 15]), (1, [0, 2, 4, 13, 14, 15]), (0, [2, 4])] [2, 3])
def livetTo_2 : List Nat := [0, 2, 4, 6, 13, 14, 15, 48, 49, 50]
def kxtTo_2 (K : KX) (x : ExtTo_2) : OA := match x with
  | .a v0 v1 v2 v3 v4 v5 => K XE.normal (tmOf gl (outstTo_2 (XE.exit 2)) (XC.vals (XC.mk (List.cons (AVal.p v0) (List.cons (AVal.box 0 0) (List.cons (AVal.box 1 0) (List.cons (AVal.p v1) (List.cons (AVal.p (PVal.int .i64 v2)) (List.cons (AVal.p (PVal.int .i64 v3)) [])))))) (List.cons (XObj.pbox v4) (List.cons (XObj.pbox v5) []))))) (XC.st (XC.mk (List.cons (AVal.p v0) (List.cons (AVal.box 0 0) (List.cons (AVal.box 1 0) (List.cons (AVal.p v1) (List.cons (AVal.p (PVal.int .i64 v2)) (List.cons (AVal.p (PVal.int .i64 v3)) [])))))) (List.cons (XObj.pbox v4) (List.cons (XObj.pbox v5) []))))
def btTo_2 : Code := match findLoop 2 ctTo with
  | some c => c
  | none => .skip
def S_tTo_2 (k : Nat) (rec : Rec1) (kn : St_tTo_2 → OA) (kx : ExtTo_2 → OA) (s : St_tTo_2) : OA := match s with
  | .a x7 x8 z9 z10 x11 z12 z13 l14 l15 z16 b17 z18 =>
    (ifB (decide (z13 < z12))
      (slK x11 fun l19 =>
      (natK z13 fun n20 =>
      (nthK l19 n20 fun x21 =>
      (aggK x21 fun l22 =>
      (consK l22 fun x23 l24 =>
      (intK .i64 x23 fun z25 =>
      (consK l24 fun x26 l27 =>
      (boolK x26 fun b28 =>
      (consK l27 fun x29 l30 =>
      (intK .i64 x29 fun z31 =>
      (endK l30
        (ifB (z25 != z16)
          (ifB (z31 == z18)
            (ifB b28
              (natK z25 fun n32 =>
              (chk (Nat.blt n32 8)
                (nthK l15 (0 + (n32 * 1)) fun x33 =>
                (intK .u64 x33 fun z34 =>
                (ifB (decide (z16 < (Int.ofNat 0)))
                  none
                  (natK z25 fun n35 =>
                  (chk (Nat.blt n35 8)
                    (chk (Nat.blt (0 + (n35 * 1)) (List.length l15))
                      (kn (.a x7 x8 z9 z10 x11 z12 (IntKind.wrap .i64 (z13 + (Int.ofNat 1))) l14 (List.set l15 (0 + (n35 * 1)) (PVal.int .u64 (bOr .u64 z34 (IntKind.wrap .u64 ((Int.ofNat 1) * ((Int.ofNat 2) ^ (min (Int.toNat z16) 64))))))) z16 b17 z18))))))))))
              (ifB b17
                (natK z25 fun n36 =>
                (chk (Nat.blt n36 8)
                  (nthK l15 (0 + (n36 * 1)) fun x37 =>
                  (intK .u64 x37 fun z38 =>
                  (ifB (decide (z16 < (Int.ofNat 0)))
                    none
                    (natK z25 fun n39 =>
                    (chk (Nat.blt n39 8)
                      (chk (Nat.blt (0 + (n39 * 1)) (List.length l15))
                        (kn (.a x7 x8 z9 z10 x11 z12 (IntKind.wrap .i64 (z13 + (Int.ofNat 1))) l14 (List.set l15 (0 + (n39 * 1)) (PVal.int .u64 (bOr .u64 z38 (IntKind.wrap .u64 ((Int.ofNat 1) * ((Int.ofNat 2) ^ (min (Int.toNat z16) 64))))))) z16 b17 z18))))))))))
                (kn (.a x7 x8 z9 z10 x11 z12 (IntKind.wrap .i64 (z13 + (Int.ofNat 1))) l14 l15 z16 b17 z18))))
            (kn (.a x7 x8 z9 z10 x11 z12 (IntKind.wrap .i64 (z13 + (Int.ofNat 1))) l14 l15 z16 b17 z18)))
          (kn (.a x7 x8 z9 z10 x11 z12 (IntKind.wrap .i64 (z13 + (Int.ofNat 1))) l14 l15 z16 b17 z18))))))))))))))
      (kx (.a x7 x8 z9 z10 l14 l15)))
def L_tTo_2 (k : Nat) (rec : Rec1) (kx : ExtTo_2 → OA) : Nat → St_tTo_2 → OA
  | 0, _ => none
  | j + 1, s => S_tTo_2 k rec (L_tTo_2 k rec kx j) kx s
inductive St_tTo_0 where
  | a (a0 : PVal) (a1 : PVal) (a2 : Int) (a3 : Int) (a4 : List PVal) (a5 : List PVal)
inductive ExtTo_0 where
  | a (a0 : Int) (a1 : List PVal)
  | b (a0 : List PVal) (a1 : List PVal)
def mktTo_0 (s : St_tTo_0) : XC := match s with
  | .a v0 v1 v2 v3 v4 v5 => (XC.mk (List.cons (AVal.p v0) (List.cons (AVal.box 0 0) (List.cons (AVal.box 1 0) (List.cons (AVal.p v1) (List.cons (AVal.p (PVal.int .i64 v2)) (List.cons (AVal.p (PVal.int .i64 v3)) [])))))) (List.cons (XObj.pbox v4) (List.cons (XObj.pbox v5) [])))
def rdtTo_0 {α : Type} (c : XC) (K : St_tTo_0 → Option α) : Option α := match c with
  | (XC.mk (List.cons (AVal.p v0) (List.cons (AVal.box 0 0) (List.cons (AVal.box 1 0) (List.cons (AVal.p v1) (List.cons (AVal.p (PVal.int .i64 v2)) (List.cons (AVal.p (PVal.int .i64 v3)) [])))))) (List.cons (XObj.pbox v4) (List.cons (XObj.pbox v5) []))) => K (.a v0 v1 v2 v3 v4 v5)
  | _ => none
theorem rdtTo_0_some {α : Type} {r : α} {c : XC} {K : St_tTo_0 → Option α} (h : rdtTo_0 c K = some r) : ∃ s, c = mktTo_0 s ∧ K s = some r := by
  unfold rdtTo_0 at h
  split at h <;> first | exact ⟨_, rfl, h⟩ | simp at h
def outstTo_0 : XE → List Nat := (outsOf [(0, [2, 4])] [2, 3])
def livetTo_0 : List Nat := [0, 2, 4, 13, 14, 15]
def kxtTo_0 (K : KX) (x : ExtTo_0) : OA := match x with
  | .a v0 v1 => K XE.ret (tmOf gl (outstTo_0 XE.ret) (XC.vals (XC.mk (List.cons (AVal.box 0 0) (List.cons (AVal.p (PVal.int .i64 v0)) [])) (List.cons (XObj.pbox v1) [])))) (XC.st (XC.mk (List.cons (AVal.box 0 0) (List.cons (AVal.p (PVal.int .i64 v0)) [])) (List.cons (XObj.pbox v1) [])))
  | .b v0 v1 => K XE.normal (tmOf gl (outstTo_0 (XE.exit 0)) (XC.vals (XC.mk (List.cons (AVal.box 0 0) (List.cons (AVal.box 1 0) [])) (List.cons (XObj.pbox v0) (List.cons (XObj.pbox v1) []))))) (XC.st (XC.mk (List.cons (AVal.box 0 0) (List.cons (AVal.box 1 0) [])) (List.cons (XObj.pbox v0) (List.cons (XObj.pbox v1) []))))
def btTo_0 : Code := match findLoop 0 ctTo with
  | some c => c
  | none => .skip
def S_tTo_0 (k : Nat) (rec : Rec1) (kn : St_tTo_0 → OA) (kx : ExtTo_0 → OA) (s : St_tTo_0) : OA := match s with
  | .a x40 x41 z42 z43 l44 l45 =>
    (ifB (decide (z43 < z42))
      (slK x41 fun l46 =>
      (natK z43 fun n47 =>
      (nthK l46 n47 fun x48 =>
      (aggK x48 fun l49 =>
      (consK l49 fun x50 l51 =>
      (intK .i64 x50 fun z52 =>
      (consK l51 fun x53 l54 =>
      (boolK x53 fun b55 =>
      (consK l54 fun x56 l57 =>
      (intK .i64 x56 fun z58 =>
      (endK l57
        (ifB (decide (z52 < (Int.ofNat 0)))
          (chk (Nat.ble 9 (List.length l44))
            (kx (.a (Int.ofNat 2) ((PVal.int .u64 (Int.ofNat 0)) :: ((PVal.int .u64 (Int.ofNat 0)) :: ((PVal.int .u64 (Int.ofNat 0)) :: ((PVal.int .u64 (Int.ofNat 0)) :: ((PVal.int .u64 (Int.ofNat 0)) :: ((PVal.int .u64 (Int.ofNat 0)) :: ((PVal.int .u64 (Int.ofNat 0)) :: ((PVal.int .u64 (Int.ofNat 0)) :: ((PVal.int .u64 (Int.ofNat 0)) :: (List.drop 9 l44)))))))))))))
          (ifB (decide (z52 ≥ (Int.ofNat 8)))
            (chk (Nat.ble 9 (List.length l44))
              (kx (.a (Int.ofNat 2) ((PVal.int .u64 (Int.ofNat 0)) :: ((PVal.int .u64 (Int.ofNat 0)) :: ((PVal.int .u64 (Int.ofNat 0)) :: ((PVal.int .u64 (Int.ofNat 0)) :: ((PVal.int .u64 (Int.ofNat 0)) :: ((PVal.int .u64 (Int.ofNat 0)) :: ((PVal.int .u64 (Int.ofNat 0)) :: ((PVal.int .u64 (Int.ofNat 0)) :: ((PVal.int .u64 (Int.ofNat 0)) :: (List.drop 9 l44)))))))))))))
            (ifB (decide (z58 < (Int.ofNat 0)))
              (chk (Nat.ble 9 (List.length l44))
                (kx (.a (Int.ofNat 2) ((PVal.int .u64 (Int.ofNat 0)) :: ((PVal.int .u64 (Int.ofNat 0)) :: ((PVal.int .u64 (Int.ofNat 0)) :: ((PVal.int .u64 (Int.ofNat 0)) :: ((PVal.int .u64 (Int.ofNat 0)) :: ((PVal.int .u64 (Int.ofNat 0)) :: ((PVal.int .u64 (Int.ofNat 0)) :: ((PVal.int .u64 (Int.ofNat 0)) :: ((PVal.int .u64 (Int.ofNat 0)) :: (List.drop 9 l44)))))))))))))
              (ifB (decide (z58 ≥ (Int.ofNat 5)))
                (chk (Nat.ble 9 (List.length l44))
                  (kx (.a (Int.ofNat 2) ((PVal.int .u64 (Int.ofNat 0)) :: ((PVal.int .u64 (Int.ofNat 0)) :: ((PVal.int .u64 (Int.ofNat 0)) :: ((PVal.int .u64 (Int.ofNat 0)) :: ((PVal.int .u64 (Int.ofNat 0)) :: ((PVal.int .u64 (Int.ofNat 0)) :: ((PVal.int .u64 (Int.ofNat 0)) :: ((PVal.int .u64 (Int.ofNat 0)) :: ((PVal.int .u64 (Int.ofNat 0)) :: (List.drop 9 l44)))))))))))))
                (nthK l45 8 fun x59 =>
                (intK .u64 x59 fun z60 =>
                (ifB (decide (z52 < (Int.ofNat 0)))
                  none
                  (chk (Nat.blt 8 (List.length l45))
                    (slK x40 fun l61 =>
                    (natK z43 fun n62 =>
                    (chk (Nat.ble n62 (List.length l61))
                      (chk (wide 3 l61)
                        (slK (sliceP x40 0 n62) fun l63 =>
                        (L_tTo_2 k rec (fun x => match x with
                          | .a x64 x65 z66 z67 l68 l69 => (kn (.a x64 x65 z66 (IntKind.wrap .i64 (z67 + (Int.ofNat 1))) l68 l69))) k (.a x40 x41 z42 z43 (sliceP x40 0 n62) (((List.length l63) : Nat) : Int) (Int.ofNat 0) l44 (List.set l45 8 (PVal.int .u64 (bOr .u64 z60 (IntKind.wrap .u64 ((Int.ofNat 1) * ((Int.ofNat 2) ^ (min (Int.toNat z52) 64))))))) z52 b55 z58))))))))))))))))))))))))))
      (kx (.b l44 l45)))
def L_tTo_0 (k : Nat) (rec : Rec1) (kx : ExtTo_0 → OA) : Nat → St_tTo_0 → OA
  | 0, _ => none
  | j + 1, s => S_tTo_0 k rec (L_tTo_0 k rec kx j) kx s
def lotTo (k : Nat) (rec : Rec1) : Loops AVal := fun id tm σ K =>
  match Nat.beq id 2 with
  | true => canon livetTo_2 tm σ fun c => rdtTo_2 c fun s => L_tTo_2 k rec (kxtTo_2 K) k s
  | false =>
  match Nat.beq id 0 with
  | true => canon livetTo_0 tm σ fun c => rdtTo_0 c fun s => L_tTo_0 k rec (kxtTo_0 K) k s
  | false => none
def F_tTo (k : Nat) (rec : Rec1) (p0 : PVal) : OA :=
  (slK p0 fun l1 =>
  (ifB (decide ((((List.length l1) : Nat) : Int) > (Int.ofNat 60)))
    (some (AVal.p (PVal.tup [(PVal.agg [(PVal.int .u64 (Int.ofNat 0)), (PVal.int .u64 (Int.ofNat 0)), (PVal.int .u64 (Int.ofNat 0)), (PVal.int .u64 (Int.ofNat 0)), (PVal.int .u64 (Int.ofNat 0)), (PVal.int .u64 (Int.ofNat 0)), (PVal.int .u64 (Int.ofNat 0)), (PVal.int .u64 (Int.ofNat 0)), (PVal.int .u64 (Int.ofNat 0))]), (PVal.int .i64 (Int.ofNat 2))])))
    (slK p0 fun l2 =>
    (L_tTo_0 k rec (fun x => match x with
      | .a z3 l4 => (chk (Nat.ble 9 (List.length l4))
          (some (AVal.p (PVal.tup [(PVal.agg (List.take 9 (List.drop 0 l4))), (PVal.int .i64 z3)]))))
      | .b l5 l6 => (chk (Nat.ble 9 (List.length l6))
          (chk (Nat.beq (List.length (List.take 9 (List.drop 0 l6))) 9)
            (chk (Nat.ble 9 (List.length l5))
              (chk (Nat.ble 9 (List.length (((List.take 0 l5) ++ (List.take 9 (List.drop 0 l6))) ++ (List.drop 9 l5))))
                (some (AVal.p (PVal.tup [(PVal.agg (List.take 9 (List.drop 0 (((List.take 0 l5) ++ (List.take 9 (List.drop 0 l6))) ++ (List.drop 9 l5))))), (PVal.int .i64 (Int.ofNat 0))])))))))) k (.a p0 p0 (((List.length l2) : Nat) : Int) (Int.ofNat 0) [(PVal.int .u64 (Int.ofNat 0)), (PVal.int .u64 (Int.ofNat 0)), (PVal.int .u64 (Int.ofNat 0)), (PVal.int .u64 (Int.ofNat 0)), (PVal.int .u64 (Int.ofNat 0)), (PVal.int .u64 (Int.ofNat 0)), (PVal.int .u64 (Int.ofNat 0)), (PVal.int .u64 (Int.ofNat 0)), (PVal.int .u64 (Int.ofNat 0))] [(PVal.int .u64 (Int.ofNat 0)), (PVal.int .u64 (Int.ofNat 0)), (PVal.int .u64 (Int.ofNat 0)), (PVal.int .u64 (Int.ofNat 0)), (PVal.int .u64 (Int.ofNat 0)), (PVal.int .u64 (Int.ofNat 0)), (PVal.int .u64 (Int.ofNat 0)), (PVal.int .u64 (Int.ofNat 0)), (PVal.int .u64 (Int.ofNat 0))])))))
theorem S_tTo_2_eq (k : Nat) (rec : Rec1) (Kn : XC → OA) (K : KX) (s : St_tTo_2) : codeK prog cftTo rec 88 (lotTo k rec) btTo_2 (tmOf gl livetTo_2 (mktTo_2 s).vals) (mktTo_2 s).st (roundK gl 2 livetTo_2 outstTo_2 Kn K) = S_tTo_2 k rec (fun s => Kn (mktTo_2 s)) (kxtTo_2 K) s := by
  cases s <;> kernel_rfl
theorem L_tTo_2_eq (k : Nat) (rec : Rec1) (K : KX) : ∀ (j : Nat) (s : St_tTo_2), loopX prog cftTo rec 88 gl (lotTo k rec) 2 livetTo_2 outstTo_2 btTo_2 j (mktTo_2 s) K = L_tTo_2 k rec (kxtTo_2 K) j s
  | 0, _ => rfl
  | j + 1, s => by
    simp only [loopX]
    rw [S_tTo_2_eq]
    exact congrArg (fun q => S_tTo_2 k rec q (kxtTo_2 K) s) (funext fun s' => L_tTo_2_eq k rec K j s')
theorem S_tTo_0_eq (k : Nat) (rec : Rec1) (Kn : XC → OA) (K : KX) (s : St_tTo_0) : codeK prog cftTo rec 88 (lotTo k rec) btTo_0 (tmOf gl livetTo_0 (mktTo_0 s).vals) (mktTo_0 s).st (roundK gl 0 livetTo_0 outstTo_0 Kn K) = S_tTo_0 k rec (fun s => Kn (mktTo_0 s)) (kxtTo_0 K) s := by
  cases s <;> kernel_rfl
theorem L_tTo_0_eq (k : Nat) (rec : Rec1) (K : KX) : ∀ (j : Nat) (s : St_tTo_0), loopX prog cftTo rec 88 gl (lotTo k rec) 0 livetTo_0 outstTo_0 btTo_0 j (mktTo_0 s) K = L_tTo_0 k rec (kxtTo_0 K) j s
  | 0, _ => rfl
  | j + 1, s => by
    simp only [loopX]
    rw [S_tTo_0_eq]
    exact congrArg (fun q => S_tTo_0 k rec q (kxtTo_0 K) s) (funext fun s' => L_tTo_0_eq k rec K j s')
theorem xltTo {k : Nat} {rec : Rec1} (h : RecKnown prog gl rec) : XLoops prog gl 88 (lotTo k rec) ctTo :=
  ⟨_, loopsIn_of _ (by rw [show topLoops ctTo = [(0, btTo_0)] from by kernel_rfl]; simp), (LoopsOk.add (evCall_ok (memoX_ok h) fine 1) (recOk h cftTo.imp 0 0) fine (Nat.le_of_ble_eq_true rfl) (LoopsOk.add (evCall_ok (memoX_ok h) fine 1) (recOk h cftTo.imp 0 0) fine (Nat.le_of_ble_eq_true rfl) LoopsOk.none 2 livetTo_2 outstTo_2 btTo_2 (by kernel_rfl) (loopsIn_of _ (by rw [show topLoops btTo_2 = [] from by kernel_rfl]; simp)) (fun tm σ K r hk => ⟨k, canon_mono (fun c hc => by
    obtain ⟨s, e, hs⟩ := rdtTo_2_some hc
    rw [e, L_tTo_2_eq]
    exact hs) hk⟩)) 0 livetTo_0 outstTo_0 btTo_0 (by kernel_rfl) (loopsIn_of _ (by rw [show topLoops btTo_0 = [(2, btTo_2)] from by kernel_rfl]; simp)) (fun tm σ K r hk => ⟨k, canon_mono (fun c hc => by
    obtain ⟨s, e, hs⟩ := rdtTo_0_some hc
    rw [e, L_tTo_0_eq]
    exact hs) hk⟩))⟩
theorem F_tTo_eq (k : Nat) (rec : Rec1) (p0 : PVal) : fnX prog cftTo .pure rec gl (fun _ => lotTo k rec) i_tTo [p0] = F_tTo k rec p0 := by kernel_rfl
theorem F_tTo_known {k : Nat} {rec : Rec1} (h : RecKnown prog gl rec) {p0 : PVal} {v : AVal} (hv : F_tTo k rec p0 = some v) (hg : goodV v = true) : goodV v = true ∧ Known prog gl i_tTo ([p0].map .p) (adopt 0 v).1 (adopt 0 v).2 :=
  fnX_fact (cf := cftTo) (out := .pure) (lo := lotTo k rec) fine h func_tTo (by kernel_rfl : fn_tTo.body = some ctTo) (by kernel_rfl) (xltTo h) ((F_tTo_eq k rec p0).trans hv) hg
def ctCo : Code := match fn_tCo.body with
  | some c => c
  | none => .skip
def cftCo : Cfg := ⟨shOf prog, sitesOf prog [] [] [], ximp⟩
def lotCo (k : Nat) (rec : Rec1) : Loops AVal := fun id tm σ K => none
def F_tCo (k : Nat) (rec : Rec1) (p0 p1 p2 : PVal) : OA :=
  (intK .i64 p1 fun z1 =>
  (intK .i64 p2 fun z2 =>
  (aggK p0 fun l3 =>
  (chk (Nat.beq (List.length l3) 9)
    (natK z1 fun n4 =>
    (chk (Nat.blt n4 8)
      (nthK l3 (0 + (n4 * 1)) fun x5 =>
      (intK .u64 x5 fun z6 =>
      (ifB (decide (z2 < (Int.ofNat 0)))
        none
        (some (AVal.p (PVal.bool ((bAnd .u64 (Int.fdiv z6 ((Int.ofNat 2) ^ (min (Int.toNat z2) 64))) (Int.ofNat 1)) == (Int.ofNat 1))))))))))))))
theorem xltCo {k : Nat} {rec : Rec1} (h : RecKnown prog gl rec) : XLoops prog gl 15 (lotCo k rec) ctCo :=
  ⟨_, loopsIn_of _ (by rw [show topLoops ctCo = [] from by kernel_rfl]; simp), LoopsOk.none⟩
theorem F_tCo_eq (k : Nat) (rec : Rec1) (p0 p1 p2 : PVal) : fnX prog cftCo .pure rec gl (fun _ => lotCo k rec) i_tCo [p0, p1, p2] = F_tCo k rec p0 p1 p2 := by kernel_rfl
theorem F_tCo_known {k : Nat} {rec : Rec1} (h : RecKnown prog gl rec) {p0 p1 p2 : PVal} {v : AVal} (hv : F_tCo k rec p0 p1 p2 = some v) (hg : goodV v = true) : goodV v = true ∧ Known prog gl i_tCo ([p0, p1, p2].map .p) (adopt 0 v).1 (adopt 0 v).2 :=
  fnX_fact (cf := cftCo) (out := .pure) (lo := lotCo k rec) fine h func_tCo (by kernel_rfl : fn_tCo.body = some ctCo) (by kernel_rfl) (xltCo h) ((F_tCo_eq k rec p0 p1 p2).trans hv) hg
def ctEd : Code := match fn_tEd.body with
  | some c => c
  | none => .skip
def cftEd : Cfg := ⟨shOf prog, sitesOf prog [(26, 23), (13, 66)] [] [], ximp⟩
inductive St_tEd_2 where
  | a (a0 : Int) (a1 : List PVal) (a2 : Int) (a3 : PVal) (a4 : Int) (a5 : Int)
  | b (a0 : Nat) (a1 : Int) (a2 : List PVal) (a3 : Int) (a4 : PVal) (a5 : Int) (a6 : Int) (a7 : List PVal)
inductive ExtEd_2 where
  | a (a0 : List PVal) (a1 : Int)
  | b (a0 : Nat) (a1 : List PVal) (a2 : Int) (a3 : List PVal)
def mktEd_2 (s : St_tEd_2) : XC := match s with
  | .a v0 v1 v2 v3 v4 v5 => (XC.mk (List.cons (AVal.p PVal.nils) (List.cons (AVal.p (PVal.int .i64 v0)) (List.cons (AVal.p (PVal.agg v1)) (List.cons (AVal.p (PVal.int .i64 v2)) (List.cons (AVal.p v3) (List.cons (AVal.p (PVal.int .i64 v4)) (List.cons (AVal.p (PVal.int .i64 v5)) []))))))) [])
  | .b v0 v1 v2 v3 v4 v5 v6 v7 => (XC.mk (List.cons (AVal.arr 0 0 0 v0 false) (List.cons (AVal.p (PVal.int .i64 v1)) (List.cons (AVal.p (PVal.agg v2)) (List.cons (AVal.p (PVal.int .i64 v3)) (List.cons (AVal.p v4) (List.cons (AVal.p (PVal.int .i64 v5)) (List.cons (AVal.p (PVal.int .i64 v6)) []))))))) (List.cons (XObj.arr 2 v7 0 0 0) []))
def rdtEd_2 {α : Type} (c : XC) (K : St_tEd_2 → Option α) : Option α := match c with
  | (XC.mk (List.cons (AVal.p PVal.nils) (List.cons (AVal.p (PVal.int .i64 v0)) (List.cons (AVal.p (PVal.agg v1)) (List.cons (AVal.p (PVal.int .i64 v2)) (List.cons (AVal.p v3) (List.cons (AVal.p (PVal.int .i64 v4)) (List.cons (AVal.p (PVal.int .i64 v5)) []))))))) []) => K (.a v0 v1 v2 v3 v4 v5)
  | (XC.mk (List.cons (AVal.arr 0 0 0 v0 false) (List.cons (AVal.p (PVal.int .i64 v1)) (List.cons (AVal.p (PVal.agg v2)) (List.cons (AVal.p (PVal.int .i64 v3)) (List.cons (AVal.p v4) (List.cons (AVal.p (PVal.int .i64 v5)) (List.cons (AVal.p (PVal.int .i64 v6)) []))))))) (List.cons (XObj.arr 2 v7 0 0 0) [])) => K (.b v0 v1 v2 v3 v4 v5 v6 v7)
  | _ => none
theorem rdtEd_2_some {α : Type} {r : α} {c : XC} {K : St_tEd_2 → Option α} (h : rdtEd_2 c K = some r) : ∃ s, c = mktEd_2 s ∧ K s = some r := by
  unfold rdtEd_2 at h
  split at h <;> first | exact ⟨_, rfl, h⟩ | simp at h
def outstEd_2 : XE → List Nat := (outsOf [(2, [6, 20, 21]), (1, [6, 20, 21]), (0, [6])] [2, 3])
def livetEd_2 : List Nat := [6, 7, 20, 21, 26, 27, 28]
def kxtEd_2 (K : KX) (x : ExtEd_2) : OA := match x with
  | .a v0 v1 => K XE.normal (tmOf gl (outstEd_2 (XE.exit 2)) (XC.vals (XC.mk (List.cons (AVal.p PVal.nils) (List.cons (AVal.p (PVal.agg v0)) (List.cons (AVal.p (PVal.int .i64 v1)) []))) []))) (XC.st (XC.mk (List.cons (AVal.p PVal.nils) (List.cons (AVal.p (PVal.agg v0)) (List.cons (AVal.p (PVal.int .i64 v1)) []))) []))
  | .b v0 v1 v2 v3 => K XE.normal (tmOf gl (outstEd_2 (XE.exit 2)) (XC.vals (XC.mk (List.cons (AVal.arr 0 0 0 v0 false) (List.cons (AVal.p (PVal.agg v1)) (List.cons (AVal.p (PVal.int .i64 v2)) []))) (List.cons (XObj.arr 2 v3 0 0 0) [])))) (XC.st (XC.mk (List.cons (AVal.arr 0 0 0 v0 false) (List.cons (AVal.p (PVal.agg v1)) (List.cons (AVal.p (PVal.int .i64 v2)) []))) (List.cons (XObj.arr 2 v3 0 0 0) [])))
def btEd_2 : Code := match findLoop 2 ctEd with
  | some c => c
  | none => .skip
def S_tEd_2 (k : Nat) (rec : Rec1) (kn : St_tEd_2 → OA) (kx : ExtEd_2 → OA) (s : St_tEd_2) : OA := match s with
  | .a z12 l13 z14 x15 z16 z17 =>
    (ifB (decide (z17 < z16))
      (slK x15 fun l18 =>
      (natK z17 fun n19 =>
      (nthK l18 n19 fun x20 =>
      (intK .i64 x20 fun z21 =>
      (kn (.b 1 z12 l13 z14 x15 z16 (IntKind.wrap .i64 (z17 + (Int.ofNat 1))) [(PVal.agg [(PVal.int .i64 z12), (PVal.int .i64 z21)])]))))))
      (kx (.a l13 z14)))
  | .b n22 z23 l24 z25 x26 z27 z28 l29 =>
    (ifB (decide (z28 < z27))
      (slK x26 fun l30 =>
      (natK z28 fun n31 =>
      (nthK l30 n31 fun x32 =>
      (intK .i64 x32 fun z33 =>
      (chk (Nat.beq n22 (List.length l29))
        (chk (Nat.ble ((n22 + 1) * 16) 1099511627776)
          (kn (.b (n22 + 1) z23 l24 z25 x26 z27 (IntKind.wrap .i64 (z28 + (Int.ofNat 1))) (l29 ++ [(PVal.agg [(PVal.int .i64 z23), (PVal.int .i64 z33)])])))))))))
      (kx (.b n22 l24 z25 l29)))
def L_tEd_2 (k : Nat) (rec : Rec1) (kx : ExtEd_2 → OA) : Nat → St_tEd_2 → OA
  | 0, _ => none
  | j + 1, s => S_tEd_2 k rec (L_tEd_2 k rec kx j) kx s
inductive St_tEd_0 where
  | a (a0 : List PVal) (a1 : Int)
  | b (a0 : Nat) (a1 : List PVal) (a2 : Int) (a3 : List PVal)
inductive ExtEd_0 where
  | a
  | b (a0 : Nat) (a1 : List PVal)
def mktEd_0 (s : St_tEd_0) : XC := match s with
  | .a v0 v1 => (XC.mk (List.cons (AVal.p PVal.nils) (List.cons (AVal.p (PVal.agg v0)) (List.cons (AVal.p (PVal.int .i64 v1)) []))) [])
  | .b v0 v1 v2 v3 => (XC.mk (List.cons (AVal.arr 0 0 0 v0 false) (List.cons (AVal.p (PVal.agg v1)) (List.cons (AVal.p (PVal.int .i64 v2)) []))) (List.cons (XObj.arr 2 v3 0 0 0) []))
def rdtEd_0 {α : Type} (c : XC) (K : St_tEd_0 → Option α) : Option α := match c with
  | (XC.mk (List.cons (AVal.p PVal.nils) (List.cons (AVal.p (PVal.agg v0)) (List.cons (AVal.p (PVal.int .i64 v1)) []))) []) => K (.a v0 v1)
  | (XC.mk (List.cons (AVal.arr 0 0 0 v0 false) (List.cons (AVal.p (PVal.agg v1)) (List.cons (AVal.p (PVal.int .i64 v2)) []))) (List.cons (XObj.arr 2 v3 0 0 0) [])) => K (.b v0 v1 v2 v3)
  | _ => none
theorem rdtEd_0_some {α : Type} {r : α} {c : XC} {K : St_tEd_0 → Option α} (h : rdtEd_0 c K = some r) : ∃ s, c = mktEd_0 s ∧ K s = some r := by
  unfold rdtEd_0 at h
  split at h <;> first | exact ⟨_, rfl, h⟩ | simp at h
def outstEd_0 : XE → List Nat := (outsOf [(0, [6])] [2, 3])
def livetEd_0 : List Nat := [6, 20, 21]
def kxtEd_0 (K : KX) (x : ExtEd_0) : OA := match x with
  | .a => K XE.normal (tmOf gl (outstEd_0 (XE.exit 0)) (XC.vals (XC.mk (List.cons (AVal.p PVal.nils) []) []))) (XC.st (XC.mk (List.cons (AVal.p PVal.nils) []) []))
  | .b v0 v1 => K XE.normal (tmOf gl (outstEd_0 (XE.exit 0)) (XC.vals (XC.mk (List.cons (AVal.arr 0 0 0 v0 false) []) (List.cons (XObj.arr 2 v1 0 0 0) [])))) (XC.st (XC.mk (List.cons (AVal.arr 0 0 0 v0 false) []) (List.cons (XObj.arr 2 v1 0 0 0) [])))
def btEd_0 : Code := match findLoop 0 ctEd with
  | some c => c
  | none => .skip
def S_tEd_0 (k : Nat) (rec : Rec1) (kn : St_tEd_0 → OA) (kx : ExtEd_0 → OA) (s : St_tEd_0) : OA := match s with
  | .a l34 z35 =>
    (ifB (decide (z35 < (Int.ofNat 8)))
      (natK z35 fun n36 =>
      (chk (Nat.blt n36 8)
        (nthK l34 (n36 * 1) fun x37 =>
        (intK .u64 x37 fun z38 =>
        (bindK (rec i_tLi [(PVal.int .u64 z38)]) fun x39 =>
        (pK x39 fun x40 =>
        (slK x40 fun l41 =>
        (L_tEd_2 k rec (fun x => match x with
          | .a l42 z43 => (kn (.a l42 (IntKind.wrap .i64 (z43 + (Int.ofNat 1)))))
          | .b n44 l45 z46 l47 => (kn (.b n44 l45 (IntKind.wrap .i64 (z46 + (Int.ofNat 1))) l47))) k (.a z35 l34 z35 x40 (((List.length l41) : Nat) : Int) (Int.ofNat 0))))))))))
      (kx (.a)))
  | .b n48 l49 z50 l51 =>
    (ifB (decide (z50 < (Int.ofNat 8)))
      (natK z50 fun n52 =>
      (chk (Nat.blt n52 8)
        (nthK l49 (n52 * 1) fun x53 =>
        (intK .u64 x53 fun z54 =>
        (bindK (rec i_tLi [(PVal.int .u64 z54)]) fun x55 =>
        (pK x55 fun x56 =>
        (slK x56 fun l57 =>
        (L_tEd_2 k rec (fun x => match x with
          | .a l58 z59 => (kn (.a l58 (IntKind.wrap .i64 (z59 + (Int.ofNat 1)))))
          | .b n60 l61 z62 l63 => (kn (.b n60 l61 (IntKind.wrap .i64 (z62 + (Int.ofNat 1))) l63))) k (.b n48 z50 l49 z50 x56 (((List.length l57) : Nat) : Int) (Int.ofNat 0) l51)))))))))
      (kx (.b n48 l51)))
def L_tEd_0 (k : Nat) (rec : Rec1) (kx : ExtEd_0 → OA) : Nat → St_tEd_0 → OA
  | 0, _ => none
  | j + 1, s => S_tEd_0 k rec (L_tEd_0 k rec kx j) kx s
def lotEd (k : Nat) (rec : Rec1) : Loops AVal := fun id tm σ K =>
  match Nat.beq id 2 with
  | true => canon livetEd_2 tm σ fun c => rdtEd_2 c fun s => L_tEd_2 k rec (kxtEd_2 K) k s
  | false =>
  match Nat.beq id 0 with
  | true => canon livetEd_0 tm σ fun c => rdtEd_0 c fun s => L_tEd_0 k rec (kxtEd_0 K) k s
  | false => none
def F_tEd (k : Nat) (rec : Rec1) (p0 : PVal) : OA :=
  (bindK (rec i_tTo [p0]) fun x1 =>
  (pK x1 fun x2 =>
  (tupK x2 fun l3 =>
  (consK l3 fun x4 l5 =>
  (consK l5 fun x6 l7 =>
  (intK .i64 x6 fun z8 =>
  (endK l7
    (aggK x4 fun l9 =>
    (chk (Nat.beq (List.length l9) 9)
      (ifB (z8 != (Int.ofNat 0))
        (some (AVal.p (PVal.tup [PVal.nils, (PVal.int .i64 z8)])))
        (chk (Nat.ble 8 (List.length (([] ++ l9) ++ [])))
          (L_tEd_0 k rec (fun x => match x with
            | .a => (some (AVal.p (PVal.tup [PVal.nils, (PVal.int .i64 (Int.ofNat 0))])))
            | .b n10 l11 => (chk (Nat.ble (0 + n10) (List.length l11))
                (some (AVal.p (PVal.tup [(PVal.sl (List.take n10 (List.drop 0 l11))), (PVal.int .i64 (Int.ofNat 0))]))))) k (.a (List.take 8 (List.drop 0 (([] ++ l9) ++ []))) (Int.ofNat 0))))))))))))))
theorem S_tEd_2_eq (k : Nat) (rec : Rec1) (Kn : XC → OA) (K : KX) (s : St_tEd_2) : codeK prog cftEd rec 41 (lotEd k rec) btEd_2 (tmOf gl livetEd_2 (mktEd_2 s).vals) (mktEd_2 s).st (roundK gl 2 livetEd_2 outstEd_2 Kn K) = S_tEd_2 k rec (fun s => Kn (mktEd_2 s)) (kxtEd_2 K) s := by
  cases s <;> kernel_rfl
theorem L_tEd_2_eq (k : Nat) (rec : Rec1) (K : KX) : ∀ (j : Nat) (s : St_tEd_2), loopX prog cftEd rec 41 gl (lotEd k rec) 2 livetEd_2 outstEd_2 btEd_2 j (mktEd_2 s) K = L_tEd_2 k rec (kxtEd_2 K) j s
  | 0, _ => rfl
  | j + 1, s => by
    simp only [loopX]
    rw [S_tEd_2_eq]
    exact congrArg (fun q => S_tEd_2 k rec q (kxtEd_2 K) s) (funext fun s' => L_tEd_2_eq k rec K j s')
theorem S_tEd_0_eq (k : Nat) (rec : Rec1) (Kn : XC → OA) (K : KX) (s : St_tEd_0) : codeK prog cftEd rec 41 (lotEd k rec) btEd_0 (tmOf gl livetEd_0 (mktEd_0 s).vals) (mktEd_0 s).st (roundK gl 0 livetEd_0 outstEd_0 Kn K) = S_tEd_0 k rec (fun s => Kn (mktEd_0 s)) (kxtEd_0 K) s := by
  cases s <;> kernel_rfl
theorem L_tEd_0_eq (k : Nat) (rec : Rec1) (K : KX) : ∀ (j : Nat) (s : St_tEd_0), loopX prog cftEd rec 41 gl (lotEd k rec) 0 livetEd_0 outstEd_0 btEd_0 j (mktEd_0 s) K = L_tEd_0 k rec (kxtEd_0 K) j s
  | 0, _ => rfl
  | j + 1, s => by
    simp only [loopX]
    rw [S_tEd_0_eq]
    exact congrArg (fun q => S_tEd_0 k rec q (kxtEd_0 K) s) (funext fun s' => L_tEd_0_eq k rec K j s')
theorem xltEd {k : Nat} {rec : Rec1} (h : RecKnown prog gl rec) : XLoops prog gl 41 (lotEd k rec) ctEd :=
  ⟨_, loopsIn_of _ (by rw [show topLoops ctEd = [(0, btEd_0)] from by kernel_rfl]; simp), (LoopsOk.add (evCall_ok (memoX_ok h) fine 1) (recOk h cftEd.imp 0 0) fine (Nat.le_of_ble_eq_true rfl) (LoopsOk.add (evCall_ok (memoX_ok h) fine 1) (recOk h cftEd.imp 0 0) fine (Nat.le_of_ble_eq_true rfl) LoopsOk.none 2 livetEd_2 outstEd_2 btEd_2 (by kernel_rfl) (loopsIn_of _ (by rw [show topLoops btEd_2 = [] from by kernel_rfl]; simp)) (fun tm σ K r hk => ⟨k, canon_mono (fun c hc => by
    obtain ⟨s, e, hs⟩ := rdtEd_2_some hc
    rw [e, L_tEd_2_eq]
    exact hs) hk⟩)) 0 livetEd_0 outstEd_0 btEd_0 (by kernel_rfl) (loopsIn_of _ (by rw [show topLoops btEd_0 = [(2, btEd_2)] from by kernel_rfl]; simp)) (fun tm σ K r hk => ⟨k, canon_mono (fun c hc => by
    obtain ⟨s, e, hs⟩ := rdtEd_0_some hc
    rw [e, L_tEd_0_eq]
    exact hs) hk⟩))⟩
theorem F_tEd_eq (k : Nat) (rec : Rec1) (p0 : PVal) : fnX prog cftEd .pure rec gl (fun _ => lotEd k rec) i_tEd [p0] = F_tEd k rec p0 := by kernel_rfl
theorem F_tEd_known {k : Nat} {rec : Rec1} (h : RecKnown prog gl rec) {p0 : PVal} {v : AVal} (hv : F_tEd k rec p0 = some v) (hg : goodV v = true) : goodV v = true ∧ Known prog gl i_tEd ([p0].map .p) (adopt 0 v).1 (adopt 0 v).2 :=
  fnX_fact (cf := cftEd) (out := .pure) (lo := lotEd k rec) fine h func_tEd (by kernel_rfl : fn_tEd.body = some ctEd) (by kernel_rfl) (xltEd h) ((F_tEd_eq k rec p0).trans hv) hg
def crEdges : Code := match fn_rEdges.body with
  | some c => c
  | none => .skip
def cfrEdges : Cfg := ⟨shOf prog, sitesOf prog [(12, 72), (9, 4)] [] [], ximp⟩
inductive St_rEdges_2 where
  | a (a0 : Int) (a1 : Int) (a2 : List PVal)
  | b (a0 : Nat) (a1 : Int) (a2 : Int) (a3 : List PVal) (a4 : List PVal)
inductive ExrEdges_2 where
  | a (a0 : Int) (a1 : List PVal)
  | b (a0 : Nat) (a1 : Int) (a2 : List PVal) (a3 : List PVal)
def mkrEdges_2 (s : St_rEdges_2) : XC := match s with
  | .a v0 v1 v2 => (XC.mk (List.cons (AVal.box 0 0) (List.cons (AVal.p PVal.nils) (List.cons (AVal.p (PVal.int .i64 v0)) (List.cons (AVal.p (PVal.int .i64 v1)) [])))) (List.cons (XObj.pbox v2) []))
  | .b v0 v1 v2 v3 v4 => (XC.mk (List.cons (AVal.box 0 0) (List.cons (AVal.arr 1 0 0 v0 false) (List.cons (AVal.p (PVal.int .i64 v1)) (List.cons (AVal.p (PVal.int .i64 v2)) [])))) (List.cons (XObj.pbox v3) (List.cons (XObj.arr 2 v4 0 0 0) [])))
def rdrEdges_2 {α : Type} (c : XC) (K : St_rEdges_2 → Option α) : Option α := match c with
  | (XC.mk (List.cons (AVal.box 0 0) (List.cons (AVal.p PVal.nils) (List.cons (AVal.p (PVal.int .i64 v0)) (List.cons (AVal.p (PVal.int .i64 v1)) [])))) (List.cons (XObj.pbox v2) [])) => K (.a v0 v1 v2)
  | (XC.mk (List.cons (AVal.box 0 0) (List.cons (AVal.arr 1 0 0 v0 false) (List.cons (AVal.p (PVal.int .i64 v1)) (List.cons (AVal.p (PVal.int .i64 v2)) [])))) (List.cons (XObj.pbox v3) (List.cons (XObj.arr 2 v4 0 0 0) []))) => K (.b v0 v1 v2 v3 v4)
  | _ => none
theorem rdrEdges_2_some {α : Type} {r : α} {c : XC} {K : St_rEdges_2 → Option α} (h : rdrEdges_2 c K = some r) : ∃ s, c = mkrEdges_2 s ∧ K s = some r := by
  unfold rdrEdges_2 at h
  split at h <;> first | exact ⟨_, rfl, h⟩ | simp at h
def outsrEdges_2 : XE → List Nat := (outsOf [(2, [4, 5, 6]), (1, [4, 5, 6]), (0, [5])] [2, 3])
def liverEdges_2 : List Nat := [4, 5, 6, 7]
def kxrEdges_2 (K : KX) (x : ExrEdges_2) : OA := match x with
  | .a v0 v1 => K XE.normal (tmOf gl (outsrEdges_2 (XE.exit 2)) (XC.vals (XC.mk (List.cons (AVal.box 0 0) (List.cons (AVal.p PVal.nils) (List.cons (AVal.p (PVal.int .i64 v0)) []))) (List.cons (XObj.pbox v1) [])))) (XC.st (XC.mk (List.cons (AVal.box 0 0) (List.cons (AVal.p PVal.nils) (List.cons (AVal.p (PVal.int .i64 v0)) []))) (List.cons (XObj.pbox v1) [])))
  | .b v0 v1 v2 v3 => K XE.normal (tmOf gl (outsrEdges_2 (XE.exit 2)) (XC.vals (XC.mk (List.cons (AVal.box 0 0) (List.cons (AVal.arr 1 0 0 v0 false) (List.cons (AVal.p (PVal.int .i64 v1)) []))) (List.cons (XObj.pbox v2) (List.cons (XObj.arr 2 v3 0 0 0) []))))) (XC.st (XC.mk (List.cons (AVal.box 0 0) (List.cons (AVal.arr 1 0 0 v0 false) (List.cons (AVal.p (PVal.int .i64 v1)) []))) (List.cons (XObj.pbox v2) (List.cons (XObj.arr 2 v3 0 0 0) []))))
def brEdges_2 : Code := match findLoop 2 crEdges with
  | some c => c
  | none => .skip
def S_rEdges_2 (k : Nat) (rec : Rec1) (kn : St_rEdges_2 → OA) (kx : ExrEdges_2 → OA) (s : St_rEdges_2) : OA := match s with
  | .a z9 z10 l11 =>
    (ifB (decide (z10 < (Int.ofNat 8)))
      (natK z9 fun n12 =>
      (chk (Nat.blt n12 8)
        (natK z10 fun n13 =>
        (chk (Nat.blt n13 8)
          (nthK l11 ((0 + (n12 * 8)) + (n13 * 1)) fun x14 =>
          (boolK x14 fun b15 =>
          (ifB b15
            (kn (.b 1 z9 (IntKind.wrap .i64 (z10 + (Int.ofNat 1))) l11 [(PVal.agg [(PVal.int .i64 z9), (PVal.int .i64 z10)])]))
            (kn (.a z9 (IntKind.wrap .i64 (z10 + (Int.ofNat 1))) l11)))))))))
      (kx (.a z9 l11)))
  | .b n16 z17 z18 l19 l20 =>
    (ifB (decide (z18 < (Int.ofNat 8)))
      (natK z17 fun n21 =>
      (chk (Nat.blt n21 8)
        (natK z18 fun n22 =>
        (chk (Nat.blt n22 8)
          (nthK l19 ((0 + (n21 * 8)) + (n22 * 1)) fun x23 =>
          (boolK x23 fun b24 =>
          (ifB b24
            (chk (Nat.beq n16 (List.length l20))
              (chk (Nat.ble ((n16 + 1) * 16) 1099511627776)
                (kn (.b (n16 + 1) z17 (IntKind.wrap .i64 (z18 + (Int.ofNat 1))) l19 (l20 ++ [(PVal.agg [(PVal.int .i64 z17), (PVal.int .i64 z18)])])))))
            (kn (.b n16 z17 (IntKind.wrap .i64 (z18 + (Int.ofNat 1))) l19 l20)))))))))
      (kx (.b n16 z17 l19 l20)))
def L_rEdges_2 (k : Nat) (rec : Rec1) (kx : ExrEdges_2 → OA) : Nat → St_rEdges_2 → OA
  | 0, _ => none
  | j + 1, s => S_rEdges_2 k rec (L_rEdges_2 k rec kx j) kx s
inductive St_rEdges_0 where
  | a (a0 : Int) (a1 : List PVal)
  | b (a0 : Nat) (a1 : Int) (a2 : List PVal) (a3 : List PVal)
inductive ExrEdges_0 where
  | a
  | b (a0 : Nat) (a1 : List PVal)
def mkrEdges_0 (s : St_rEdges_0) : XC := match s with
  | .a v0 v1 => (XC.mk (List.cons (AVal.box 0 0) (List.cons (AVal.p PVal.nils) (List.cons (AVal.p (PVal.int .i64 v0)) []))) (List.cons (XObj.pbox v1) []))
  | .b v0 v1 v2 v3 => (XC.mk (List.cons (AVal.box 0 0) (List.cons (AVal.arr 1 0 0 v0 false) (List.cons (AVal.p (PVal.int .i64 v1)) []))) (List.cons (XObj.pbox v2) (List.cons (XObj.arr 2 v3 0 0 0) [])))
def rdrEdges_0 {α : Type} (c : XC) (K : St_rEdges_0 → Option α) : Option α := match c with
  | (XC.mk (List.cons (AVal.box 0 0) (List.cons (AVal.p PVal.nils) (List.cons (AVal.p (PVal.int .i64 v0)) []))) (List.cons (XObj.pbox v1) [])) => K (.a v0 v1)
  | (XC.mk (List.cons (AVal.box 0 0) (List.cons (AVal.arr 1 0 0 v0 false) (List.cons (AVal.p (PVal.int .i64 v1)) []))) (List.cons (XObj.pbox v2) (List.cons (XObj.arr 2 v3 0 0 0) []))) => K (.b v0 v1 v2 v3)
  | _ => none
theorem rdrEdges_0_some {α : Type} {r : α} {c : XC} {K : St_rEdges_0 → Option α} (h : rdrEdges_0 c K = some r) : ∃ s, c = mkrEdges_0 s ∧ K s = some r := by
  unfold rdrEdges_0 at h
  split at h <;> first | exact ⟨_, rfl, h⟩ | simp at h
def outsrEdges_0 : XE → List Nat := (outsOf [(0, [5])] [2, 3])
def liverEdges_0 : List Nat := [4, 5, 6]
def kxrEdges_0 (K : KX) (x : ExrEdges_0) : OA := match x with
  | .a => K XE.normal (tmOf gl (outsrEdges_0 (XE.exit 0)) (XC.vals (XC.mk (List.cons (AVal.p PVal.nils) []) []))) (XC.st (XC.mk (List.cons (AVal.p PVal.nils) []) []))
  | .b v0 v1 => K XE.normal (tmOf gl (outsrEdges_0 (XE.exit 0)) (XC.vals (XC.mk (List.cons (AVal.arr 0 0 0 v0 false) []) (List.cons (XObj.arr 2 v1 0 0 0) [])))) (XC.st (XC.mk (List.cons (AVal.arr 0 0 0 v0 false) []) (List.cons (XObj.arr 2 v1 0 0 0) [])))
def brEdges_0 : Code := match findLoop 0 crEdges with
  | some c => c
  | none => .skip
def S_rEdges_0 (k : Nat) (rec : Rec1) (kn : St_rEdges_0 → OA) (kx : ExrEdges_0 → OA) (s : St_rEdges_0) : OA := match s with
  | .a z25 l26 =>
    (ifB (decide (z25 < (Int.ofNat 8)))
      (L_rEdges_2 k rec (fun x => match x with
        | .a z27 l28 => (kn (.a (IntKind.wrap .i64 (z27 + (Int.ofNat 1))) l28))
        | .b n29 z30 l31 l32 => (kn (.b n29 (IntKind.wrap .i64 (z30 + (Int.ofNat 1))) l31 l32))) k (.a z25 (Int.ofNat 0) l26))
      (kx (.a)))
  | .b n33 z34 l35 l36 =>
    (ifB (decide (z34 < (Int.ofNat 8)))
      (L_rEdges_2 k rec (fun x => match x with
        | .a z37 l38 => (kn (.a (IntKind.wrap .i64 (z37 + (Int.ofNat 1))) l38))
        | .b n39 z40 l41 l42 => (kn (.b n39 (IntKind.wrap .i64 (z40 + (Int.ofNat 1))) l41 l42))) k (.b n33 z34 (Int.ofNat 0) l35 l36))
      (kx (.b n33 l36)))
def L_rEdges_0 (k : Nat) (rec : Rec1) (kx : ExrEdges_0 → OA) : Nat → St_rEdges_0 → OA
  | 0, _ => none
  | j + 1, s => S_rEdges_0 k rec (L_rEdges_0 k rec kx j) kx s
def lorEdges (k : Nat) (rec : Rec1) : Loops AVal := fun id tm σ K =>
  match Nat.beq id 2 with
  | true => canon liverEdges_2 tm σ fun c => rdrEdges_2 c fun s => L_rEdges_2 k rec (kxrEdges_2 K) k s
  | false =>
  match Nat.beq id 0 with
  | true => canon liverEdges_0 tm σ fun c => rdrEdges_0 c fun s => L_rEdges_0 k rec (kxrEdges_0 K) k s
  | false => none
def F_rEdges (k : Nat) (rec : Rec1) (p0 : PVal) : OA :=
  (bindK (rec i_racted [p0]) fun x1 =>
  (pK x1 fun x2 =>
  (boolK x2 fun b3 =>
  (ifB (!b3)
    (some (AVal.p (PVal.tup [PVal.nils, (PVal.int .i64 (Int.ofNat 2))])))
    (bindK (rec i_rdrawn [p0]) fun x4 =>
    (pK x4 fun x5 =>
    (aggK x5 fun l6 =>
    (chk (Nat.beq (List.length l6) 64)
      (L_rEdges_0 k rec (fun x => match x with
        | .a => (some (AVal.p (PVal.tup [PVal.nils, (PVal.int .i64 (Int.ofNat 0))])))
        | .b n7 l8 => (chk (Nat.ble (0 + n7) (List.length l8))
            (some (AVal.p (PVal.tup [(PVal.sl (List.take n7 (List.drop 0 l8))), (PVal.int .i64 (Int.ofNat 0))]))))) k (.a (Int.ofNat 0) (([] ++ l6) ++ [])))))))))))
theorem S_rEdges_2_eq (k : Nat) (rec : Rec1) (Kn : XC → OA) (K : KX) (s : St_rEdges_2) : codeK prog cfrEdges rec 33 (lorEdges k rec) brEdges_2 (tmOf gl liverEdges_2 (mkrEdges_2 s).vals) (mkrEdges_2 s).st (roundK gl 2 liverEdges_2 outsrEdges_2 Kn K) = S_rEdges_2 k rec (fun s => Kn (mkrEdges_2 s)) (kxrEdges_2 K) s := by
  cases s <;> kernel_rfl
theorem L_rEdges_2_eq (k : Nat) (rec : Rec1) (K : KX) : ∀ (j : Nat) (s : St_rEdges_2), loopX prog cfrEdges rec 33 gl (lorEdges k rec) 2 liverEdges_2 outsrEdges_2 brEdges_2 j (mkrEdges_2 s) K = L_rEdges_2 k rec (kxrEdges_2 K) j s
  | 0, _ => rfl
  | j + 1, s => by
    simp only [loopX]
    rw [S_rEdges_2_eq]
    exact congrArg (fun q => S_rEdges_2 k rec q (kxrEdges_2 K) s) (funext fun s' => L_rEdges_2_eq k rec K j s')
theorem S_rEdges_0_eq (k : Nat) (rec : Rec1) (Kn : XC → OA) (K : KX) (s : St_rEdges_0) : codeK prog cfrEdges rec 33 (lorEdges k rec) brEdges_0 (tmOf gl liverEdges_0 (mkrEdges_0 s).vals) (mkrEdges_0 s).st (roundK gl 0 liverEdges_0 outsrEdges_0 Kn K) = S_rEdges_0 k rec (fun s => Kn (mkrEdges_0 s)) (kxrEdges_0 K) s := by
  cases s <;> kernel_rfl
theorem L_rEdges_0_eq (k : Nat) (rec : Rec1) (K : KX) : ∀ (j : Nat) (s : St_rEdges_0), loopX prog cfrEdges rec 33 gl (lorEdges k rec) 0 liverEdges_0 outsrEdges_0 brEdges_0 j (mkrEdges_0 s) K = L_rEdges_0 k rec (kxrEdges_0 K) j s
  | 0, _ => rfl
  | j + 1, s => by
    simp only [loopX]
    rw [S_rEdges_0_eq]
    exact congrArg (fun q => S_rEdges_0 k rec q (kxrEdges_0 K) s) (funext fun s' => L_rEdges_0_eq k rec K j s')
theorem xlrEdges {k : Nat} {rec : Rec1} (h : RecKnown prog gl rec) : XLoops prog gl 33 (lorEdges k rec) crEdges :=
  ⟨_, loopsIn_of _ (by rw [show topLoops crEdges = [(0, brEdges_0)] from by kernel_rfl]; simp), (LoopsOk.add (evCall_ok (memoX_ok h) fine 1) (recOk h cfrEdges.imp 0 0) fine (Nat.le_of_ble_eq_true rfl) (LoopsOk.add (evCall_ok (memoX_ok h) fine 1) (recOk h cfrEdges.imp 0 0) fine (Nat.le_of_ble_eq_true rfl) LoopsOk.none 2 liverEdges_2 outsrEdges_2 brEdges_2 (by kernel_rfl) (loopsIn_of _ (by rw [show topLoops brEdges_2 = [] from by kernel_rfl]; simp)) (fun tm σ K r hk => ⟨k, canon_mono (fun c hc => by
    obtain ⟨s, e, hs⟩ := rdrEdges_2_some hc
    rw [e, L_rEdges_2_eq]
    exact hs) hk⟩)) 0 liverEdges_0 outsrEdges_0 brEdges_0 (by kernel_rfl) (loopsIn_of _ (by rw [show topLoops brEdges_0 = [(2, brEdges_2)] from by kernel_rfl]; simp)) (fun tm σ K r hk => ⟨k, canon_mono (fun c hc => by
    obtain ⟨s, e, hs⟩ := rdrEdges_0_some hc
    rw [e, L_rEdges_0_eq]
    exact hs) hk⟩))⟩
theorem F_rEdges_eq (k : Nat) (rec : Rec1) (p0 : PVal) : fnX prog cfrEdges .pure rec gl (fun _ => lorEdges k rec) i_rEdges [p0] = F_rEdges k rec p0 := by kernel_rfl
theorem F_rEdges_known {k : Nat} {rec : Rec1} (h : RecKnown prog gl rec) {p0 : PVal} {v : AVal} (hv : F_rEdges k rec p0 = some v) (hg : goodV v = true) : goodV v = true ∧ Known prog gl i_rEdges ([p0].map .p) (adopt 0 v).1 (adopt 0 v).2 :=
  fnX_fact (cf := cfrEdges) (out := .pure) (lo := lorEdges k rec) fine h func_rEdges (by kernel_rfl : fn_rEdges.body = some crEdges) (by kernel_rfl) (xlrEdges h) ((F_rEdges_eq k rec p0).trans hv) hg
def ctOr : Code := match fn_tOr.body with
  | some c => c
  | none => .skip
def cftOr : Cfg := ⟨shOf prog, sitesOf prog [(32, 4), (30, 23), (23, 23), (12, 66)] [] [], ximp⟩
inductive St_tOr_2 where
  | a (a0 : Int) (a1 : PVal) (a2 : Int) (a3 : Int) (a4 : List PVal)
  | b (a0 : Nat) (a1 : Int) (a2 : PVal) (a3 : Int) (a4 : Int) (a5 : List PVal) (a6 : List PVal)
inductive ExtOr_2 where
  | a (a0 : Nat) (a1 : Int) (a2 : List PVal) (a3 : List PVal)
  | b
def mktOr_2 (s : St_tOr_2) : XC := match s with
  | .a v0 v1 v2 v3 v4 => (XC.mk (List.cons (AVal.box 0 0) (List.cons (AVal.p PVal.nils) (List.cons (AVal.p (PVal.int .u64 v0)) (List.cons (AVal.p v1) (List.cons (AVal.p (PVal.int .i64 v2)) (List.cons (AVal.p (PVal.int .i64 v3)) [])))))) (List.cons (XObj.pbox v4) []))
  | .b v0 v1 v2 v3 v4 v5 v6 => (XC.mk (List.cons (AVal.box 0 0) (List.cons (AVal.arr 1 0 0 v0 false) (List.cons (AVal.p (PVal.int .u64 v1)) (List.cons (AVal.p v2) (List.cons (AVal.p (PVal.int .i64 v3)) (List.cons (AVal.p (PVal.int .i64 v4)) [])))))) (List.cons (XObj.pbox v5) (List.cons (XObj.arr 1 v6 0 0 0) [])))
def rdtOr_2 {α : Type} (c : XC) (K : St_tOr_2 → Option α) : Option α := match c with
  | (XC.mk (List.cons (AVal.box 0 0) (List.cons (AVal.p PVal.nils) (List.cons (AVal.p (PVal.int .u64 v0)) (List.cons (AVal.p v1) (List.cons (AVal.p (PVal.int .i64 v2)) (List.cons (AVal.p (PVal.int .i64 v3)) [])))))) (List.cons (XObj.pbox v4) [])) => K (.a v0 v1 v2 v3 v4)
  | (XC.mk (List.cons (AVal.box 0 0) (List.cons (AVal.arr 1 0 0 v0 false) (List.cons (AVal.p (PVal.int .u64 v1)) (List.cons (AVal.p v2) (List.cons (AVal.p (PVal.int .i64 v3)) (List.cons (AVal.p (PVal.int .i64 v4)) [])))))) (List.cons (XObj.pbox v5) (List.cons (XObj.arr 1 v6 0 0 0) []))) => K (.b v0 v1 v2 v3 v4 v5 v6)
  | _ => none
theorem rdtOr_2_some {α : Type} {r : α} {c : XC} {K : St_tOr_2 → Option α} (h : rdtOr_2 c K = some r) : ∃ s, c = mktOr_2 s ∧ K s = some r := by
  unfold rdtOr_2 at h
  split at h <;> first | exact ⟨_, rfl, h⟩ | simp at h
def outstOr_2 : XE → List Nat := (outsOf [(2, []), (1, [4, 6, 7]), (0, [6])] [2, 3])
def livetOr_2 : List Nat := [4, 6, 7, 23, 24, 25]
def kxtOr_2 (K : KX) (x : ExtOr_2) : OA := match x with
  | .a v0 v1 v2 v3 => K (XE.exit 1) (tmOf gl (outstOr_2 (XE.exit 1)) (XC.vals (XC.mk (List.cons (AVal.box 0 0) (List.cons (AVal.arr 1 0 0 v0 false) (List.cons (AVal.p (PVal.int .u64 v1)) []))) (List.cons (XObj.pbox v2) (List.cons (XObj.arr 1 v3 0 0 0) []))))) (XC.st (XC.mk (List.cons (AVal.box 0 0) (List.cons (AVal.arr 1 0 0 v0 false) (List.cons (AVal.p (PVal.int .u64 v1)) []))) (List.cons (XObj.pbox v2) (List.cons (XObj.arr 1 v3 0 0 0) []))))
  | .b => K XE.normal (tmOf gl (outstOr_2 (XE.exit 2)) (XC.vals (XC.mk [] []))) (XC.st (XC.mk [] []))
def btOr_2 : Code := match findLoop 2 ctOr with
  | some c => c
  | none => .skip
def S_tOr_2 (k : Nat) (rec : Rec1) (kn : St_tOr_2 → OA) (kx : ExtOr_2 → OA) (s : St_tOr_2) : OA := match s with
  | .a z15 x16 z17 z18 l19 =>
    (ifB (decide (z18 < z17))
      (slK x16 fun l20 =>
      (natK z18 fun n21 =>
      (nthK l20 n21 fun x22 =>
      (intK .i64 x22 fun z23 =>
      (bindK (rec i_tLi [(PVal.int .u64 z15)]) fun x24 =>
      (pK x24 fun x25 =>
      (chk (Nat.blt 1 (List.length l19))
        (bindK (rec i_sCF (x25 :: [(PVal.fn (Fn.func i_tOr_1) [(PVal.ip (PVal.agg l19)), (PVal.ip (ipOf [(PVal.int .i64 z23)]))])])) fun x26 =>
        (pK x26 fun x27 =>
        (boolK x27 fun b28 =>
        (ifB (!b28)
          (ifB (decide (z23 < (Int.ofNat 0)))
            none
            (kx (.a 1 (bAndNot .u64 z15 (IntKind.wrap .u64 ((Int.ofNat 1) * ((Int.ofNat 2) ^ (min (Int.toNat z23) 64))))) l19 [(PVal.int .i64 z23)])))
          (kn (.a z15 x16 z17 (IntKind.wrap .i64 (z18 + (Int.ofNat 1))) l19)))))))))))))
      (kx (.b)))
  | .b n29 z30 x31 z32 z33 l34 l35 =>
    (ifB (decide (z33 < z32))
      (slK x31 fun l36 =>
      (natK z33 fun n37 =>
      (nthK l36 n37 fun x38 =>
      (intK .i64 x38 fun z39 =>
      (bindK (rec i_tLi [(PVal.int .u64 z30)]) fun x40 =>
      (pK x40 fun x41 =>
      (chk (Nat.blt 1 (List.length l34))
        (bindK (rec i_sCF (x41 :: [(PVal.fn (Fn.func i_tOr_1) [(PVal.ip (PVal.agg l34)), (PVal.ip (ipOf [(PVal.int .i64 z39)]))])])) fun x42 =>
        (pK x42 fun x43 =>
        (boolK x43 fun b44 =>
        (ifB (!b44)
          (chk (Nat.beq n29 (List.length l35))
            (chk (Nat.ble ((n29 + 1) * 8) 1099511627776)
              (ifB (decide (z39 < (Int.ofNat 0)))
                none
                (kx (.a (n29 + 1) (bAndNot .u64 z30 (IntKind.wrap .u64 ((Int.ofNat 1) * ((Int.ofNat 2) ^ (min (Int.toNat z39) 64))))) l34 (l35 ++ [(PVal.int .i64 z39)]))))))
          (kn (.b n29 z30 x31 z32 (IntKind.wrap .i64 (z33 + (Int.ofNat 1))) l34 l35)))))))))))))
      (kx (.b)))
def L_tOr_2 (k : Nat) (rec : Rec1) (kx : ExtOr_2 → OA) : Nat → St_tOr_2 → OA
  | 0, _ => none
  | j + 1, s => S_tOr_2 k rec (L_tOr_2 k rec kx j) kx s
inductive St_tOr_0 where
  | a (a0 : Int) (a1 : List PVal)
  | b (a0 : Nat) (a1 : Int) (a2 : List PVal) (a3 : List PVal)
inductive ExtOr_0 where
  | a
  | b (a0 : Int)
  | c (a0 : Nat) (a1 : List PVal)
def mktOr_0 (s : St_tOr_0) : XC := match s with
  | .a v0 v1 => (XC.mk (List.cons (AVal.box 0 0) (List.cons (AVal.p PVal.nils) (List.cons (AVal.p (PVal.int .u64 v0)) []))) (List.cons (XObj.pbox v1) []))
  | .b v0 v1 v2 v3 => (XC.mk (List.cons (AVal.box 0 0) (List.cons (AVal.arr 1 0 0 v0 false) (List.cons (AVal.p (PVal.int .u64 v1)) []))) (List.cons (XObj.pbox v2) (List.cons (XObj.arr 1 v3 0 0 0) [])))
def rdtOr_0 {α : Type} (c : XC) (K : St_tOr_0 → Option α) : Option α := match c with
  | (XC.mk (List.cons (AVal.box 0 0) (List.cons (AVal.p PVal.nils) (List.cons (AVal.p (PVal.int .u64 v0)) []))) (List.cons (XObj.pbox v1) [])) => K (.a v0 v1)
  | (XC.mk (List.cons (AVal.box 0 0) (List.cons (AVal.arr 1 0 0 v0 false) (List.cons (AVal.p (PVal.int .u64 v1)) []))) (List.cons (XObj.pbox v2) (List.cons (XObj.arr 1 v3 0 0 0) []))) => K (.b v0 v1 v2 v3)
  | _ => none
theorem rdtOr_0_some {α : Type} {r : α} {c : XC} {K : St_tOr_0 → Option α} (h : rdtOr_0 c K = some r) : ∃ s, c = mktOr_0 s ∧ K s = some r := by
  unfold rdtOr_0 at h
  split at h <;> first | exact ⟨_, rfl, h⟩ | simp at h
def outstOr_0 : XE → List Nat := (outsOf [(0, [6])] [2, 3])
def livetOr_0 : List Nat := [4, 6, 7]
def kxtOr_0 (K : KX) (x : ExtOr_0) : OA := match x with
  | .a => K XE.normal (tmOf gl (outstOr_0 (XE.exit 0)) (XC.vals (XC.mk (List.cons (AVal.p PVal.nils) []) []))) (XC.st (XC.mk (List.cons (AVal.p PVal.nils) []) []))
  | .b v0 => K XE.ret (tmOf gl (outstOr_0 XE.ret) (XC.vals (XC.mk (List.cons (AVal.p PVal.nils) (List.cons (AVal.p (PVal.int .i64 v0)) [])) []))) (XC.st (XC.mk (List.cons (AVal.p PVal.nils) (List.cons (AVal.p (PVal.int .i64 v0)) [])) []))
  | .c v0 v1 => K XE.normal (tmOf gl (outstOr_0 (XE.exit 0)) (XC.vals (XC.mk (List.cons (AVal.arr 0 0 0 v0 false) []) (List.cons (XObj.arr 1 v1 0 0 0) [])))) (XC.st (XC.mk (List.cons (AVal.arr 0 0 0 v0 false) []) (List.cons (XObj.arr 1 v1 0 0 0) [])))
def btOr_0 : Code := match findLoop 0 ctOr with
  | some c => c
  | none => .skip
def S_tOr_0 (k : Nat) (rec : Rec1) (kn : St_tOr_0 → OA) (kx : ExtOr_0 → OA) (s : St_tOr_0) : OA := match s with
  | .a z45 l46 =>
    (ifB (z45 != (Int.ofNat 0))
      (bindK (rec i_tLi [(PVal.int .u64 z45)]) fun x47 =>
      (pK x47 fun x48 =>
      (slK x48 fun l49 =>
      (L_tOr_2 k rec (fun x => match x with
        | .a n50 z51 l52 l53 => (kn (.b n50 z51 l52 l53))
        | .b => (kx (.b (Int.ofNat 5)))) k (.a z45 x48 (((List.length l49) : Nat) : Int) (Int.ofNat 0) l46)))))
      (kx (.a)))
  | .b n54 z55 l56 l57 =>
    (ifB (z55 != (Int.ofNat 0))
      (bindK (rec i_tLi [(PVal.int .u64 z55)]) fun x58 =>
      (pK x58 fun x59 =>
      (slK x59 fun l60 =>
      (L_tOr_2 k rec (fun x => match x with
        | .a n61 z62 l63 l64 => (kn (.b n61 z62 l63 l64))
        | .b => (kx (.b (Int.ofNat 5)))) k (.b n54 z55 x59 (((List.length l60) : Nat) : Int) (Int.ofNat 0) l56 l57)))))
      (kx (.c n54 l57)))
def L_tOr_0 (k : Nat) (rec : Rec1) (kx : ExtOr_0 → OA) : Nat → St_tOr_0 → OA
  | 0, _ => none
  | j + 1, s => S_tOr_0 k rec (L_tOr_0 k rec kx j) kx s
def lotOr (k : Nat) (rec : Rec1) : Loops AVal := fun id tm σ K =>
  match Nat.beq id 2 with
  | true => canon livetOr_2 tm σ fun c => rdtOr_2 c fun s => L_tOr_2 k rec (kxtOr_2 K) k s
  | false =>
  match Nat.beq id 0 with
  | true => canon livetOr_0 tm σ fun c => rdtOr_0 c fun s => L_tOr_0 k rec (kxtOr_0 K) k s
  | false => none
def F_tOr (k : Nat) (rec : Rec1) (p0 : PVal) : OA :=
  (bindK (rec i_tTo [p0]) fun x1 =>
  (pK x1 fun x2 =>
  (tupK x2 fun l3 =>
  (consK l3 fun x4 l5 =>
  (consK l5 fun x6 l7 =>
  (intK .i64 x6 fun z8 =>
  (endK l7
    (aggK x4 fun l9 =>
    (chk (Nat.beq (List.length l9) 9)
      (ifB (z8 != (Int.ofNat 0))
        (some (AVal.p (PVal.tup [PVal.nils, (PVal.int .i64 z8)])))
        (nthK (([] ++ l9) ++ []) 8 fun x10 =>
        (intK .u64 x10 fun z11 =>
        (L_tOr_0 k rec (fun x => match x with
          | .a => (some (AVal.p (PVal.tup [PVal.nils, (PVal.int .i64 (Int.ofNat 0))])))
          | .b z12 => (some (AVal.p (PVal.tup [PVal.nils, (PVal.int .i64 z12)])))
          | .c n13 l14 => (chk (Nat.ble (0 + n13) (List.length l14))
              (some (AVal.p (PVal.tup [(PVal.sl (List.take n13 (List.drop 0 l14))), (PVal.int .i64 (Int.ofNat 0))]))))) k (.a z11 (([] ++ l9) ++ [])))))))))))))))
theorem S_tOr_2_eq (k : Nat) (rec : Rec1) (Kn : XC → OA) (K : KX) (s : St_tOr_2) : codeK prog cftOr rec 44 (lotOr k rec) btOr_2 (tmOf gl livetOr_2 (mktOr_2 s).vals) (mktOr_2 s).st (roundK gl 2 livetOr_2 outstOr_2 Kn K) = S_tOr_2 k rec (fun s => Kn (mktOr_2 s)) (kxtOr_2 K) s := by
  cases s <;> kernel_rfl
theorem L_tOr_2_eq (k : Nat) (rec : Rec1) (K : KX) : ∀ (j : Nat) (s : St_tOr_2), loopX prog cftOr rec 44 gl (lotOr k rec) 2 livetOr_2 outstOr_2 btOr_2 j (mktOr_2 s) K = L_tOr_2 k rec (kxtOr_2 K) j s
  | 0, _ => rfl
  | j + 1, s => by
    simp only [loopX]
    rw [S_tOr_2_eq]
    exact congrArg (fun q => S_tOr_2 k rec q (kxtOr_2 K) s) (funext fun s' => L_tOr_2_eq k rec K j s')
theorem S_tOr_0_eq (k : Nat) (rec : Rec1) (Kn : XC → OA) (K : KX) (s : St_tOr_0) : codeK prog cftOr rec 44 (lotOr k rec) btOr_0 (tmOf gl livetOr_0 (mktOr_0 s).vals) (mktOr_0 s).st (roundK gl 0 livetOr_0 outstOr_0 Kn K) = S_tOr_0 k rec (fun s => Kn (mktOr_0 s)) (kxtOr_0 K) s := by
  cases s <;> kernel_rfl
theorem L_tOr_0_eq (k : Nat) (rec : Rec1) (K : KX) : ∀ (j : Nat) (s : St_tOr_0), loopX prog cftOr rec 44 gl (lotOr k rec) 0 livetOr_0 outstOr_0 btOr_0 j (mktOr_0 s) K = L_tOr_0 k rec (kxtOr_0 K) j s
  | 0, _ => rfl
  | j + 1, s => by
    simp only [loopX]
    rw [S_tOr_0_eq]
    exact congrArg (fun q => S_tOr_0 k rec q (kxtOr_0 K) s) (funext fun s' => L_tOr_0_eq k rec K j s')
theorem xltOr {k : Nat} {rec : Rec1} (h : RecKnown prog gl rec) : XLoops prog gl 44 (lotOr k rec) ctOr :=
  ⟨_, loopsIn_of _ (by rw [show topLoops ctOr = [(0, btOr_0)] from by kernel_rfl]; simp), (LoopsOk.add (evCall_ok (memoX_ok h) fine 1) (recOk h cftOr.imp 0 0) fine (Nat.le_of_ble_eq_true rfl) (LoopsOk.add (evCall_ok (memoX_ok h) fine 1) (recOk h cftOr.imp 0 0) fine (Nat.le_of_ble_eq_true rfl) LoopsOk.none 2 livetOr_2 outstOr_2 btOr_2 (by kernel_rfl) (loopsIn_of _ (by rw [show topLoops btOr_2 = [] from by kernel_rfl]; simp)) (fun tm σ K r hk => ⟨k, canon_mono (fun c hc => by
    obtain ⟨s, e, hs⟩ := rdtOr_2_some hc
    rw [e, L_tOr_2_eq]
    exact hs) hk⟩)) 0 livetOr_0 outstOr_0 btOr_0 (by kernel_rfl) (loopsIn_of _ (by rw [show topLoops btOr_0 = [(2, btOr_2)] from by kernel_rfl]; simp)) (fun tm σ K r hk => ⟨k, canon_mono (fun c hc => by
    obtain ⟨s, e, hs⟩ := rdtOr_0_some hc
    rw [e, L_tOr_0_eq]
    exact hs) hk⟩))⟩
theorem F_tOr_eq (k : Nat) (rec : Rec1) (p0 : PVal) : fnX prog cftOr .pure rec gl (fun _ => lotOr k rec) i_tOr [p0] = F_tOr k rec p0 := by kernel_rfl
theorem F_tOr_known {k : Nat} {rec : Rec1} (h : RecKnown prog gl rec) {p0 : PVal} {v : AVal} (hv : F_tOr k rec p0 = some v) (hg : goodV v = true) : goodV v = true ∧ Known prog gl i_tOr ([p0].map .p) (adopt 0 v).1 (adopt 0 v).2 :=
  fnX_fact (cf := cftOr) (out := .pure) (lo := lotOr k rec) fine h func_tOr (by kernel_rfl : fn_tOr.body = some ctOr) (by kernel_rfl) (xltOr h) ((F_tOr_eq k rec p0).trans hv) hg
def crOrder : Code := match fn_rOrder.body with
  | some c => c
  | none => .skip
def cfrOrder : Cfg := ⟨shOf prog, sitesOf prog [(17, 72), (15, 23), (12, 4)] [] [], ximp⟩
inductive St_rOrder_4 where
  | a (a0 : PVal) (a1 : Int) (a2 : Int) (a3 : Bool) (a4 : Int) (a5 : List PVal)
  | b (a0 : Nat) (a1 : Nat) (a2 : Int) (a3 : Int) (a4 : Bool) (a5 : Int) (a6 : List PVal) (a7 : List PVal) (a8 : List PVal)
inductive ExrOrder_4 where
  | a (a0 : PVal) (a1 : Int) (a2 : Int) (a3 : Bool) (a4 : List PVal)
  | b (a0 : Nat) (a1 : Nat) (a2 : Int) (a3 : Int) (a4 : Bool) (a5 : List PVal) (a6 : List PVal) (a7 : List PVal)
def mkrOrder_4 (s : St_rOrder_4) : XC := match s with
  | .a v0 v1 v2 v3 v4 v5 => (XC.mk (List.cons (AVal.p v0) (List.cons (AVal.box 0 0) (List.cons (AVal.p PVal.nils) (List.cons (AVal.p (PVal.int .i64 v1)) (List.cons (AVal.p (PVal.int .i64 v2)) (List.cons (AVal.p (PVal.bool v3)) (List.cons (AVal.p (PVal.int .i64 v4)) []))))))) (List.cons (XObj.pbox v5) []))
  | .b v0 v1 v2 v3 v4 v5 v6 v7 v8 => (XC.mk (List.cons (AVal.arr 0 0 0 v0 false) (List.cons (AVal.box 1 0) (List.cons (AVal.arr 2 0 0 v1 false) (List.cons (AVal.p (PVal.int .i64 v2)) (List.cons (AVal.p (PVal.int .i64 v3)) (List.cons (AVal.p (PVal.bool v4)) (List.cons (AVal.p (PVal.int .i64 v5)) []))))))) (List.cons (XObj.arr 1 v6 0 0 0) (List.cons (XObj.pbox v7) (List.cons (XObj.arr 1 v8 0 0 0) []))))
def rdrOrder_4 {α : Type} (c : XC) (K : St_rOrder_4 → Option α) : Option α := match c with
  | (XC.mk (List.cons (AVal.p v0) (List.cons (AVal.box 0 0) (List.cons (AVal.p PVal.nils) (List.cons (AVal.p (PVal.int .i64 v1)) (List.cons (AVal.p (PVal.int .i64 v2)) (List.cons (AVal.p (PVal.bool v3)) (List.cons (AVal.p (PVal.int .i64 v4)) []))))))) (List.cons (XObj.pbox v5) [])) => K (.a v0 v1 v2 v3 v4 v5)
  | (XC.mk (List.cons (AVal.arr 0 0 0 v0 false) (List.cons (AVal.box 1 0) (List.cons (AVal.arr 2 0 0 v1 false) (List.cons (AVal.p (PVal.int .i64 v2)) (List.cons (AVal.p (PVal.int .i64 v3)) (List.cons (AVal.p (PVal.bool v4)) (List.cons (AVal.p (PVal.int .i64 v5)) []))))))) (List.cons (XObj.arr 1 v6 0 0 0) (List.cons (XObj.pbox v7) (List.cons (XObj.arr 1 v8 0 0 0) [])))) => K (.b v0 v1 v2 v3 v4 v5 v6 v7 v8)
  | _ => none
theorem rdrOrder_4_some {α : Type} {r : α} {c : XC} {K : St_rOrder_4 → Option α} (h : rdrOrder_4 c K = some r) : ∃ s, c = mkrOrder_4 s ∧ K s = some r := by
  unfold rdrOrder_4 at h
  split at h <;> first | exact ⟨_, rfl, h⟩ | simp at h
def outsrOrder_4 : XE → List Nat := (outsOf [(4, [4, 5, 6, 7, 8, 9]), (3, [4, 5, 6, 7, 8]), (2, [4, 5, 6, 7]), (1, [4, 5, 6]), (0, [6])] [2, 3])
def liverOrder_4 : List Nat := [4, 5, 6, 7, 8, 9, 10]
def kxrOrder_4 (K : KX) (x : ExrOrder_4) : OA := match x with
  | .a v0 v1 v2 v3 v4 => K XE.normal (tmOf gl (outsrOrder_4 (XE.exit 4)) (XC.vals (XC.mk (List.cons (AVal.p v0) (List.cons (AVal.box 0 0) (List.cons (AVal.p PVal.nils) (List.cons (AVal.p (PVal.int .i64 v1)) (List.cons (AVal.p (PVal.int .i64 v2)) (List.cons (AVal.p (PVal.bool v3)) [])))))) (List.cons (XObj.pbox v4) [])))) (XC.st (XC.mk (List.cons (AVal.p v0) (List.cons (AVal.box 0 0) (List.cons (AVal.p PVal.nils) (List.cons (AVal.p (PVal.int .i64 v1)) (List.cons (AVal.p (PVal.int .i64 v2)) (List.cons (AVal.p (PVal.bool v3)) [])))))) (List.cons (XObj.pbox v4) [])))
  | .b v0 v1 v2 v3 v4 v5 v6 v7 => K XE.normal (tmOf gl (outsrOrder_4 (XE.exit 4)) (XC.vals (XC.mk (List.cons (AVal.arr 0 0 0 v0 false) (List.cons (AVal.box 1 0) (List.cons (AVal.arr 2 0 0 v1 false) (List.cons (AVal.p (PVal.int .i64 v2)) (List.cons (AVal.p (PVal.int .i64 v3)) (List.cons (AVal.p (PVal.bool v4)) [])))))) (List.cons (XObj.arr 1 v5 0 0 0) (List.cons (XObj.pbox v6) (List.cons (XObj.arr 1 v7 0 0 0) [])))))) (XC.st (XC.mk (List.cons (AVal.arr 0 0 0 v0 false) (List.cons (AVal.box 1 0) (List.cons (AVal.arr 2 0 0 v1 false) (List.cons (AVal.p (PVal.int .i64 v2)) (List.cons (AVal.p (PVal.int .i64 v3)) (List.cons (AVal.p (PVal.bool v4)) [])))))) (List.cons (XObj.arr 1 v5 0 0 0) (List.cons (XObj.pbox v6) (List.cons (XObj.arr 1 v7 0 0 0) [])))))
def brOrder_4 : Code := match findLoop 4 crOrder with
  | some c => c
  | none => .skip
def S_rOrder_4 (k : Nat) (rec : Rec1) (kn : St_rOrder_4 → OA) (kx : ExrOrder_4 → OA) (s : St_rOrder_4) : OA := match s with
  | .a x12 z13 z14 b15 z16 l17 =>
    (slK x12 fun l18 =>
    (ifB (decide (z16 < (((List.length l18) : Nat) : Int)))
      (ifB b15
        (slK x12 fun l19 =>
        (natK z16 fun n20 =>
        (nthK l19 n20 fun x21 =>
        (intK .i64 x21 fun z22 =>
        (slK x12 fun l23 =>
        (natK z14 fun n24 =>
        (nthK l23 n24 fun x25 =>
        (intK .i64 x25 fun z26 =>
        (natK z22 fun n27 =>
        (chk (Nat.blt n27 8)
          (natK z26 fun n28 =>
          (chk (Nat.blt n28 8)
            (nthK l17 ((0 + (n27 * 8)) + (n28 * 1)) fun x29 =>
            (boolK x29 fun b30 =>
            (kn (.a x12 z13 z14 (!b30) (IntKind.wrap .i64 (z16 + (Int.ofNat 1))) l17))))))))))))))))
        (kn (.a x12 z13 z14 false (IntKind.wrap .i64 (z16 + (Int.ofNat 1))) l17)))
      (kx (.a x12 z13 z14 b15 l17))))
  | .b n31 n32 z33 z34 b35 z36 l37 l38 l39 =>
    (ifB (decide (z36 < ((n31 : Nat) : Int)))
      (ifB b35
        (natK z36 fun n40 =>
        (chk (Nat.blt n40 n31)
          (nthK l37 (0 + n40) fun x41 =>
          (ifB (oneP.match_1 (fun y15 => (Bool)) x41 (fun y15 => false) (fun y15 => false) (fun y15 => true))
            (intK .i64 x41 fun z42 =>
            (natK z34 fun n43 =>
            (chk (Nat.blt n43 n31)
              (nthK l37 (0 + n43) fun x44 =>
              (ifB (oneP.match_1 (fun y18 => (Bool)) x44 (fun y18 => false) (fun y18 => false) (fun y18 => true))
                (intK .i64 x44 fun z45 =>
                (natK z42 fun n46 =>
                (chk (Nat.blt n46 8)
                  (natK z45 fun n47 =>
                  (chk (Nat.blt n47 8)
                    (nthK l38 ((0 + (n46 * 8)) + (n47 * 1)) fun x48 =>
                    (boolK x48 fun b49 =>
                    (kn (.b n31 n32 z33 z34 (!b49) (IntKind.wrap .i64 (z36 + (Int.ofNat 1))) l37 l38 l39)))))))))
                (aggK x44 fun l50 =>
                (nthK l50 0 fun x51 =>
                (intK .i64 x51 fun z52 =>
                (natK z42 fun n53 =>
                (chk (Nat.blt n53 8)
                  (natK z52 fun n54 =>
                  (chk (Nat.blt n54 8)
                    (nthK l38 ((0 + (n53 * 8)) + (n54 * 1)) fun x55 =>
                    (boolK x55 fun b56 =>
                    (kn (.b n31 n32 z33 z34 (!b56) (IntKind.wrap .i64 (z36 + (Int.ofNat 1))) l37 l38 l39))))))))))))))))
            (aggK x41 fun l57 =>
            (nthK l57 0 fun x58 =>
            (intK .i64 x58 fun z59 =>
            (natK z34 fun n60 =>
            (chk (Nat.blt n60 n31)
              (nthK l37 (0 + n60) fun x61 =>
              (ifB (oneP.match_1 (fun y20 => (Bool)) x61 (fun y20 => false) (fun y20 => false) (fun y20 => true))
                (intK .i64 x61 fun z62 =>
                (natK z59 fun n63 =>
                (chk (Nat.blt n63 8)
                  (natK z62 fun n64 =>
                  (chk (Nat.blt n64 8)
                    (nthK l38 ((0 + (n63 * 8)) + (n64 * 1)) fun x65 =>
                    (boolK x65 fun b66 =>
                    (kn (.b n31 n32 z33 z34 (!b66) (IntKind.wrap .i64 (z36 + (Int.ofNat 1))) l37 l38 l39)))))))))
                (aggK x61 fun l67 =>
                (nthK l67 0 fun x68 =>
                (intK .i64 x68 fun z69 =>
                (natK z59 fun n70 =>
                (chk (Nat.blt n70 8)
                  (natK z69 fun n71 =>
                  (chk (Nat.blt n71 8)
                    (nthK l38 ((0 + (n70 * 8)) + (n71 * 1)) fun x72 =>
                    (boolK x72 fun b73 =>
                    (kn (.b n31 n32 z33 z34 (!b73) (IntKind.wrap .i64 (z36 + (Int.ofNat 1))) l37 l38 l39))))))))))))))))))))))
        (kn (.b n31 n32 z33 z34 false (IntKind.wrap .i64 (z36 + (Int.ofNat 1))) l37 l38 l39)))
      (kx (.b n31 n32 z33 z34 b35 l37 l38 l39)))
def L_rOrder_4 (k : Nat) (rec : Rec1) (kx : ExrOrder_4 → OA) : Nat → St_rOrder_4 → OA
  | 0, _ => none
  | j + 1, s => S_rOrder_4 k rec (L_rOrder_4 k rec kx j) kx s
inductive St_rOrder_2 where
  | a (a0 : PVal) (a1 : Int) (a2 : Int) (a3 : List PVal)
  | b (a0 : Nat) (a1 : Nat) (a2 : Int) (a3 : Int) (a4 : List PVal) (a5 : List PVal) (a6 : List PVal)
inductive ExrOrder_2 where
  | a (a0 : PVal) (a1 : Int) (a2 : List PVal)
  | b (a0 : Nat) (a1 : Nat) (a2 : Int) (a3 : List PVal) (a4 : List PVal) (a5 : List PVal)
def mkrOrder_2 (s : St_rOrder_2) : XC := match s with
  | .a v0 v1 v2 v3 => (XC.mk (List.cons (AVal.p v0) (List.cons (AVal.box 0 0) (List.cons (AVal.p PVal.nils) (List.cons (AVal.p (PVal.int .i64 v1)) (List.cons (AVal.p (PVal.int .i64 v2)) []))))) (List.cons (XObj.pbox v3) []))
  | .b v0 v1 v2 v3 v4 v5 v6 => (XC.mk (List.cons (AVal.arr 0 0 0 v0 false) (List.cons (AVal.box 1 0) (List.cons (AVal.arr 2 0 0 v1 false) (List.cons (AVal.p (PVal.int .i64 v2)) (List.cons (AVal.p (PVal.int .i64 v3)) []))))) (List.cons (XObj.arr 1 v4 0 0 0) (List.cons (XObj.pbox v5) (List.cons (XObj.arr 1 v6 0 0 0) []))))
def rdrOrder_2 {α : Type} (c : XC) (K : St_rOrder_2 → Option α) : Option α := match c with
  | (XC.mk (List.cons (AVal.p v0) (List.cons (AVal.box 0 0) (List.cons (AVal.p PVal.nils) (List.cons (AVal.p (PVal.int .i64 v1)) (List.cons (AVal.p (PVal.int .i64 v2)) []))))) (List.cons (XObj.pbox v3) [])) => K (.a v0 v1 v2 v3)
  | (XC.mk (List.cons (AVal.arr 0 0 0 v0 false) (List.cons (AVal.box 1 0) (List.cons (AVal.arr 2 0 0 v1 false) (List.cons (AVal.p (PVal.int .i64 v2)) (List.cons (AVal.p (PVal.int .i64 v3)) []))))) (List.cons (XObj.arr 1 v4 0 0 0) (List.cons (XObj.pbox v5) (List.cons (XObj.arr 1 v6 0 0 0) [])))) => K (.b v0 v1 v2 v3 v4 v5 v6)
  | _ => none
theorem rdrOrder_2_some {α : Type} {r : α} {c : XC} {K : St_rOrder_2 → Option α} (h : rdrOrder_2 c K = some r) : ∃ s, c = mkrOrder_2 s ∧ K s = some r := by
  unfold rdrOrder_2 at h
  split at h <;> first | exact ⟨_, rfl, h⟩ | simp at h
def outsrOrder_2 : XE → List Nat := (outsOf [(2, [4, 5, 6, 7]), (1, [4, 5, 6]), (0, [6])] [2, 3])
def liverOrder_2 : List Nat := [4, 5, 6, 7, 8]
def kxrOrder_2 (K : KX) (x : ExrOrder_2) : OA := match x with
  | .a v0 v1 v2 => K XE.normal (tmOf gl (outsrOrder_2 (XE.exit 2)) (XC.vals (XC.mk (List.cons (AVal.p v0) (List.cons (AVal.box 0 0) (List.cons (AVal.p PVal.nils) (List.cons (AVal.p (PVal.int .i64 v1)) [])))) (List.cons (XObj.pbox v2) [])))) (XC.st (XC.mk (List.cons (AVal.p v0) (List.cons (AVal.box 0 0) (List.cons (AVal.p PVal.nils) (List.cons (AVal.p (PVal.int .i64 v1)) [])))) (List.cons (XObj.pbox v2) [])))
  | .b v0 v1 v2 v3 v4 v5 => K XE.normal (tmOf gl (outsrOrder_2 (XE.exit 2)) (XC.vals (XC.mk (List.cons (AVal.arr 0 0 0 v0 false) (List.cons (AVal.box 1 0) (List.cons (AVal.arr 2 0 0 v1 false) (List.cons (AVal.p (PVal.int .i64 v2)) [])))) (List.cons (XObj.arr 1 v3 0 0 0) (List.cons (XObj.pbox v4) (List.cons (XObj.arr 1 v5 0 0 0) [])))))) (XC.st (XC.mk (List.cons (AVal.arr 0 0 0 v0 false) (List.cons (AVal.box 1 0) (List.cons (AVal.arr 2 0 0 v1 false) (List.cons (AVal.p (PVal.int .i64 v2)) [])))) (List.cons (XObj.arr 1 v3 0 0 0) (List.cons (XObj.pbox v4) (List.cons (XObj.arr 1 v5 0 0 0) [])))))
def brOrder_2 : Code := match findLoop 2 crOrder with
  | some c => c
  | none => .skip
def S_rOrder_2 (k : Nat) (rec : Rec1) (kn : St_rOrder_2 → OA) (kx : ExrOrder_2 → OA) (s : St_rOrder_2) : OA := match s with
  | .a x74 z75 z76 l77 =>
    (ifB (decide (z76 ≥ (Int.ofNat 0)))
      (L_rOrder_4 k rec (fun x => match x with
        | .a x78 z79 z80 b81 l82 => (ifB b81
            (kn (.a x78 z80 (IntKind.wrap .i64 (z80 - (Int.ofNat 1))) l82))
            (kn (.a x78 z79 (IntKind.wrap .i64 (z80 - (Int.ofNat 1))) l82)))
        | .b n83 n84 z85 z86 b87 l88 l89 l90 => (ifB b87
            (kn (.b n83 n84 z86 (IntKind.wrap .i64 (z86 - (Int.ofNat 1))) l88 l89 l90))
            (kn (.b n83 n84 z85 (IntKind.wrap .i64 (z86 - (Int.ofNat 1))) l88 l89 l90)))) k (.a x74 z75 z76 true (Int.ofNat 0) l77))
      (kx (.a x74 z75 l77)))
  | .b n91 n92 z93 z94 l95 l96 l97 =>
    (ifB (decide (z94 ≥ (Int.ofNat 0)))
      (L_rOrder_4 k rec (fun x => match x with
        | .a x98 z99 z100 b101 l102 => (ifB b101
            (kn (.a x98 z100 (IntKind.wrap .i64 (z100 - (Int.ofNat 1))) l102))
            (kn (.a x98 z99 (IntKind.wrap .i64 (z100 - (Int.ofNat 1))) l102)))
        | .b n103 n104 z105 z106 b107 l108 l109 l110 => (ifB b107
            (kn (.b n103 n104 z106 (IntKind.wrap .i64 (z106 - (Int.ofNat 1))) l108 l109 l110))
            (kn (.b n103 n104 z105 (IntKind.wrap .i64 (z106 - (Int.ofNat 1))) l108 l109 l110)))) k (.b n91 n92 z93 z94 true (Int.ofNat 0) l95 l96 l97))
      (kx (.b n91 n92 z93 l95 l96 l97)))
def L_rOrder_2 (k : Nat) (rec : Rec1) (kx : ExrOrder_2 → OA) : Nat → St_rOrder_2 → OA
  | 0, _ => none
  | j + 1, s => S_rOrder_2 k rec (L_rOrder_2 k rec kx j) kx s
inductive St_rOrder_0 where
  | a (a0 : PVal) (a1 : List PVal)
  | b (a0 : Nat) (a1 : List PVal) (a2 : List PVal)
  | c (a0 : Nat) (a1 : Nat) (a2 : List PVal) (a3 : List PVal) (a4 : List PVal)
inductive ExrOrder_0 where
  | a
  | b (a0 : Int)
  | c (a0 : Nat) (a1 : List PVal)
def mkrOrder_0 (s : St_rOrder_0) : XC := match s with
  | .a v0 v1 => (XC.mk (List.cons (AVal.p v0) (List.cons (AVal.box 0 0) (List.cons (AVal.p PVal.nils) []))) (List.cons (XObj.pbox v1) []))
  | .b v0 v1 v2 => (XC.mk (List.cons (AVal.p PVal.nils) (List.cons (AVal.box 0 0) (List.cons (AVal.arr 1 0 0 v0 false) []))) (List.cons (XObj.pbox v1) (List.cons (XObj.arr 1 v2 0 0 0) [])))
  | .c v0 v1 v2 v3 v4 => (XC.mk (List.cons (AVal.arr 0 0 0 v0 false) (List.cons (AVal.box 1 0) (List.cons (AVal.arr 2 0 0 v1 false) []))) (List.cons (XObj.arr 1 v2 0 0 0) (List.cons (XObj.pbox v3) (List.cons (XObj.arr 1 v4 0 0 0) []))))
def rdrOrder_0 {α : Type} (c : XC) (K : St_rOrder_0 → Option α) : Option α := match c with
  | (XC.mk (List.cons (AVal.p v0) (List.cons (AVal.box 0 0) (List.cons (AVal.p PVal.nils) []))) (List.cons (XObj.pbox v1) [])) => K (.a v0 v1)
  | (XC.mk (List.cons (AVal.p PVal.nils) (List.cons (AVal.box 0 0) (List.cons (AVal.arr 1 0 0 v0 false) []))) (List.cons (XObj.pbox v1) (List.cons (XObj.arr 1 v2 0 0 0) []))) => K (.b v0 v1 v2)
  | (XC.mk (List.cons (AVal.arr 0 0 0 v0 false) (List.cons (AVal.box 1 0) (List.cons (AVal.arr 2 0 0 v1 false) []))) (List.cons (XObj.arr 1 v2 0 0 0) (List.cons (XObj.pbox v3) (List.cons (XObj.arr 1 v4 0 0 0) [])))) => K (.c v0 v1 v2 v3 v4)
  | _ => none
theorem rdrOrder_0_some {α : Type} {r : α} {c : XC} {K : St_rOrder_0 → Option α} (h : rdrOrder_0 c K = some r) : ∃ s, c = mkrOrder_0 s ∧ K s = some r := by
  unfold rdrOrder_0 at h
  split at h <;> first | exact ⟨_, rfl, h⟩ | simp at h
def outsrOrder_0 : XE → List Nat := (outsOf [(0, [6])] [2, 3])
def liverOrder_0 : List Nat := [4, 5, 6]
def kxrOrder_0 (K : KX) (x : ExrOrder_0) : OA := match x with
  | .a => K XE.normal (tmOf gl (outsrOrder_0 (XE.exit 0)) (XC.vals (XC.mk (List.cons (AVal.p PVal.nils) []) []))) (XC.st (XC.mk (List.cons (AVal.p PVal.nils) []) []))
  | .b v0 => K XE.ret (tmOf gl (outsrOrder_0 XE.ret) (XC.vals (XC.mk (List.cons (AVal.p PVal.nils) (List.cons (AVal.p (PVal.int .i64 v0)) [])) []))) (XC.st (XC.mk (List.cons (AVal.p PVal.nils) (List.cons (AVal.p (PVal.int .i64 v0)) [])) []))
  | .c v0 v1 => K XE.normal (tmOf gl (outsrOrder_0 (XE.exit 0)) (XC.vals (XC.mk (List.cons (AVal.arr 0 0 0 v0 false) []) (List.cons (XObj.arr 1 v1 0 0 0) [])))) (XC.st (XC.mk (List.cons (AVal.arr 0 0 0 v0 false) []) (List.cons (XObj.arr 1 v1 0 0 0) [])))
def brOrder_0 : Code := match findLoop 0 crOrder with
  | some c => c
  | none => .skip
def S_rOrder_0 (k : Nat) (rec : Rec1) (kn : St_rOrder_0 → OA) (kx : ExrOrder_0 → OA) (s : St_rOrder_0) : OA := match s with
  | .a x111 l112 =>
    (slK x111 fun l113 =>
    (ifB (decide ((((List.length l113) : Nat) : Int) > (Int.ofNat 0)))
      (slK x111 fun l114 =>
      (L_rOrder_2 k rec (fun x => match x with
        | .a x115 z116 l117 => (ifB (decide (z116 < (Int.ofNat 0)))
            (kx (.b (Int.ofNat 5)))
            (slK x115 fun l118 =>
            (natK z116 fun n119 =>
            (nthK l118 n119 fun x120 =>
            (intK .i64 x120 fun z121 =>
            (slK x115 fun l122 =>
            (natK z116 fun n123 =>
            (chk (Nat.ble n123 (List.length l122))
              (chk (wide 1 l122)
                (slK (sliceP x115 0 n123) fun l124 =>
                (chk (widths false 1 l124)
                  (listK l124
                    (slK x115 fun l125 =>
                    (natK (IntKind.wrap .i64 (z116 + (Int.ofNat 1))) fun n126 =>
                    (chk (Nat.ble n126 (List.length l125))
                      (chk (Nat.ble (List.length l125) (List.length l125))
                        (chk (wide 1 l125)
                          (slK (sliceP x115 n126 (List.length l125)) fun l127 =>
                          (chk (widths false 1 l127)
                            (listK l127
                              (kn (.b 1 l117 [(PVal.int .i64 z121)])) fun x128 l129 =>
                            (chk (Nat.ble ((List.length (x128 :: l129)) * 8) 1099511627776)
                              (kn (.c (List.length (x128 :: l129)) 1 (x128 :: l129) l117 [(PVal.int .i64 z121)]))))))))))) fun x130 l131 =>
                  (chk (Nat.ble ((List.length (x130 :: l131)) * 8) 1099511627776)
                    (slK x115 fun l132 =>
                    (natK (IntKind.wrap .i64 (z116 + (Int.ofNat 1))) fun n133 =>
                    (chk (Nat.ble n133 (List.length l132))
                      (chk (Nat.ble (List.length l132) (List.length l132))
                        (chk (wide 1 l132)
                          (slK (sliceP x115 n133 (List.length l132)) fun l134 =>
                          (chk (widths false 1 l134)
                            (chk (Nat.beq (List.length (x130 :: l131)) (List.length (x130 :: l131)))
                              (chk (Nat.ble (((List.length (x130 :: l131)) + (List.length l134)) * 8) 1099511627776)
                                (listK l134
                                  (kn (.c (List.length (x130 :: l131)) 1 (x130 :: l131) l117 [(PVal.int .i64 z121)])) fun x135 l136 =>
                                (kn (.c ((List.length (x130 :: l131)) + (List.length (x135 :: l136))) 1 ((x130 :: l131) ++ (x135 :: l136)) l117 [(PVal.int .i64 z121)])))))))))))))))))))))))))
        | .b n137 n138 z139 l140 l141 l142 => (ifB (decide (z139 < (Int.ofNat 0)))
            (kx (.b (Int.ofNat 5)))
            (natK z139 fun n143 =>
            (chk (Nat.blt n143 n137)
              (nthK l140 (0 + n143) fun x144 =>
              (ifB (oneP.match_1 (fun y16 => (Bool)) x144 (fun y16 => false) (fun y16 => false) (fun y16 => true))
                (intK .i64 x144 fun z145 =>
                (chk (Nat.beq n138 (List.length l142))
                  (chk (Nat.ble ((n138 + 1) * 8) 1099511627776)
                    (natK z139 fun n146 =>
                    (chk (Nat.ble n146 n137)
                      (ifB (Nat.beq 0 n146)
                        (natK (IntKind.wrap .i64 (z139 + (Int.ofNat 1))) fun n147 =>
                        (chk (Nat.ble n147 n137)
                          (chk (Nat.ble n137 n137)
                            (ifB (Nat.beq n147 n137)
                              (ifB (Nat.beq n147 0)
                                (kn (.b (n138 + 1) l141 (l142 ++ [(PVal.int .i64 z145)])))
                                (kn (.b (n138 + 1) l141 (l142 ++ [(PVal.int .i64 z145)]))))
                              (chk (Nat.ble ((0 + n147) + (n137 - n147)) (List.length l140))
                                (chk (widths false 1 (List.take (n137 - n147) (List.drop (0 + n147) l140)))
                                  (listK (List.take (n137 - n147) (List.drop (0 + n147) l140))
                                    (kn (.b (n138 + 1) l141 (l142 ++ [(PVal.int .i64 z145)]))) fun x148 l149 =>
                                  (chk (Nat.ble ((List.length (x148 :: l149)) * 8) 1099511627776)
                                    (kn (.c (List.length (x148 :: l149)) (n138 + 1) (x148 :: l149) l141 (l142 ++ [(PVal.int .i64 z145)])))))))))))
                        (chk (Nat.ble (0 + (n146 - 0)) (List.length l140))
                          (chk (widths false 1 (List.take (n146 - 0) (List.drop 0 l140)))
                            (listK (List.take (n146 - 0) (List.drop 0 l140))
                              (natK (IntKind.wrap .i64 (z139 + (Int.ofNat 1))) fun n150 =>
                              (chk (Nat.ble n150 n137)
                                (chk (Nat.ble n137 n137)
                                  (ifB (Nat.beq n150 n137)
                                    (ifB (Nat.beq n150 0)
                                      (kn (.b (n138 + 1) l141 (l142 ++ [(PVal.int .i64 z145)])))
                                      (kn (.b (n138 + 1) l141 (l142 ++ [(PVal.int .i64 z145)]))))
                                    (chk (Nat.ble ((0 + n150) + (n137 - n150)) (List.length l140))
                                      (chk (widths false 1 (List.take (n137 - n150) (List.drop (0 + n150) l140)))
                                        (listK (List.take (n137 - n150) (List.drop (0 + n150) l140))
                                          (kn (.b (n138 + 1) l141 (l142 ++ [(PVal.int .i64 z145)]))) fun x151 l152 =>
                                        (chk (Nat.ble ((List.length (x151 :: l152)) * 8) 1099511627776)
                                          (kn (.c (List.length (x151 :: l152)) (n138 + 1) (x151 :: l152) l141 (l142 ++ [(PVal.int .i64 z145)]))))))))))) fun x153 l154 =>
                            (chk (Nat.ble ((List.length (x153 :: l154)) * 8) 1099511627776)
                              (natK (IntKind.wrap .i64 (z139 + (Int.ofNat 1))) fun n155 =>
                              (chk (Nat.ble n155 n137)
                                (chk (Nat.ble n137 n137)
                                  (ifB (Nat.beq n155 n137)
                                    (ifB (Nat.beq n155 0)
                                      (chk (Nat.beq (List.length (x153 :: l154)) (List.length (x153 :: l154)))
                                        (chk (Nat.ble (((List.length (x153 :: l154)) + 0) * 8) 1099511627776)
                                          (kn (.c (List.length (x153 :: l154)) (n138 + 1) (x153 :: l154) l141 (l142 ++ [(PVal.int .i64 z145)])))))
                                      (chk (Nat.beq (List.length (x153 :: l154)) (List.length (x153 :: l154)))
                                        (chk (Nat.ble (((List.length (x153 :: l154)) + 0) * 8) 1099511627776)
                                          (kn (.c (List.length (x153 :: l154)) (n138 + 1) (x153 :: l154) l141 (l142 ++ [(PVal.int .i64 z145)]))))))
                                    (chk (Nat.ble ((0 + n155) + (n137 - n155)) (List.length l140))
                                      (chk (widths false 1 (List.take (n137 - n155) (List.drop (0 + n155) l140)))
                                        (chk (Nat.beq (List.length (x153 :: l154)) (List.length (x153 :: l154)))
                                          (chk (Nat.ble (((List.length (x153 :: l154)) + (List.length (List.take (n137 - n155) (List.drop (0 + n155) l140)))) * 8) 1099511627776)
                                            (listK (List.take (n137 - n155) (List.drop (0 + n155) l140))
                                              (kn (.c (List.length (x153 :: l154)) (n138 + 1) (x153 :: l154) l141 (l142 ++ [(PVal.int .i64 z145)]))) fun x156 l157 =>
                                            (kn (.c ((List.length (x153 :: l154)) + (List.length (x156 :: l157))) (n138 + 1) ((x153 :: l154) ++ (x156 :: l157)) l141 (l142 ++ [(PVal.int .i64 z145)]))))))))))))))))))))))
                (aggK x144 fun l158 =>
                (nthK l158 0 fun x159 =>
                (intK .i64 x159 fun z160 =>
                (chk (Nat.beq n138 (List.length l142))
                  (chk (Nat.ble ((n138 + 1) * 8) 1099511627776)
                    (natK z139 fun n161 =>
                    (chk (Nat.ble n161 n137)
                      (ifB (Nat.beq 0 n161)
                        (natK (IntKind.wrap .i64 (z139 + (Int.ofNat 1))) fun n162 =>
                        (chk (Nat.ble n162 n137)
                          (chk (Nat.ble n137 n137)
                            (ifB (Nat.beq n162 n137)
                              (ifB (Nat.beq n162 0)
                                (kn (.b (n138 + 1) l141 (l142 ++ [(PVal.int .i64 z160)])))
                                (kn (.b (n138 + 1) l141 (l142 ++ [(PVal.int .i64 z160)]))))
                              (chk (Nat.ble ((0 + n162) + (n137 - n162)) (List.length l140))
                                (chk (widths false 1 (List.take (n137 - n162) (List.drop (0 + n162) l140)))
                                  (listK (List.take (n137 - n162) (List.drop (0 + n162) l140))
                                    (kn (.b (n138 + 1) l141 (l142 ++ [(PVal.int .i64 z160)]))) fun x163 l164 =>
                                  (chk (Nat.ble ((List.length (x163 :: l164)) * 8) 1099511627776)
                                    (kn (.c (List.length (x163 :: l164)) (n138 + 1) (x163 :: l164) l141 (l142 ++ [(PVal.int .i64 z160)])))))))))))
                        (chk (Nat.ble (0 + (n161 - 0)) (List.length l140))
                          (chk (widths false 1 (List.take (n161 - 0) (List.drop 0 l140)))
                            (listK (List.take (n161 - 0) (List.drop 0 l140))
                              (natK (IntKind.wrap .i64 (z139 + (Int.ofNat 1))) fun n165 =>
                              (chk (Nat.ble n165 n137)
                                (chk (Nat.ble n137 n137)
                                  (ifB (Nat.beq n165 n137)
                                    (ifB (Nat.beq n165 0)
                                      (kn (.b (n138 + 1) l141 (l142 ++ [(PVal.int .i64 z160)])))
                                      (kn (.b (n138 + 1) l141 (l142 ++ [(PVal.int .i64 z160)]))))
                                    (chk (Nat.ble ((0 + n165) + (n137 - n165)) (List.length l140))
                                      (chk (widths false 1 (List.take (n137 - n165) (List.drop (0 + n165) l140)))
                                        (listK (List.take (n137 - n165) (List.drop (0 + n165) l140))
                                          (kn (.b (n138 + 1) l141 (l142 ++ [(PVal.int .i64 z160)]))) fun x166 l167 =>
                                        (chk (Nat.ble ((List.length (x166 :: l167)) * 8) 1099511627776)
                                          (kn (.c (List.length (x166 :: l167)) (n138 + 1) (x166 :: l167) l141 (l142 ++ [(PVal.int .i64 z160)]))))))))))) fun x168 l169 =>
                            (chk (Nat.ble ((List.length (x168 :: l169)) * 8) 1099511627776)
                              (natK (IntKind.wrap .i64 (z139 + (Int.ofNat 1))) fun n170 =>
                              (chk (Nat.ble n170 n137)
                                (chk (Nat.ble n137 n137)
                                  (ifB (Nat.beq n170 n137)
                                    (ifB (Nat.beq n170 0)
                                      (chk (Nat.beq (List.length (x168 :: l169)) (List.length (x168 :: l169)))
                                        (chk (Nat.ble (((List.length (x168 :: l169)) + 0) * 8) 1099511627776)
                                          (kn (.c (List.length (x168 :: l169)) (n138 + 1) (x168 :: l169) l141 (l142 ++ [(PVal.int .i64 z160)])))))
                                      (chk (Nat.beq (List.length (x168 :: l169)) (List.length (x168 :: l169)))
                                        (chk (Nat.ble (((List.length (x168 :: l169)) + 0) * 8) 1099511627776)
                                          (kn (.c (List.length (x168 :: l169)) (n138 + 1) (x168 :: l169) l141 (l142 ++ [(PVal.int .i64 z160)]))))))
                                    (chk (Nat.ble ((0 + n170) + (n137 - n170)) (List.length l140))
                                      (chk (widths false 1 (List.take (n137 - n170) (List.drop (0 + n170) l140)))
                                        (chk (Nat.beq (List.length (x168 :: l169)) (List.length (x168 :: l169)))
                                          (chk (Nat.ble (((List.length (x168 :: l169)) + (List.length (List.take (n137 - n170) (List.drop (0 + n170) l140)))) * 8) 1099511627776)
                                            (listK (List.take (n137 - n170) (List.drop (0 + n170) l140))
                                              (kn (.c (List.length (x168 :: l169)) (n138 + 1) (x168 :: l169) l141 (l142 ++ [(PVal.int .i64 z160)]))) fun x171 l172 =>
                                            (kn (.c ((List.length (x168 :: l169)) + (List.length (x171 :: l172))) (n138 + 1) ((x168 :: l169) ++ (x171 :: l172)) l141 (l142 ++ [(PVal.int .i64 z160)])))))))))))))))))))))))))))))) k (.a x111 (Int.negSucc 0) (IntKind.wrap .i64 ((((List.length l114) : Nat) : Int) - (Int.ofNat 1))) l112)))
      (kx (.a))))
  | .b n173 l174 l175 =>
    (kx (.c n173 l175))
  | .c n176 n177 l178 l179 l180 =>
    (ifB (decide (((n176 : Nat) : Int) > (Int.ofNat 0)))
      (L_rOrder_2 k rec (fun x => match x with
        | .a x181 z182 l183 => (ifB (decide (z182 < (Int.ofNat 0)))
            (kx (.b (Int.ofNat 5)))
            (slK x181 fun l184 =>
            (natK z182 fun n185 =>
            (nthK l184 n185 fun x186 =>
            (intK .i64 x186 fun z187 =>
            (slK x181 fun l188 =>
            (natK z182 fun n189 =>
            (chk (Nat.ble n189 (List.length l188))
              (chk (wide 1 l188)
                (slK (sliceP x181 0 n189) fun l190 =>
                (chk (widths false 1 l190)
                  (listK l190
                    (slK x181 fun l191 =>
                    (natK (IntKind.wrap .i64 (z182 + (Int.ofNat 1))) fun n192 =>
                    (chk (Nat.ble n192 (List.length l191))
                      (chk (Nat.ble (List.length l191) (List.length l191))
                        (chk (wide 1 l191)
                          (slK (sliceP x181 n192 (List.length l191)) fun l193 =>
                          (chk (widths false 1 l193)
                            (listK l193
                              (kn (.b 1 l183 [(PVal.int .i64 z187)])) fun x194 l195 =>
                            (chk (Nat.ble ((List.length (x194 :: l195)) * 8) 1099511627776)
                              (kn (.c (List.length (x194 :: l195)) 1 (x194 :: l195) l183 [(PVal.int .i64 z187)]))))))))))) fun x196 l197 =>
                  (chk (Nat.ble ((List.length (x196 :: l197)) * 8) 1099511627776)
                    (slK x181 fun l198 =>
                    (natK (IntKind.wrap .i64 (z182 + (Int.ofNat 1))) fun n199 =>
                    (chk (Nat.ble n199 (List.length l198))
                      (chk (Nat.ble (List.length l198) (List.length l198))
                        (chk (wide 1 l198)
                          (slK (sliceP x181 n199 (List.length l198)) fun l200 =>
                          (chk (widths false 1 l200)
                            (chk (Nat.beq (List.length (x196 :: l197)) (List.length (x196 :: l197)))
                              (chk (Nat.ble (((List.length (x196 :: l197)) + (List.length l200)) * 8) 1099511627776)
                                (listK l200
                                  (kn (.c (List.length (x196 :: l197)) 1 (x196 :: l197) l183 [(PVal.int .i64 z187)])) fun x201 l202 =>
                                (kn (.c ((List.length (x196 :: l197)) + (List.length (x201 :: l202))) 1 ((x196 :: l197) ++ (x201 :: l202)) l183 [(PVal.int .i64 z187)])))))))))))))))))))))))))
        | .b n203 n204 z205 l206 l207 l208 => (ifB (decide (z205 < (Int.ofNat 0)))
            (kx (.b (Int.ofNat 5)))
            (natK z205 fun n209 =>
            (chk (Nat.blt n209 n203)
              (nthK l206 (0 + n209) fun x210 =>
              (ifB (oneP.match_1 (fun y17 => (Bool)) x210 (fun y17 => false) (fun y17 => false) (fun y17 => true))
                (intK .i64 x210 fun z211 =>
                (chk (Nat.beq n204 (List.length l208))
                  (chk (Nat.ble ((n204 + 1) * 8) 1099511627776)
                    (natK z205 fun n212 =>
                    (chk (Nat.ble n212 n203)
                      (ifB (Nat.beq 0 n212)
                        (natK (IntKind.wrap .i64 (z205 + (Int.ofNat 1))) fun n213 =>
                        (chk (Nat.ble n213 n203)
                          (chk (Nat.ble n203 n203)
                            (ifB (Nat.beq n213 n203)
                              (ifB (Nat.beq n213 0)
                                (kn (.b (n204 + 1) l207 (l208 ++ [(PVal.int .i64 z211)])))
                                (kn (.b (n204 + 1) l207 (l208 ++ [(PVal.int .i64 z211)]))))
                              (chk (Nat.ble ((0 + n213) + (n203 - n213)) (List.length l206))
                                (chk (widths false 1 (List.take (n203 - n213) (List.drop (0 + n213) l206)))
                                  (listK (List.take (n203 - n213) (List.drop (0 + n213) l206))
                                    (kn (.b (n204 + 1) l207 (l208 ++ [(PVal.int .i64 z211)]))) fun x214 l215 =>
                                  (chk (Nat.ble ((List.length (x214 :: l215)) * 8) 1099511627776)
                                    (kn (.c (List.length (x214 :: l215)) (n204 + 1) (x214 :: l215) l207 (l208 ++ [(PVal.int .i64 z211)])))))))))))
                        (chk (Nat.ble (0 + (n212 - 0)) (List.length l206))
                          (chk (widths false 1 (List.take (n212 - 0) (List.drop 0 l206)))
                            (listK (List.take (n212 - 0) (List.drop 0 l206))
                              (natK (IntKind.wrap .i64 (z205 + (Int.ofNat 1))) fun n216 =>
                              (chk (Nat.ble n216 n203)
                                (chk (Nat.ble n203 n203)
                                  (ifB (Nat.beq n216 n203)
                                    (ifB (Nat.beq n216 0)
                                      (kn (.b (n204 + 1) l207 (l208 ++ [(PVal.int .i64 z211)])))
                                      (kn (.b (n204 + 1) l207 (l208 ++ [(PVal.int .i64 z211)]))))
                                    (chk (Nat.ble ((0 + n216) + (n203 - n216)) (List.length l206))
                                      (chk (widths false 1 (List.take (n203 - n216) (List.drop (0 + n216) l206)))
                                        (listK (List.take (n203 - n216) (List.drop (0 + n216) l206))
                                          (kn (.b (n204 + 1) l207 (l208 ++ [(PVal.int .i64 z211)]))) fun x217 l218 =>
                                        (chk (Nat.ble ((List.length (x217 :: l218)) * 8) 1099511627776)
                                          (kn (.c (List.length (x217 :: l218)) (n204 + 1) (x217 :: l218) l207 (l208 ++ [(PVal.int .i64 z211)]))))))))))) fun x219 l220 =>
                            (chk (Nat.ble ((List.length (x219 :: l220)) * 8) 1099511627776)
                              (natK (IntKind.wrap .i64 (z205 + (Int.ofNat 1))) fun n221 =>
                              (chk (Nat.ble n221 n203)
                                (chk (Nat.ble n203 n203)
                                  (ifB (Nat.beq n221 n203)
                                    (ifB (Nat.beq n221 0)
                                      (chk (Nat.beq (List.length (x219 :: l220)) (List.length (x219 :: l220)))
                                        (chk (Nat.ble (((List.length (x219 :: l220)) + 0) * 8) 1099511627776)
                                          (kn (.c (List.length (x219 :: l220)) (n204 + 1) (x219 :: l220) l207 (l208 ++ [(PVal.int .i64 z211)])))))
                                      (chk (Nat.beq (List.length (x219 :: l220)) (List.length (x219 :: l220)))
                                        (chk (Nat.ble (((List.length (x219 :: l220)) + 0) * 8) 1099511627776)
                                          (kn (.c (List.length (x219 :: l220)) (n204 + 1) (x219 :: l220) l207 (l208 ++ [(PVal.int .i64 z211)]))))))
                                    (chk (Nat.ble ((0 + n221) + (n203 - n221)) (List.length l206))
                                      (chk (widths false 1 (List.take (n203 - n221) (List.drop (0 + n221) l206)))
                                        (chk (Nat.beq (List.length (x219 :: l220)) (List.length (x219 :: l220)))
                                          (chk (Nat.ble (((List.length (x219 :: l220)) + (List.length (List.take (n203 - n221) (List.drop (0 + n221) l206)))) * 8) 1099511627776)
                                            (listK (List.take (n203 - n221) (List.drop (0 + n221) l206))
                                              (kn (.c (List.length (x219 :: l220)) (n204 + 1) (x219 :: l220) l207 (l208 ++ [(PVal.int .i64 z211)]))) fun x222 l223 =>
                                            (kn (.c ((List.length (x219 :: l220)) + (List.length (x222 :: l223))) (n204 + 1) ((x219 :: l220) ++ (x222 :: l223)) l207 (l208 ++ [(PVal.int .i64 z211)]))))))))))))))))))))))
                (aggK x210 fun l224 =>
                (nthK l224 0 fun x225 =>
                (intK .i64 x225 fun z226 =>
                (chk (Nat.beq n204 (List.length l208))
                  (chk (Nat.ble ((n204 + 1) * 8) 1099511627776)
                    (natK z205 fun n227 =>
                    (chk (Nat.ble n227 n203)
                      (ifB (Nat.beq 0 n227)
                        (natK (IntKind.wrap .i64 (z205 + (Int.ofNat 1))) fun n228 =>
                        (chk (Nat.ble n228 n203)
                          (chk (Nat.ble n203 n203)
                            (ifB (Nat.beq n228 n203)
                              (ifB (Nat.beq n228 0)
                                (kn (.b (n204 + 1) l207 (l208 ++ [(PVal.int .i64 z226)])))
                                (kn (.b (n204 + 1) l207 (l208 ++ [(PVal.int .i64 z226)]))))
                              (chk (Nat.ble ((0 + n228) + (n203 - n228)) (List.length l206))
                                (chk (widths false 1 (List.take (n203 - n228) (List.drop (0 + n228) l206)))
                                  (listK (List.take (n203 - n228) (List.drop (0 + n228) l206))
                                    (kn (.b (n204 + 1) l207 (l208 ++ [(PVal.int .i64 z226)]))) fun x229 l230 =>
                                  (chk (Nat.ble ((List.length (x229 :: l230)) * 8) 1099511627776)
                                    (kn (.c (List.length (x229 :: l230)) (n204 + 1) (x229 :: l230) l207 (l208 ++ [(PVal.int .i64 z226)])))))))))))
                        (chk (Nat.ble (0 + (n227 - 0)) (List.length l206))
                          (chk (widths false 1 (List.take (n227 - 0) (List.drop 0 l206)))
                            (listK (List.take (n227 - 0) (List.drop 0 l206))
                              (natK (IntKind.wrap .i64 (z205 + (Int.ofNat 1))) fun n231 =>
                              (chk (Nat.ble n231 n203)
                                (chk (Nat.ble n203 n203)
                                  (ifB (Nat.beq n231 n203)
                                    (ifB (Nat.beq n231 0)
                                      (kn (.b (n204 + 1) l207 (l208 ++ [(PVal.int .i64 z226)])))
                                      (kn (.b (n204 + 1) l207 (l208 ++ [(PVal.int .i64 z226)]))))
                                    (chk (Nat.ble ((0 + n231) + (n203 - n231)) (List.length l206))
                                      (chk (widths false 1 (List.take (n203 - n231) (List.drop (0 + n231) l206)))
                                        (listK (List.take (n203 - n231) (List.drop (0 + n231) l206))
                                          (kn (.b (n204 + 1) l207 (l208 ++ [(PVal.int .i64 z226)]))) fun x232 l233 =>
                                        (chk (Nat.ble ((List.length (x232 :: l233)) * 8) 1099511627776)
                                          (kn (.c (List.length (x232 :: l233)) (n204 + 1) (x232 :: l233) l207 (l208 ++ [(PVal.int .i64 z226)]))))))))))) fun x234 l235 =>
                            (chk (Nat.ble ((List.length (x234 :: l235)) * 8) 1099511627776)
                              (natK (IntKind.wrap .i64 (z205 + (Int.ofNat 1))) fun n236 =>
                              (chk (Nat.ble n236 n203)
                                (chk (Nat.ble n203 n203)
                                  (ifB (Nat.beq n236 n203)
                                    (ifB (Nat.beq n236 0)
                                      (chk (Nat.beq (List.length (x234 :: l235)) (List.length (x234 :: l235)))
                                        (chk (Nat.ble (((List.length (x234 :: l235)) + 0) * 8) 1099511627776)
                                          (kn (.c (List.length (x234 :: l235)) (n204 + 1) (x234 :: l235) l207 (l208 ++ [(PVal.int .i64 z226)])))))
                                      (chk (Nat.beq (List.length (x234 :: l235)) (List.length (x234 :: l235)))
                                        (chk (Nat.ble (((List.length (x234 :: l235)) + 0) * 8) 1099511627776)
                                          (kn (.c (List.length (x234 :: l235)) (n204 + 1) (x234 :: l235) l207 (l208 ++ [(PVal.int .i64 z226)]))))))
                                    (chk (Nat.ble ((0 + n236) + (n203 - n236)) (List.length l206))
                                      (chk (widths false 1 (List.take (n203 - n236) (List.drop (0 + n236) l206)))
                                        (chk (Nat.beq (List.length (x234 :: l235)) (List.length (x234 :: l235)))
                                          (chk (Nat.ble (((List.length (x234 :: l235)) + (List.length (List.take (n203 - n236) (List.drop (0 + n236) l206)))) * 8) 1099511627776)
                                            (listK (List.take (n203 - n236) (List.drop (0 + n236) l206))
                                              (kn (.c (List.length (x234 :: l235)) (n204 + 1) (x234 :: l235) l207 (l208 ++ [(PVal.int .i64 z226)]))) fun x237 l238 =>
                                            (kn (.c ((List.length (x234 :: l235)) + (List.length (x237 :: l238))) (n204 + 1) ((x234 :: l235) ++ (x237 :: l238)) l207 (l208 ++ [(PVal.int .i64 z226)])))))))))))))))))))))))))))))) k (.b n176 n177 (Int.negSucc 0) (IntKind.wrap .i64 (((n176 : Nat) : Int) - (Int.ofNat 1))) l178 l179 l180))
      (kx (.c n177 l180)))
def L_rOrder_0 (k : Nat) (rec : Rec1) (kx : ExrOrder_0 → OA) : Nat → St_rOrder_0 → OA
  | 0, _ => none
  | j + 1, s => S_rOrder_0 k rec (L_rOrder_0 k rec kx j) kx s
def lorOrder (k : Nat) (rec : Rec1) : Loops AVal := fun id tm σ K =>
  match Nat.beq id 4 with
  | true => canon liverOrder_4 tm σ fun c => rdrOrder_4 c fun s => L_rOrder_4 k rec (kxrOrder_4 K) k s
  | false =>
  match Nat.beq id 2 with
  | true => canon liverOrder_2 tm σ fun c => rdrOrder_2 c fun s => L_rOrder_2 k rec (kxrOrder_2 K) k s
  | false =>
  match Nat.beq id 0 with
  | true => canon liverOrder_0 tm σ fun c => rdrOrder_0 c fun s => L_rOrder_0 k rec (kxrOrder_0 K) k s
  | false => none
def F_rOrder (k : Nat) (rec : Rec1) (p0 : PVal) : OA :=
  (bindK (rec i_racted [p0]) fun x1 =>
  (pK x1 fun x2 =>
  (boolK x2 fun b3 =>
  (ifB (!b3)
    (some (AVal.p (PVal.tup [PVal.nils, (PVal.int .i64 (Int.ofNat 2))])))
    (bindK (rec i_rall [p0]) fun x4 =>
    (pK x4 fun x5 =>
    (bindK (rec i_rdrawn [p0]) fun x6 =>
    (pK x6 fun x7 =>
    (aggK x7 fun l8 =>
    (chk (Nat.beq (List.length l8) 64)
      (L_rOrder_0 k rec (fun x => match x with
        | .a => (some (AVal.p (PVal.tup [PVal.nils, (PVal.int .i64 (Int.ofNat 0))])))
        | .b z9 => (some (AVal.p (PVal.tup [PVal.nils, (PVal.int .i64 z9)])))
        | .c n10 l11 => (chk (Nat.ble (0 + n10) (List.length l11))
            (some (AVal.p (PVal.tup [(PVal.sl (List.take n10 (List.drop 0 l11))), (PVal.int .i64 (Int.ofNat 0))]))))) k (.a x5 (([] ++ l8) ++ [])))))))))))))
theorem S_rOrder_4_eq (k : Nat) (rec : Rec1) (Kn : XC → OA) (K : KX) (s : St_rOrder_4) : codeK prog cfrOrder rec 70 (lorOrder k rec) brOrder_4 (tmOf gl liverOrder_4 (mkrOrder_4 s).vals) (mkrOrder_4 s).st (roundK gl 4 liverOrder_4 outsrOrder_4 Kn K) = S_rOrder_4 k rec (fun s => Kn (mkrOrder_4 s)) (kxrOrder_4 K) s := by
  cases s <;> kernel_rfl
theorem L_rOrder_4_eq (k : Nat) (rec : Rec1) (K : KX) : ∀ (j : Nat) (s : St_rOrder_4), loopX prog cfrOrder rec 70 gl (lorOrder k rec) 4 liverOrder_4 outsrOrder_4 brOrder_4 j (mkrOrder_4 s) K = L_rOrder_4 k rec (kxrOrder_4 K) j s
  | 0, _ => rfl
  | j + 1, s => by
    simp only [loopX]
    rw [S_rOrder_4_eq]
    exact congrArg (fun q => S_rOrder_4 k rec q (kxrOrder_4 K) s) (funext fun s' => L_rOrder_4_eq k rec K j s')
theorem S_rOrder_2_eq (k : Nat) (rec : Rec1) (Kn : XC → OA) (K : KX) (s : St_rOrder_2) : codeK prog cfrOrder rec 70 (lorOrder k rec) brOrder_2 (tmOf gl liverOrder_2 (mkrOrder_2 s).vals) (mkrOrder_2 s).st (roundK gl 2 liverOrder_2 outsrOrder_2 Kn K) = S_rOrder_2 k rec (fun s => Kn (mkrOrder_2 s)) (kxrOrder_2 K) s := by
  cases s <;> kernel_rfl
theorem L_rOrder_2_eq (k : Nat) (rec : Rec1) (K : KX) : ∀ (j : Nat) (s : St_rOrder_2), loopX prog cfrOrder rec 70 gl (lorOrder k rec) 2 liverOrder_2 outsrOrder_2 brOrder_2 j (mkrOrder_2 s) K = L_rOrder_2 k rec (kxrOrder_2 K) j s
  | 0, _ => rfl
  | j + 1, s => by
    simp only [loopX]
    rw [S_rOrder_2_eq]
    exact congrArg (fun q => S_rOrder_2 k rec q (kxrOrder_2 K) s) (funext fun s' => L_rOrder_2_eq k rec K j s')
theorem S_rOrder_0_eq (k : Nat) (rec : Rec1) (Kn : XC → OA) (K : KX) (s : St_rOrder_0) : codeK prog cfrOrder rec 70 (lorOrder k rec) brOrder_0 (tmOf gl liverOrder_0 (mkrOrder_0 s).vals) (mkrOrder_0 s).st (roundK gl 0 liverOrder_0 outsrOrder_0 Kn K) = S_rOrder_0 k rec (fun s => Kn (mkrOrder_0 s)) (kxrOrder_0 K) s := by
  cases s <;> kernel_rfl
theorem L_rOrder_0_eq (k : Nat) (rec : Rec1) (K : KX) : ∀ (j : Nat) (s : St_rOrder_0), loopX prog cfrOrder rec 70 gl (lorOrder k rec) 0 liverOrder_0 outsrOrder_0 brOrder_0 j (mkrOrder_0 s) K = L_rOrder_0 k rec (kxrOrder_0 K) j s
  | 0, _ => rfl
  | j + 1, s => by
    simp only [loopX]
    rw [S_rOrder_0_eq]
    exact congrArg (fun q => S_rOrder_0 k rec q (kxrOrder_0 K) s) (funext fun s' => L_rOrder_0_eq k rec K j s')
theorem xlrOrder {k : Nat} {rec : Rec1} (h : RecKnown prog gl rec) : XLoops prog gl 70 (lorOrder k rec) crOrder :=
  ⟨_, loopsIn_of _ (by rw [show topLoops crOrder = [(0, brOrder_0)] from by kernel_rfl]; simp), (LoopsOk.add (evCall_ok (memoX_ok h) fine 1) (recOk h cfrOrder.imp 0 0) fine (Nat.le_of_ble_eq_true rfl) (LoopsOk.add (evCall_ok (memoX_ok h) fine 1) (recOk h cfrOrder.imp 0 0) fine (Nat.le_of_ble_eq_true rfl) (LoopsOk.add (evCall_ok (memoX_ok h) fine 1) (recOk h cfrOrder.imp 0 0) fine (Nat.le_of_ble_eq_true rfl) LoopsOk.none 4 liverOrder_4 outsrOrder_4 brOrder_4 (by kernel_rfl) (loopsIn_of _ (by rw [show topLoops brOrder_4 = [] from by kernel_rfl]; simp)) (fun tm σ K r hk => ⟨k, canon_mono (fun c hc => by
    obtain ⟨s, e, hs⟩ := rdrOrder_4_some hc
    rw [e, L_rOrder_4_eq]
    exact hs) hk⟩)) 2 liverOrder_2 outsrOrder_2 brOrder_2 (by kernel_rfl) (loopsIn_of _ (by rw [show topLoops brOrder_2 = [(4, brOrder_4)] from by kernel_rfl]; simp)) (fun tm σ K r hk => ⟨k, canon_mono (fun c hc => by
    obtain ⟨s, e, hs⟩ := rdrOrder_2_some hc
    rw [e, L_rOrder_2_eq]
    exact hs) hk⟩)) 0 liverOrder_0 outsrOrder_0 brOrder_0 (by kernel_rfl) (loopsIn_of _ (by rw [show topLoops brOrder_0 = [(2, brOrder_2)] from by kernel_rfl]; simp)) (fun tm σ K r hk => ⟨k, canon_mono (fun c hc => by
    obtain ⟨s, e, hs⟩ := rdrOrder_0_some hc
    rw [e, L_rOrder_0_eq]
    exact hs) hk⟩))⟩
theorem F_rOrder_eq (k : Nat) (rec : Rec1) (p0 : PVal) : fnX prog cfrOrder .pure rec gl (fun _ => lorOrder k rec) i_rOrder [p0] = F_rOrder k rec p0 := by kernel_rfl
theorem F_rOrder_known {k : Nat} {rec : Rec1} (h : RecKnown prog gl rec) {p0 : PVal} {v : AVal} (hv : F_rOrder k rec p0 = some v) (hg : goodV v = true) : goodV v = true ∧ Known prog gl i_rOrder ([p0].map .p) (adopt 0 v).1 (adopt 0 v).2 :=
  fnX_fact (cf := cfrOrder) (out := .pure) (lo := lorOrder k rec) fine h func_rOrder (by kernel_rfl : fn_rOrder.body = some crOrder) (by kernel_rfl) (xlrOrder h) ((F_rOrder_eq k rec p0).trans hv) hg
def ctCi : Code := match fn_tCi.body with
  | some c => c
  | none => .skip
def cftCi : Cfg := ⟨shOf prog, sitesOf prog [(22, 23), (10, 66)] [] [], ximp⟩
inductive St_tCi_0 where
  | a (a0 : Int) (a1 : List PVal)
inductive ExtCi_0 where
  | a (a0 : PVal) (a1 : Int)
  | b
def mktCi_0 (s : St_tCi_0) : XC := match s with
  | .a v0 v1 => (XC.mk (List.cons (AVal.box 0 0) (List.cons (AVal.p (PVal.int .i64 v0)) [])) (List.cons (XObj.pbox v1) []))
def rdtCi_0 {α : Type} (c : XC) (K : St_tCi_0 → Option α) : Option α := match c with
  | (XC.mk (List.cons (AVal.box 0 0) (List.cons (AVal.p (PVal.int .i64 v0)) [])) (List.cons (XObj.pbox v1) [])) => K (.a v0 v1)
  | _ => none
theorem rdtCi_0_some {α : Type} {r : α} {c : XC} {K : St_tCi_0 → Option α} (h : rdtCi_0 c K = some r) : ∃ s, c = mktCi_0 s ∧ K s = some r := by
  unfold rdtCi_0 at h
  split at h <;> first | exact ⟨_, rfl, h⟩ | simp at h
def outstCi_0 : XE → List Nat := (outsOf [(0, [])] [2, 3])
def livetCi_0 : List Nat := [4, 6]
def kxtCi_0 (K : KX) (x : ExtCi_0) : OA := match x with
  | .a v0 v1 => K XE.ret (tmOf gl (outstCi_0 XE.ret) (XC.vals (XC.mk (List.cons (AVal.p v0) (List.cons (AVal.p (PVal.int .i64 v1)) [])) []))) (XC.st (XC.mk (List.cons (AVal.p v0) (List.cons (AVal.p (PVal.int .i64 v1)) [])) []))
  | .b => K XE.normal (tmOf gl (outstCi_0 (XE.exit 0)) (XC.vals (XC.mk [] []))) (XC.st (XC.mk [] []))
def btCi_0 : Code := match findLoop 0 ctCi with
  | some c => c
  | none => .skip
def S_tCi_0 (k : Nat) (rec : Rec1) (kn : St_tCi_0 → OA) (kx : ExtCi_0 → OA) (s : St_tCi_0) : OA := match s with
  | .a z12 l13 =>
    (ifB (decide (z12 ≤ (Int.ofNat 8)))
      (chk (Nat.ble 9 (List.length l13))
        (bindK (rec i_tRd ((PVal.agg (List.take 9 (List.drop 0 l13))) :: (PVal.nils :: [(PVal.int .i64 z12)]))) fun x14 =>
        (pK x14 fun x15 =>
        (nilSK x15 fun b16 =>
        (ifB (!b16)
          (kx (.a x15 (Int.ofNat 0)))
          (kn (.a (IntKind.wrap .i64 (z12 + (Int.ofNat 1))) l13)))))))
      (kx (.b)))
def L_tCi_0 (k : Nat) (rec : Rec1) (kx : ExtCi_0 → OA) : Nat → St_tCi_0 → OA
  | 0, _ => none
  | j + 1, s => S_tCi_0 k rec (L_tCi_0 k rec kx j) kx s
def lotCi (k : Nat) (rec : Rec1) : Loops AVal := fun id tm σ K =>
  match Nat.beq id 0 with
  | true => canon livetCi_0 tm σ fun c => rdtCi_0 c fun s => L_tCi_0 k rec (kxtCi_0 K) k s
  | false => none
def F_tCi (k : Nat) (rec : Rec1) (p0 : PVal) : OA :=
  (bindK (rec i_tTo [p0]) fun x1 =>
  (pK x1 fun x2 =>
  (tupK x2 fun l3 =>
  (consK l3 fun x4 l5 =>
  (consK l5 fun x6 l7 =>
  (intK .i64 x6 fun z8 =>
  (endK l7
    (aggK x4 fun l9 =>
    (chk (Nat.beq (List.length l9) 9)
      (ifB (z8 != (Int.ofNat 0))
        (some (AVal.p (PVal.tup [PVal.nils, (PVal.int .i64 z8)])))
        (L_tCi_0 k rec (fun x => match x with
          | .a x10 z11 => (some (AVal.p (PVal.tup [x10, (PVal.int .i64 z11)])))
          | .b => (some (AVal.p (PVal.tup [PVal.nils, (PVal.int .i64 (Int.ofNat 5))])))) k (.a (Int.ofNat 2) (([] ++ l9) ++ [])))))))))))))
theorem S_tCi_0_eq (k : Nat) (rec : Rec1) (Kn : XC → OA) (K : KX) (s : St_tCi_0) : codeK prog cftCi rec 26 (lotCi k rec) btCi_0 (tmOf gl livetCi_0 (mktCi_0 s).vals) (mktCi_0 s).st (roundK gl 0 livetCi_0 outstCi_0 Kn K) = S_tCi_0 k rec (fun s => Kn (mktCi_0 s)) (kxtCi_0 K) s := by
  cases s <;> kernel_rfl
theorem L_tCi_0_eq (k : Nat) (rec : Rec1) (K : KX) : ∀ (j : Nat) (s : St_tCi_0), loopX prog cftCi rec 26 gl (lotCi k rec) 0 livetCi_0 outstCi_0 btCi_0 j (mktCi_0 s) K = L_tCi_0 k rec (kxtCi_0 K) j s
  | 0, _ => rfl
  | j + 1, s => by
    simp only [loopX]
    rw [S_tCi_0_eq]
    exact congrArg (fun q => S_tCi_0 k rec q (kxtCi_0 K) s) (funext fun s' => L_tCi_0_eq k rec K j s')
theorem xltCi {k : Nat} {rec : Rec1} (h : RecKnown prog gl rec) : XLoops prog gl 26 (lotCi k rec) ctCi :=
  ⟨_, loopsIn_of _ (by rw [show topLoops ctCi = [(0, btCi_0)] from by kernel_rfl]; simp), (LoopsOk.add (evCall_ok (memoX_ok h) fine 1) (recOk h cftCi.imp 0 0) fine (Nat.le_of_ble_eq_true rfl) LoopsOk.none 0 livetCi_0 outstCi_0 btCi_0 (by kernel_rfl) (loopsIn_of _ (by rw [show topLoops btCi_0 = [] from by kernel_rfl]; simp)) (fun tm σ K r hk => ⟨k, canon_mono (fun c hc => by
    obtain ⟨s, e, hs⟩ := rdtCi_0_some hc
    rw [e, L_tCi_0_eq]
    exact hs) hk⟩))⟩
theorem F_tCi_eq (k : Nat) (rec : Rec1) (p0 : PVal) : fnX prog cftCi .pure rec gl (fun _ => lotCi k rec) i_tCi [p0] = F_tCi k rec p0 := by kernel_rfl
theorem F_tCi_known {k : Nat} {rec : Rec1} (h : RecKnown prog gl rec) {p0 : PVal} {v : AVal} (hv : F_tCi k rec p0 = some v) (hg : goodV v = true) : goodV v = true ∧ Known prog gl i_tCi ([p0].map .p) (adopt 0 v).1 (adopt 0 v).2 :=
  fnX_fact (cf := cftCi) (out := .pure) (lo := lotCi k rec) fine h func_tCi (by kernel_rfl : fn_tCi.body = some ctCi) (by kernel_rfl) (xltCi h) ((F_tCi_eq k rec p0).trans hv) hg
def crCircle : Code := match fn_rCircle.body with
  | some c => c
  | none => .skip
def cfrCircle : Cfg := ⟨shOf prog, sitesOf prog [(24, 23), (14, 72), (12, 23), (9, 4)] [] [], ximp⟩
inductive St_rCircle_0 where
  | a (a0 : PVal) (a1 : Int) (a2 : List PVal)
inductive ExrCircle_0 where
  | a (a0 : PVal) (a1 : Int)
  | b
def mkrCircle_0 (s : St_rCircle_0) : XC := match s with
  | .a v0 v1 v2 => (XC.mk (List.cons (AVal.p v0) (List.cons (AVal.box 0 0) (List.cons (AVal.p (PVal.int .i64 v1)) []))) (List.cons (XObj.pbox v2) []))
def rdrCircle_0 {α : Type} (c : XC) (K : St_rCircle_0 → Option α) : Option α := match c with
  | (XC.mk (List.cons (AVal.p v0) (List.cons (AVal.box 0 0) (List.cons (AVal.p (PVal.int .i64 v1)) []))) (List.cons (XObj.pbox v2) [])) => K (.a v0 v1 v2)
  | _ => none
theorem rdrCircle_0_some {α : Type} {r : α} {c : XC} {K : St_rCircle_0 → Option α} (h : rdrCircle_0 c K = some r) : ∃ s, c = mkrCircle_0 s ∧ K s = some r := by
  unfold rdrCircle_0 at h
  split at h <;> first | exact ⟨_, rfl, h⟩ | simp at h
def outsrCircle_0 : XE → List Nat := (outsOf [(0, [])] [2, 3])
def liverCircle_0 : List Nat := [4, 5, 6]
def kxrCircle_0 (K : KX) (x : ExrCircle_0) : OA := match x with
  | .a v0 v1 => K XE.ret (tmOf gl (outsrCircle_0 XE.ret) (XC.vals (XC.mk (List.cons (AVal.p v0) (List.cons (AVal.p (PVal.int .i64 v1)) [])) []))) (XC.st (XC.mk (List.cons (AVal.p v0) (List.cons (AVal.p (PVal.int .i64 v1)) [])) []))
  | .b => K XE.normal (tmOf gl (outsrCircle_0 (XE.exit 0)) (XC.vals (XC.mk [] []))) (XC.st (XC.mk [] []))
def brCircle_0 : Code := match findLoop 0 crCircle with
  | some c => c
  | none => .skip
def S_rCircle_0 (k : Nat) (rec : Rec1) (kn : St_rCircle_0 → OA) (kx : ExrCircle_0 → OA) (s : St_rCircle_0) : OA := match s with
  | .a x11 z12 l13 =>
    (slK x11 fun l14 =>
    (ifB (decide (z12 ≤ (((List.length l14) : Nat) : Int)))
      (chk (Nat.ble 64 (List.length l13))
        (bindK (rec i_rround ((PVal.agg (List.take 64 (List.drop 0 l13))) :: (x11 :: [(PVal.int .i64 z12), PVal.nils]))) fun x15 =>
        (pK x15 fun x16 =>
        (slK x16 fun l17 =>
        (ifB (decide ((((List.length l17) : Nat) : Int) > (Int.ofNat 0)))
          (kx (.a x16 (Int.ofNat 0)))
          (kn (.a x11 (IntKind.wrap .i64 (z12 + (Int.ofNat 1))) l13)))))))
      (kx (.b))))
def L_rCircle_0 (k : Nat) (rec : Rec1) (kx : ExrCircle_0 → OA) : Nat → St_rCircle_0 → OA
  | 0, _ => none
  | j + 1, s => S_rCircle_0 k rec (L_rCircle_0 k rec kx j) kx s
def lorCircle (k : Nat) (rec : Rec1) : Loops AVal := fun id tm σ K =>
  match Nat.beq id 0 with
  | true => canon liverCircle_0 tm σ fun c => rdrCircle_0 c fun s => L_rCircle_0 k rec (kxrCircle_0 K) k s
  | false => none
def F_rCircle (k : Nat) (rec : Rec1) (p0 : PVal) : OA :=
  (bindK (rec i_racted [p0]) fun x1 =>
  (pK x1 fun x2 =>
  (boolK x2 fun b3 =>
  (ifB (!b3)
    (some (AVal.p (PVal.tup [PVal.nils, (PVal.int .i64 (Int.ofNat 2))])))
    (bindK (rec i_rall [p0]) fun x4 =>
    (pK x4 fun x5 =>
    (bindK (rec i_rdrawn [p0]) fun x6 =>
    (pK x6 fun x7 =>
    (aggK x7 fun l8 =>
    (chk (Nat.beq (List.length l8) 64)
      (L_rCircle_0 k rec (fun x => match x with
        | .a x9 z10 => (some (AVal.p (PVal.tup [x9, (PVal.int .i64 z10)])))
        | .b => (some (AVal.p (PVal.tup [PVal.nils, (PVal.int .i64 (Int.ofNat 5))])))) k (.a x5 (Int.ofNat 2) (([] ++ l8) ++ [])))))))))))))
theorem S_rCircle_0_eq (k : Nat) (rec : Rec1) (Kn : XC → OA) (K : KX) (s : St_rCircle_0) : codeK prog cfrCircle rec 29 (lorCircle k rec) brCircle_0 (tmOf gl liverCircle_0 (mkrCircle_0 s).vals) (mkrCircle_0 s).st (roundK gl 0 liverCircle_0 outsrCircle_0 Kn K) = S_rCircle_0 k rec (fun s => Kn (mkrCircle_0 s)) (kxrCircle_0 K) s := by
  cases s <;> kernel_rfl
theorem L_rCircle_0_eq (k : Nat) (rec : Rec1) (K : KX) : ∀ (j : Nat) (s : St_rCircle_0), loopX prog cfrCircle rec 29 gl (lorCircle k rec) 0 liverCircle_0 outsrCircle_0 brCircle_0 j (mkrCircle_0 s) K = L_rCircle_0 k rec (kxrCircle_0 K) j s
  | 0, _ => rfl
  | j + 1, s => by
    simp only [loopX]
    rw [S_rCircle_0_eq]
    exact congrArg (fun q => S_rCircle_0 k rec q (kxrCircle_0 K) s) (funext fun s' => L_rCircle_0_eq k rec K j s')
theorem xlrCircle {k : Nat} {rec : Rec1} (h : RecKnown prog gl rec) : XLoops prog gl 29 (lorCircle k rec) crCircle :=
  ⟨_, loopsIn_of _ (by rw [show topLoops crCircle = [(0, brCircle_0)] from by kernel_rfl]; simp), (LoopsOk.add (evCall_ok (memoX_ok h) fine 1) (recOk h cfrCircle.imp 0 0) fine (Nat.le_of_ble_eq_true rfl) LoopsOk.none 0 liverCircle_0 outsrCircle_0 brCircle_0 (by kernel_rfl) (loopsIn_of _ (by rw [show topLoops brCircle_0 = [] from by kernel_rfl]; simp)) (fun tm σ K r hk => ⟨k, canon_mono (fun c hc => by
    obtain ⟨s, e, hs⟩ := rdrCircle_0_some hc
    rw [e, L_rCircle_0_eq]
    exact hs) hk⟩))⟩
theorem F_rCircle_eq (k : Nat) (rec : Rec1) (p0 : PVal) : fnX prog cfrCircle .pure rec gl (fun _ => lorCircle k rec) i_rCircle [p0] = F_rCircle k rec p0 := by kernel_rfl
theorem F_rCircle_known {k : Nat} {rec : Rec1} (h : RecKnown prog gl rec) {p0 : PVal} {v : AVal} (hv : F_rCircle k rec p0 = some v) (hg : goodV v = true) : goodV v = true ∧ Known prog gl i_rCircle ([p0].map .p) (adopt 0 v).1 (adopt 0 v).2 :=
  fnX_fact (cf := cfrCircle) (out := .pure) (lo := lorCircle k rec) fine h func_rCircle (by kernel_rfl : fn_rCircle.body = some crCircle) (by kernel_rfl) (xlrCircle h) ((F_rCircle_eq k rec p0).trans hv) hg
def cqSame : Code := match fn_qSame.body with
  | some c => c
  | none => .skip
def cfqSame : Cfg := ⟨shOf prog, sitesOf prog [] [] [], ximp⟩
inductive St_qSame_0 where
  | a (a0 : PVal) (a1 : PVal) (a2 : Int)
inductive ExqSame_0 where
  | a (a0 : Bool)
  | b
def mkqSame_0 (s : St_qSame_0) : XC := match s with
  | .a v0 v1 v2 => (XC.mk (List.cons (AVal.p v0) (List.cons (AVal.p v1) (List.cons (AVal.p (PVal.int .i64 v2)) []))) [])
def rdqSame_0 {α : Type} (c : XC) (K : St_qSame_0 → Option α) : Option α := match c with
  | (XC.mk (List.cons (AVal.p v0) (List.cons (AVal.p v1) (List.cons (AVal.p (PVal.int .i64 v2)) []))) []) => K (.a v0 v1 v2)
  | _ => none
theorem rdqSame_0_some {α : Type} {r : α} {c : XC} {K : St_qSame_0 → Option α} (h : rdqSame_0 c K = some r) : ∃ s, c = mkqSame_0 s ∧ K s = some r := by
  unfold rdqSame_0 at h
  split at h <;> first | exact ⟨_, rfl, h⟩ | simp at h
def outsqSame_0 : XE → List Nat := (outsOf [(0, [])] [4])
def liveqSame_0 : List Nat := [0, 1, 5]
def kxqSame_0 (K : KX) (x : ExqSame_0) : OA := match x with
  | .a v0 => K XE.ret (tmOf gl (outsqSame_0 XE.ret) (XC.vals (XC.mk (List.cons (AVal.p (PVal.bool v0)) []) []))) (XC.st (XC.mk (List.cons (AVal.p (PVal.bool v0)) []) []))
  | .b => K XE.normal (tmOf gl (outsqSame_0 (XE.exit 0)) (XC.vals (XC.mk [] []))) (XC.st (XC.mk [] []))
def bqSame_0 : Code := match findLoop 0 cqSame with
  | some c => c
  | none => .skip
def S_qSame_0 (k : Nat) (rec : Rec1) (kn : St_qSame_0 → OA) (kx : ExqSame_0 → OA) (s : St_qSame_0) : OA := match s with
  | .a x4 x5 z6 =>
    (slK x4 fun l7 =>
    (ifB (decide (z6 < (((List.length l7) : Nat) : Int)))
      (slK x4 fun l8 =>
      (natK z6 fun n9 =>
      (nthK l8 n9 fun x10 =>
      (intK .i64 x10 fun z11 =>
      (slK x5 fun l12 =>
      (natK z6 fun n13 =>
      (nthK l12 n13 fun x14 =>
      (intK .i64 x14 fun z15 =>
      (ifB (z11 != z15)
        (kx (.a false))
        (kn (.a x4 x5 (IntKind.wrap .i64 (z6 + (Int.ofNat 1))))))))))))))
      (kx (.b))))
def L_qSame_0 (k : Nat) (rec : Rec1) (kx : ExqSame_0 → OA) : Nat → St_qSame_0 → OA
  | 0, _ => none
  | j + 1, s => S_qSame_0 k rec (L_qSame_0 k rec kx j) kx s
def loqSame (k : Nat) (rec : Rec1) : Loops AVal := fun id tm σ K =>
  match Nat.beq id 0 with
  | true => canon liveqSame_0 tm σ fun c => rdqSame_0 c fun s => L_qSame_0 k rec (kxqSame_0 K) k s
  | false => none
def F_qSame (k : Nat) (rec : Rec1) (p0 p1 : PVal) : OA :=
  (slK p0 fun l1 =>
  (slK p1 fun l2 =>
  (ifB ((((List.length l1) : Nat) : Int) != (((List.length l2) : Nat) : Int))
    (some (AVal.p (PVal.bool false)))
    (L_qSame_0 k rec (fun x => match x with
      | .a b3 => (some (AVal.p (PVal.bool b3)))
      | .b => (some (AVal.p (PVal.bool true)))) k (.a p0 p1 (Int.ofNat 0))))))
theorem S_qSame_0_eq (k : Nat) (rec : Rec1) (Kn : XC → OA) (K : KX) (s : St_qSame_0) : codeK prog cfqSame rec 26 (loqSame k rec) bqSame_0 (tmOf gl liveqSame_0 (mkqSame_0 s).vals) (mkqSame_0 s).st (roundK gl 0 liveqSame_0 outsqSame_0 Kn K) = S_qSame_0 k rec (fun s => Kn (mkqSame_0 s)) (kxqSame_0 K) s := by
  cases s <;> kernel_rfl
theorem L_qSame_0_eq (k : Nat) (rec : Rec1) (K : KX) : ∀ (j : Nat) (s : St_qSame_0), loopX prog cfqSame rec 26 gl (loqSame k rec) 0 liveqSame_0 outsqSame_0 bqSame_0 j (mkqSame_0 s) K = L_qSame_0 k rec (kxqSame_0 K) j s
  | 0, _ => rfl
  | j + 1, s => by
    simp only [loopX]
    rw [S_qSame_0_eq]
    exact congrArg (fun q => S_qSame_0 k rec q (kxqSame_0 K) s) (funext fun s' => L_qSame_0_eq k rec K j s')
theorem xlqSame {k : Nat} {rec : Rec1} (h : RecKnown prog gl rec) : XLoops prog gl 26 (loqSame k rec) cqSame :=
  ⟨_, loopsIn_of _ (by rw [show topLoops cqSame = [(0, bqSame_0)] from by kernel_rfl]; simp), (LoopsOk.add (evCall_ok (memoX_ok h) fine 1) (recOk h cfqSame.imp 0 0) fine (Nat.le_of_ble_eq_true rfl) LoopsOk.none 0 liveqSame_0 outsqSame_0 bqSame_0 (by kernel_rfl) (loopsIn_of _ (by rw [show topLoops bqSame_0 = [] from by kernel_rfl]; simp)) (fun tm σ K r hk => ⟨k, canon_mono (fun c hc => by
    obtain ⟨s, e, hs⟩ := rdqSame_0_some hc
    rw [e, L_qSame_0_eq]
    exact hs) hk⟩))⟩
theorem F_qSame_eq (k : Nat) (rec : Rec1) (p0 p1 : PVal) : fnX prog cfqSame .pure rec gl (fun _ => loqSame k rec) i_qSame [p0, p1] = F_qSame k rec p0 p1 := by kernel_rfl
theorem F_qSame_known {k : Nat} {rec : Rec1} (h : RecKnown prog gl rec) {p0 p1 : PVal} {v : AVal} (hv : F_qSame k rec p0 p1 = some v) (hg : goodV v = true) : goodV v = true ∧ Known prog gl i_qSame ([p0, p1].map .p) (adopt 0 v).1 (adopt 0 v).2 :=
  fnX_fact (cf := cfqSame) (out := .pure) (lo := loqSame k rec) fine h func_qSame (by kernel_rfl : fn_qSame.body = some cqSame) (by kernel_rfl) (xlqSame h) ((F_qSame_eq k rec p0 p1).trans hv) hg
def ctPr : Code := match fn_tPr.body with
  | some c => c
  | none => .skip
def cftPr : Cfg := ⟨shOf prog, sitesOf prog [(61, 4), (41, 4), (13, 66)] [] [], ximp⟩
inductive St_tPr_2 where
  | a (a0 : PVal) (a1 : PVal) (a2 : Int) (a3 : Int) (a4 : List PVal)
inductive ExtPr_2 where
  | a (a0 : Int)
  | b
def mktPr_2 (s : St_tPr_2) : XC := match s with
  | .a v0 v1 v2 v3 v4 => (XC.mk (List.cons (AVal.p v0) (List.cons (AVal.box 0 0) (List.cons (AVal.p v1) (List.cons (AVal.p (PVal.int .i64 v2)) (List.cons (AVal.p (PVal.int .i64 v3)) []))))) (List.cons (XObj.pbox v4) []))
def rdtPr_2 {α : Type} (c : XC) (K : St_tPr_2 → Option α) : Option α := match c with
  | (XC.mk (List.cons (AVal.p v0) (List.cons (AVal.box 0 0) (List.cons (AVal.p v1) (List.cons (AVal.p (PVal.int .i64 v2)) (List.cons (AVal.p (PVal.int .i64 v3)) []))))) (List.cons (XObj.pbox v4) [])) => K (.a v0 v1 v2 v3 v4)
  | _ => none
theorem rdtPr_2_some {α : Type} {r : α} {c : XC} {K : St_tPr_2 → Option α} (h : rdtPr_2 c K = some r) : ∃ s, c = mktPr_2 s ∧ K s = some r := by
  unfold rdtPr_2 at h
  split at h <;> first | exact ⟨_, rfl, h⟩ | simp at h
def outstPr_2 : XE → List Nat := (outsOf [(2, [])] [4])
def livetPr_2 : List Nat := [1, 5, 44, 45, 46]
def kxtPr_2 (K : KX) (x : ExtPr_2) : OA := match x with
  | .a v0 => K XE.ret (tmOf gl (outstPr_2 XE.ret) (XC.vals (XC.mk (List.cons (AVal.p (PVal.int .i64 v0)) []) []))) (XC.st (XC.mk (List.cons (AVal.p (PVal.int .i64 v0)) []) []))
  | .b => K XE.normal (tmOf gl (outstPr_2 (XE.exit 2)) (XC.vals (XC.mk [] []))) (XC.st (XC.mk [] []))
def btPr_2 : Code := match findLoop 2 ctPr with
  | some c => c
  | none => .skip
def S_tPr_2 (k : Nat) (rec : Rec1) (kn : St_tPr_2 → OA) (kx : ExtPr_2 → OA) (s : St_tPr_2) : OA := match s with
  | .a x17 x18 z19 z20 l21 =>
    (ifB (decide (z20 < z19))
      (slK x18 fun l22 =>
      (natK z20 fun n23 =>
      (nthK l22 n23 fun x24 =>
      (intK .i64 x24 fun z25 =>
      (chk (Nat.ble 9 (List.length l21))
        (slK x17 fun l26 =>
        (ifB (decide ((((List.length l26) : Nat) : Int) = (Int.ofNat 0)))
          none
          (slK x17 fun l27 =>
          (natK (Int.tmod (IntKind.wrap .i64 (z20 + (Int.ofNat 1))) (((List.length l26) : Nat) : Int)) fun n28 =>
          (nthK l27 n28 fun x29 =>
          (intK .i64 x29 fun z30 =>
          (bindK (rec i_tCo ((PVal.agg (List.take 9 (List.drop 0 l21))) :: ((PVal.int .i64 z25) :: [(PVal.int .i64 z30)]))) fun x31 =>
          (pK x31 fun x32 =>
          (boolK x32 fun b33 =>
          (ifB (!b33)
            (kx (.a (Int.ofNat 7)))
            (kn (.a x17 x18 z19 (IntKind.wrap .i64 (z20 + (Int.ofNat 1))) l21)))))))))))))))))
      (kx (.b)))
def L_tPr_2 (k : Nat) (rec : Rec1) (kx : ExtPr_2 → OA) : Nat → St_tPr_2 → OA
  | 0, _ => none
  | j + 1, s => S_tPr_2 k rec (L_tPr_2 k rec kx j) kx s
inductive St_tPr_0 where
  | a (a0 : PVal) (a1 : PVal) (a2 : Int) (a3 : Int) (a4 : List PVal)
inductive ExtPr_0 where
  | a (a0 : Int)
  | b (a0 : PVal) (a1 : List PVal)
def mktPr_0 (s : St_tPr_0) : XC := match s with
  | .a v0 v1 v2 v3 v4 => (XC.mk (List.cons (AVal.p v0) (List.cons (AVal.box 0 0) (List.cons (AVal.p v1) (List.cons (AVal.p (PVal.int .i64 v2)) (List.cons (AVal.p (PVal.int .i64 v3)) []))))) (List.cons (XObj.pbox v4) []))
def rdtPr_0 {α : Type} (c : XC) (K : St_tPr_0 → Option α) : Option α := match c with
  | (XC.mk (List.cons (AVal.p v0) (List.cons (AVal.box 0 0) (List.cons (AVal.p v1) (List.cons (AVal.p (PVal.int .i64 v2)) (List.cons (AVal.p (PVal.int .i64 v3)) []))))) (List.cons (XObj.pbox v4) [])) => K (.a v0 v1 v2 v3 v4)
  | _ => none
theorem rdtPr_0_some {α : Type} {r : α} {c : XC} {K : St_tPr_0 → Option α} (h : rdtPr_0 c K = some r) : ∃ s, c = mktPr_0 s ∧ K s = some r := by
  unfold rdtPr_0 at h
  split at h <;> first | exact ⟨_, rfl, h⟩ | simp at h
def outstPr_0 : XE → List Nat := (outsOf [(0, [1, 5])] [4])
def livetPr_0 : List Nat := [1, 5, 23, 24, 25]
def kxtPr_0 (K : KX) (x : ExtPr_0) : OA := match x with
  | .a v0 => K XE.ret (tmOf gl (outstPr_0 XE.ret) (XC.vals (XC.mk (List.cons (AVal.p (PVal.int .i64 v0)) []) []))) (XC.st (XC.mk (List.cons (AVal.p (PVal.int .i64 v0)) []) []))
  | .b v0 v1 => K XE.normal (tmOf gl (outstPr_0 (XE.exit 0)) (XC.vals (XC.mk (List.cons (AVal.p v0) (List.cons (AVal.box 0 0) [])) (List.cons (XObj.pbox v1) [])))) (XC.st (XC.mk (List.cons (AVal.p v0) (List.cons (AVal.box 0 0) [])) (List.cons (XObj.pbox v1) [])))
def btPr_0 : Code := match findLoop 0 ctPr with
  | some c => c
  | none => .skip
def S_tPr_0 (k : Nat) (rec : Rec1) (kn : St_tPr_0 → OA) (kx : ExtPr_0 → OA) (s : St_tPr_0) : OA := match s with
  | .a x34 x35 z36 z37 l38 =>
    (ifB (decide (z37 < z36))
      (slK x35 fun l39 =>
      (natK z37 fun n40 =>
      (nthK l39 n40 fun x41 =>
      (intK .i64 x41 fun z42 =>
      (ifB (decide (z42 < (Int.ofNat 0)))
        (kx (.a (Int.ofNat 2)))
        (ifB (decide (z42 ≥ (Int.ofNat 8)))
          (kx (.a (Int.ofNat 2)))
          (slK x34 fun l43 =>
          (natK z37 fun n44 =>
          (chk (Nat.ble n44 (List.length l43))
            (chk (wide 1 l43)
              (bindK (rec i_sCn ((sliceP x34 0 n44) :: [(PVal.int .i64 z42)])) fun x45 =>
              (pK x45 fun x46 =>
              (boolK x46 fun b47 =>
              (ifB b47
                (kx (.a (Int.ofNat 2)))
                (kn (.a x34 x35 z36 (IntKind.wrap .i64 (z37 + (Int.ofNat 1))) l38))))))))))))))))
      (kx (.b x34 l38)))
def L_tPr_0 (k : Nat) (rec : Rec1) (kx : ExtPr_0 → OA) : Nat → St_tPr_0 → OA
  | 0, _ => none
  | j + 1, s => S_tPr_0 k rec (L_tPr_0 k rec kx j) kx s
def lotPr (k : Nat) (rec : Rec1) : Loops AVal := fun id tm σ K =>
  match Nat.beq id 2 with
  | true => canon livetPr_2 tm σ fun c => rdtPr_2 c fun s => L_tPr_2 k rec (kxtPr_2 K) k s
  | false =>
  match Nat.beq id 0 with
  | true => canon livetPr_0 tm σ fun c => rdtPr_0 c fun s => L_tPr_0 k rec (kxtPr_0 K) k s
  | false => none
def F_tPr (k : Nat) (rec : Rec1) (p0 p1 : PVal) : OA :=
  (bindK (rec i_tTo [p0]) fun x1 =>
  (pK x1 fun x2 =>
  (tupK x2 fun l3 =>
  (consK l3 fun x4 l5 =>
  (consK l5 fun x6 l7 =>
  (intK .i64 x6 fun z8 =>
  (endK l7
    (aggK x4 fun l9 =>
    (chk (Nat.beq (List.length l9) 9)
      (ifB (z8 != (Int.ofNat 0))
        (some (AVal.p (PVal.int .i64 (Int.ofNat 2))))
        (slK p1 fun l10 =>
        (ifB (decide ((((List.length l10) : Nat) : Int) < (Int.ofNat 2)))
          (some (AVal.p (PVal.int .i64 (Int.ofNat 2))))
          (slK p1 fun l11 =>
          (L_tPr_0 k rec (fun x => match x with
            | .a z12 => (some (AVal.p (PVal.int .i64 z12)))
            | .b x13 l14 => (slK x13 fun l15 =>
              (L_tPr_2 k rec (fun x => match x with
                | .a z16 => (some (AVal.p (PVal.int .i64 z16)))
                | .b => (some (AVal.p (PVal.int .i64 (Int.ofNat 0))))) k (.a x13 x13 (((List.length l15) : Nat) : Int) (Int.ofNat 0) l14)))) k (.a p1 p1 (((List.length l11) : Nat) : Int) (Int.ofNat 0) (([] ++ l9) ++ []))))))))))))))))
theorem S_tPr_2_eq (k : Nat) (rec : Rec1) (Kn : XC → OA) (K : KX) (s : St_tPr_2) : codeK prog cftPr rec 64 (lotPr k rec) btPr_2 (tmOf gl livetPr_2 (mktPr_2 s).vals) (mktPr_2 s).st (roundK gl 2 livetPr_2 outstPr_2 Kn K) = S_tPr_2 k rec (fun s => Kn (mktPr_2 s)) (kxtPr_2 K) s := by
  cases s <;> kernel_rfl
theorem L_tPr_2_eq (k : Nat) (rec : Rec1) (K : KX) : ∀ (j : Nat) (s : St_tPr_2), loopX prog cftPr rec 64 gl (lotPr k rec) 2 livetPr_2 outstPr_2 btPr_2 j (mktPr_2 s) K = L_tPr_2 k rec (kxtPr_2 K) j s
  | 0, _ => rfl
  | j + 1, s => by
    simp only [loopX]
    rw [S_tPr_2_eq]
    exact congrArg (fun q => S_tPr_2 k rec q (kxtPr_2 K) s) (funext fun s' => L_tPr_2_eq k rec K j s')
theorem S_tPr_0_eq (k : Nat) (rec : Rec1) (Kn : XC → OA) (K : KX) (s : St_tPr_0) : codeK prog cftPr rec 64 (lotPr k rec) btPr_0 (tmOf gl livetPr_0 (mktPr_0 s).vals) (mktPr_0 s).st (roundK gl 0 livetPr_0 outstPr_0 Kn K) = S_tPr_0 k rec (fun s => Kn (mktPr_0 s)) (kxtPr_0 K) s := by
  cases s <;> kernel_rfl
theorem L_tPr_0_eq (k : Nat) (rec : Rec1) (K : KX) : ∀ (j : Nat) (s : St_tPr_0), loopX prog cftPr rec 64 gl (lotPr k rec) 0 livetPr_0 outstPr_0 btPr_0 j (mktPr_0 s) K = L_tPr_0 k rec (kxtPr_0 K) j s
  | 0, _ => rfl
  | j + 1, s => by
    simp only [loopX]
    rw [S_tPr_0_eq]
    exact congrArg (fun q => S_tPr_0 k rec q (kxtPr_0 K) s) (funext fun s' => L_tPr_0_eq k rec K j s')
theorem xltPr {k : Nat} {rec : Rec1} (h : RecKnown prog gl rec) : XLoops prog gl 64 (lotPr k rec) ctPr :=
  ⟨_, loopsIn_of _ (by rw [show topLoops ctPr = [(0, btPr_0), (2, btPr_2)] from by kernel_rfl]; simp), (LoopsOk.add (evCall_ok (memoX_ok h) fine 1) (recOk h cftPr.imp 0 0) fine (Nat.le_of_ble_eq_true rfl) (LoopsOk.add (evCall_ok (memoX_ok h) fine 1) (recOk h cftPr.imp 0 0) fine (Nat.le_of_ble_eq_true rfl) LoopsOk.none 2 livetPr_2 outstPr_2 btPr_2 (by kernel_rfl) (loopsIn_of _ (by rw [show topLoops btPr_2 = [] from by kernel_rfl]; simp)) (fun tm σ K r hk => ⟨k, canon_mono (fun c hc => by
    obtain ⟨s, e, hs⟩ := rdtPr_2_some hc
    rw [e, L_tPr_2_eq]
    exact hs) hk⟩)) 0 livetPr_0 outstPr_0 btPr_0 (by kernel_rfl) (loopsIn_of _ (by rw [show topLoops btPr_0 = [] from by kernel_rfl]; simp)) (fun tm σ K r hk => ⟨k, canon_mono (fun c hc => by
    obtain ⟨s, e, hs⟩ := rdtPr_0_some hc
    rw [e, L_tPr_0_eq]
    exact hs) hk⟩))⟩
theorem F_tPr_eq (k : Nat) (rec : Rec1) (p0 p1 : PVal) : fnX prog cftPr .pure rec gl (fun _ => lotPr k rec) i_tPr [p0, p1] = F_tPr k rec p0 p1 := by kernel_rfl
theorem F_tPr_known {k : Nat} {rec : Rec1} (h : RecKnown prog gl rec) {p0 p1 : PVal} {v : AVal} (hv : F_tPr k rec p0 p1 = some v) (hg : goodV v = true) : goodV v = true ∧ Known prog gl i_tPr ([p0, p1].map .p) (adopt 0 v).1 (adopt 0 v).2 :=
  fnX_fact (cf := cftPr) (out := .pure) (lo := lotPr k rec) fine h func_tPr (by kernel_rfl : fn_tPr.body = some ctPr) (by kernel_rfl) (xltPr h) ((F_tPr_eq k rec p0 p1).trans hv) hg
def crProves : Code := match fn_rProves.body with
  | some c => c
  | none => .skip
def cfrProves : Cfg := ⟨shOf prog, sitesOf prog [(39, 4), (37, 72), (34, 4), (24, 4), (7, 4)] [] [], ximp⟩
inductive St_rProves_0 where
  | a (a0 : PVal) (a1 : PVal) (a2 : Int)
inductive ExrProves_0 where
  | a (a0 : Int)
  | b (a0 : PVal) (a1 : PVal)
def mkrProves_0 (s : St_rProves_0) : XC := match s with
  | .a v0 v1 v2 => (XC.mk (List.cons (AVal.p v0) (List.cons (AVal.p v1) (List.cons (AVal.p (PVal.int .i64 v2)) []))) [])
def rdrProves_0 {α : Type} (c : XC) (K : St_rProves_0 → Option α) : Option α := match c with
  | (XC.mk (List.cons (AVal.p v0) (List.cons (AVal.p v1) (List.cons (AVal.p (PVal.int .i64 v2)) []))) []) => K (.a v0 v1 v2)
  | _ => none
theorem rdrProves_0_some {α : Type} {r : α} {c : XC} {K : St_rProves_0 → Option α} (h : rdrProves_0 c K = some r) : ∃ s, c = mkrProves_0 s ∧ K s = some r := by
  unfold rdrProves_0 at h
  split at h <;> first | exact ⟨_, rfl, h⟩ | simp at h
def outsrProves_0 : XE → List Nat := (outsOf [(0, [0, 1])] [4])
def liverProves_0 : List Nat := [0, 1, 5]
def kxrProves_0 (K : KX) (x : ExrProves_0) : OA := match x with
  | .a v0 => K XE.ret (tmOf gl (outsrProves_0 XE.ret) (XC.vals (XC.mk (List.cons (AVal.p (PVal.int .i64 v0)) []) []))) (XC.st (XC.mk (List.cons (AVal.p (PVal.int .i64 v0)) []) []))
  | .b v0 v1 => K XE.normal (tmOf gl (outsrProves_0 (XE.exit 0)) (XC.vals (XC.mk (List.cons (AVal.p v0) (List.cons (AVal.p v1) [])) []))) (XC.st (XC.mk (List.cons (AVal.p v0) (List.cons (AVal.p v1) [])) []))
def brProves_0 : Code := match findLoop 0 crProves with
  | some c => c
  | none => .skip
def S_rProves_0 (k : Nat) (rec : Rec1) (kn : St_rProves_0 → OA) (kx : ExrProves_0 → OA) (s : St_rProves_0) : OA := match s with
  | .a x13 x14 z15 =>
    (slK x14 fun l16 =>
    (ifB (decide (z15 < (((List.length l16) : Nat) : Int)))
      (slK x14 fun l17 =>
      (natK z15 fun n18 =>
      (nthK l17 n18 fun x19 =>
      (intK .i64 x19 fun z20 =>
      (bindK (rec i_rin [(PVal.int .i64 z20), (PVal.int .i64 (Int.ofNat 0)), (PVal.int .i64 (Int.ofNat 7))]) fun x21 =>
      (pK x21 fun x22 =>
      (boolK x22 fun b23 =>
      (ifB (!b23)
        (kx (.a (Int.ofNat 2)))
        (slK x14 fun l24 =>
        (natK z15 fun n25 =>
        (chk (Nat.ble n25 (List.length l24))
          (chk (wide 1 l24)
            (slK x14 fun l26 =>
            (natK z15 fun n27 =>
            (nthK l26 n27 fun x28 =>
            (intK .i64 x28 fun z29 =>
            (bindK (rec i_qListed ((sliceP x14 0 n25) :: [(PVal.int .i64 z29)])) fun x30 =>
            (pK x30 fun x31 =>
            (boolK x31 fun b32 =>
            (ifB b32
              (kx (.a (Int.ofNat 2)))
              (kn (.a x13 x14 (IntKind.wrap .i64 (z15 + (Int.ofNat 1)))))))))))))))))))))))))
      (kx (.b x13 x14))))
def L_rProves_0 (k : Nat) (rec : Rec1) (kx : ExrProves_0 → OA) : Nat → St_rProves_0 → OA
  | 0, _ => none
  | j + 1, s => S_rProves_0 k rec (L_rProves_0 k rec kx j) kx s
def lorProves (k : Nat) (rec : Rec1) : Loops AVal := fun id tm σ K =>
  match Nat.beq id 0 with
  | true => canon liverProves_0 tm σ fun c => rdrProves_0 c fun s => L_rProves_0 k rec (kxrProves_0 K) k s
  | false => none
def F_rProves (k : Nat) (rec : Rec1) (p0 p1 : PVal) : OA :=
  (bindK (rec i_racted [p0]) fun x1 =>
  (pK x1 fun x2 =>
  (boolK x2 fun b3 =>
  (ifB (!b3)
    (some (AVal.p (PVal.int .i64 (Int.ofNat 2))))
    (slK p1 fun l4 =>
    (ifB (decide ((((List.length l4) : Nat) : Int) < (Int.ofNat 2)))
      (some (AVal.p (PVal.int .i64 (Int.ofNat 2))))
      (L_rProves_0 k rec (fun x => match x with
        | .a z5 => (some (AVal.p (PVal.int .i64 z5)))
        | .b x6 x7 => (bindK (rec i_rdrawn [x6]) fun x8 =>
          (pK x8 fun x9 =>
          (bindK (rec i_rcircled (x9 :: [x7])) fun x10 =>
          (pK x10 fun x11 =>
          (boolK x11 fun b12 =>
          (ifB (!b12)
            (some (AVal.p (PVal.int .i64 (Int.ofNat 7))))
            (some (AVal.p (PVal.int .i64 (Int.ofNat 0))))))))))) k (.a p0 p1 (Int.ofNat 0)))))))))
theorem S_rProves_0_eq (k : Nat) (rec : Rec1) (Kn : XC → OA) (K : KX) (s : St_rProves_0) : codeK prog cfrProves rec 41 (lorProves k rec) brProves_0 (tmOf gl liverProves_0 (mkrProves_0 s).vals) (mkrProves_0 s).st (roundK gl 0 liverProves_0 outsrProves_0 Kn K) = S_rProves_0 k rec (fun s => Kn (mkrProves_0 s)) (kxrProves_0 K) s := by
  cases s <;> kernel_rfl
theorem L_rProves_0_eq (k : Nat) (rec : Rec1) (K : KX) : ∀ (j : Nat) (s : St_rProves_0), loopX prog cfrProves rec 41 gl (lorProves k rec) 0 liverProves_0 outsrProves_0 brProves_0 j (mkrProves_0 s) K = L_rProves_0 k rec (kxrProves_0 K) j s
  | 0, _ => rfl
  | j + 1, s => by
    simp only [loopX]
    rw [S_rProves_0_eq]
    exact congrArg (fun q => S_rProves_0 k rec q (kxrProves_0 K) s) (funext fun s' => L_rProves_0_eq k rec K j s')
theorem xlrProves {k : Nat} {rec : Rec1} (h : RecKnown prog gl rec) : XLoops prog gl 41 (lorProves k rec) crProves :=
  ⟨_, loopsIn_of _ (by rw [show topLoops crProves = [(0, brProves_0)] from by kernel_rfl]; simp), (LoopsOk.add (evCall_ok (memoX_ok h) fine 1) (recOk h cfrProves.imp 0 0) fine (Nat.le_of_ble_eq_true rfl) LoopsOk.none 0 liverProves_0 outsrProves_0 brProves_0 (by kernel_rfl) (loopsIn_of _ (by rw [show topLoops brProves_0 = [] from by kernel_rfl]; simp)) (fun tm σ K r hk => ⟨k, canon_mono (fun c hc => by
    obtain ⟨s, e, hs⟩ := rdrProves_0_some hc
    rw [e, L_rProves_0_eq]
    exact hs) hk⟩))⟩
theorem F_rProves_eq (k : Nat) (rec : Rec1) (p0 p1 : PVal) : fnX prog cfrProves .pure rec gl (fun _ => lorProves k rec) i_rProves [p0, p1] = F_rProves k rec p0 p1 := by kernel_rfl
theorem F_rProves_known {k : Nat} {rec : Rec1} (h : RecKnown prog gl rec) {p0 p1 : PVal} {v : AVal} (hv : F_rProves k rec p0 p1 = some v) (hg : goodV v = true) : goodV v = true ∧ Known prog gl i_rProves ([p0, p1].map .p) (adopt 0 v).1 (adopt 0 v).2 :=
  fnX_fact (cf := cfrProves) (out := .pure) (lo := lorProves k rec) fine h func_rProves (by kernel_rfl : fn_rProves.body = some crProves) (by kernel_rfl) (xlrProves h) ((F_rProves_eq k rec p0 p1).trans hv) hg
def cracted : Code := match fn_racted.body with
  | some c => c
  | none => .skip
def cfracted : Cfg := ⟨shOf prog, sitesOf prog [(23, 4), (15, 4)] [] [], ximp⟩
inductive St_racted_0 where
  | a (a0 : PVal) (a1 : Int)
inductive Exracted_0 where
  | a (a0 : Bool)
  | b (a0 : PVal)
def mkracted_0 (s : St_racted_0) : XC := match s with
  | .a v0 v1 => (XC.mk (List.cons (AVal.p v0) (List.cons (AVal.p (PVal.int .i64 v1)) [])) [])
def rdracted_0 {α : Type} (c : XC) (K : St_racted_0 → Option α) : Option α := match c with
  | (XC.mk (List.cons (AVal.p v0) (List.cons (AVal.p (PVal.int .i64 v1)) [])) []) => K (.a v0 v1)
  | _ => none
theorem rdracted_0_some {α : Type} {r : α} {c : XC} {K : St_racted_0 → Option α} (h : rdracted_0 c K = some r) : ∃ s, c = mkracted_0 s ∧ K s = some r := by
  unfold rdracted_0 at h
  split at h <;> first | exact ⟨_, rfl, h⟩ | simp at h
def outsracted_0 : XE → List Nat := (outsOf [(0, [0])] [2])
def liveracted_0 : List Nat := [0, 3]
def kxracted_0 (K : KX) (x : Exracted_0) : OA := match x with
  | .a v0 => K XE.ret (tmOf gl (outsracted_0 XE.ret) (XC.vals (XC.mk (List.cons (AVal.p (PVal.bool v0)) []) []))) (XC.st (XC.mk (List.cons (AVal.p (PVal.bool v0)) []) []))
  | .b v0 => K XE.normal (tmOf gl (outsracted_0 (XE.exit 0)) (XC.vals (XC.mk (List.cons (AVal.p v0) []) []))) (XC.st (XC.mk (List.cons (AVal.p v0) []) []))
def bracted_0 : Code := match findLoop 0 cracted with
  | some c => c
  | none => .skip
def S_racted_0 (k : Nat) (rec : Rec1) (kn : St_racted_0 → OA) (kx : Exracted_0 → OA) (s : St_racted_0) : OA := match s with
  | .a x4 z5 =>
    (slK x4 fun l6 =>
    (ifB (decide (z5 < (((List.length l6) : Nat) : Int)))
      (slK x4 fun l7 =>
      (natK z5 fun n8 =>
      (nthK l7 n8 fun x9 =>
      (aggK x9 fun l10 =>
      (consK l10 fun x11 l12 =>
      (intK .i64 x11 fun z13 =>
      (consK l12 fun x14 l15 =>
      (boolK x14 fun b16 =>
      (consK l15 fun x17 l18 =>
      (intK .i64 x17 fun z19 =>
      (endK l18
        (bindK (rec i_rin [(PVal.int .i64 z13), (PVal.int .i64 (Int.ofNat 0)), (PVal.int .i64 (Int.ofNat 7))]) fun x20 =>
        (pK x20 fun x21 =>
        (boolK x21 fun b22 =>
        (ifB (!b22)
          (kx (.a false))
          (slK x4 fun l23 =>
          (natK z5 fun n24 =>
          (nthK l23 n24 fun x25 =>
          (aggK x25 fun l26 =>
          (consK l26 fun x27 l28 =>
          (intK .i64 x27 fun z29 =>
          (consK l28 fun x30 l31 =>
          (boolK x30 fun b32 =>
          (consK l31 fun x33 l34 =>
          (intK .i64 x33 fun z35 =>
          (endK l34
            (bindK (rec i_rin [(PVal.int .i64 z35), (PVal.int .i64 (Int.ofNat 0)), (PVal.int .i64 (Int.ofNat 4))]) fun x36 =>
            (pK x36 fun x37 =>
            (boolK x37 fun b38 =>
            (ifB (!b38)
              (kx (.a false))
              (kn (.a x4 (IntKind.wrap .i64 (z5 + (Int.ofNat 1)))))))))))))))))))))))))))))))))))
      (kx (.b x4))))
def L_racted_0 (k : Nat) (rec : Rec1) (kx : Exracted_0 → OA) : Nat → St_racted_0 → OA
  | 0, _ => none
  | j + 1, s => S_racted_0 k rec (L_racted_0 k rec kx j) kx s
def loracted (k : Nat) (rec : Rec1) : Loops AVal := fun id tm σ K =>
  match Nat.beq id 0 with
  | true => canon liveracted_0 tm σ fun c => rdracted_0 c fun s => L_racted_0 k rec (kxracted_0 K) k s
  | false => none
def F_racted (k : Nat) (rec : Rec1) (p0 : PVal) : OA :=
  (L_racted_0 k rec (fun x => match x with
    | .a b1 => (some (AVal.p (PVal.bool b1)))
    | .b x2 => (slK x2 fun l3 =>
      (some (AVal.p (PVal.bool (decide ((((List.length l3) : Nat) : Int) ≤ (Int.ofNat 60)))))))) k (.a p0 (Int.ofNat 0)))
theorem S_racted_0_eq (k : Nat) (rec : Rec1) (Kn : XC → OA) (K : KX) (s : St_racted_0) : codeK prog cfracted rec 29 (loracted k rec) bracted_0 (tmOf gl liveracted_0 (mkracted_0 s).vals) (mkracted_0 s).st (roundK gl 0 liveracted_0 outsracted_0 Kn K) = S_racted_0 k rec (fun s => Kn (mkracted_0 s)) (kxracted_0 K) s := by
  cases s <;> kernel_rfl
theorem L_racted_0_eq (k : Nat) (rec : Rec1) (K : KX) : ∀ (j : Nat) (s : St_racted_0), loopX prog cfracted rec 29 gl (loracted k rec) 0 liveracted_0 outsracted_0 bracted_0 j (mkracted_0 s) K = L_racted_0 k rec (kxracted_0 K) j s
  | 0, _ => rfl
  | j + 1, s => by
    simp only [loopX]
    rw [S_racted_0_eq]
    exact congrArg (fun q => S_racted_0 k rec q (kxracted_0 K) s) (funext fun s' => L_racted_0_eq k rec K j s')
theorem xlracted {k : Nat} {rec : Rec1} (h : RecKnown prog gl rec) : XLoops prog gl 29 (loracted k rec) cracted :=
  ⟨_, loopsIn_of _ (by rw [show topLoops cracted = [(0, bracted_0)] from by kernel_rfl]; simp), (LoopsOk.add (evCall_ok (memoX_ok h) fine 1) (recOk h cfracted.imp 0 0) fine (Nat.le_of_ble_eq_true rfl) LoopsOk.none 0 liveracted_0 outsracted_0 bracted_0 (by kernel_rfl) (loopsIn_of _ (by rw [show topLoops bracted_0 = [] from by kernel_rfl]; simp)) (fun tm σ K r hk => ⟨k, canon_mono (fun c hc => by
    obtain ⟨s, e, hs⟩ := rdracted_0_some hc
    rw [e, L_racted_0_eq]
    exact hs) hk⟩))⟩
theorem F_racted_eq (k : Nat) (rec : Rec1) (p0 : PVal) : fnX prog cfracted .pure rec gl (fun _ => loracted k rec) i_racted [p0] = F_racted k rec p0 := by kernel_rfl
theorem F_racted_known {k : Nat} {rec : Rec1} (h : RecKnown prog gl rec) {p0 : PVal} {v : AVal} (hv : F_racted k rec p0 = some v) (hg : goodV v = true) : goodV v = true ∧ Known prog gl i_racted ([p0].map .p) (adopt 0 v).1 (adopt 0 v).2 :=
  fnX_fact (cf := cfracted) (out := .pure) (lo := loracted k rec) fine h func_racted (by kernel_rfl : fn_racted.body = some cracted) (by kernel_rfl) (xlracted h) ((F_racted_eq k rec p0).trans hv) hg
def crdrawn : Code := match fn_rdrawn.body with
  | some c => c
  | none => .skip
def cfrdrawn : Cfg := ⟨shOf prog, sitesOf prog [(19, 4)] [] [], ximp⟩
inductive St_rdrawn_2 where
  | a (a0 : PVal) (a1 : Int) (a2 : Int) (a3 : List PVal) (a4 : List PVal)
inductive Exrdrawn_2 where
  | a (a0 : PVal) (a1 : Int) (a2 : List PVal) (a3 : List PVal)
def mkrdrawn_2 (s : St_rdrawn_2) : XC := match s with
  | .a v0 v1 v2 v3 v4 => (XC.mk (List.cons (AVal.p v0) (List.cons (AVal.box 0 0) (List.cons (AVal.box 1 0) (List.cons (AVal.p (PVal.int .i64 v1)) (List.cons (AVal.p (PVal.int .i64 v2)) []))))) (List.cons (XObj.pbox v3) (List.cons (XObj.pbox v4) [])))
def rdrdrawn_2 {α : Type} (c : XC) (K : St_rdrawn_2 → Option α) : Option α := match c with
  | (XC.mk (List.cons (AVal.p v0) (List.cons (AVal.box 0 0) (List.cons (AVal.box 1 0) (List.cons (AVal.p (PVal.int .i64 v1)) (List.cons (AVal.p (PVal.int .i64 v2)) []))))) (List.cons (XObj.pbox v3) (List.cons (XObj.pbox v4) []))) => K (.a v0 v1 v2 v3 v4)
  | _ => none
theorem rdrdrawn_2_some {α : Type} {r : α} {c : XC} {K : St_rdrawn_2 → Option α} (h : rdrdrawn_2 c K = some r) : ∃ s, c = mkrdrawn_2 s ∧ K s = some r := by
  unfold rdrdrawn_2 at h
  split at h <;> first | exact ⟨_, rfl, h⟩ | simp at h
def outsrdrawn_2 : XE → List Nat := (outsOf [(2, [0, 2, 3, 4]), (1, [0, 2, 3, 4]), (0, [2, 3])] [2])
def liverdrawn_2 : List Nat := [0, 2, 3, 4, 5]
def kxrdrawn_2 (K : KX) (x : Exrdrawn_2) : OA := match x with
  | .a v0 v1 v2 v3 => K XE.normal (tmOf gl (outsrdrawn_2 (XE.exit 2)) (XC.vals (XC.mk (List.cons (AVal.p v0) (List.cons (AVal.box 0 0) (List.cons (AVal.box 1 0) (List.cons (AVal.p (PVal.int .i64 v1)) [])))) (List.cons (XObj.pbox v2) (List.cons (XObj.pbox v3) []))))) (XC.st (XC.mk (List.cons (AVal.p v0) (List.cons (AVal.box 0 0) (List.cons (AVal.box 1 0) (List.cons (AVal.p (PVal.int .i64 v1)) [])))) (List.cons (XObj.pbox v2) (List.cons (XObj.pbox v3) []))))
def brdrawn_2 : Code := match findLoop 2 crdrawn with
  | some c => c
  | none => .skip
def S_rdrawn_2 (k : Nat) (rec : Rec1) (kn : St_rdrawn_2 → OA) (kx : Exrdrawn_2 → OA) (s : St_rdrawn_2) : OA := match s with
  | .a x3 z4 z5 l6 l7 =>
    (ifB (decide (z5 < (Int.ofNat 8)))
      (bindK (rec i_rBefore (x3 :: ((PVal.int .i64 z4) :: [(PVal.int .i64 z5)]))) fun x8 =>
      (pK x8 fun x9 =>
      (boolK x9 fun b10 =>
      (natK z4 fun n11 =>
      (chk (Nat.blt n11 8)
        (natK z5 fun n12 =>
        (chk (Nat.blt n12 8)
          (chk (Nat.blt ((0 + (n11 * 8)) + (n12 * 1)) (List.length l7))
            (kn (.a x3 z4 (IntKind.wrap .i64 (z5 + (Int.ofNat 1))) l6 (List.set l7 ((0 + (n11 * 8)) + (n12 * 1)) (PVal.bool b10))))))))))))
      (kx (.a x3 z4 l6 l7)))
def L_rdrawn_2 (k : Nat) (rec : Rec1) (kx : Exrdrawn_2 → OA) : Nat → St_rdrawn_2 → OA
  | 0, _ => none
  | j + 1, s => S_rdrawn_2 k rec (L_rdrawn_2 k rec kx j) kx s
inductive St_rdrawn_0 where
  | a (a0 : PVal) (a1 : Int) (a2 : List PVal) (a3 : List PVal)
inductive Exrdrawn_0 where
  | a (a0 : List PVal) (a1 : List PVal)
def mkrdrawn_0 (s : St_rdrawn_0) : XC := match s with
  | .a v0 v1 v2 v3 => (XC.mk (List.cons (AVal.p v0) (List.cons (AVal.box 0 0) (List.cons (AVal.box 1 0) (List.cons (AVal.p (PVal.int .i64 v1)) [])))) (List.cons (XObj.pbox v2) (List.cons (XObj.pbox v3) [])))
def rdrdrawn_0 {α : Type} (c : XC) (K : St_rdrawn_0 → Option α) : Option α := match c with
  | (XC.mk (List.cons (AVal.p v0) (List.cons (AVal.box 0 0) (List.cons (AVal.box 1 0) (List.cons (AVal.p (PVal.int .i64 v1)) [])))) (List.cons (XObj.pbox v2) (List.cons (XObj.pbox v3) []))) => K (.a v0 v1 v2 v3)
  | _ => none
theorem rdrdrawn_0_some {α : Type} {r : α} {c : XC} {K : St_rdrawn_0 → Option α} (h : rdrdrawn_0 c K = some r) : ∃ s, c = mkrdrawn_0 s ∧ K s = some r := by
  unfold rdrdrawn_0 at h
  split at h <;> first | exact ⟨_, rfl, h⟩ | simp at h
def outsrdrawn_0 : XE → List Nat := (outsOf [(0, [2, 3])] [2])
def liverdrawn_0 : List Nat := [0, 2, 3, 4]
def kxrdrawn_0 (K : KX) (x : Exrdrawn_0) : OA := match x with
  | .a v0 v1 => K XE.normal (tmOf gl (outsrdrawn_0 (XE.exit 0)) (XC.vals (XC.mk (List.cons (AVal.box 0 0) (List.cons (AVal.box 1 0) [])) (List.cons (XObj.pbox v0) (List.cons (XObj.pbox v1) []))))) (XC.st (XC.mk (List.cons (AVal.box 0 0) (List.cons (AVal.box 1 0) [])) (List.cons (XObj.pbox v0) (List.cons (XObj.pbox v1) []))))
def brdrawn_0 : Code := match findLoop 0 crdrawn with
  | some c => c
  | none => .skip
def S_rdrawn_0 (k : Nat) (rec : Rec1) (kn : St_rdrawn_0 → OA) (kx : Exrdrawn_0 → OA) (s : St_rdrawn_0) : OA := match s with
  | .a x13 z14 l15 l16 =>
    (ifB (decide (z14 < (Int.ofNat 8)))
      (L_rdrawn_2 k rec (fun x => match x with
        | .a x17 z18 l19 l20 => (kn (.a x17 (IntKind.wrap .i64 (z18 + (Int.ofNat 1))) l19 l20))) k (.a x13 z14 (Int.ofNat 0) l15 l16))
      (kx (.a l15 l16)))
def L_rdrawn_0 (k : Nat) (rec : Rec1) (kx : Exrdrawn_0 → OA) : Nat → St_rdrawn_0 → OA
  | 0, _ => none
  | j + 1, s => S_rdrawn_0 k rec (L_rdrawn_0 k rec kx j) kx s
def lordrawn (k : Nat) (rec : Rec1) : Loops AVal := fun id tm σ K =>
  match Nat.beq id 2 with
  | true => canon liverdrawn_2 tm σ fun c => rdrdrawn_2 c fun s => L_rdrawn_2 k rec (kxrdrawn_2 K) k s
  | false =>
  match Nat.beq id 0 with
  | true => canon liverdrawn_0 tm σ fun c => rdrdrawn_0 c fun s => L_rdrawn_0 k rec (kxrdrawn_0 K) k s
  | false => none
def F_rdrawn (k : Nat) (rec : Rec1) (p0 : PVal) : OA :=
  (L_rdrawn_0 k rec (fun x => match x with
    | .a l1 l2 => (chk (Nat.ble 64 (List.length l2))
        (chk (Nat.beq (List.length (List.take 64 (List.drop 0 l2))) 64)
          (chk (Nat.ble 64 (List.length l1))
            (chk (Nat.ble 64 (List.length (((List.take 0 l1) ++ (List.take 64 (List.drop 0 l2))) ++ (List.drop 64 l1))))
              (some (AVal.p (PVal.agg (List.take 64 (List.drop 0 (((List.take 0 l1) ++ (List.take 64 (List.drop 0 l2))) ++ (List.drop 64 l1)))))))))))) k (.a p0 (Int.ofNat 0) [(PVal.bool false), (PVal.bool false), (PVal.bool false), (PVal.bool false), (PVal.bool false), (PVal.bool false), (PVal.bool false), (PVal.bool false), (PVal.bool false), (PVal.bool false), (PVal.bool false), (PVal.bool false), (PVal.bool false), (PVal.bool false), (PVal.bool false), (PVal.bool false), (PVal.bool false), (PVal.bool false), (PVal.bool false), (PVal.bool false), (PVal.bool false), (PVal.bool false), (PVal.bool false), (PVal.bool false), (PVal.bool false), (PVal.bool false), (PVal.bool false), (PVal.bool false), (PVal.bool false), (PVal.bool false), (PVal.bool false), (PVal.bool false), (PVal.bool false), (PVal.bool false), (PVal.bool false), (PVal.bool false), (PVal.bool false), (PVal.bool false), (PVal.bool false), (PVal.bool false), (PVal.bool false), (PVal.bool false), (PVal.bool false), (PVal.bool false), (PVal.bool false), (PVal.bool false), (PVal.bool false), (PVal.bool false), (PVal.bool false), (PVal.bool false), (PVal.bool false), (PVal.bool false), (PVal.bool false), (PVal.bool false), (PVal.bool false), (PVal.bool false), (PVal.bool false), (PVal.bool false), (PVal.bool false), (PVal.bool false), (PVal.bool false), (PVal.bool false), (PVal.bool false), (PVal.bool false)] [(PVal.bool false), (PVal.bool false), (PVal.bool false), (PVal.bool false), (PVal.bool false), (PVal.bool false), (PVal.bool false), (PVal.bool false), (PVal.bool false), (PVal.bool false), (PVal.bool false), (PVal.bool false), (PVal.bool false), (PVal.bool false), (PVal.bool false), (PVal.bool false), (PVal.bool false), (PVal.bool false), (PVal.bool false), (PVal.bool false), (PVal.bool false), (PVal.bool false), (PVal.bool false), (PVal.bool false), (PVal.bool false), (PVal.bool false), (PVal.bool false), (PVal.bool false), (PVal.bool false), (PVal.bool false), (PVal.bool false), (PVal.bool false), (PVal.bool false), (PVal.bool false), (PVal.bool false), (PVal.bool false), (PVal.bool false), (PVal.bool false), (PVal.bool false), (PVal.bool false), (PVal.bool false), (PVal.bool false), (PVal.bool false), (PVal.bool false), (PVal.bool false), (PVal.bool false), (PVal.bool false), (PVal.bool false), (PVal.bool false), (PVal.bool false), (PVal.bool false), (PVal.bool false), (PVal.bool false), (PVal.bool false), (PVal.bool false), (PVal.bool false), (PVal.bool false), (PVal.bool false), (PVal.bool false), (PVal.bool false), (PVal.bool false), (PVal.bool false), (PVal.bool false), (PVal.bool false)]))
theorem S_rdrawn_2_eq (k : Nat) (rec : Rec1) (Kn : XC → OA) (K : KX) (s : St_rdrawn_2) : codeK prog cfrdrawn rec 23 (lordrawn k rec) brdrawn_2 (tmOf gl liverdrawn_2 (mkrdrawn_2 s).vals) (mkrdrawn_2 s).st (roundK gl 2 liverdrawn_2 outsrdrawn_2 Kn K) = S_rdrawn_2 k rec (fun s => Kn (mkrdrawn_2 s)) (kxrdrawn_2 K) s := by
  cases s <;> kernel_rfl
theorem L_rdrawn_2_eq (k : Nat) (rec : Rec1) (K : KX) : ∀ (j : Nat) (s : St_rdrawn_2), loopX prog cfrdrawn rec 23 gl (lordrawn k rec) 2 liverdrawn_2 outsrdrawn_2 brdrawn_2 j (mkrdrawn_2 s) K = L_rdrawn_2 k rec (kxrdrawn_2 K) j s
  | 0, _ => rfl
  | j + 1, s => by
    simp only [loopX]
    rw [S_rdrawn_2_eq]
    exact congrArg (fun q => S_rdrawn_2 k rec q (kxrdrawn_2 K) s) (funext fun s' => L_rdrawn_2_eq k rec K j s')
theorem S_rdrawn_0_eq (k : Nat) (rec : Rec1) (Kn : XC → OA) (K : KX) (s : St_rdrawn_0) : codeK prog cfrdrawn rec 23 (lordrawn k rec) brdrawn_0 (tmOf gl liverdrawn_0 (mkrdrawn_0 s).vals) (mkrdrawn_0 s).st (roundK gl 0 liverdrawn_0 outsrdrawn_0 Kn K) = S_rdrawn_0 k rec (fun s => Kn (mkrdrawn_0 s)) (kxrdrawn_0 K) s := by
  cases s <;> kernel_rfl
theorem L_rdrawn_0_eq (k : Nat) (rec : Rec1) (K : KX) : ∀ (j : Nat) (s : St_rdrawn_0), loopX prog cfrdrawn rec 23 gl (lordrawn k rec) 0 liverdrawn_0 outsrdrawn_0 brdrawn_0 j (mkrdrawn_0 s) K = L_rdrawn_0 k rec (kxrdrawn_0 K) j s
  | 0, _ => rfl
  | j + 1, s => by
    simp only [loopX]
    rw [S_rdrawn_0_eq]
    exact congrArg (fun q => S_rdrawn_0 k rec q (kxrdrawn_0 K) s) (funext fun s' => L_rdrawn_0_eq k rec K j s')
theorem xlrdrawn {k : Nat} {rec : Rec1} (h : RecKnown prog gl rec) : XLoops prog gl 23 (lordrawn k rec) crdrawn :=
  ⟨_, loopsIn_of _ (by rw [show topLoops crdrawn = [(0, brdrawn_0)] from by kernel_rfl]; simp), (LoopsOk.add (evCall_ok (memoX_ok h) fine 1) (recOk h cfrdrawn.imp 0 0) fine (Nat.le_of_ble_eq_true rfl) (LoopsOk.add (evCall_ok (memoX_ok h) fine 1) (recOk h cfrdrawn.imp 0 0) fine (Nat.le_of_ble_eq_true rfl) LoopsOk.none 2 liverdrawn_2 outsrdrawn_2 brdrawn_2 (by kernel_rfl) (loopsIn_of _ (by rw [show topLoops brdrawn_2 = [] from by kernel_rfl]; simp)) (fun tm σ K r hk => ⟨k, canon_mono (fun c hc => by
    obtain ⟨s, e, hs⟩ := rdrdrawn_2_some hc
    rw [e, L_rdrawn_2_eq]
    exact hs) hk⟩)) 0 liverdrawn_0 outsrdrawn_0 brdrawn_0 (by kernel_rfl) (loopsIn_of _ (by rw [show topLoops brdrawn_0 = [(2, brdrawn_2)] from by kernel_rfl]; simp)) (fun tm σ K r hk => ⟨k, canon_mono (fun c hc => by
    obtain ⟨s, e, hs⟩ := rdrdrawn_0_some hc
    rw [e, L_rdrawn_0_eq]
    exact hs) hk⟩))⟩
theorem F_rdrawn_eq (k : Nat) (rec : Rec1) (p0 : PVal) : fnX prog cfrdrawn .pure rec gl (fun _ => lordrawn k rec) i_rdrawn [p0] = F_rdrawn k rec p0 := by kernel_rfl
theorem F_rdrawn_known {k : Nat} {rec : Rec1} (h : RecKnown prog gl rec) {p0 : PVal} {v : AVal} (hv : F_rdrawn k rec p0 = some v) (hg : goodV v = true) : goodV v = true ∧ Known prog gl i_rdrawn ([p0].map .p) (adopt 0 v).1 (adopt 0 v).2 :=
  fnX_fact (cf := cfrdrawn) (out := .pure) (lo := lordrawn k rec) fine h func_rdrawn (by kernel_rfl : fn_rdrawn.body = some crdrawn) (by kernel_rfl) (xlrdrawn h) ((F_rdrawn_eq k rec p0).trans hv) hg
def csCF : Code := match fn_sCF.body with
  | some c => c
  | none => .skip
def cfsCF : Cfg := ⟨shOf prog, sitesOf prog [(7, 3)] [] [], ximp⟩
def losCF (k : Nat) (rec : Rec1) : Loops AVal := fun id tm σ K => none
def F_sCF (k : Nat) (rec : Rec1) (p0 p1 : PVal) : OA :=
  (bindK (rec i_sXF (p0 :: [p1])) fun x1 =>
  (pK x1 fun x2 =>
  (intK .i64 x2 fun z3 =>
  (some (AVal.p (PVal.bool (decide (z3 ≥ (Int.ofNat 0)))))))))
theorem xlsCF {k : Nat} {rec : Rec1} (h : RecKnown prog gl rec) : XLoops prog gl 9 (losCF k rec) csCF :=
  ⟨_, loopsIn_of _ (by rw [show topLoops csCF = [] from by kernel_rfl]; simp), LoopsOk.none⟩
theorem F_sCF_eq (k : Nat) (rec : Rec1) (p0 p1 : PVal) : fnX prog cfsCF .pure rec gl (fun _ => losCF k rec) i_sCF [p0, p1] = F_sCF k rec p0 p1 := by kernel_rfl
theorem F_sCF_known {k : Nat} {rec : Rec1} (h : RecKnown prog gl rec) {p0 p1 : PVal} {v : AVal} (hv : F_sCF k rec p0 p1 = some v) (hg : goodV v = true) : goodV v = true ∧ Known prog gl i_sCF ([p0, p1].map .p) (adopt 0 v).1 (adopt 0 v).2 :=
  fnX_fact (cf := cfsCF) (out := .pure) (lo := losCF k rec) fine h func_sCF (by kernel_rfl : fn_sCF.body = some csCF) (by kernel_rfl) (xlsCF h) ((F_sCF_eq k rec p0 p1).trans hv) hg
def ctOr_1 : Code := match fn_tOr_1.body with
  | some c => c
  | none => .skip
def cftOr_1 : Cfg := ⟨shOf prog, sitesOf prog [(8, 4)] [] [], ximp⟩
def lotOr_1 (k : Nat) (rec : Rec1) : Loops AVal := fun id tm σ K => none
def F_tOr_1 (k : Nat) (rec : Rec1) (p0 p1 p2 : PVal) : OA :=
  (intK .i64 p0 fun z1 =>
  (ipK p1 fun x2 =>
  (aggK x2 fun l3 =>
  (chk (Nat.beq (List.length l3) 9)
    (ipK p2 fun x4 =>
    (chk (!(isAggP x4))
      (intK .i64 x4 fun z5 =>
      (bindK (rec i_tCo ((PVal.agg l3) :: ((PVal.int .i64 z1) :: [(PVal.int .i64 z5)]))) fun x6 =>
      (pK x6 fun x7 =>
      (boolK x7 fun b8 =>
      (some (AVal.p (PVal.bool b8)))))))))))))
theorem xltOr_1 {k : Nat} {rec : Rec1} (h : RecKnown prog gl rec) : XLoops prog gl 9 (lotOr_1 k rec) ctOr_1 :=
  ⟨_, loopsIn_of _ (by rw [show topLoops ctOr_1 = [] from by kernel_rfl]; simp), LoopsOk.none⟩
theorem F_tOr_1_eq (k : Nat) (rec : Rec1) (p0 p1 p2 : PVal) : fnX prog cftOr_1 .pure rec gl (fun _ => lotOr_1 k rec) i_tOr_1 [p0, p1, p2] = F_tOr_1 k rec p0 p1 p2 := by kernel_rfl
theorem F_tOr_1_known {k : Nat} {rec : Rec1} (h : RecKnown prog gl rec) {p0 p1 p2 : PVal} {v : AVal} (hv : F_tOr_1 k rec p0 p1 p2 = some v) (hg : goodV v = true) : goodV v = true ∧ Known prog gl i_tOr_1 ([p0, p1, p2].map .p) (adopt 0 v).1 (adopt 0 v).2 :=
  fnX_fact (cf := cftOr_1) (out := .pure) (lo := lotOr_1 k rec) fine h func_tOr_1 (by kernel_rfl : fn_tOr_1.body = some ctOr_1) (by kernel_rfl) (xltOr_1 h) ((F_tOr_1_eq k rec p0 p1 p2).trans hv) hg
def crall : Code := match fn_rall.body with
  | some c => c
  | none => .skip
def cfrall : Cfg := ⟨shOf prog, sitesOf prog [(20, 23)] [] [], ximp⟩
inductive St_rall_0 where
  | a (a0 : PVal) (a1 : Int)
  | b (a0 : PVal) (a1 : Nat) (a2 : Int) (a3 : List PVal)
inductive Exrall_0 where
  | a
  | b (a0 : Nat) (a1 : List PVal)
def mkrall_0 (s : St_rall_0) : XC := match s with
  | .a v0 v1 => (XC.mk (List.cons (AVal.p v0) (List.cons (AVal.p PVal.nils) (List.cons (AVal.p (PVal.int .i64 v1)) []))) [])
  | .b v0 v1 v2 v3 => (XC.mk (List.cons (AVal.p v0) (List.cons (AVal.arr 0 0 0 v1 false) (List.cons (AVal.p (PVal.int .i64 v2)) []))) (List.cons (XObj.arr 1 v3 0 0 0) []))
def rdrall_0 {α : Type} (c : XC) (K : St_rall_0 → Option α) : Option α := match c with
  | (XC.mk (List.cons (AVal.p v0) (List.cons (AVal.p PVal.nils) (List.cons (AVal.p (PVal.int .i64 v1)) []))) []) => K (.a v0 v1)
  | (XC.mk (List.cons (AVal.p v0) (List.cons (AVal.arr 0 0 0 v1 false) (List.cons (AVal.p (PVal.int .i64 v2)) []))) (List.cons (XObj.arr 1 v3 0 0 0) [])) => K (.b v0 v1 v2 v3)
  | _ => none
theorem rdrall_0_some {α : Type} {r : α} {c : XC} {K : St_rall_0 → Option α} (h : rdrall_0 c K = some r) : ∃ s, c = mkrall_0 s ∧ K s = some r := by
  unfold rdrall_0 at h
  split at h <;> first | exact ⟨_, rfl, h⟩ | simp at h
def outsrall_0 : XE → List Nat := (outsOf [(0, [3])] [2])
def liverall_0 : List Nat := [0, 3, 4]
def kxrall_0 (K : KX) (x : Exrall_0) : OA := match x with
  | .a => K XE.normal (tmOf gl (outsrall_0 (XE.exit 0)) (XC.vals (XC.mk (List.cons (AVal.p PVal.nils) []) []))) (XC.st (XC.mk (List.cons (AVal.p PVal.nils) []) []))
  | .b v0 v1 => K XE.normal (tmOf gl (outsrall_0 (XE.exit 0)) (XC.vals (XC.mk (List.cons (AVal.arr 0 0 0 v0 false) []) (List.cons (XObj.arr 1 v1 0 0 0) [])))) (XC.st (XC.mk (List.cons (AVal.arr 0 0 0 v0 false) []) (List.cons (XObj.arr 1 v1 0 0 0) [])))
def brall_0 : Code := match findLoop 0 crall with
  | some c => c
  | none => .skip
def S_rall_0 (k : Nat) (rec : Rec1) (kn : St_rall_0 → OA) (kx : Exrall_0 → OA) (s : St_rall_0) : OA := match s with
  | .a x7 z8 =>
    (slK x7 fun l9 =>
    (ifB (decide (z8 < (((List.length l9) : Nat) : Int)))
      (slK x7 fun l10 =>
      (natK z8 fun n11 =>
      (nthK l10 n11 fun x12 =>
      (aggK x12 fun l13 =>
      (consK l13 fun x14 l15 =>
      (intK .i64 x14 fun z16 =>
      (consK l15 fun x17 l18 =>
      (boolK x17 fun b19 =>
      (consK l18 fun x20 l21 =>
      (intK .i64 x20 fun z22 =>
      (endK l21
        (kn (.b x7 1 (IntKind.wrap .i64 (z8 + (Int.ofNat 1))) [(PVal.int .i64 z16)])))))))))))))
      (kx (.a))))
  | .b x23 n24 z25 l26 =>
    (slK x23 fun l27 =>
    (ifB (decide (z25 < (((List.length l27) : Nat) : Int)))
      (slK x23 fun l28 =>
      (natK z25 fun n29 =>
      (nthK l28 n29 fun x30 =>
      (aggK x30 fun l31 =>
      (consK l31 fun x32 l33 =>
      (intK .i64 x32 fun z34 =>
      (consK l33 fun x35 l36 =>
      (boolK x35 fun b37 =>
      (consK l36 fun x38 l39 =>
      (intK .i64 x38 fun z40 =>
      (endK l39
        (chk (Nat.beq n24 (List.length l26))
          (chk (Nat.ble ((n24 + 1) * 8) 1099511627776)
            (kn (.b x23 (n24 + 1) (IntKind.wrap .i64 (z25 + (Int.ofNat 1))) (l26 ++ [(PVal.int .i64 z34)]))))))))))))))))
      (kx (.b n24 l26))))
def L_rall_0 (k : Nat) (rec : Rec1) (kx : Exrall_0 → OA) : Nat → St_rall_0 → OA
  | 0, _ => none
  | j + 1, s => S_rall_0 k rec (L_rall_0 k rec kx j) kx s
def lorall (k : Nat) (rec : Rec1) : Loops AVal := fun id tm σ K =>
  match Nat.beq id 0 with
  | true => canon liverall_0 tm σ fun c => rdrall_0 c fun s => L_rall_0 k rec (kxrall_0 K) k s
  | false => none
def F_rall (k : Nat) (rec : Rec1) (p0 : PVal) : OA :=
  (L_rall_0 k rec (fun x => match x with
    | .a => (bindK (rec i_rrising [PVal.nils, (PVal.int .i64 (Int.ofNat 8))]) fun x1 =>
      (pK x1 fun x2 =>
      (some (AVal.p x2))))
    | .b n3 l4 => (chk (Nat.ble (0 + n3) (List.length l4))
        (bindK (rec i_rrising [(PVal.sl (List.take n3 (List.drop 0 l4))), (PVal.int .i64 (Int.ofNat 8))]) fun x5 =>
        (pK x5 fun x6 =>
        (ifB (flatP x6)
          (some (AVal.p x6))
          (some (AVal.p x6))))))) k (.a p0 (Int.ofNat 0)))
theorem S_rall_0_eq (k : Nat) (rec : Rec1) (Kn : XC → OA) (K : KX) (s : St_rall_0) : codeK prog cfrall rec 21 (lorall k rec) brall_0 (tmOf gl liverall_0 (mkrall_0 s).vals) (mkrall_0 s).st (roundK gl 0 liverall_0 outsrall_0 Kn K) = S_rall_0 k rec (fun s => Kn (mkrall_0 s)) (kxrall_0 K) s := by
  cases s <;> kernel_rfl
theorem L_rall_0_eq (k : Nat) (rec : Rec1) (K : KX) : ∀ (j : Nat) (s : St_rall_0), loopX prog cfrall rec 21 gl (lorall k rec) 0 liverall_0 outsrall_0 brall_0 j (mkrall_0 s) K = L_rall_0 k rec (kxrall_0 K) j s
  | 0, _ => rfl
  | j + 1, s => by
    simp only [loopX]
    rw [S_rall_0_eq]
    exact congrArg (fun q => S_rall_0 k rec q (kxrall_0 K) s) (funext fun s' => L_rall_0_eq k rec K j s')
theorem xlrall {k : Nat} {rec : Rec1} (h : RecKnown prog gl rec) : XLoops prog gl 21 (lorall k rec) crall :=
  ⟨_, loopsIn_of _ (by rw [show topLoops crall = [(0, brall_0)] from by kernel_rfl]; simp), (LoopsOk.add (evCall_ok (memoX_ok h) fine 1) (recOk h cfrall.imp 0 0) fine (Nat.le_of_ble_eq_true rfl) LoopsOk.none 0 liverall_0 outsrall_0 brall_0 (by kernel_rfl) (loopsIn_of _ (by rw [show topLoops brall_0 = [] from by kernel_rfl]; simp)) (fun tm σ K r hk => ⟨k, canon_mono (fun c hc => by
    obtain ⟨s, e, hs⟩ := rdrall_0_some hc
    rw [e, L_rall_0_eq]
    exact hs) hk⟩))⟩
theorem F_rall_eq (k : Nat) (rec : Rec1) (p0 : PVal) : fnX prog cfrall .pure rec gl (fun _ => lorall k rec) i_rall [p0] = F_rall k rec p0 := by kernel_rfl
theorem F_rall_known {k : Nat} {rec : Rec1} (h : RecKnown prog gl rec) {p0 : PVal} {v : AVal} (hv : F_rall k rec p0 = some v) (hg : goodV v = true) : goodV v = true ∧ Known prog gl i_rall ([p0].map .p) (adopt 0 v).1 (adopt 0 v).2 :=
  fnX_fact (cf := cfrall) (out := .pure) (lo := lorall k rec) fine h func_rall (by kernel_rfl : fn_rall.body = some crall) (by kernel_rfl) (xlrall h) ((F_rall_eq k rec p0).trans hv) hg
def ctRd : Code := match fn_tRd.body with
  | some c => c
  | none => .skip
def cftRd : Cfg := ⟨shOf prog, sitesOf prog [(54, 23), (49, 23), (44, 4), (39, 4), (22, 4)] [] [49], ximp⟩
inductive St_tRd_0 where
  | a (a0 : PVal) (a1 : Int) (a2 : Int) (a3 : List PVal)
inductive ExtRd_0 where
  | a (a0 : PVal)
  | b
def mktRd_0 (s : St_tRd_0) : XC := match s with
  | .a v0 v1 v2 v3 => (XC.mk (List.cons (AVal.p v0) (List.cons (AVal.p (PVal.int .i64 v1)) (List.cons (AVal.box 0 0) (List.cons (AVal.p (PVal.int .i64 v2)) [])))) (List.cons (XObj.pbox v3) []))
def rdtRd_0 {α : Type} (c : XC) (K : St_tRd_0 → Option α) : Option α := match c with
  | (XC.mk (List.cons (AVal.p v0) (List.cons (AVal.p (PVal.int .i64 v1)) (List.cons (AVal.box 0 0) (List.cons (AVal.p (PVal.int .i64 v2)) [])))) (List.cons (XObj.pbox v3) [])) => K (.a v0 v1 v2 v3)
  | _ => none
theorem rdtRd_0_some {α : Type} {r : α} {c : XC} {K : St_tRd_0 → Option α} (h : rdtRd_0 c K = some r) : ∃ s, c = mktRd_0 s ∧ K s = some r := by
  unfold rdtRd_0 at h
  split at h <;> first | exact ⟨_, rfl, h⟩ | simp at h
def outstRd_0 : XE → List Nat := (outsOf [(0, [])] [6])
def livetRd_0 : List Nat := [1, 2, 3, 24]
def kxtRd_0 (K : KX) (x : ExtRd_0) : OA := match x with
  | .a v0 => K XE.ret (tmOf gl (outstRd_0 XE.ret) (XC.vals (XC.mk (List.cons (AVal.p v0) []) []))) (XC.st (XC.mk (List.cons (AVal.p v0) []) []))
  | .b => K XE.normal (tmOf gl (outstRd_0 (XE.exit 0)) (XC.vals (XC.mk [] []))) (XC.st (XC.mk [] []))
def btRd_0 : Code := match findLoop 0 ctRd with
  | some c => c
  | none => .skip
def S_tRd_0 (k : Nat) (rec : Rec1) (kn : St_tRd_0 → OA) (kx : ExtRd_0 → OA) (s : St_tRd_0) : OA := match s with
  | .a x15 z16 z17 l18 =>
    (ifB (decide (z17 < (Int.ofNat 8)))
      (slK x15 fun l19 =>
      (ifB (decide ((((List.length l19) : Nat) : Int) > (Int.ofNat 0)))
        (chk (Nat.ble 9 (List.length l18))
          (slK x15 fun l20 =>
          (slK x15 fun l21 =>
          (natK (IntKind.wrap .i64 ((((List.length l20) : Nat) : Int) - (Int.ofNat 1))) fun n22 =>
          (nthK l21 n22 fun x23 =>
          (intK .i64 x23 fun z24 =>
          (bindK (rec i_tCo ((PVal.agg (List.take 9 (List.drop 0 l18))) :: ((PVal.int .i64 z24) :: [(PVal.int .i64 z17)]))) fun x25 =>
          (pK x25 fun x26 =>
          (boolK x26 fun b27 =>
          (ifB (!b27)
            (kn (.a x15 z16 (IntKind.wrap .i64 (z17 + (Int.ofNat 1))) l18))
            (bindK (rec i_sCn (x15 :: [(PVal.int .i64 z17)])) fun x28 =>
            (pK x28 fun x29 =>
            (boolK x29 fun b30 =>
            (ifB b30
              (kn (.a x15 z16 (IntKind.wrap .i64 (z17 + (Int.ofNat 1))) l18))
              (chk (Nat.ble 9 (List.length l18))
                (bindK (rec i_sCl [x15]) fun x31 =>
                (nclK x31
                  (bindK (rec i_tRd ((PVal.agg (List.take 9 (List.drop 0 l18))) :: ((PVal.sl (List.take 1 (List.drop 0 [(PVal.int .i64 z17)]))) :: [(PVal.int .i64 z16)]))) fun x32 =>
                  (pK x32 fun x33 =>
                  (ifB (flatP x33)
                    (nilSK x33 fun b34 =>
                    (ifB (!b34)
                      (kx (.a x33))
                      (kn (.a x15 z16 (IntKind.wrap .i64 (z17 + (Int.ofNat 1))) l18))))
                    (nilSK x33 fun b35 =>
                    (ifB (!b35)
                      (kx (.a x33))
                      (kn (.a x15 z16 (IntKind.wrap .i64 (z17 + (Int.ofNat 1))) l18))))))) fun l36 =>
                (chk (widths false 1 l36)
                  (chk (Nat.ble (((List.length l36) + 1) * 8) 1099511627776)
                    (chk (Nat.ble (0 + ((List.length l36) + 1)) (List.length (l36 ++ [(PVal.int .i64 z17)])))
                      (bindK (rec i_tRd ((PVal.agg (List.take 9 (List.drop 0 l18))) :: ((PVal.sl (List.take ((List.length l36) + 1) (List.drop 0 (l36 ++ [(PVal.int .i64 z17)])))) :: [(PVal.int .i64 z16)]))) fun x37 =>
                      (pK x37 fun x38 =>
                      (ifB (flatP x38)
                        (nilSK x38 fun b39 =>
                        (ifB (!b39)
                          (kx (.a x38))
                          (kn (.a x15 z16 (IntKind.wrap .i64 (z17 + (Int.ofNat 1))) l18))))
                        (nilSK x38 fun b40 =>
                        (ifB (!b40)
                          (kx (.a x38))
                          (kn (.a x15 z16 (IntKind.wrap .i64 (z17 + (Int.ofNat 1))) l18)))))))))))))))))))))))))))
        (chk (Nat.ble 9 (List.length l18))
          (bindK (rec i_sCl [x15]) fun x41 =>
          (nclK x41
            (bindK (rec i_tRd ((PVal.agg (List.take 9 (List.drop 0 l18))) :: ((PVal.sl (List.take 1 (List.drop 0 [(PVal.int .i64 z17)]))) :: [(PVal.int .i64 z16)]))) fun x42 =>
            (pK x42 fun x43 =>
            (ifB (flatP x43)
              (nilSK x43 fun b44 =>
              (ifB (!b44)
                (kx (.a x43))
                (kn (.a x15 z16 (IntKind.wrap .i64 (z17 + (Int.ofNat 1))) l18))))
              (nilSK x43 fun b45 =>
              (ifB (!b45)
                (kx (.a x43))
                (kn (.a x15 z16 (IntKind.wrap .i64 (z17 + (Int.ofNat 1))) l18))))))) fun l46 =>
          (chk (widths false 1 l46)
            (chk (Nat.ble (((List.length l46) + 1) * 8) 1099511627776)
              (chk (Nat.ble (0 + ((List.length l46) + 1)) (List.length (l46 ++ [(PVal.int .i64 z17)])))
                (bindK (rec i_tRd ((PVal.agg (List.take 9 (List.drop 0 l18))) :: ((PVal.sl (List.take ((List.length l46) + 1) (List.drop 0 (l46 ++ [(PVal.int .i64 z17)])))) :: [(PVal.int .i64 z16)]))) fun x47 =>
                (pK x47 fun x48 =>
                (ifB (flatP x48)
                  (nilSK x48 fun b49 =>
                  (ifB (!b49)
                    (kx (.a x48))
                    (kn (.a x15 z16 (IntKind.wrap .i64 (z17 + (Int.ofNat 1))) l18))))
                  (nilSK x48 fun b50 =>
                  (ifB (!b50)
                    (kx (.a x48))
                    (kn (.a x15 z16 (IntKind.wrap .i64 (z17 + (Int.ofNat 1))) l18)))))))))))))))
      (kx (.b)))
def L_tRd_0 (k : Nat) (rec : Rec1) (kx : ExtRd_0 → OA) : Nat → St_tRd_0 → OA
  | 0, _ => none
  | j + 1, s => S_tRd_0 k rec (L_tRd_0 k rec kx j) kx s
def lotRd (k : Nat) (rec : Rec1) : Loops AVal := fun id tm σ K =>
  match Nat.beq id 0 with
  | true => canon livetRd_0 tm σ fun c => rdtRd_0 c fun s => L_tRd_0 k rec (kxtRd_0 K) k s
  | false => none
def F_tRd (k : Nat) (rec : Rec1) (p0 p1 p2 : PVal) : OA :=
  (intK .i64 p2 fun z1 =>
  (aggK p0 fun l2 =>
  (chk (Nat.beq (List.length l2) 9)
    (slK p1 fun l3 =>
    (ifB ((((List.length l3) : Nat) : Int) == z1)
      (chk (Nat.ble 9 (List.length l2))
        (slK p1 fun l4 =>
        (natK (IntKind.wrap .i64 (z1 - (Int.ofNat 1))) fun n5 =>
        (nthK l4 n5 fun x6 =>
        (intK .i64 x6 fun z7 =>
        (slK p1 fun l8 =>
        (nthK l8 0 fun x9 =>
        (intK .i64 x9 fun z10 =>
        (bindK (rec i_tCo ((PVal.agg (List.take 9 (List.drop 0 l2))) :: ((PVal.int .i64 z7) :: [(PVal.int .i64 z10)]))) fun x11 =>
        (pK x11 fun x12 =>
        (boolK x12 fun b13 =>
        (ifB b13
          (some (AVal.p p1))
          (some (AVal.p PVal.nils))))))))))))))
      (L_tRd_0 k rec (fun x => match x with
        | .a x14 => (some (AVal.p x14))
        | .b => (some (AVal.p PVal.nils))) k (.a p1 z1 (Int.ofNat 0) l2)))))))
theorem S_tRd_0_eq (k : Nat) (rec : Rec1) (Kn : XC → OA) (K : KX) (s : St_tRd_0) : codeK prog cftRd rec 59 (lotRd k rec) btRd_0 (tmOf gl livetRd_0 (mktRd_0 s).vals) (mktRd_0 s).st (roundK gl 0 livetRd_0 outstRd_0 Kn K) = S_tRd_0 k rec (fun s => Kn (mktRd_0 s)) (kxtRd_0 K) s := by
  cases s <;> kernel_rfl
theorem L_tRd_0_eq (k : Nat) (rec : Rec1) (K : KX) : ∀ (j : Nat) (s : St_tRd_0), loopX prog cftRd rec 59 gl (lotRd k rec) 0 livetRd_0 outstRd_0 btRd_0 j (mktRd_0 s) K = L_tRd_0 k rec (kxtRd_0 K) j s
  | 0, _ => rfl
  | j + 1, s => by
    simp only [loopX]
    rw [S_tRd_0_eq]
    exact congrArg (fun q => S_tRd_0 k rec q (kxtRd_0 K) s) (funext fun s' => L_tRd_0_eq k rec K j s')
theorem xltRd {k : Nat} {rec : Rec1} (h : RecKnown prog gl rec) : XLoops prog gl 59 (lotRd k rec) ctRd :=
  ⟨_, loopsIn_of _ (by rw [show topLoops ctRd = [(0, btRd_0)] from by kernel_rfl]; simp), (LoopsOk.add (evCall_ok (memoX_ok h) fine 1) (recOk h cftRd.imp 0 0) fine (Nat.le_of_ble_eq_true rfl) LoopsOk.none 0 livetRd_0 outstRd_0 btRd_0 (by kernel_rfl) (loopsIn_of _ (by rw [show topLoops btRd_0 = [] from by kernel_rfl]; simp)) (fun tm σ K r hk => ⟨k, canon_mono (fun c hc => by
    obtain ⟨s, e, hs⟩ := rdtRd_0_some hc
    rw [e, L_tRd_0_eq]
    exact hs) hk⟩))⟩
theorem F_tRd_eq (k : Nat) (rec : Rec1) (p0 p1 p2 : PVal) : fnX prog cftRd .pure rec gl (fun _ => lotRd k rec) i_tRd [p0, p1, p2] = F_tRd k rec p0 p1 p2 := by kernel_rfl
theorem F_tRd_known {k : Nat} {rec : Rec1} (h : RecKnown prog gl rec) {p0 p1 p2 : PVal} {v : AVal} (hv : F_tRd k rec p0 p1 p2 = some v) (hg : goodV v = true) : goodV v = true ∧ Known prog gl i_tRd ([p0, p1, p2].map .p) (adopt 0 v).1 (adopt 0 v).2 :=
  fnX_fact (cf := cftRd) (out := .pure) (lo := lotRd k rec) fine h func_tRd (by kernel_rfl : fn_tRd.body = some ctRd) (by kernel_rfl) (xltRd h) ((F_tRd_eq k rec p0 p1 p2).trans hv) hg
def crround : Code := match fn_rround.body with
  | some c => c
  | none => .skip
def cfrround : Cfg := ⟨shOf prog, sitesOf prog [(64, 23), (33, 4), (18, 4)] [] [], ximp⟩
inductive St_rround_0 where
  | a (a0 : PVal) (a1 : Int) (a2 : PVal) (a3 : Int) (a4 : List PVal)
inductive Exrround_0 where
  | a (a0 : PVal)
  | b
def mkrround_0 (s : St_rround_0) : XC := match s with
  | .a v0 v1 v2 v3 v4 => (XC.mk (List.cons (AVal.p v0) (List.cons (AVal.p (PVal.int .i64 v1)) (List.cons (AVal.p v2) (List.cons (AVal.box 0 0) (List.cons (AVal.p (PVal.int .i64 v3)) []))))) (List.cons (XObj.pbox v4) []))
def rdrround_0 {α : Type} (c : XC) (K : St_rround_0 → Option α) : Option α := match c with
  | (XC.mk (List.cons (AVal.p v0) (List.cons (AVal.p (PVal.int .i64 v1)) (List.cons (AVal.p v2) (List.cons (AVal.box 0 0) (List.cons (AVal.p (PVal.int .i64 v3)) []))))) (List.cons (XObj.pbox v4) [])) => K (.a v0 v1 v2 v3 v4)
  | _ => none
theorem rdrround_0_some {α : Type} {r : α} {c : XC} {K : St_rround_0 → Option α} (h : rdrround_0 c K = some r) : ∃ s, c = mkrround_0 s ∧ K s = some r := by
  unfold rdrround_0 at h
  split at h <;> first | exact ⟨_, rfl, h⟩ | simp at h
def outsrround_0 : XE → List Nat := (outsOf [(0, [])] [8])
def liverround_0 : List Nat := [1, 2, 3, 4, 9]
def kxrround_0 (K : KX) (x : Exrround_0) : OA := match x with
  | .a v0 => K XE.ret (tmOf gl (outsrround_0 XE.ret) (XC.vals (XC.mk (List.cons (AVal.p v0) []) []))) (XC.st (XC.mk (List.cons (AVal.p v0) []) []))
  | .b => K XE.normal (tmOf gl (outsrround_0 (XE.exit 0)) (XC.vals (XC.mk [] []))) (XC.st (XC.mk [] []))
def brround_0 : Code := match findLoop 0 crround with
  | some c => c
  | none => .skip
def S_rround_0 (k : Nat) (rec : Rec1) (kn : St_rround_0 → OA) (kx : Exrround_0 → OA) (s : St_rround_0) : OA := match s with
  | .a x8 z9 x10 z11 l12 =>
    (slK x8 fun l13 =>
    (ifB (decide (z11 < (((List.length l13) : Nat) : Int)))
      (slK x10 fun l14 =>
      (slK x8 fun l15 =>
      (natK z11 fun n16 =>
      (nthK l15 n16 fun x17 =>
      (intK .i64 x17 fun z18 =>
      (bindK (rec i_qListed (x10 :: [(PVal.int .i64 z18)])) fun x19 =>
      (pK x19 fun x20 =>
      (boolK x20 fun b21 =>
      (ifB b21
        (kn (.a x8 z9 x10 (IntKind.wrap .i64 (z11 + (Int.ofNat 1))) l12))
        (ifB (decide ((((List.length l14) : Nat) : Int) > (Int.ofNat 0)))
          (slK x10 fun l22 =>
          (natK (IntKind.wrap .i64 ((((List.length l14) : Nat) : Int) - (Int.ofNat 1))) fun n23 =>
          (nthK l22 n23 fun x24 =>
          (intK .i64 x24 fun z25 =>
          (slK x8 fun l26 =>
          (natK z11 fun n27 =>
          (nthK l26 n27 fun x28 =>
          (intK .i64 x28 fun z29 =>
          (natK z25 fun n30 =>
          (chk (Nat.blt n30 8)
            (natK z29 fun n31 =>
            (chk (Nat.blt n31 8)
              (nthK l12 ((0 + (n30 * 8)) + (n31 * 1)) fun x32 =>
              (boolK x32 fun b33 =>
              (ifB (!b33)
                (kn (.a x8 z9 x10 (IntKind.wrap .i64 (z11 + (Int.ofNat 1))) l12))
                (chk (Nat.ble 64 (List.length l12))
                  (slK x10 fun l34 =>
                  (chk (widths false 1 l34)
                    (listK l34
                      (slK x8 fun l35 =>
                      (natK z11 fun n36 =>
                      (nthK l35 n36 fun x37 =>
                      (intK .i64 x37 fun z38 =>
                      (bindK (rec i_rround ((PVal.agg (List.take 64 (List.drop 0 l12))) :: (x8 :: ((PVal.int .i64 z9) :: [(PVal.sl (List.take 1 (List.drop 0 [(PVal.int .i64 z38)])))])))) fun x39 =>
                      (pK x39 fun x40 =>
                      (ifB (flatP x40)
                        (slK x40 fun l41 =>
                        (ifB (decide ((((List.length l41) : Nat) : Int) > (Int.ofNat 0)))
                          (kx (.a x40))
                          (kn (.a x8 z9 x10 (IntKind.wrap .i64 (z11 + (Int.ofNat 1))) l12))))
                        (slK x40 fun l42 =>
                        (ifB (decide ((((List.length l42) : Nat) : Int) > (Int.ofNat 0)))
                          (kx (.a x40))
                          (kn (.a x8 z9 x10 (IntKind.wrap .i64 (z11 + (Int.ofNat 1))) l12))))))))))) fun x43 l44 =>
                    (chk (Nat.ble ((List.length (x43 :: l44)) * 8) 1099511627776)
                      (slK x8 fun l45 =>
                      (natK z11 fun n46 =>
                      (nthK l45 n46 fun x47 =>
                      (intK .i64 x47 fun z48 =>
                      (chk (Nat.beq (List.length (x43 :: l44)) (List.length (x43 :: l44)))
                        (chk (Nat.ble (((List.length (x43 :: l44)) + 1) * 8) 1099511627776)
                          (chk (Nat.ble (0 + ((List.length (x43 :: l44)) + 1)) (List.length ((x43 :: l44) ++ [(PVal.int .i64 z48)])))
                            (bindK (rec i_rround ((PVal.agg (List.take 64 (List.drop 0 l12))) :: (x8 :: ((PVal.int .i64 z9) :: [(PVal.sl (List.take ((List.length (x43 :: l44)) + 1) (List.drop 0 ((x43 :: l44) ++ [(PVal.int .i64 z48)]))))])))) fun x49 =>
                            (pK x49 fun x50 =>
                            (ifB (flatP x50)
                              (slK x50 fun l51 =>
                              (ifB (decide ((((List.length l51) : Nat) : Int) > (Int.ofNat 0)))
                                (kx (.a x50))
                                (kn (.a x8 z9 x10 (IntKind.wrap .i64 (z11 + (Int.ofNat 1))) l12))))
                              (slK x50 fun l52 =>
                              (ifB (decide ((((List.length l52) : Nat) : Int) > (Int.ofNat 0)))
                                (kx (.a x50))
                                (kn (.a x8 z9 x10 (IntKind.wrap .i64 (z11 + (Int.ofNat 1))) l12))))))))))))))))))))))))))))))))))
          (chk (Nat.ble 64 (List.length l12))
            (slK x10 fun l53 =>
            (chk (widths false 1 l53)
              (listK l53
                (slK x8 fun l54 =>
                (natK z11 fun n55 =>
                (nthK l54 n55 fun x56 =>
                (intK .i64 x56 fun z57 =>
                (bindK (rec i_rround ((PVal.agg (List.take 64 (List.drop 0 l12))) :: (x8 :: ((PVal.int .i64 z9) :: [(PVal.sl (List.take 1 (List.drop 0 [(PVal.int .i64 z57)])))])))) fun x58 =>
                (pK x58 fun x59 =>
                (ifB (flatP x59)
                  (slK x59 fun l60 =>
                  (ifB (decide ((((List.length l60) : Nat) : Int) > (Int.ofNat 0)))
                    (kx (.a x59))
                    (kn (.a x8 z9 x10 (IntKind.wrap .i64 (z11 + (Int.ofNat 1))) l12))))
                  (slK x59 fun l61 =>
                  (ifB (decide ((((List.length l61) : Nat) : Int) > (Int.ofNat 0)))
                    (kx (.a x59))
                    (kn (.a x8 z9 x10 (IntKind.wrap .i64 (z11 + (Int.ofNat 1))) l12))))))))))) fun x62 l63 =>
              (chk (Nat.ble ((List.length (x62 :: l63)) * 8) 1099511627776)
                (slK x8 fun l64 =>
                (natK z11 fun n65 =>
                (nthK l64 n65 fun x66 =>
                (intK .i64 x66 fun z67 =>
                (chk (Nat.beq (List.length (x62 :: l63)) (List.length (x62 :: l63)))
                  (chk (Nat.ble (((List.length (x62 :: l63)) + 1) * 8) 1099511627776)
                    (chk (Nat.ble (0 + ((List.length (x62 :: l63)) + 1)) (List.length ((x62 :: l63) ++ [(PVal.int .i64 z67)])))
                      (bindK (rec i_rround ((PVal.agg (List.take 64 (List.drop 0 l12))) :: (x8 :: ((PVal.int .i64 z9) :: [(PVal.sl (List.take ((List.length (x62 :: l63)) + 1) (List.drop 0 ((x62 :: l63) ++ [(PVal.int .i64 z67)]))))])))) fun x68 =>
                      (pK x68 fun x69 =>
                      (ifB (flatP x69)
                        (slK x69 fun l70 =>
                        (ifB (decide ((((List.length l70) : Nat) : Int) > (Int.ofNat 0)))
                          (kx (.a x69))
                          (kn (.a x8 z9 x10 (IntKind.wrap .i64 (z11 + (Int.ofNat 1))) l12))))
                        (slK x69 fun l71 =>
                        (ifB (decide ((((List.length l71) : Nat) : Int) > (Int.ofNat 0)))
                          (kx (.a x69))
                          (kn (.a x8 z9 x10 (IntKind.wrap .i64 (z11 + (Int.ofNat 1))) l12)))))))))))))))))))))))))))))
      (kx (.b))))
def L_rround_0 (k : Nat) (rec : Rec1) (kx : Exrround_0 → OA) : Nat → St_rround_0 → OA
  | 0, _ => none
  | j + 1, s => S_rround_0 k rec (L_rround_0 k rec kx j) kx s
def lorround (k : Nat) (rec : Rec1) : Loops AVal := fun id tm σ K =>
  match Nat.beq id 0 with
  | true => canon liverround_0 tm σ fun c => rdrround_0 c fun s => L_rround_0 k rec (kxrround_0 K) k s
  | false => none
def F_rround (k : Nat) (rec : Rec1) (p0 p1 p2 p3 : PVal) : OA :=
  (intK .i64 p2 fun z1 =>
  (aggK p0 fun l2 =>
  (chk (Nat.beq (List.length l2) 64)
    (slK p3 fun l3 =>
    (ifB ((((List.length l3) : Nat) : Int) == z1)
      (chk (Nat.ble 64 (List.length l2))
        (bindK (rec i_rcircled ((PVal.agg (List.take 64 (List.drop 0 l2))) :: [p3])) fun x4 =>
        (pK x4 fun x5 =>
        (boolK x5 fun b6 =>
        (ifB b6
          (some (AVal.p p3))
          (some (AVal.p PVal.nils)))))))
      (L_rround_0 k rec (fun x => match x with
        | .a x7 => (some (AVal.p x7))
        | .b => (some (AVal.p PVal.nils))) k (.a p1 z1 p3 (Int.ofNat 0) l2)))))))
theorem S_rround_0_eq (k : Nat) (rec : Rec1) (Kn : XC → OA) (K : KX) (s : St_rround_0) : codeK prog cfrround rec 69 (lorround k rec) brround_0 (tmOf gl liverround_0 (mkrround_0 s).vals) (mkrround_0 s).st (roundK gl 0 liverround_0 outsrround_0 Kn K) = S_rround_0 k rec (fun s => Kn (mkrround_0 s)) (kxrround_0 K) s := by
  cases s <;> kernel_rfl
theorem L_rround_0_eq (k : Nat) (rec : Rec1) (K : KX) : ∀ (j : Nat) (s : St_rround_0), loopX prog cfrround rec 69 gl (lorround k rec) 0 liverround_0 outsrround_0 brround_0 j (mkrround_0 s) K = L_rround_0 k rec (kxrround_0 K) j s
  | 0, _ => rfl
  | j + 1, s => by
    simp only [loopX]
    rw [S_rround_0_eq]
    exact congrArg (fun q => S_rround_0 k rec q (kxrround_0 K) s) (funext fun s' => L_rround_0_eq k rec K j s')
theorem xlrround {k : Nat} {rec : Rec1} (h : RecKnown prog gl rec) : XLoops prog gl 69 (lorround k rec) crround :=
  ⟨_, loopsIn_of _ (by rw [show topLoops crround = [(0, brround_0)] from by kernel_rfl]; simp), (LoopsOk.add (evCall_ok (memoX_ok h) fine 1) (recOk h cfrround.imp 0 0) fine (Nat.le_of_ble_eq_true rfl) LoopsOk.none 0 liverround_0 outsrround_0 brround_0 (by kernel_rfl) (loopsIn_of _ (by rw [show topLoops brround_0 = [] from by kernel_rfl]; simp)) (fun tm σ K r hk => ⟨k, canon_mono (fun c hc => by
    obtain ⟨s, e, hs⟩ := rdrround_0_some hc
    rw [e, L_rround_0_eq]
    exact hs) hk⟩))⟩
theorem F_rround_eq (k : Nat) (rec : Rec1) (p0 p1 p2 p3 : PVal) : fnX prog cfrround .pure rec gl (fun _ => lorround k rec) i_rround [p0, p1, p2, p3] = F_rround k rec p0 p1 p2 p3 := by kernel_rfl
theorem F_rround_known {k : Nat} {rec : Rec1} (h : RecKnown prog gl rec) {p0 p1 p2 p3 : PVal} {v : AVal} (hv : F_rround k rec p0 p1 p2 p3 = some v) (hg : goodV v = true) : goodV v = true ∧ Known prog gl i_rround ([p0, p1, p2, p3].map .p) (adopt 0 v).1 (adopt 0 v).2 :=
  fnX_fact (cf := cfrround) (out := .pure) (lo := lorround k rec) fine h func_rround (by kernel_rfl : fn_rround.body = some crround) (by kernel_rfl) (xlrround h) ((F_rround_eq k rec p0 p1 p2 p3).trans hv) hg
def csCn : Code := match fn_sCn.body with
  | some c => c
  | none => .skip
def cfsCn : Cfg := ⟨shOf prog, sitesOf prog [(7, 3)] [] [], ximp⟩
def losCn (k : Nat) (rec : Rec1) : Loops AVal := fun id tm σ K => none
def F_sCn (k : Nat) (rec : Rec1) (p0 p1 : PVal) : OA :=
  (intK .i64 p1 fun z1 =>
  (bindK (rec i_sIx (p0 :: [(PVal.int .i64 z1)])) fun x2 =>
  (pK x2 fun x3 =>
  (intK .i64 x3 fun z4 =>
  (some (AVal.p (PVal.bool (decide (z4 ≥ (Int.ofNat 0))))))))))
theorem xlsCn {k : Nat} {rec : Rec1} (h : RecKnown prog gl rec) : XLoops prog gl 9 (losCn k rec) csCn :=
  ⟨_, loopsIn_of _ (by rw [show topLoops csCn = [] from by kernel_rfl]; simp), LoopsOk.none⟩
theorem F_sCn_eq (k : Nat) (rec : Rec1) (p0 p1 : PVal) : fnX prog cfsCn .pure rec gl (fun _ => losCn k rec) i_sCn [p0, p1] = F_sCn k rec p0 p1 := by kernel_rfl
theorem F_sCn_known {k : Nat} {rec : Rec1} (h : RecKnown prog gl rec) {p0 p1 : PVal} {v : AVal} (hv : F_sCn k rec p0 p1 = some v) (hg : goodV v = true) : goodV v = true ∧ Known prog gl i_sCn ([p0, p1].map .p) (adopt 0 v).1 (adopt 0 v).2 :=
  fnX_fact (cf := cfsCn) (out := .pure) (lo := losCn k rec) fine h func_sCn (by kernel_rfl : fn_sCn.body = some csCn) (by kernel_rfl) (xlsCn h) ((F_sCn_eq k rec p0 p1).trans hv) hg
def crin : Code := match fn_rin.body with
  | some c => c
  | none => .skip
def cfrin : Cfg := ⟨shOf prog, sitesOf prog [] [] [], ximp⟩
def lorin (k : Nat) (rec : Rec1) : Loops AVal := fun id tm σ K => none
def F_rin (k : Nat) (rec : Rec1) (p0 p1 p2 : PVal) : OA :=
  (intK .i64 p0 fun z1 =>
  (intK .i64 p1 fun z2 =>
  (intK .i64 p2 fun z3 =>
  (ifB (decide (z1 ≥ z2))
    (some (AVal.p (PVal.bool (decide (z1 ≤ z3)))))
    (some (AVal.p (PVal.bool false)))))))
theorem xlrin {k : Nat} {rec : Rec1} (h : RecKnown prog gl rec) : XLoops prog gl 15 (lorin k rec) crin :=
  ⟨_, loopsIn_of _ (by rw [show topLoops crin = [] from by kernel_rfl]; simp), LoopsOk.none⟩
theorem F_rin_eq (k : Nat) (rec : Rec1) (p0 p1 p2 : PVal) : fnX prog cfrin .pure rec gl (fun _ => lorin k rec) i_rin [p0, p1, p2] = F_rin k rec p0 p1 p2 := by kernel_rfl
theorem F_rin_known {k : Nat} {rec : Rec1} (h : RecKnown prog gl rec) {p0 p1 p2 : PVal} {v : AVal} (hv : F_rin k rec p0 p1 p2 = some v) (hg : goodV v = true) : goodV v = true ∧ Known prog gl i_rin ([p0, p1, p2].map .p) (adopt 0 v).1 (adopt 0 v).2 :=
  fnX_fact (cf := cfrin) (out := .pure) (lo := lorin k rec) fine h func_rin (by kernel_rfl : fn_rin.body = some crin) (by kernel_rfl) (xlrin h) ((F_rin_eq k rec p0 p1 p2).trans hv) hg
def cqListed : Code := match fn_qListed.body with
  | some c => c
  | none => .skip
def cfqListed : Cfg := ⟨shOf prog, sitesOf prog [] [] [], ximp⟩
inductive St_qListed_0 where
  | a (a0 : PVal) (a1 : Int) (a2 : Int)
inductive ExqListed_0 where
  | a (a0 : Bool)
  | b
def mkqListed_0 (s : St_qListed_0) : XC := match s with
  | .a v0 v1 v2 => (XC.mk (List.cons (AVal.p v0) (List.cons (AVal.p (PVal.int .i64 v1)) (List.cons (AVal.p (PVal.int .i64 v2)) []))) [])
def rdqListed_0 {α : Type} (c : XC) (K : St_qListed_0 → Option α) : Option α := match c with
  | (XC.mk (List.cons (AVal.p v0) (List.cons (AVal.p (PVal.int .i64 v1)) (List.cons (AVal.p (PVal.int .i64 v2)) []))) []) => K (.a v0 v1 v2)
  | _ => none
theorem rdqListed_0_some {α : Type} {r : α} {c : XC} {K : St_qListed_0 → Option α} (h : rdqListed_0 c K = some r) : ∃ s, c = mkqListed_0 s ∧ K s = some r := by
  unfold rdqListed_0 at h
  split at h <;> first | exact ⟨_, rfl, h⟩ | simp at h
def outsqListed_0 : XE → List Nat := (outsOf [(0, [])] [4])
def liveqListed_0 : List Nat := [0, 1, 5]
def kxqListed_0 (K : KX) (x : ExqListed_0) : OA := match x with
  | .a v0 => K XE.ret (tmOf gl (outsqListed_0 XE.ret) (XC.vals (XC.mk (List.cons (AVal.p (PVal.bool v0)) []) []))) (XC.st (XC.mk (List.cons (AVal.p (PVal.bool v0)) []) []))
  | .b => K XE.normal (tmOf gl (outsqListed_0 (XE.exit 0)) (XC.vals (XC.mk [] []))) (XC.st (XC.mk [] []))
def bqListed_0 : Code := match findLoop 0 cqListed with
  | some c => c
  | none => .skip
def S_qListed_0 (k : Nat) (rec : Rec1) (kn : St_qListed_0 → OA) (kx : ExqListed_0 → OA) (s : St_qListed_0) : OA := match s with
  | .a x3 z4 z5 =>
    (slK x3 fun l6 =>
    (ifB (decide (z5 < (((List.length l6) : Nat) : Int)))
      (slK x3 fun l7 =>
      (natK z5 fun n8 =>
      (nthK l7 n8 fun x9 =>
      (intK .i64 x9 fun z10 =>
      (ifB (z10 == z4)
        (kx (.a true))
        (kn (.a x3 z4 (IntKind.wrap .i64 (z5 + (Int.ofNat 1))))))))))
      (kx (.b))))
def L_qListed_0 (k : Nat) (rec : Rec1) (kx : ExqListed_0 → OA) : Nat → St_qListed_0 → OA
  | 0, _ => none
  | j + 1, s => S_qListed_0 k rec (L_qListed_0 k rec kx j) kx s
def loqListed (k : Nat) (rec : Rec1) : Loops AVal := fun id tm σ K =>
  match Nat.beq id 0 with
  | true => canon liveqListed_0 tm σ fun c => rdqListed_0 c fun s => L_qListed_0 k rec (kxqListed_0 K) k s
  | false => none
def F_qListed (k : Nat) (rec : Rec1) (p0 p1 : PVal) : OA :=
  (intK .i64 p1 fun z1 =>
  (L_qListed_0 k rec (fun x => match x with
    | .a b2 => (some (AVal.p (PVal.bool b2)))
    | .b => (some (AVal.p (PVal.bool false)))) k (.a p0 z1 (Int.ofNat 0))))
theorem S_qListed_0_eq (k : Nat) (rec : Rec1) (Kn : XC → OA) (K : KX) (s : St_qListed_0) : codeK prog cfqListed rec 18 (loqListed k rec) bqListed_0 (tmOf gl liveqListed_0 (mkqListed_0 s).vals) (mkqListed_0 s).st (roundK gl 0 liveqListed_0 outsqListed_0 Kn K) = S_qListed_0 k rec (fun s => Kn (mkqListed_0 s)) (kxqListed_0 K) s := by
  cases s <;> kernel_rfl
theorem L_qListed_0_eq (k : Nat) (rec : Rec1) (K : KX) : ∀ (j : Nat) (s : St_qListed_0), loopX prog cfqListed rec 18 gl (loqListed k rec) 0 liveqListed_0 outsqListed_0 bqListed_0 j (mkqListed_0 s) K = L_qListed_0 k rec (kxqListed_0 K) j s
  | 0, _ => rfl
  | j + 1, s => by
    simp only [loopX]
    rw [S_qListed_0_eq]
    exact congrArg (fun q => S_qListed_0 k rec q (kxqListed_0 K) s) (funext fun s' => L_qListed_0_eq k rec K j s')
theorem xlqListed {k : Nat} {rec : Rec1} (h : RecKnown prog gl rec) : XLoops prog gl 18 (loqListed k rec) cqListed :=
  ⟨_, loopsIn_of _ (by rw [show topLoops cqListed = [(0, bqListed_0)] from by kernel_rfl]; simp), (LoopsOk.add (evCall_ok (memoX_ok h) fine 1) (recOk h cfqListed.imp 0 0) fine (Nat.le_of_ble_eq_true rfl) LoopsOk.none 0 liveqListed_0 outsqListed_0 bqListed_0 (by kernel_rfl) (loopsIn_of _ (by rw [show topLoops bqListed_0 = [] from by kernel_rfl]; simp)) (fun tm σ K r hk => ⟨k, canon_mono (fun c hc => by
    obtain ⟨s, e, hs⟩ := rdqListed_0_some hc
    rw [e, L_qListed_0_eq]
    exact hs) hk⟩))⟩
theorem F_qListed_eq (k : Nat) (rec : Rec1) (p0 p1 : PVal) : fnX prog cfqListed .pure rec gl (fun _ => loqListed k rec) i_qListed [p0, p1] = F_qListed k rec p0 p1 := by kernel_rfl
theorem F_qListed_known {k : Nat} {rec : Rec1} (h : RecKnown prog gl rec) {p0 p1 : PVal} {v : AVal} (hv : F_qListed k rec p0 p1 = some v) (hg : goodV v = true) : goodV v = true ∧ Known prog gl i_qListed ([p0, p1].map .p) (adopt 0 v).1 (adopt 0 v).2 :=
  fnX_fact (cf := cfqListed) (out := .pure) (lo := loqListed k rec) fine h func_qListed (by kernel_rfl : fn_qListed.body = some cqListed) (by kernel_rfl) (xlqListed h) ((F_qListed_eq k rec p0 p1).trans hv) hg
def crcircled : Code := match fn_rcircled.body with
  | some c => c
  | none => .skip
def cfrcircled : Cfg := ⟨shOf prog, sitesOf prog [] [] [], ximp⟩
inductive St_rcircled_0 where
  | a (a0 : PVal) (a1 : Int) (a2 : List PVal)
inductive Exrcircled_0 where
  | a (a0 : Bool)
  | b
def mkrcircled_0 (s : St_rcircled_0) : XC := match s with
  | .a v0 v1 v2 => (XC.mk (List.cons (AVal.p v0) (List.cons (AVal.box 0 0) (List.cons (AVal.p (PVal.int .i64 v1)) []))) (List.cons (XObj.pbox v2) []))
def rdrcircled_0 {α : Type} (c : XC) (K : St_rcircled_0 → Option α) : Option α := match c with
  | (XC.mk (List.cons (AVal.p v0) (List.cons (AVal.box 0 0) (List.cons (AVal.p (PVal.int .i64 v1)) []))) (List.cons (XObj.pbox v2) [])) => K (.a v0 v1 v2)
  | _ => none
theorem rdrcircled_0_some {α : Type} {r : α} {c : XC} {K : St_rcircled_0 → Option α} (h : rdrcircled_0 c K = some r) : ∃ s, c = mkrcircled_0 s ∧ K s = some r := by
  unfold rdrcircled_0 at h
  split at h <;> first | exact ⟨_, rfl, h⟩ | simp at h
def outsrcircled_0 : XE → List Nat := (outsOf [(0, [])] [4])
def livercircled_0 : List Nat := [1, 2, 5]
def kxrcircled_0 (K : KX) (x : Exrcircled_0) : OA := match x with
  | .a v0 => K XE.ret (tmOf gl (outsrcircled_0 XE.ret) (XC.vals (XC.mk (List.cons (AVal.p (PVal.bool v0)) []) []))) (XC.st (XC.mk (List.cons (AVal.p (PVal.bool v0)) []) []))
  | .b => K XE.normal (tmOf gl (outsrcircled_0 (XE.exit 0)) (XC.vals (XC.mk [] []))) (XC.st (XC.mk [] []))
def brcircled_0 : Code := match findLoop 0 crcircled with
  | some c => c
  | none => .skip
def S_rcircled_0 (k : Nat) (rec : Rec1) (kn : St_rcircled_0 → OA) (kx : Exrcircled_0 → OA) (s : St_rcircled_0) : OA := match s with
  | .a x3 z4 l5 =>
    (slK x3 fun l6 =>
    (ifB (decide (z4 < (((List.length l6) : Nat) : Int)))
      (slK x3 fun l7 =>
      (natK z4 fun n8 =>
      (nthK l7 n8 fun x9 =>
      (intK .i64 x9 fun z10 =>
      (slK x3 fun l11 =>
      (ifB (decide ((((List.length l11) : Nat) : Int) = (Int.ofNat 0)))
        none
        (slK x3 fun l12 =>
        (natK (Int.tmod (IntKind.wrap .i64 (z4 + (Int.ofNat 1))) (((List.length l11) : Nat) : Int)) fun n13 =>
        (nthK l12 n13 fun x14 =>
        (intK .i64 x14 fun z15 =>
        (natK z10 fun n16 =>
        (chk (Nat.blt n16 8)
          (natK z15 fun n17 =>
          (chk (Nat.blt n17 8)
            (nthK l5 ((0 + (n16 * 8)) + (n17 * 1)) fun x18 =>
            (boolK x18 fun b19 =>
            (ifB (!b19)
              (kx (.a false))
              (kn (.a x3 (IntKind.wrap .i64 (z4 + (Int.ofNat 1))) l5)))))))))))))))))))
      (kx (.b))))
def L_rcircled_0 (k : Nat) (rec : Rec1) (kx : Exrcircled_0 → OA) : Nat → St_rcircled_0 → OA
  | 0, _ => none
  | j + 1, s => S_rcircled_0 k rec (L_rcircled_0 k rec kx j) kx s
def lorcircled (k : Nat) (rec : Rec1) : Loops AVal := fun id tm σ K =>
  match Nat.beq id 0 with
  | true => canon livercircled_0 tm σ fun c => rdrcircled_0 c fun s => L_rcircled_0 k rec (kxrcircled_0 K) k s
  | false => none
def F_rcircled (k : Nat) (rec : Rec1) (p0 p1 : PVal) : OA :=
  (aggK p0 fun l1 =>
  (chk (Nat.beq (List.length l1) 64)
    (L_rcircled_0 k rec (fun x => match x with
      | .a b2 => (some (AVal.p (PVal.bool b2)))
      | .b => (some (AVal.p (PVal.bool true)))) k (.a p1 (Int.ofNat 0) l1))))
theorem S_rcircled_0_eq (k : Nat) (rec : Rec1) (Kn : XC → OA) (K : KX) (s : St_rcircled_0) : codeK prog cfrcircled rec 28 (lorcircled k rec) brcircled_0 (tmOf gl livercircled_0 (mkrcircled_0 s).vals) (mkrcircled_0 s).st (roundK gl 0 livercircled_0 outsrcircled_0 Kn K) = S_rcircled_0 k rec (fun s => Kn (mkrcircled_0 s)) (kxrcircled_0 K) s := by
  cases s <;> kernel_rfl
theorem L_rcircled_0_eq (k : Nat) (rec : Rec1) (K : KX) : ∀ (j : Nat) (s : St_rcircled_0), loopX prog cfrcircled rec 28 gl (lorcircled k rec) 0 livercircled_0 outsrcircled_0 brcircled_0 j (mkrcircled_0 s) K = L_rcircled_0 k rec (kxrcircled_0 K) j s
  | 0, _ => rfl
  | j + 1, s => by
    simp only [loopX]
    rw [S_rcircled_0_eq]
    exact congrArg (fun q => S_rcircled_0 k rec q (kxrcircled_0 K) s) (funext fun s' => L_rcircled_0_eq k rec K j s')
theorem xlrcircled {k : Nat} {rec : Rec1} (h : RecKnown prog gl rec) : XLoops prog gl 28 (lorcircled k rec) crcircled :=
  ⟨_, loopsIn_of _ (by rw [show topLoops crcircled = [(0, brcircled_0)] from by kernel_rfl]; simp), (LoopsOk.add (evCall_ok (memoX_ok h) fine 1) (recOk h cfrcircled.imp 0 0) fine (Nat.le_of_ble_eq_true rfl) LoopsOk.none 0 livercircled_0 outsrcircled_0 brcircled_0 (by kernel_rfl) (loopsIn_of _ (by rw [show topLoops brcircled_0 = [] from by kernel_rfl]; simp)) (fun tm σ K r hk => ⟨k, canon_mono (fun c hc => by
    obtain ⟨s, e, hs⟩ := rdrcircled_0_some hc
    rw [e, L_rcircled_0_eq]
    exact hs) hk⟩))⟩
theorem F_rcircled_eq (k : Nat) (rec : Rec1) (p0 p1 : PVal) : fnX prog cfrcircled .pure rec gl (fun _ => lorcircled k rec) i_rcircled [p0, p1] = F_rcircled k rec p0 p1 := by kernel_rfl
theorem F_rcircled_known {k : Nat} {rec : Rec1} (h : RecKnown prog gl rec) {p0 p1 : PVal} {v : AVal} (hv : F_rcircled k rec p0 p1 = some v) (hg : goodV v = true) : goodV v = true ∧ Known prog gl i_rcircled ([p0, p1].map .p) (adopt 0 v).1 (adopt 0 v).2 :=
  fnX_fact (cf := cfrcircled) (out := .pure) (lo := lorcircled k rec) fine h func_rcircled (by kernel_rfl : fn_rcircled.body = some crcircled) (by kernel_rfl) (xlrcircled h) ((F_rcircled_eq k rec p0 p1).trans hv) hg
def crBefore : Code := match fn_rBefore.body with
  | some c => c
  | none => .skip
def cfrBefore : Cfg := ⟨shOf prog, sitesOf prog [] [] [], ximp⟩
inductive St_rBefore_2 where
  | a (a0 : PVal) (a1 : Int) (a2 : Int) (a3 : Int) (a4 : Int)
inductive ExrBefore_2 where
  | a (a0 : Bool)
  | b (a0 : PVal) (a1 : Int) (a2 : Int) (a3 : Int)
def mkrBefore_2 (s : St_rBefore_2) : XC := match s with
  | .a v0 v1 v2 v3 v4 => (XC.mk (List.cons (AVal.p v0) (List.cons (AVal.p (PVal.int .i64 v1)) (List.cons (AVal.p (PVal.int .i64 v2)) (List.cons (AVal.p (PVal.int .i64 v3)) (List.cons (AVal.p (PVal.int .i64 v4)) []))))) [])
def rdrBefore_2 {α : Type} (c : XC) (K : St_rBefore_2 → Option α) : Option α := match c with
  | (XC.mk (List.cons (AVal.p v0) (List.cons (AVal.p (PVal.int .i64 v1)) (List.cons (AVal.p (PVal.int .i64 v2)) (List.cons (AVal.p (PVal.int .i64 v3)) (List.cons (AVal.p (PVal.int .i64 v4)) []))))) []) => K (.a v0 v1 v2 v3 v4)
  | _ => none
theorem rdrBefore_2_some {α : Type} {r : α} {c : XC} {K : St_rBefore_2 → Option α} (h : rdrBefore_2 c K = some r) : ∃ s, c = mkrBefore_2 s ∧ K s = some r := by
  unfold rdrBefore_2 at h
  split at h <;> first | exact ⟨_, rfl, h⟩ | simp at h
def outsrBefore_2 : XE → List Nat := (outsOf [(2, [0, 1, 2, 7]), (1, [0, 1, 2, 7]), (0, [])] [6])
def liverBefore_2 : List Nat := [0, 1, 2, 7, 8]
def kxrBefore_2 (K : KX) (x : ExrBefore_2) : OA := match x with
  | .a v0 => K XE.ret (tmOf gl (outsrBefore_2 XE.ret) (XC.vals (XC.mk (List.cons (AVal.p (PVal.bool v0)) []) []))) (XC.st (XC.mk (List.cons (AVal.p (PVal.bool v0)) []) []))
  | .b v0 v1 v2 v3 => K XE.normal (tmOf gl (outsrBefore_2 (XE.exit 2)) (XC.vals (XC.mk (List.cons (AVal.p v0) (List.cons (AVal.p (PVal.int .i64 v1)) (List.cons (AVal.p (PVal.int .i64 v2)) (List.cons (AVal.p (PVal.int .i64 v3)) [])))) []))) (XC.st (XC.mk (List.cons (AVal.p v0) (List.cons (AVal.p (PVal.int .i64 v1)) (List.cons (AVal.p (PVal.int .i64 v2)) (List.cons (AVal.p (PVal.int .i64 v3)) [])))) []))
def brBefore_2 : Code := match findLoop 2 crBefore with
  | some c => c
  | none => .skip
def S_rBefore_2 (k : Nat) (rec : Rec1) (kn : St_rBefore_2 → OA) (kx : ExrBefore_2 → OA) (s : St_rBefore_2) : OA := match s with
  | .a x4 z5 z6 z7 z8 =>
    (slK x4 fun l9 =>
    (ifB (decide (z8 < (((List.length l9) : Nat) : Int)))
      (slK x4 fun l10 =>
      (natK z7 fun n11 =>
      (nthK l10 n11 fun x12 =>
      (aggK x12 fun l13 =>
      (consK l13 fun x14 l15 =>
      (intK .i64 x14 fun z16 =>
      (consK l15 fun x17 l18 =>
      (boolK x17 fun b19 =>
      (consK l18 fun x20 l21 =>
      (intK .i64 x20 fun z22 =>
      (endK l21
        (ifB (z16 == z5)
          (slK x4 fun l23 =>
          (natK z8 fun n24 =>
          (nthK l23 n24 fun x25 =>
          (aggK x25 fun l26 =>
          (consK l26 fun x27 l28 =>
          (intK .i64 x27 fun z29 =>
          (consK l28 fun x30 l31 =>
          (boolK x30 fun b32 =>
          (consK l31 fun x33 l34 =>
          (intK .i64 x33 fun z35 =>
          (endK l34
            (ifB (z29 == z6)
              (ifB (z5 != z6)
                (slK x4 fun l36 =>
                (natK z7 fun n37 =>
                (nthK l36 n37 fun x38 =>
                (aggK x38 fun l39 =>
                (consK l39 fun x40 l41 =>
                (intK .i64 x40 fun z42 =>
                (consK l41 fun x43 l44 =>
                (boolK x43 fun b45 =>
                (consK l44 fun x46 l47 =>
                (intK .i64 x46 fun z48 =>
                (endK l47
                  (slK x4 fun l49 =>
                  (natK z8 fun n50 =>
                  (nthK l49 n50 fun x51 =>
                  (aggK x51 fun l52 =>
                  (consK l52 fun x53 l54 =>
                  (intK .i64 x53 fun z55 =>
                  (consK l54 fun x56 l57 =>
                  (boolK x56 fun b58 =>
                  (consK l57 fun x59 l60 =>
                  (intK .i64 x59 fun z61 =>
                  (endK l60
                    (ifB (z48 == z61)
                      (slK x4 fun l62 =>
                      (natK z7 fun n63 =>
                      (nthK l62 n63 fun x64 =>
                      (aggK x64 fun l65 =>
                      (consK l65 fun x66 l67 =>
                      (intK .i64 x66 fun z68 =>
                      (consK l67 fun x69 l70 =>
                      (boolK x69 fun b71 =>
                      (consK l70 fun x72 l73 =>
                      (intK .i64 x72 fun z74 =>
                      (endK l73
                        (ifB b71
                          (kx (.a true))
                          (slK x4 fun l75 =>
                          (natK z8 fun n76 =>
                          (nthK l75 n76 fun x77 =>
                          (aggK x77 fun l78 =>
                          (consK l78 fun x79 l80 =>
                          (intK .i64 x79 fun z81 =>
                          (consK l80 fun x82 l83 =>
                          (boolK x82 fun b84 =>
                          (consK l83 fun x85 l86 =>
                          (intK .i64 x85 fun z87 =>
                          (endK l86
                            (ifB b84
                              (kx (.a true))
                              (kn (.a x4 z5 z6 z7 (IntKind.wrap .i64 (z8 + (Int.ofNat 1)))))))))))))))))))))))))))))
                      (kn (.a x4 z5 z6 z7 (IntKind.wrap .i64 (z8 + (Int.ofNat 1))))))))))))))))))))))))))))
                (kn (.a x4 z5 z6 z7 (IntKind.wrap .i64 (z8 + (Int.ofNat 1))))))
              (kn (.a x4 z5 z6 z7 (IntKind.wrap .i64 (z8 + (Int.ofNat 1)))))))))))))))))
          (kn (.a x4 z5 z6 z7 (IntKind.wrap .i64 (z8 + (Int.ofNat 1)))))))))))))))))
      (kx (.b x4 z5 z6 z7))))
def L_rBefore_2 (k : Nat) (rec : Rec1) (kx : ExrBefore_2 → OA) : Nat → St_rBefore_2 → OA
  | 0, _ => none
  | j + 1, s => S_rBefore_2 k rec (L_rBefore_2 k rec kx j) kx s
inductive St_rBefore_0 where
  | a (a0 : PVal) (a1 : Int) (a2 : Int) (a3 : Int)
inductive ExrBefore_0 where
  | a
  | b (a0 : Bool)
def mkrBefore_0 (s : St_rBefore_0) : XC := match s with
  | .a v0 v1 v2 v3 => (XC.mk (List.cons (AVal.p v0) (List.cons (AVal.p (PVal.int .i64 v1)) (List.cons (AVal.p (PVal.int .i64 v2)) (List.cons (AVal.p (PVal.int .i64 v3)) [])))) [])
def rdrBefore_0 {α : Type} (c : XC) (K : St_rBefore_0 → Option α) : Option α := match c with
  | (XC.mk (List.cons (AVal.p v0) (List.cons (AVal.p (PVal.int .i64 v1)) (List.cons (AVal.p (PVal.int .i64 v2)) (List.cons (AVal.p (PVal.int .i64 v3)) [])))) []) => K (.a v0 v1 v2 v3)
  | _ => none
theorem rdrBefore_0_some {α : Type} {r : α} {c : XC} {K : St_rBefore_0 → Option α} (h : rdrBefore_0 c K = some r) : ∃ s, c = mkrBefore_0 s ∧ K s = some r := by
  unfold rdrBefore_0 at h
  split at h <;> first | exact ⟨_, rfl, h⟩ | simp at h
def outsrBefore_0 : XE → List Nat := (outsOf [(0, [])] [6])
def liverBefore_0 : List Nat := [0, 1, 2, 7]
def kxrBefore_0 (K : KX) (x : ExrBefore_0) : OA := match x with
  | .a => K XE.normal (tmOf gl (outsrBefore_0 (XE.exit 0)) (XC.vals (XC.mk [] []))) (XC.st (XC.mk [] []))
  | .b v0 => K XE.ret (tmOf gl (outsrBefore_0 XE.ret) (XC.vals (XC.mk (List.cons (AVal.p (PVal.bool v0)) []) []))) (XC.st (XC.mk (List.cons (AVal.p (PVal.bool v0)) []) []))
def brBefore_0 : Code := match findLoop 0 crBefore with
  | some c => c
  | none => .skip
def S_rBefore_0 (k : Nat) (rec : Rec1) (kn : St_rBefore_0 → OA) (kx : ExrBefore_0 → OA) (s : St_rBefore_0) : OA := match s with
  | .a x88 z89 z90 z91 =>
    (slK x88 fun l92 =>
    (ifB (decide (z91 < (((List.length l92) : Nat) : Int)))
      (L_rBefore_2 k rec (fun x => match x with
        | .a b93 => (kx (.b b93))
        | .b x94 z95 z96 z97 => (kn (.a x94 z95 z96 (IntKind.wrap .i64 (z97 + (Int.ofNat 1)))))) k (.a x88 z89 z90 z91 (IntKind.wrap .i64 (z91 + (Int.ofNat 1)))))
      (kx (.a))))
def L_rBefore_0 (k : Nat) (rec : Rec1) (kx : ExrBefore_0 → OA) : Nat → St_rBefore_0 → OA
  | 0, _ => none
  | j + 1, s => S_rBefore_0 k rec (L_rBefore_0 k rec kx j) kx s
def lorBefore (k : Nat) (rec : Rec1) : Loops AVal := fun id tm σ K =>
  match Nat.beq id 2 with
  | true => canon liverBefore_2 tm σ fun c => rdrBefore_2 c fun s => L_rBefore_2 k rec (kxrBefore_2 K) k s
  | false =>
  match Nat.beq id 0 with
  | true => canon liverBefore_0 tm σ fun c => rdrBefore_0 c fun s => L_rBefore_0 k rec (kxrBefore_0 K) k s
  | false => none
def F_rBefore (k : Nat) (rec : Rec1) (p0 p1 p2 : PVal) : OA :=
  (intK .i64 p1 fun z1 =>
  (intK .i64 p2 fun z2 =>
  (L_rBefore_0 k rec (fun x => match x with
    | .a => (some (AVal.p (PVal.bool false)))
    | .b b3 => (some (AVal.p (PVal.bool b3)))) k (.a p0 z1 z2 (Int.ofNat 0)))))
theorem S_rBefore_2_eq (k : Nat) (rec : Rec1) (Kn : XC → OA) (K : KX) (s : St_rBefore_2) : codeK prog cfrBefore rec 71 (lorBefore k rec) brBefore_2 (tmOf gl liverBefore_2 (mkrBefore_2 s).vals) (mkrBefore_2 s).st (roundK gl 2 liverBefore_2 outsrBefore_2 Kn K) = S_rBefore_2 k rec (fun s => Kn (mkrBefore_2 s)) (kxrBefore_2 K) s := by
  cases s <;> kernel_rfl
theorem L_rBefore_2_eq (k : Nat) (rec : Rec1) (K : KX) : ∀ (j : Nat) (s : St_rBefore_2), loopX prog cfrBefore rec 71 gl (lorBefore k rec) 2 liverBefore_2 outsrBefore_2 brBefore_2 j (mkrBefore_2 s) K = L_rBefore_2 k rec (kxrBefore_2 K) j s
  | 0, _ => rfl
  | j + 1, s => by
    simp only [loopX]
    rw [S_rBefore_2_eq]
    exact congrArg (fun q => S_rBefore_2 k rec q (kxrBefore_2 K) s) (funext fun s' => L_rBefore_2_eq k rec K j s')
theorem S_rBefore_0_eq (k : Nat) (rec : Rec1) (Kn : XC → OA) (K : KX) (s : St_rBefore_0) : codeK prog cfrBefore rec 71 (lorBefore k rec) brBefore_0 (tmOf gl liverBefore_0 (mkrBefore_0 s).vals) (mkrBefore_0 s).st (roundK gl 0 liverBefore_0 outsrBefore_0 Kn K) = S_rBefore_0 k rec (fun s => Kn (mkrBefore_0 s)) (kxrBefore_0 K) s := by
  cases s <;> kernel_rfl
theorem L_rBefore_0_eq (k : Nat) (rec : Rec1) (K : KX) : ∀ (j : Nat) (s : St_rBefore_0), loopX prog cfrBefore rec 71 gl (lorBefore k rec) 0 liverBefore_0 outsrBefore_0 brBefore_0 j (mkrBefore_0 s) K = L_rBefore_0 k rec (kxrBefore_0 K) j s
  | 0, _ => rfl
  | j + 1, s => by
    simp only [loopX]
    rw [S_rBefore_0_eq]
    exact congrArg (fun q => S_rBefore_0 k rec q (kxrBefore_0 K) s) (funext fun s' => L_rBefore_0_eq k rec K j s')
theorem xlrBefore {k : Nat} {rec : Rec1} (h : RecKnown prog gl rec) : XLoops prog gl 71 (lorBefore k rec) crBefore :=
  ⟨_, loopsIn_of _ (by rw [show topLoops crBefore = [(0, brBefore_0)] from by kernel_rfl]; simp), (LoopsOk.add (evCall_ok (memoX_ok h) fine 1) (recOk h cfrBefore.imp 0 0) fine (Nat.le_of_ble_eq_true rfl) (LoopsOk.add (evCall_ok (memoX_ok h) fine 1) (recOk h cfrBefore.imp 0 0) fine (Nat.le_of_ble_eq_true rfl) LoopsOk.none 2 liverBefore_2 outsrBefore_2 brBefore_2 (by kernel_rfl) (loopsIn_of _ (by rw [show topLoops brBefore_2 = [] from by kernel_rfl]; simp)) (fun tm σ K r hk => ⟨k, canon_mono (fun c hc => by
    obtain ⟨s, e, hs⟩ := rdrBefore_2_some hc
    rw [e, L_rBefore_2_eq]
    exact hs) hk⟩)) 0 liverBefore_0 outsrBefore_0 brBefore_0 (by kernel_rfl) (loopsIn_of _ (by rw [show topLoops brBefore_0 = [(2, brBefore_2)] from by kernel_rfl]; simp)) (fun tm σ K r hk => ⟨k, canon_mono (fun c hc => by
    obtain ⟨s, e, hs⟩ := rdrBefore_0_some hc
    rw [e, L_rBefore_0_eq]
    exact hs) hk⟩))⟩
theorem F_rBefore_eq (k : Nat) (rec : Rec1) (p0 p1 p2 : PVal) : fnX prog cfrBefore .pure rec gl (fun _ => lorBefore k rec) i_rBefore [p0, p1, p2] = F_rBefore k rec p0 p1 p2 := by kernel_rfl
theorem F_rBefore_known {k : Nat} {rec : Rec1} (h : RecKnown prog gl rec) {p0 p1 p2 : PVal} {v : AVal} (hv : F_rBefore k rec p0 p1 p2 = some v) (hg : goodV v = true) : goodV v = true ∧ Known prog gl i_rBefore ([p0, p1, p2].map .p) (adopt 0 v).1 (adopt 0 v).2 :=
  fnX_fact (cf := cfrBefore) (out := .pure) (lo := lorBefore k rec) fine h func_rBefore (by kernel_rfl : fn_rBefore.body = some crBefore) (by kernel_rfl) (xlrBefore h) ((F_rBefore_eq k rec p0 p1 p2).trans hv) hg
def csXF : Code := match fn_sXF.body with
  | some c => c
  | none => .skip
def cfsXF : Cfg := ⟨shOf prog, sitesOf prog [(16, 4)] [] [], ximp⟩
inductive St_sXF_0 where
  | a (a0 : PVal) (a1 : PVal) (a2 : Int) (a3 : Int)
inductive ExsXF_0 where
  | a (a0 : Int)
  | b
def mksXF_0 (s : St_sXF_0) : XC := match s with
  | .a v0 v1 v2 v3 => (XC.mk (List.cons (AVal.p v0) (List.cons (AVal.p v1) (List.cons (AVal.p (PVal.int .i64 v2)) (List.cons (AVal.p (PVal.int .i64 v3)) [])))) [])
def rdsXF_0 {α : Type} (c : XC) (K : St_sXF_0 → Option α) : Option α := match c with
  | (XC.mk (List.cons (AVal.p v0) (List.cons (AVal.p v1) (List.cons (AVal.p (PVal.int .i64 v2)) (List.cons (AVal.p (PVal.int .i64 v3)) [])))) []) => K (.a v0 v1 v2 v3)
  | _ => none
theorem rdsXF_0_some {α : Type} {r : α} {c : XC} {K : St_sXF_0 → Option α} (h : rdsXF_0 c K = some r) : ∃ s, c = mksXF_0 s ∧ K s = some r := by
  unfold rdsXF_0 at h
  split at h <;> first | exact ⟨_, rfl, h⟩ | simp at h
def outssXF_0 : XE → List Nat := (outsOf [(0, [])] [4])
def livesXF_0 : List Nat := [0, 1, 7, 8]
def kxsXF_0 (K : KX) (x : ExsXF_0) : OA := match x with
  | .a v0 => K XE.ret (tmOf gl (outssXF_0 XE.ret) (XC.vals (XC.mk (List.cons (AVal.p (PVal.int .i64 v0)) []) []))) (XC.st (XC.mk (List.cons (AVal.p (PVal.int .i64 v0)) []) []))
  | .b => K XE.normal (tmOf gl (outssXF_0 (XE.exit 0)) (XC.vals (XC.mk [] []))) (XC.st (XC.mk [] []))
def bsXF_0 : Code := match findLoop 0 csXF with
  | some c => c
  | none => .skip
def S_sXF_0 (k : Nat) (rec : Rec1) (kn : St_sXF_0 → OA) (kx : ExsXF_0 → OA) (s : St_sXF_0) : OA := match s with
  | .a x3 x4 z5 z6 =>
    (ifB (decide (z6 < z5))
      (slK x3 fun l7 =>
      (natK z6 fun n8 =>
      (nthK l7 n8 fun x9 =>
      (intK .i64 x9 fun z10 =>
      (fnK x4 fun n11 l12 =>
      (chk (!(Nat.ble 1000000 n11))
        (bindK (rec n11 ([(PVal.int .i64 z10)] ++ l12)) fun x13 =>
        (pK x13 fun x14 =>
        (boolK x14 fun b15 =>
        (ifB b15
          (kx (.a z6))
          (kn (.a x3 x4 z5 (IntKind.wrap .i64 (z6 + (Int.ofNat 1)))))))))))))))
      (kx (.b)))
def L_sXF_0 (k : Nat) (rec : Rec1) (kx : ExsXF_0 → OA) : Nat → St_sXF_0 → OA
  | 0, _ => none
  | j + 1, s => S_sXF_0 k rec (L_sXF_0 k rec kx j) kx s
def losXF (k : Nat) (rec : Rec1) : Loops AVal := fun id tm σ K =>
  match Nat.beq id 0 with
  | true => canon livesXF_0 tm σ fun c => rdsXF_0 c fun s => L_sXF_0 k rec (kxsXF_0 K) k s
  | false => none
def F_sXF (k : Nat) (rec : Rec1) (p0 p1 : PVal) : OA :=
  (slK p0 fun l1 =>
  (L_sXF_0 k rec (fun x => match x with
    | .a z2 => (some (AVal.p (PVal.int .i64 z2)))
    | .b => (some (AVal.p (PVal.int .i64 (Int.negSucc 0))))) k (.a p0 p1 (((List.length l1) : Nat) : Int) (Int.ofNat 0))))
theorem S_sXF_0_eq (k : Nat) (rec : Rec1) (Kn : XC → OA) (K : KX) (s : St_sXF_0) : codeK prog cfsXF rec 19 (losXF k rec) bsXF_0 (tmOf gl livesXF_0 (mksXF_0 s).vals) (mksXF_0 s).st (roundK gl 0 livesXF_0 outssXF_0 Kn K) = S_sXF_0 k rec (fun s => Kn (mksXF_0 s)) (kxsXF_0 K) s := by
  cases s <;> kernel_rfl
theorem L_sXF_0_eq (k : Nat) (rec : Rec1) (K : KX) : ∀ (j : Nat) (s : St_sXF_0), loopX prog cfsXF rec 19 gl (losXF k rec) 0 livesXF_0 outssXF_0 bsXF_0 j (mksXF_0 s) K = L_sXF_0 k rec (kxsXF_0 K) j s
  | 0, _ => rfl
  | j + 1, s => by
    simp only [loopX]
    rw [S_sXF_0_eq]
    exact congrArg (fun q => S_sXF_0 k rec q (kxsXF_0 K) s) (funext fun s' => L_sXF_0_eq k rec K j s')
theorem xlsXF {k : Nat} {rec : Rec1} (h : RecKnown prog gl rec) : XLoops prog gl 19 (losXF k rec) csXF :=
  ⟨_, loopsIn_of _ (by rw [show topLoops csXF = [(0, bsXF_0)] from by kernel_rfl]; simp), (LoopsOk.add (evCall_ok (memoX_ok h) fine 1) (recOk h cfsXF.imp 0 0) fine (Nat.le_of_ble_eq_true rfl) LoopsOk.none 0 livesXF_0 outssXF_0 bsXF_0 (by kernel_rfl) (loopsIn_of _ (by rw [show topLoops bsXF_0 = [] from by kernel_rfl]; simp)) (fun tm σ K r hk => ⟨k, canon_mono (fun c hc => by
    obtain ⟨s, e, hs⟩ := rdsXF_0_some hc
    rw [e, L_sXF_0_eq]
    exact hs) hk⟩))⟩
theorem F_sXF_eq (k : Nat) (rec : Rec1) (p0 p1 : PVal) : fnX prog cfsXF .pure rec gl (fun _ => losXF k rec) i_sXF [p0, p1] = F_sXF k rec p0 p1 := by kernel_rfl
theorem F_sXF_known {k : Nat} {rec : Rec1} (h : RecKnown prog gl rec) {p0 p1 : PVal} {v : AVal} (hv : F_sXF k rec p0 p1 = some v) (hg : goodV v = true) : goodV v = true ∧ Known prog gl i_sXF ([p0, p1].map .p) (adopt 0 v).1 (adopt 0 v).2 :=
  fnX_fact (cf := cfsXF) (out := .pure) (lo := losXF k rec) fine h func_sXF (by kernel_rfl : fn_sXF.body = some csXF) (by kernel_rfl) (xlsXF h) ((F_sXF_eq k rec p0 p1).trans hv) hg
def crrising : Code := match fn_rrising.body with
  | some c => c
  | none => .skip
def cfrrising : Cfg := ⟨shOf prog, sitesOf prog [(14, 4)] [] [], ximp⟩
inductive St_rrising_0 where
  | a (a0 : PVal) (a1 : Int) (a2 : Int)
  | b (a0 : PVal) (a1 : Int) (a2 : Nat) (a3 : Int) (a4 : List PVal)
inductive Exrrising_0 where
  | a
  | b (a0 : Nat) (a1 : List PVal)
def mkrrising_0 (s : St_rrising_0) : XC := match s with
  | .a v0 v1 v2 => (XC.mk (List.cons (AVal.p v0) (List.cons (AVal.p (PVal.int .i64 v1)) (List.cons (AVal.p PVal.nils) (List.cons (AVal.p (PVal.int .i64 v2)) [])))) [])
  | .b v0 v1 v2 v3 v4 => (XC.mk (List.cons (AVal.p v0) (List.cons (AVal.p (PVal.int .i64 v1)) (List.cons (AVal.arr 0 0 0 v2 false) (List.cons (AVal.p (PVal.int .i64 v3)) [])))) (List.cons (XObj.arr 1 v4 0 0 0) []))
def rdrrising_0 {α : Type} (c : XC) (K : St_rrising_0 → Option α) : Option α := match c with
  | (XC.mk (List.cons (AVal.p v0) (List.cons (AVal.p (PVal.int .i64 v1)) (List.cons (AVal.p PVal.nils) (List.cons (AVal.p (PVal.int .i64 v2)) [])))) []) => K (.a v0 v1 v2)
  | (XC.mk (List.cons (AVal.p v0) (List.cons (AVal.p (PVal.int .i64 v1)) (List.cons (AVal.arr 0 0 0 v2 false) (List.cons (AVal.p (PVal.int .i64 v3)) [])))) (List.cons (XObj.arr 1 v4 0 0 0) [])) => K (.b v0 v1 v2 v3 v4)
  | _ => none
theorem rdrrising_0_some {α : Type} {r : α} {c : XC} {K : St_rrising_0 → Option α} (h : rdrrising_0 c K = some r) : ∃ s, c = mkrrising_0 s ∧ K s = some r := by
  unfold rdrrising_0 at h
  split at h <;> first | exact ⟨_, rfl, h⟩ | simp at h
def outsrrising_0 : XE → List Nat := (outsOf [(0, [5])] [4])
def liverrising_0 : List Nat := [0, 1, 5, 6]
def kxrrising_0 (K : KX) (x : Exrrising_0) : OA := match x with
  | .a => K XE.normal (tmOf gl (outsrrising_0 (XE.exit 0)) (XC.vals (XC.mk (List.cons (AVal.p PVal.nils) []) []))) (XC.st (XC.mk (List.cons (AVal.p PVal.nils) []) []))
  | .b v0 v1 => K XE.normal (tmOf gl (outsrrising_0 (XE.exit 0)) (XC.vals (XC.mk (List.cons (AVal.arr 0 0 0 v0 false) []) (List.cons (XObj.arr 1 v1 0 0 0) [])))) (XC.st (XC.mk (List.cons (AVal.arr 0 0 0 v0 false) []) (List.cons (XObj.arr 1 v1 0 0 0) [])))
def brrising_0 : Code := match findLoop 0 crrising with
  | some c => c
  | none => .skip
def S_rrising_0 (k : Nat) (rec : Rec1) (kn : St_rrising_0 → OA) (kx : Exrrising_0 → OA) (s : St_rrising_0) : OA := match s with
  | .a x4 z5 z6 =>
    (ifB (decide (z6 < z5))
      (bindK (rec i_qListed (x4 :: [(PVal.int .i64 z6)])) fun x7 =>
      (pK x7 fun x8 =>
      (boolK x8 fun b9 =>
      (ifB b9
        (kn (.b x4 z5 1 (IntKind.wrap .i64 (z6 + (Int.ofNat 1))) [(PVal.int .i64 z6)]))
        (kn (.a x4 z5 (IntKind.wrap .i64 (z6 + (Int.ofNat 1)))))))))
      (kx (.a)))
  | .b x10 z11 n12 z13 l14 =>
    (ifB (decide (z13 < z11))
      (bindK (rec i_qListed (x10 :: [(PVal.int .i64 z13)])) fun x15 =>
      (pK x15 fun x16 =>
      (boolK x16 fun b17 =>
      (ifB b17
        (chk (Nat.beq n12 (List.length l14))
          (chk (Nat.ble ((n12 + 1) * 8) 1099511627776)
            (kn (.b x10 z11 (n12 + 1) (IntKind.wrap .i64 (z13 + (Int.ofNat 1))) (l14 ++ [(PVal.int .i64 z13)])))))
        (kn (.b x10 z11 n12 (IntKind.wrap .i64 (z13 + (Int.ofNat 1))) l14))))))
      (kx (.b n12 l14)))
def L_rrising_0 (k : Nat) (rec : Rec1) (kx : Exrrising_0 → OA) : Nat → St_rrising_0 → OA
  | 0, _ => none
  | j + 1, s => S_rrising_0 k rec (L_rrising_0 k rec kx j) kx s
def lorrising (k : Nat) (rec : Rec1) : Loops AVal := fun id tm σ K =>
  match Nat.beq id 0 with
  | true => canon liverrising_0 tm σ fun c => rdrrising_0 c fun s => L_rrising_0 k rec (kxrrising_0 K) k s
  | false => none
def F_rrising (k : Nat) (rec : Rec1) (p0 p1 : PVal) : OA :=
  (intK .i64 p1 fun z1 =>
  (L_rrising_0 k rec (fun x => match x with
    | .a => (some (AVal.p PVal.nils))
    | .b n2 l3 => (chk (Nat.ble (0 + n2) (List.length l3))
        (some (AVal.p (PVal.sl (List.take n2 (List.drop 0 l3))))))) k (.a p0 z1 (Int.ofNat 0))))
theorem S_rrising_0_eq (k : Nat) (rec : Rec1) (Kn : XC → OA) (K : KX) (s : St_rrising_0) : codeK prog cfrrising rec 20 (lorrising k rec) brrising_0 (tmOf gl liverrising_0 (mkrrising_0 s).vals) (mkrrising_0 s).st (roundK gl 0 liverrising_0 outsrrising_0 Kn K) = S_rrising_0 k rec (fun s => Kn (mkrrising_0 s)) (kxrrising_0 K) s := by
  cases s <;> kernel_rfl
theorem L_rrising_0_eq (k : Nat) (rec : Rec1) (K : KX) : ∀ (j : Nat) (s : St_rrising_0), loopX prog cfrrising rec 20 gl (lorrising k rec) 0 liverrising_0 outsrrising_0 brrising_0 j (mkrrising_0 s) K = L_rrising_0 k rec (kxrrising_0 K) j s
  | 0, _ => rfl
  | j + 1, s => by
    simp only [loopX]
    rw [S_rrising_0_eq]
    exact congrArg (fun q => S_rrising_0 k rec q (kxrrising_0 K) s) (funext fun s' => L_rrising_0_eq k rec K j s')
theorem xlrrising {k : Nat} {rec : Rec1} (h : RecKnown prog gl rec) : XLoops prog gl 20 (lorrising k rec) crrising :=
  ⟨_, loopsIn_of _ (by rw [show topLoops crrising = [(0, brrising_0)] from by kernel_rfl]; simp), (LoopsOk.add (evCall_ok (memoX_ok h) fine 1) (recOk h cfrrising.imp 0 0) fine (Nat.le_of_ble_eq_true rfl) LoopsOk.none 0 liverrising_0 outsrrising_0 brrising_0 (by kernel_rfl) (loopsIn_of _ (by rw [show topLoops brrising_0 = [] from by kernel_rfl]; simp)) (fun tm σ K r hk => ⟨k, canon_mono (fun c hc => by
    obtain ⟨s, e, hs⟩ := rdrrising_0_some hc
    rw [e, L_rrising_0_eq]
    exact hs) hk⟩))⟩
theorem F_rrising_eq (k : Nat) (rec : Rec1) (p0 p1 : PVal) : fnX prog cfrrising .pure rec gl (fun _ => lorrising k rec) i_rrising [p0, p1] = F_rrising k rec p0 p1 := by kernel_rfl
theorem F_rrising_known {k : Nat} {rec : Rec1} (h : RecKnown prog gl rec) {p0 p1 : PVal} {v : AVal} (hv : F_rrising k rec p0 p1 = some v) (hg : goodV v = true) : goodV v = true ∧ Known prog gl i_rrising ([p0, p1].map .p) (adopt 0 v).1 (adopt 0 v).2 :=
  fnX_fact (cf := cfrrising) (out := .pure) (lo := lorrising k rec) fine h func_rrising (by kernel_rfl : fn_rrising.body = some crrising) (by kernel_rfl) (xlrrising h) ((F_rrising_eq k rec p0 p1).trans hv) hg
def csCl : Code := match fn_sCl.body with
  | some c => c
  | none => .skip
def cfsCl : Cfg := ⟨shOf prog, sitesOf prog [] [] [], ximp⟩
def losCl (k : Nat) (rec : Rec1) : Loops AVal := fun id tm σ K => none
def F_sCl (k : Nat) (rec : Rec1) (p0 : PVal) : OA :=
  (slK p0 fun l1 =>
  (slK p0 fun l2 =>
  (nslK p0
    (chk (Nat.ble (List.length l1) 0)
      (chk (Nat.beq (List.length l2) (List.length l1))
        (some (AVal.p PVal.nils)))) fun l3 =>
  (chk (Nat.ble (List.length l1) (List.length l3))
    (chk (Nat.beq (List.length l2) (List.length l1))
      (chk (wide 1 l3)
        (some (AVal.cl (List.take ((List.length l1) - 0) (List.drop 0 l3))))))))))
theorem xlsCl {k : Nat} {rec : Rec1} (h : RecKnown prog gl rec) : XLoops prog gl 9 (losCl k rec) csCl :=
  ⟨_, loopsIn_of _ (by rw [show topLoops csCl = [] from by kernel_rfl]; simp), LoopsOk.none⟩
theorem F_sCl_eq (k : Nat) (rec : Rec1) (p0 : PVal) : fnX prog cfsCl .clip rec gl (fun _ => losCl k rec) i_sCl [p0] = F_sCl k rec p0 := by kernel_rfl
theorem F_sCl_known {k : Nat} {rec : Rec1} (h : RecKnown prog gl rec) {p0 : PVal} {v : AVal} (hv : F_sCl k rec p0 = some v) (hg : goodV v = true) : goodV v = true ∧ Known prog gl i_sCl ([p0].map .p) (adopt 0 v).1 (adopt 0 v).2 :=
  fnX_fact (cf := cfsCl) (out := .clip) (lo := losCl k rec) fine h func_sCl (by kernel_rfl : fn_sCl.body = some csCl) (by kernel_rfl) (xlsCl h) ((F_sCl_eq k rec p0).trans hv) hg
def csIx : Code := match fn_sIx.body with
  | some c => c
  | none => .skip
def cfsIx : Cfg := ⟨shOf prog, sitesOf prog [] [] [], ximp⟩
inductive St_sIx_0 where
  | a (a0 : PVal) (a1 : Int) (a2 : Int) (a3 : Int)
inductive ExsIx_0 where
  | a (a0 : Int)
  | b
def mksIx_0 (s : St_sIx_0) : XC := match s with
  | .a v0 v1 v2 v3 => (XC.mk (List.cons (AVal.p v0) (List.cons (AVal.p (PVal.int .i64 v1)) (List.cons (AVal.p (PVal.int .i64 v2)) (List.cons (AVal.p (PVal.int .i64 v3)) [])))) [])
def rdsIx_0 {α : Type} (c : XC) (K : St_sIx_0 → Option α) : Option α := match c with
  | (XC.mk (List.cons (AVal.p v0) (List.cons (AVal.p (PVal.int .i64 v1)) (List.cons (AVal.p (PVal.int .i64 v2)) (List.cons (AVal.p (PVal.int .i64 v3)) [])))) []) => K (.a v0 v1 v2 v3)
  | _ => none
theorem rdsIx_0_some {α : Type} {r : α} {c : XC} {K : St_sIx_0 → Option α} (h : rdsIx_0 c K = some r) : ∃ s, c = mksIx_0 s ∧ K s = some r := by
  unfold rdsIx_0 at h
  split at h <;> first | exact ⟨_, rfl, h⟩ | simp at h
def outssIx_0 : XE → List Nat := (outsOf [(0, [])] [4])
def livesIx_0 : List Nat := [0, 1, 7, 8]
def kxsIx_0 (K : KX) (x : ExsIx_0) : OA := match x with
  | .a v0 => K XE.ret (tmOf gl (outssIx_0 XE.ret) (XC.vals (XC.mk (List.cons (AVal.p (PVal.int .i64 v0)) []) []))) (XC.st (XC.mk (List.cons (AVal.p (PVal.int .i64 v0)) []) []))
  | .b => K XE.normal (tmOf gl (outssIx_0 (XE.exit 0)) (XC.vals (XC.mk [] []))) (XC.st (XC.mk [] []))
def bsIx_0 : Code := match findLoop 0 csIx with
  | some c => c
  | none => .skip
def S_sIx_0 (k : Nat) (rec : Rec1) (kn : St_sIx_0 → OA) (kx : ExsIx_0 → OA) (s : St_sIx_0) : OA := match s with
  | .a x4 z5 z6 z7 =>
    (ifB (decide (z7 < z6))
      (slK x4 fun l8 =>
      (natK z7 fun n9 =>
      (nthK l8 n9 fun x10 =>
      (intK .i64 x10 fun z11 =>
      (ifB (z5 == z11)
        (kx (.a z7))
        (kn (.a x4 z5 z6 (IntKind.wrap .i64 (z7 + (Int.ofNat 1))))))))))
      (kx (.b)))
def L_sIx_0 (k : Nat) (rec : Rec1) (kx : ExsIx_0 → OA) : Nat → St_sIx_0 → OA
  | 0, _ => none
  | j + 1, s => S_sIx_0 k rec (L_sIx_0 k rec kx j) kx s
def losIx (k : Nat) (rec : Rec1) : Loops AVal := fun id tm σ K =>
  match Nat.beq id 0 with
  | true => canon livesIx_0 tm σ fun c => rdsIx_0 c fun s => L_sIx_0 k rec (kxsIx_0 K) k s
  | false => none
def F_sIx (k : Nat) (rec : Rec1) (p0 p1 : PVal) : OA :=
  (intK .i64 p1 fun z1 =>
  (slK p0 fun l2 =>
  (L_sIx_0 k rec (fun x => match x with
    | .a z3 => (some (AVal.p (PVal.int .i64 z3)))
    | .b => (some (AVal.p (PVal.int .i64 (Int.negSucc 0))))) k (.a p0 z1 (((List.length l2) : Nat) : Int) (Int.ofNat 0)))))
theorem S_sIx_0_eq (k : Nat) (rec : Rec1) (Kn : XC → OA) (K : KX) (s : St_sIx_0) : codeK prog cfsIx rec 19 (losIx k rec) bsIx_0 (tmOf gl livesIx_0 (mksIx_0 s).vals) (mksIx_0 s).st (roundK gl 0 livesIx_0 outssIx_0 Kn K) = S_sIx_0 k rec (fun s => Kn (mksIx_0 s)) (kxsIx_0 K) s := by
  cases s <;> kernel_rfl
theorem L_sIx_0_eq (k : Nat) (rec : Rec1) (K : KX) : ∀ (j : Nat) (s : St_sIx_0), loopX prog cfsIx rec 19 gl (losIx k rec) 0 livesIx_0 outssIx_0 bsIx_0 j (mksIx_0 s) K = L_sIx_0 k rec (kxsIx_0 K) j s
  | 0, _ => rfl
  | j + 1, s => by
    simp only [loopX]
    rw [S_sIx_0_eq]
    exact congrArg (fun q => S_sIx_0 k rec q (kxsIx_0 K) s) (funext fun s' => L_sIx_0_eq k rec K j s')
theorem xlsIx {k : Nat} {rec : Rec1} (h : RecKnown prog gl rec) : XLoops prog gl 19 (losIx k rec) csIx :=
  ⟨_, loopsIn_of _ (by rw [show topLoops csIx = [(0, bsIx_0)] from by kernel_rfl]; simp), (LoopsOk.add (evCall_ok (memoX_ok h) fine 1) (recOk h cfsIx.imp 0 0) fine (Nat.le_of_ble_eq_true rfl) LoopsOk.none 0 livesIx_0 outssIx_0 bsIx_0 (by kernel_rfl) (loopsIn_of _ (by rw [show topLoops bsIx_0 = [] from by kernel_rfl]; simp)) (fun tm σ K r hk => ⟨k, canon_mono (fun c hc => by
    obtain ⟨s, e, hs⟩ := rdsIx_0_some hc
    rw [e, L_sIx_0_eq]
    exact hs) hk⟩))⟩
theorem F_sIx_eq (k : Nat) (rec : Rec1) (p0 p1 : PVal) : fnX prog cfsIx .pure rec gl (fun _ => losIx k rec) i_sIx [p0, p1] = F_sIx k rec p0 p1 := by kernel_rfl
theorem F_sIx_known {k : Nat} {rec : Rec1} (h : RecKnown prog gl rec) {p0 p1 : PVal} {v : AVal} (hv : F_sIx k rec p0 p1 = some v) (hg : goodV v = true) : goodV v = true ∧ Known prog gl i_sIx ([p0, p1].map .p) (adopt 0 v).1 (adopt 0 v).2 :=
  fnX_fact (cf := cfsIx) (out := .pure) (lo := losIx k rec) fine h func_sIx (by kernel_rfl : fn_sIx.body = some csIx) (by kernel_rfl) (xlsIx h) ((F_sIx_eq k rec p0 p1).trans hv) hg
def clTH : Code := match fn_lTH.body with
  | some c => c
  | none => .skip
def cflTH : Cfg := ⟨shOf prog, sitesOf prog [(108, 4), (104, 26), (101, 26), (91, 4), (82, 4), (77, 30), (72, 30), (67, 30), (62, 30), (32, 27), (27, 27), (24, 4)] [] [], ximp⟩
inductive St_lTH_0 where
  | a (a0 : PVal) (a1 : PVal) (a2 : PVal) (a3 : PVal) (a4 : Int)
inductive ExlTH_0 where
  | a (a0 : Bool)
  | b (a0 : PVal) (a1 : PVal)
def mklTH_0 (s : St_lTH_0) : XC := match s with
  | .a v0 v1 v2 v3 v4 => (XC.mk (List.cons (AVal.p v0) (List.cons (AVal.p v1) (List.cons (AVal.p v2) (List.cons (AVal.p v3) (List.cons (AVal.p (PVal.int .i64 v4)) []))))) [])
def rdlTH_0 {α : Type} (c : XC) (K : St_lTH_0 → Option α) : Option α := match c with
  | (XC.mk (List.cons (AVal.p v0) (List.cons (AVal.p v1) (List.cons (AVal.p v2) (List.cons (AVal.p v3) (List.cons (AVal.p (PVal.int .i64 v4)) []))))) []) => K (.a v0 v1 v2 v3 v4)
  | _ => none
theorem rdlTH_0_some {α : Type} {r : α} {c : XC} {K : St_lTH_0 → Option α} (h : rdlTH_0 c K = some r) : ∃ s, c = mklTH_0 s ∧ K s = some r := by
  unfold rdlTH_0 at h
  split at h <;> first | exact ⟨_, rfl, h⟩ | simp at h
def outslTH_0 : XE → List Nat := (outsOf [(0, [0, 1])] [4])
def livelTH_0 : List Nat := [0, 1, 5, 7, 9]
def kxlTH_0 (K : KX) (x : ExlTH_0) : OA := match x with
  | .a v0 => K XE.ret (tmOf gl (outslTH_0 XE.ret) (XC.vals (XC.mk (List.cons (AVal.p (PVal.bool v0)) []) []))) (XC.st (XC.mk (List.cons (AVal.p (PVal.bool v0)) []) []))
  | .b v0 v1 => K XE.normal (tmOf gl (outslTH_0 (XE.exit 0)) (XC.vals (XC.mk (List.cons (AVal.p v0) (List.cons (AVal.p v1) [])) []))) (XC.st (XC.mk (List.cons (AVal.p v0) (List.cons (AVal.p v1) [])) []))
def blTH_0 : Code := match findLoop 0 clTH with
  | some c => c
  | none => .skip
def S_lTH_0 (k : Nat) (rec : Rec1) (kn : St_lTH_0 → OA) (kx : ExlTH_0 → OA) (s : St_lTH_0) : OA := match s with
  | .a x77 x78 x79 x80 z81 =>
    (slK x79 fun l82 =>
    (ifB (decide (z81 < (((List.length l82) : Nat) : Int)))
      (slK x79 fun l83 =>
      (natK z81 fun n84 =>
      (nthK l83 n84 fun x85 =>
      (aggK x85 fun l86 =>
      (consK l86 fun x87 l88 =>
      (intK .i64 x87 fun z89 =>
      (consK l88 fun x90 l91 =>
      (intK .i64 x90 fun z92 =>
      (endK l91
        (slK x80 fun l93 =>
        (natK z81 fun n94 =>
        (nthK l93 n94 fun x95 =>
        (aggK x95 fun l96 =>
        (consK l96 fun x97 l98 =>
        (intK .i64 x97 fun z99 =>
        (consK l98 fun x100 l101 =>
        (intK .i64 x100 fun z102 =>
        (endK l101
          (ifB (!(selB (z89 == z99) (selB (z92 == z102) true false) false))
            (kx (.a false))
            (kn (.a x77 x78 x79 x80 (IntKind.wrap .i64 (z81 + (Int.ofNat 1))))))))))))))))))))))))
      (kx (.b x77 x78))))
def L_lTH_0 (k : Nat) (rec : Rec1) (kx : ExlTH_0 → OA) : Nat → St_lTH_0 → OA
  | 0, _ => none
  | j + 1, s => S_lTH_0 k rec (L_lTH_0 k rec kx j) kx s
def lolTH (k : Nat) (rec : Rec1) : Loops AVal := fun id tm σ K =>
  match Nat.beq id 0 with
  | true => canon livelTH_0 tm σ fun c => rdlTH_0 c fun s => L_lTH_0 k rec (kxlTH_0 K) k s
  | false => none
def F_lTH (k : Nat) (rec : Rec1) (p0 p1 : PVal) : OA :=
  (slK p0 fun l1 =>
  (ifB (decide ((((List.length l1) : Nat) : Int) > (Int.ofNat 80)))
    (bindK (rec i_lWk []) fun x2 =>
    (pK x2 fun x3 =>
    (boolK x3 fun b4 =>
    (some (AVal.p (PVal.bool b4))))))
    (slK p1 fun l5 =>
    (ifB (decide ((((List.length l5) : Nat) : Int) > (Int.ofNat 20)))
      (bindK (rec i_lWk []) fun x6 =>
      (pK x6 fun x7 =>
      (boolK x7 fun b8 =>
      (some (AVal.p (PVal.bool b8))))))
      (bindK (rec i_tEd [p0]) fun x9 =>
      (pK x9 fun x10 =>
      (tupK x10 fun l11 =>
      (consK l11 fun x12 l13 =>
      (consK l13 fun x14 l15 =>
      (intK .i64 x14 fun z16 =>
      (endK l15
        (bindK (rec i_rEdges [p0]) fun x17 =>
        (pK x17 fun x18 =>
        (tupK x18 fun l19 =>
        (consK l19 fun x20 l21 =>
        (consK l21 fun x22 l23 =>
        (intK .i64 x22 fun z24 =>
        (endK l23
          (slK x12 fun l25 =>
          (slK x20 fun l26 =>
          (ifB ((((List.length l25) : Nat) : Int) != (((List.length l26) : Nat) : Int))
            (some (AVal.p (PVal.bool false)))
            (ifB (z16 != z24)
              (some (AVal.p (PVal.bool false)))
              (L_lTH_0 k rec (fun x => match x with
                | .a b27 => (some (AVal.p (PVal.bool b27)))
                | .b x28 x29 => (bindK (rec i_tOr [x28]) fun x30 =>
                  (pK x30 fun x31 =>
                  (tupK x31 fun l32 =>
                  (consK l32 fun x33 l34 =>
                  (consK l34 fun x35 l36 =>
                  (intK .i64 x35 fun z37 =>
                  (endK l36
                    (bindK (rec i_rOrder [x28]) fun x38 =>
                    (pK x38 fun x39 =>
                    (tupK x39 fun l40 =>
                    (consK l40 fun x41 l42 =>
                    (consK l42 fun x43 l44 =>
                    (intK .i64 x43 fun z45 =>
                    (endK l44
                      (bindK (rec i_tCi [x28]) fun x46 =>
                      (pK x46 fun x47 =>
                      (tupK x47 fun l48 =>
                      (consK l48 fun x49 l50 =>
                      (consK l50 fun x51 l52 =>
                      (intK .i64 x51 fun z53 =>
                      (endK l52
                        (bindK (rec i_rCircle [x28]) fun x54 =>
                        (pK x54 fun x55 =>
                        (tupK x55 fun l56 =>
                        (consK l56 fun x57 l58 =>
                        (consK l58 fun x59 l60 =>
                        (intK .i64 x59 fun z61 =>
                        (endK l60
                          (bindK (rec i_qSame (x33 :: [x41])) fun x62 =>
                          (pK x62 fun x63 =>
                          (boolK x63 fun b64 =>
                          (ifB b64
                            (ifB (z37 == z45)
                              (bindK (rec i_qSame (x49 :: [x57])) fun x65 =>
                              (pK x65 fun x66 =>
                              (boolK x66 fun b67 =>
                              (ifB b67
                                (ifB (z53 == z61)
                                  (bindK (rec i_tPr (x28 :: [x29])) fun x68 =>
                                  (pK x68 fun x69 =>
                                  (intK .i64 x69 fun z70 =>
                                  (bindK (rec i_rProves (x28 :: [x29])) fun x71 =>
                                  (pK x71 fun x72 =>
                                  (intK .i64 x72 fun z73 =>
                                  (ifB (z70 == z73)
                                    (bindK (rec i_lWk []) fun x74 =>
                                    (pK x74 fun x75 =>
                                    (boolK x75 fun b76 =>
                                    (some (AVal.p (PVal.bool b76))))))
                                    (some (AVal.p (PVal.bool false))))))))))
                                  (some (AVal.p (PVal.bool false))))
                                (some (AVal.p (PVal.bool false)))))))
                              (some (AVal.p (PVal.bool false))))
                            (some (AVal.p (PVal.bool false)))))))))))))))))))))))))))))))))))) k (.a p0 p1 x12 x20 (Int.ofNat 0)))))))))))))))))))))))))
theorem S_lTH_0_eq (k : Nat) (rec : Rec1) (Kn : XC → OA) (K : KX) (s : St_lTH_0) : codeK prog cflTH rec 110 (lolTH k rec) blTH_0 (tmOf gl livelTH_0 (mklTH_0 s).vals) (mklTH_0 s).st (roundK gl 0 livelTH_0 outslTH_0 Kn K) = S_lTH_0 k rec (fun s => Kn (mklTH_0 s)) (kxlTH_0 K) s := by
  cases s <;> kernel_rfl
theorem L_lTH_0_eq (k : Nat) (rec : Rec1) (K : KX) : ∀ (j : Nat) (s : St_lTH_0), loopX prog cflTH rec 110 gl (lolTH k rec) 0 livelTH_0 outslTH_0 blTH_0 j (mklTH_0 s) K = L_lTH_0 k rec (kxlTH_0 K) j s
  | 0, _ => rfl
  | j + 1, s => by
    simp only [loopX]
    rw [S_lTH_0_eq]
    exact congrArg (fun q => S_lTH_0 k rec q (kxlTH_0 K) s) (funext fun s' => L_lTH_0_eq k rec K j s')
theorem xllTH {k : Nat} {rec : Rec1} (h : RecKnown prog gl rec) : XLoops prog gl 110 (lolTH k rec) clTH :=
  ⟨_, loopsIn_of _ (by rw [show topLoops clTH = [(0, blTH_0)] from by kernel_rfl]; simp), (LoopsOk.add (evCall_ok (memoX_ok h) fine 1) (recOk h cflTH.imp 0 0) fine (Nat.le_of_ble_eq_true rfl) LoopsOk.none 0 livelTH_0 outslTH_0 blTH_0 (by kernel_rfl) (loopsIn_of _ (by rw [show topLoops blTH_0 = [] from by kernel_rfl]; simp)) (fun tm σ K r hk => ⟨k, canon_mono (fun c hc => by
    obtain ⟨s, e, hs⟩ := rdlTH_0_some hc
    rw [e, L_lTH_0_eq]
    exact hs) hk⟩))⟩
theorem F_lTH_eq (k : Nat) (rec : Rec1) (p0 p1 : PVal) : fnX prog cflTH .pure rec gl (fun _ => lolTH k rec) i_lTH [p0, p1] = F_lTH k rec p0 p1 := by kernel_rfl
theorem F_lTH_known {k : Nat} {rec : Rec1} (h : RecKnown prog gl rec) {p0 p1 : PVal} {v : AVal} (hv : F_lTH k rec p0 p1 = some v) (hg : goodV v = true) : goodV v = true ∧ Known prog gl i_lTH ([p0, p1].map .p) (adopt 0 v).1 (adopt 0 v).2 :=
  fnX_fact (cf := cflTH) (out := .pure) (lo := lolTH k rec) fine h func_lTH (by kernel_rfl : fn_lTH.body = some clTH) (by kernel_rfl) (xllTH h) ((F_lTH_eq k rec p0 p1).trans hv) hg
end
end Go.Proofs.YtlcbgidfdkbfcaaGreatDoor
