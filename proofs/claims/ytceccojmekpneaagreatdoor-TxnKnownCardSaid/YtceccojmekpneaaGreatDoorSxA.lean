/- Regions: which operations stand before which; what the store is after some of them. -/
import Derived.Test.YtceccojmekpneaaGreatDoorSzB
namespace Go.Proofs.YtceccojmekpneaaGreatDoor.Sw

/-! ### What stands before what -/
section
variable {ops : Array Oper}

theorem edgesBack_spec (h : edgesBack ops = true) {j : Nat} {o : Oper} (hj : ops[j]? = some o) : ∀ e ∈ o.after, Region.binds .any e = true → e.on < j := by
  intro e he hb
  simp only [edgesBack, List.all_eq_true] at h
  have h1 := h (o, j) (by
    rw [List.mem_zipIdx_iff_getElem?]
    simpa using hj)
  have h2 := h1 e (by simpa using he)
  simp only [hb, Bool.not_true, Bool.false_or] at h2
  have h3 : Nat.ble (e.on + 1) j = true := h2
  exact Nat.le_of_ble_eq_true h3

def beforeStep (acc : Array Nat) (o : Oper) : Array Nat :=
  acc.push (o.after.foldl (fun s e => if Region.binds .any e then s ||| 2 ^ e.on ||| acc.getD e.on 0 else s) 0)

theorem before_bits (acc : Array Nat) : ∀ (l : List Edge) (s0 i : Nat),
    (l.foldl (fun s e => if Region.binds .any e then s ||| 2 ^ e.on ||| acc.getD e.on 0 else s) s0).testBit i = true →
    s0.testBit i = true ∨ ∃ e ∈ l, Region.binds .any e = true ∧ (e.on = i ∨ (acc.getD e.on 0).testBit i = true)
  | [], s0, i, h => .inl h
  | e :: l, s0, i, h => by
    simp only [List.foldl_cons] at h
    rcases before_bits acc l _ i h with h | ⟨e', h1, h2⟩
    · by_cases hb : Region.binds .any e = true
      · simp only [hb, if_true, Nat.testBit_or, Nat.testBit_two_pow, Bool.or_eq_true, decide_eq_true_eq] at h
        rcases h with (h | h) | h
        · exact .inl h
        · exact .inr ⟨e, by simp, hb, .inl h⟩
        · exact .inr ⟨e, by simp, hb, .inr h⟩
      · simp only [hb] at h
        exact .inl h
    · exact .inr ⟨e', by simp [h1], h2⟩

theorem before_go (he : edgesBack ops = true) : ∀ (l pre : List Oper) (acc : Array Nat), pre ++ l = ops.toList → acc.size = pre.length →
    (∀ j o i, ops[j]? = some o → j < acc.size → (acc.getD j 0).testBit i = true → ∃ e ∈ o.after, Region.binds .any e = true ∧ (e.on = i ∨ (acc.getD e.on 0).testBit i = true)) →
    ∀ j o i, ops[j]? = some o → ((l.foldl beforeStep acc).getD j 0).testBit i = true →
      ∃ e ∈ o.after, Region.binds .any e = true ∧ (e.on = i ∨ ((l.foldl beforeStep acc).getD e.on 0).testBit i = true)
  | [], pre, acc, hp, hs, hq => by
    intro j o i ho hb
    have hj : j < acc.size := by
      have := (Array.getElem?_eq_some_iff.1 ho).1
      have e1 : pre.length = ops.size := by simp at hp; rw [hp]; simp
      omega
    exact hq j o i ho hj hb
  | x :: l, pre, acc, hp, hs, hq => by
    simp only [List.foldl_cons]
    have hx : ops[acc.size]? = some x := by
      have : ops.toList[acc.size]? = some x := by rw [← hp, hs]; simp
      simpa using this
    have old : ∀ k, k < acc.size → (beforeStep acc x).getD k 0 = acc.getD k 0 := by
      intro k hk
      unfold beforeStep
      simp only [Array.getD_eq_getD_getElem?, Array.getElem?_push]
      rw [if_neg (by omega)]
    have new : (beforeStep acc x).getD acc.size 0 = x.after.foldl (fun s e => if Region.binds .any e then s ||| 2 ^ e.on ||| acc.getD e.on 0 else s) 0 := by
      unfold beforeStep
      simp [Array.getD_eq_getD_getElem?]
    refine before_go he l (pre ++ [x]) (beforeStep acc x) (by simpa using hp) (by simp [beforeStep, hs]) ?_
    intro j o i ho hj hb
    have hj' : j < acc.size + 1 := by simpa [beforeStep] using hj
    have back := edgesBack_spec he ho
    by_cases hlt : j < acc.size
    · rw [old j hlt] at hb
      obtain ⟨e, h1, h2, h3⟩ := hq j o i ho hlt hb
      exact ⟨e, h1, h2, by rw [old _ (Nat.lt_trans (back e h1 h2) hlt)]; exact h3⟩
    · have hje : j = acc.size := by omega
      subst hje
      rw [hx] at ho
      simp at ho
      subst ho
      rw [new, ← Array.foldl_toList] at hb
      rcases before_bits acc _ 0 i hb with h | ⟨e, h1, h2, h3⟩
      · simp at h
      · have h1' : e ∈ x.after := by simpa using h1
        exact ⟨e, h1', h2, by rw [old _ (back e h1' h2)]; exact h3⟩

theorem before_spec (he : edgesBack ops = true) {j i : Nat} {o : Oper} (hj : ops[j]? = some o) (hb : ((Region.before ops).getD j 0).testBit i = true) :
    ∃ e ∈ o.after, Region.binds .any e = true ∧ (e.on = i ∨ ((Region.before ops).getD e.on 0).testBit i = true) := by
  have e1 : Region.before ops = ops.toList.foldl beforeStep #[] := by
    unfold Region.before
    rw [← Array.foldl_toList]
    rfl
  rw [e1] at hb ⊢
  exact before_go he ops.toList [] #[] (by simp) rfl (by simp) j o i hj hb

theorem namesApart_spec {B : Array Nat} (h : namesApart ops B = true) {i j : Nat} {x y : Oper} (hx : ops[i]? = some x) (hy : ops[j]? = some y) (hlt : i < j) (hb : (B.getD j 0).testBit i = false) : x.apart ops y = true := by
  simp only [namesApart, List.all_eq_true] at h
  have h1 := h (y, j) (by rw [List.mem_zipIdx_iff_getElem?]; simpa using hy)
  have h2 := h1 (x, i) (by
    have : (ops.toList.zipIdx.take j)[i]? = some (x, i) := by
      rw [List.getElem?_take, if_pos hlt]
      have hx' : ops.toList[i]? = some x := by simpa using hx
      simp [List.getElem?_zipIdx, hx]
    exact List.mem_of_getElem? this)
  simpa only [hb, Bool.false_or] using h2

end

/-! ### Stores with given contents -/
theorem bits_length : ∀ (d f m : Nat), 2 ^ d ≤ m + 1 → m ≤ f → d ≤ (bits f m).length
  | 0, _, _, _, _ => Nat.zero_le _
  | d + 1, 0, m, h, hf => by
    have : m = 0 := by omega
    subst this
    have := Nat.one_lt_two_pow (n := d + 1) (by omega)
    omega
  | d + 1, f + 1, 0, h, _ => by
    have := Nat.one_lt_two_pow (n := d + 1) (by omega)
    omega
  | d + 1, f + 1, m + 1, h, hf => by
    simp only [bits, List.length_cons]
    have h2 : 2 ^ (d + 1) = 2 * 2 ^ d := by rw [Nat.pow_succ]; omega
    have := bits_length d f (Nat.div m 2) (by show 2 ^ d ≤ m / 2 + 1; omega) (by show m / 2 ≤ f; omega)
    omega

theorem Tr.find_deep {α : Type} : ∀ (t : Tr α), ∃ d, ∀ p : List Bool, d ≤ p.length → t.find p = none
  | .lf => ⟨0, fun p _ => by cases p <;> rfl⟩
  | .nd v l r => by
    obtain ⟨d1, h1⟩ := Tr.find_deep l
    obtain ⟨d2, h2⟩ := Tr.find_deep r
    refine ⟨max d1 d2 + 1, fun p hp => ?_⟩
    cases p with
    | nil => simp at hp
    | cons b p =>
      simp at hp
      cases b
      · exact h2 p (by omega)
      · exact h1 p (by omega)

/-- names from some on mean nothing. -/
theorem St.bounded (S : St) : ∃ N, ∀ id, N ≤ id → S.get id = none := by
  obtain ⟨d, hd⟩ := S.objs.find_deep
  exact ⟨2 ^ d, fun id hid => hd _ (bits_length d id id (by omega) (Nat.le_refl _))⟩

theorem St.of_fun : ∀ (N : Nat) (s : Sto), (∀ id, N ≤ id → s id = none) → ∃ S : St, S.get = s
  | 0, s, h => ⟨St.empty, funext fun id => by rw [h id (Nat.zero_le _)]; exact Tr.get_lf id⟩
  | N + 1, s, h => by
    obtain ⟨S, hS⟩ := St.of_fun N (fun id => if id < N then s id else none) (fun id hid => by rw [if_neg (by omega)])
    cases hN : s N with
    | none =>
      refine ⟨S, ?_⟩
      rw [hS]
      funext id
      by_cases h1 : id < N
      · rw [if_pos h1]
      · rw [if_neg h1]
        by_cases h2 : id = N
        · rw [h2, hN]
        · rw [h id (by omega)]
    | some o =>
      refine ⟨S.set N o, ?_⟩
      funext id
      rw [St.get_set, hS]
      by_cases h2 : N = id
      · rw [if_pos h2, ← h2, hN]
      · rw [if_neg h2]
        show (if id < N then s id else none) = s id
        by_cases h1 : id < N
        · rw [if_pos h1]
        · rw [if_neg h1, h id (by omega)]

/-! ### Traces -/
/-- what an operation of a region came to. -/
inductive Out where
  | skip
  | eff (e : Eff)

def Out.val : Out → AVal
  | .skip => .p (.tup [])
  | .eff e => e.v
def Out.st (s : Sto) : Out → Sto
  | .skip => s
  | .eff e => upds s e.wr
def Out.rec' : Out → Rec
  | .skip => ⟨[], []⟩
  | .eff e => recOf e

def putD (tm : Tr AVal) (d : Option Nat) (v : AVal) : Tr AVal := match d with
  | none => tm
  | some d => tm.set d v

abbrev Items := List (Oper × Out)

def runTm (L : Nat → Bool) : Nat → Items → Tr AVal → Tr AVal
  | _, [], tm => tm
  | i, (o, x) :: r, tm => runTm L (i + 1) r (match L i with | true => putD tm o.dst x.val | false => tm)

def runSt (L : Nat → Bool) : Nat → Items → Sto → Sto
  | _, [], s => s
  | i, (_, x) :: r, s => runSt L (i + 1) r (match L i with | true => x.st s | false => s)

theorem putD_get (tm : Tr AVal) (d : Option Nat) (v : AVal) (t : Nat) : (putD tm d v).get t = if d = some t then some v else tm.get t := by
  cases d with
  | none => simp [putD]
  | some d => simp only [putD, Tr.get_set, Option.some.injEq]

/-- does it give the name another meaning? -/
def Out.writes (x : Out) (id : Nat) : Prop := match x with
  | .skip => False
  | .eff e => id ∈ e.wr.map (·.1)

theorem Out.st_get {x : Out} {s : Sto} {id : Nat} (h : ¬ x.writes id) : x.st s id = s id := by
  cases x with
  | skip => rfl
  | eff e => exact upds_not h

theorem Out.st_same {x : Out} {s s' : Sto} {id : Nat} (h : x.writes id) : x.st s id = x.st s' id := by
  cases x with
  | skip => exact h.elim
  | eff e => exact upds_in h

/-- what is named stays bounded. -/
theorem Out.st_bounded {x : Out} {s : Sto} (h : ∃ N, ∀ id, N ≤ id → s id = none) : ∃ N, ∀ id, N ≤ id → x.st s id = none := by
  obtain ⟨N, hN⟩ := h
  cases x with
  | skip => exact ⟨N, hN⟩
  | eff e =>
    obtain ⟨S, hS⟩ := St.of_fun N s hN
    obtain ⟨M, hM⟩ := (S.sets e.wr).bounded
    refine ⟨M, fun id hid => ?_⟩
    have := hM id hid
    rw [sets_get, hS] at this
    exact this

theorem runTm_same {L L' : Nat → Bool} {t : Nat} : ∀ {items : Items} {i : Nat} {tm tm' : Tr AVal}, tm.get t = tm'.get t →
    (∀ (k : Nat) (o : Oper) (x : Out), items[k]? = some (o, x) → o.dst = some t → L (i + k) = L' (i + k)) → (runTm L i items tm).get t = (runTm L' i items tm').get t
  | [], _, _, _, h, _ => h
  | (o, x) :: r, i, tm, tm', h, hl => by
    simp only [runTm]
    refine runTm_same ?_ (fun k o' x' hk hd => by have := hl (k + 1) o' x' (by simpa using hk) hd; rw [show i + 1 + k = i + (k + 1) by omega]; exact this)
    by_cases hd : o.dst = some t
    · have := hl 0 o x (by simp) hd
      simp only [Nat.add_zero] at this
      rw [this]
      cases L' i with
      | true => simp only [putD_get, hd, if_true]
      | false => exact h
    · cases L i <;> cases L' i <;> simp only [putD_get, hd, if_false] <;> exact h

theorem runTm_last {L : Nat → Bool} {t : Nat} : ∀ {items : Items} {i : Nat} {tm : Tr AVal} {k : Nat} {o : Oper} {x : Out}, items[k]? = some (o, x) → o.dst = some t → L (i + k) = true →
    (∀ (k' : Nat) (o' : Oper) (x' : Out), items[k']? = some (o', x') → k < k' → o'.dst = some t → L (i + k') = false) → (runTm L i items tm).get t = some x.val
  | [], _, _, _, _, _, h, _, _, _ => by simp at h
  | (o1, x1) :: r, i, tm, 0, o, x, h, hd, hL, hno => by
    simp at h
    obtain ⟨rfl, rfl⟩ := h
    simp only [runTm]
    simp only [Nat.add_zero] at hL
    rw [hL]
    have : (runTm L (i + 1) r (putD tm o1.dst x1.val)).get t = (runTm (fun _ => false) (i + 1) r (putD tm o1.dst x1.val)).get t :=
      runTm_same rfl (fun k o' x' hk hd' => by
        have := hno (k + 1) o' x' (by simpa using hk) (by omega) hd'
        rw [show i + 1 + k = i + (k + 1) by omega]; exact this)
    rw [this]
    have none : ∀ (items : Items) (i : Nat) (tm : Tr AVal), runTm (fun _ => false) i items tm = tm := by
      intro items
      induction items with
      | nil => intro i tm; rfl
      | cons q items ih => intro i tm; obtain ⟨a, b⟩ := q; simp only [runTm]; exact ih _ _
    rw [none, putD_get, if_pos hd]
  | (o1, x1) :: r, i, tm, k + 1, o, x, h, hd, hL, hno => by
    simp only [runTm]
    exact runTm_last (k := k) (by simpa using h) hd (by rw [show i + 1 + k = i + (k + 1) by omega]; exact hL)
      (fun k' o' x' hk hlt hd' => by rw [show i + 1 + k' = i + (k' + 1) by omega]; exact hno (k' + 1) o' x' (by simpa using hk) (by omega) hd')

theorem runSt_same {L L' : Nat → Bool} {id : Nat} : ∀ {items : Items} {i : Nat} {s s' : Sto}, s id = s' id →
    (∀ (k : Nat) (o : Oper) (x : Out), items[k]? = some (o, x) → x.writes id → L (i + k) = L' (i + k)) → runSt L i items s id = runSt L' i items s' id
  | [], _, _, _, h, _ => h
  | (o, x) :: r, i, s, s', h, hl => by
    simp only [runSt]
    refine runSt_same ?_ (fun k o' x' hk hd => by have := hl (k + 1) o' x' (by simpa using hk) hd; rw [show i + 1 + k = i + (k + 1) by omega]; exact this)
    by_cases hd : x.writes id
    · have := hl 0 o x (by simp) hd
      simp only [Nat.add_zero] at this
      rw [this]
      cases L' i with
      | true => exact Out.st_same hd
      | false => exact h
    · cases L i <;> cases L' i <;> simp only [Out.st_get hd] <;> exact h

theorem runSt_last {L : Nat → Bool} {id : Nat} : ∀ {items : Items} {i : Nat} {s s1 : Sto} {k : Nat} {o : Oper} {x : Out}, items[k]? = some (o, x) → x.writes id → L (i + k) = true →
    (∀ (k' : Nat) (o' : Oper) (x' : Out), items[k']? = some (o', x') → k < k' → x'.writes id → L (i + k') = false) → runSt L i items s id = x.st s1 id
  | [], _, _, _, _, _, _, h, _, _, _ => by simp at h
  | (o1, x1) :: r, i, s, s1, 0, o, x, h, hd, hL, hno => by
    simp at h
    obtain ⟨rfl, rfl⟩ := h
    simp only [runSt]
    simp only [Nat.add_zero] at hL
    rw [hL]
    have : runSt L (i + 1) r (x1.st s) id = runSt (fun _ => false) (i + 1) r (x1.st s) id :=
      runSt_same rfl (fun k o' x' hk hd' => by
        have := hno (k + 1) o' x' (by simpa using hk) (by omega) hd'
        rw [show i + 1 + k = i + (k + 1) by omega]; exact this)
    rw [this]
    have none : ∀ (items : Items) (i : Nat) (s : Sto), runSt (fun _ => false) i items s = s := by
      intro items
      induction items with
      | nil => intro i s; rfl
      | cons q items ih => intro i s; obtain ⟨a, b⟩ := q; simp only [runSt]; exact ih _ _
    rw [none]
    exact Out.st_same hd
  | (o1, x1) :: r, i, s, s1, k + 1, o, x, h, hd, hL, hno => by
    simp only [runSt]
    exact runSt_last (k := k) (by simpa using h) hd (by rw [show i + 1 + k = i + (k + 1) by omega]; exact hL)
      (fun k' o' x' hk hlt hd' => by rw [show i + 1 + k' = i + (k' + 1) by omega]; exact hno (k' + 1) o' x' (by simpa using hk) (by omega) hd')

theorem runSt_bounded {L : Nat → Bool} : ∀ {items : Items} {i : Nat} {s : Sto}, (∃ N, ∀ id, N ≤ id → s id = none) → ∃ N, ∀ id, N ≤ id → runSt L i items s id = none
  | [], _, _, h => h
  | (o, x) :: r, i, s, h => by
    simp only [runSt]
    refine runSt_bounded ?_
    cases L i with
    | true => exact Out.st_bounded h
    | false => exact h

end Go.Proofs.YtceccojmekpneaaGreatDoor.Sw
