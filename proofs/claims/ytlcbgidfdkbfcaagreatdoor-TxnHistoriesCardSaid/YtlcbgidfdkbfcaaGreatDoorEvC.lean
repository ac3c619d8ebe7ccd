/- A verified evaluator over the code that the model runs: its words, its operations, and what they stand for. Part C. -/
import Derived.Test.YtlcbgidfdkbfcaaGreatDoorEvB
import Derived.OrdersIn
import Derived.Scope
import Derived.RecoverIn
import Derived.KernelRfl
import Derived.Lib.LaidTab
import Derived.RowKit3
set_option linter.unusedVariables false
set_option linter.unusedSimpArgs false
/- Regions: in the order of the text. -/
namespace Go.Proofs.YtlcbgidfdkbfcaaGreatDoor.Sw
open Go.RowKit
section
variable {C : CallFn} {imp : Nat → Bool} {P : Program} {n : Nat} {ops : Array Oper} {g : Sg} {s : Sto} {w : World} {tm : Tr AVal}
theorem Frm.congr {tm' : Tr AVal} {tmps : Array Value} (h : Frm g s w tm tmps) (he : ∀ t, tm'.get t = tm.get t) : Frm g s w tm' tmps := fun t x ht => h t x (by rw [← he]; exact ht)
theorem Frm.put {a : Act} (h : Frm g s w tm a.tmps) {x : AVal} {u : Value} (hx : RepA g s w x u) {dst : Option Tmp} (hd : ∀ d, dst = some d → d < a.tmps.size ∧ d < glBase) :
    Frm g s w (putD tm dst x) (a.put dst u).tmps := by
  intro t y ht
  rw [putD_get] at ht
  cases dst with
  | none => simp at ht; exact h t y ht
  | some d =>
    obtain ⟨hlt, hlb⟩ := hd d rfl
    simp only [Act.put]
    by_cases hdt : d = t
    · subst hdt
      simp at ht
      subst ht
      exact ⟨u, by simp [slot, hlt, hlb], hx⟩
    · simp [hdt] at ht
      obtain ⟨v, h1, h2⟩ := h t y ht
      refine ⟨v, ?_, h2⟩
      unfold slot at h1 ⊢
      split
      · rename_i hb
        rw [if_pos hb] at h1
        rw [Array.getElem?_setIfInBounds_ne hdt]; exact h1
      · rename_i hb
        rw [if_neg hb] at h1
        exact h1
@[simp] theorem put_defers (a : Act) (dst : Option Tmp) (u : Value) : (a.put dst u).defers = a.defers := by cases dst <;> rfl
@[simp] theorem put_size (a : Act) (dst : Option Tmp) (u : Value) : (a.put dst u).tmps.size = a.tmps.size := by cases dst <;> simp [Act.put]
theorem rep_undef : RepA g s w (.p (.tup [])) undef := ⟨[], rfl, rfl⟩
theorem operand_tmp {d : Tmp} {x : AVal} (h : operand tm (.tmp d) = some x) : tm.get d = some x ∧ d < glBase := by
  simp only [operand] at h
  split at h <;> try (simp at h; done)
  rename_i hb
  have hb : Nat.ble (d + 1) glBase = true := hb
  exact ⟨h, Nat.le_of_ble_eq_true hb⟩
theorem wantedA_rep {a : Act} (hf : Frm g s w tm a.tmps) {o : Oper} {b : Bool} (h : wantedA ops tm o = some b) : Region.wanted o (yielded ops a.tmps) = b := by
  unfold wantedA at h
  unfold Region.wanted
  split at h
  · rename_i hg
    simp at h
    subst h
    simp [hg]
  · rename_i j want hg
    simp only [hg]
    split at h <;> try (simp at h; done)
    rename_i oj hoj
    split at h <;> try (simp at h; done)
    rename_i d hd
    split at h <;> simp at h
    · rename_i c hc
      obtain ⟨hc, hlt⟩ := operand_tmp hc
      obtain ⟨v, h1, h2⟩ := hf d _ hc
      simp only [slot, hlt, if_true] at h1
      have e1 : v = .bool c := h2
      subst e1
      have : yielded ops a.tmps j = some c := by simp [yielded, hoj, hd, h1]
      rw [this, ← h]
      rfl
    · rename_i hc
      obtain ⟨hc, hlt⟩ := operand_tmp hc
      obtain ⟨v, h1, vs, e1, e2⟩ := hf d _ hc
      simp only [slot, hlt, if_true] at h1
      have e2 : vs = [] := e2
      subst e2
      subst e1
      have : yielded ops a.tmps j = none := by simp [yielded, hoj, hd, h1]
      rw [this, h]
      rfl
def RepD (g : Sg) (s : Sto) (w : World) : List Dfr → List Deferred → Prop
  | [], l => l = []
  | .mark id :: r, l => ∃ b t, l = { target := .collected b, args := #[] } :: t ∧ g.bx id = some b ∧ RepD g s w r t
  | .call f cap :: r, l => ∃ (vs : List Value) (t : List Deferred), l = { target := .fn (.func f) vs.toArray, args := #[] } :: t ∧ RepAs g s w cap vs ∧ RepD g s w r t
theorem RepD.ext {g' : Sg} {s' : Sto} {w' : World} (he : Ext g s w g' s' w') : ∀ {l : List Dfr} {ds : List Deferred}, RepD g s w l ds → RepD g' s' w' l ds
  | [], _, h => h
  | .mark id :: r, _, h => by
    obtain ⟨b, t, rfl, h1, h2⟩ := h
    exact ⟨b, t, rfl, he.bx _ _ h1, RepD.ext he h2⟩
  | .call f cap :: r, _, h => by
    obtain ⟨vs, t, rfl, h1, h2⟩ := h
    exact ⟨vs, t, rfl, RepAs.ext he _ _ h1, RepD.ext he h2⟩
structure Here (g : Sg) (s : Sto) (w : World) (a : Act) (tm' : Tr AVal) (dfs' : List Dfr) (s' : Sto) (a' : Act) (w' : World) : Prop where
  ex : ∃ g', Ext g s w g' s' w' ∧ Inv g' s' w' ∧ Frm g' s' w' tm' a'.tmps ∧ RepD g' s' w' dfs' a'.defers
  size : a'.tmps.size = a.tmps.size
structure HerePan (g : Sg) (s : Sto) (w : World) (a : Act) (v : AVal) (tm' : Tr AVal) (dfs' : List Dfr) (s' : Sto) (chain : List PanicEntry) (a' : Act) (w' : World) : Prop where
  ex : ∃ g' u, chain = [{ v := u, recovered := false }] ∧ Ext g s w g' s' w' ∧ Inv g' s' w' ∧ RepA g' s' w' v u ∧ Frm g' s' w' tm' a'.tmps ∧ RepD g' s' w' dfs' a'.defers
  size : a'.tmps.size = a.tmps.size
theorem Here.refl {g : Sg} {s : Sto} {w : World} {a : Act} {tm : Tr AVal} {dfs : List Dfr} (hi : Inv g s w) (hf : Frm g s w tm a.tmps) (hd : RepD g s w dfs a.defers) : Here g s w a tm dfs s a w :=
  ⟨⟨g, .refl _ _ _, hi, hf, hd⟩, rfl⟩
theorem Here.then {g g1 : Sg} {s s1 s2 : Sto} {w w1 w2 : World} {a a1 a2 : Act} {tm2 : Tr AVal} {d2 : List Dfr} (e : Ext g s w g1 s1 w1) (hz : a1.tmps.size = a.tmps.size)
    (h : Here g1 s1 w1 a1 tm2 d2 s2 a2 w2) : Here g s w a tm2 d2 s2 a2 w2 := by
  obtain ⟨⟨g2, f1, f2⟩, f3⟩ := h
  exact ⟨⟨g2, e.trans f1, f2⟩, f3.trans hz⟩
theorem HerePan.then {g g1 : Sg} {s s1 s2 : Sto} {w w1 w2 : World} {a a1 a2 : Act} {v : AVal} {tm2 : Tr AVal} {d2 : List Dfr} {chain : List PanicEntry} (e : Ext g s w g1 s1 w1) (hz : a1.tmps.size = a.tmps.size)
    (h : HerePan g1 s1 w1 a1 v tm2 d2 s2 chain a2 w2) : HerePan g s w a v tm2 d2 s2 chain a2 w2 := by
  obtain ⟨⟨g2, u, f0, f1, f2⟩, f3⟩ := h
  exact ⟨⟨g2, u, f0, e.trans f1, f2⟩, f3.trans hz⟩
theorem ops_wp {ro : Option Nat} {gl : Tr AVal} (hC : CallOk2 P gl C) (hN : NoOwn P) (hnb : n ≤ glBase) {dfs : List Dfr} {N : Nat} {Q : Exit → Act → World → Prop} :
    ∀ {l : List Oper} {i b : Nat} {tm : Tr AVal} {S : St} {recs : List (Nat × Rec)} {ds : List Dfr} {ro' : RO} {g : Sg} {w : World} {a : Act},
    evOps C imp P n ops l i b tm S recs ds = some ro' → (ro = none ∨ (match ro' with | .done _ _ _ ds' => ds' = [] | .pan _ _ _ ds' => ds' = [])) → l = ops.toList.drop i → i ≤ ops.size → Inv g S.get w → Glob gl g.imm w →
    Frm g S.get w tm a.tmps → RepD g S.get w (ds ++ dfs) a.defers → n ≤ a.tmps.size →
    (∀ a' w', (match ro' with
      | .done tm' S' _ ds' => Here g S.get w a tm' (ds' ++ dfs) S'.get a' w' → Q .normal a' w'
      | .pan v tm' S' ds' => ∀ chain, HerePan g S.get w a v tm' (ds' ++ dfs) S'.get chain a' w' → Q (.panic chain) a' w')) →
    wpOpsIn (Fw ro) N P ops Q (List.range' i (ops.size - i)) a w
  | [], i, b, tm, S, recs, ds, ro', g, w, a, h, hro, hl, hi, hinv, hG, hf, hD, hn, hQ => by
    simp [evOps] at h
    subst h
    have : ops.size - i = 0 := by
      have := congrArg List.length hl
      simp at this
      omega
    rw [this]
    exact hQ a w (.refl hinv hf hD)
  | o :: l, i, b, tm, S, recs, ds, ro', g, w, a, h, hro, hl, hi, hinv, hG, hf, hD, hn, hQ => by
    have hlen : i < ops.size := by
      have := congrArg List.length hl
      simp at this
      omega
    have ho : ops[i]? = some o := by
      have : (ops.toList.drop i)[0]? = some o := by rw [← hl]; simp
      simpa using this
    have hl' : l = ops.toList.drop (i + 1) := by
      have : (ops.toList.drop i).drop 1 = l := by rw [← hl]; simp
      rw [← this, List.drop_drop]
    have er : List.range' i (ops.size - i) = i :: List.range' (i + 1) (ops.size - (i + 1)) := by
      rw [show ops.size - i = (ops.size - (i + 1)) + 1 by omega, List.range'_succ]
    rw [er, wpOpsIn_cons]
    unfold wpOpIn
    rw [ho]
    simp only
    have next : ∀ {x : AVal} {S1 : St} {tm1 : Tr AVal} {recs1 : List (Nat × Rec)} {ds1 : List Dfr} {u : Value} {g1 : Sg} {w1 : World} {a1 : Act}, tm1 = putD tm o.dst x → (∀ d, o.dst = some d → d < n) →
        Ext g S.get w g1 S1.get w1 → Inv g1 S1.get w1 → RepA g1 S1.get w1 x u → a1.tmps = a.tmps → RepD g1 S1.get w1 (ds1 ++ dfs) a1.defers →
        evOps C imp P n ops l (i + 1) (b + 16) tm1 S1 recs1 ds1 = some ro' →
        wpOpsIn (Fw ro) N P ops Q (List.range' (i + 1) (ops.size - (i + 1))) (a1.put o.dst u) w1 := by
      intro x S1 tm1 recs1 ds1 u g1 w1 a1 htm hd e1 e2 e3 hat hD1 h
      subst htm
      refine ops_wp hC hN hnb h hro hl' (by omega) e2 (hG.ext e1) (Frm.put (a := a1) (by rw [hat]; exact hf.ext e1) e3 (fun d hd' => ⟨by rw [hat]; exact Nat.lt_of_lt_of_le (hd d hd') hn, Nat.lt_of_lt_of_le (hd d hd') hnb⟩))
        (by simpa using hD1) (by simpa [hat] using hn) ?_
      intro a' w'
      have := hQ a' w'
      cases ro' with
      | done tm' S' r ds' =>
        simp only at this ⊢
        intro hh
        exact this (Here.then e1 (by simp [hat]) hh)
      | pan v t S' ds' =>
        simp only at this ⊢
        intro chain hh
        exact this chain (HerePan.then e1 (by simp [hat]) hh)
    simp only [evOps] at h
    split at h
    · rename_i hw
      rw [wantedA_rep hf hw]
      simp only [if_true]
      split at h
      · rename_i e he
        split at h <;> try (simp at h; done)
        rename_i tm1 ht
        obtain ⟨h1, h2⟩ := setDst_spec ht
        refine evOp_wp hC.toCallOk hN hinv hG hf he ?_
        intro u g' w' e1 e2 e3
        have hs : upds S.get e.wr = (S.did e.rd e.wr).get := (did_get _ _ _).symm
        rw [hs] at e1 e2 e3
        exact next (S1 := S.did e.rd e.wr) h1 h2 e1 e2 e3 rfl (hD.ext e1) h
      · rename_i v s' he
        split at h <;> try (simp at h; done)
        rename_i tm1 ht
        obtain ⟨h1, h2⟩ := setDst_spec ht
        refine evOp_wp hC.toCallOk hN hinv hG hf he ?_
        intro u g' w' e1 e2 e3
        exact next (S1 := { s' with log := .call s'.log S.log }) h1 h2 e1 e2 e3 rfl (hD.ext e1) h
      · rename_i v s' he
        simp at h
        subst h
        refine evOp_wp hC.toCallOk hN hinv hG hf he ?_
        intro u g' w' e1 e2 e3
        exact hQ a w' _ ⟨⟨g', u, rfl, e1, e2, e3, hf.ext e1, hD.ext e1⟩, rfl⟩
      · rename_i f cap he
        split at h <;> try (simp at h; done)
        rename_i tm1 ht
        obtain ⟨h1, h2⟩ := setDst_spec ht
        have hrn : ro = none := by
          rcases hro with hro | hro
          · exact hro
          · exfalso
            cases ro' with
            | done _ _ _ ds' => simp only at hro; subst hro; exact evOps_ds h (by simp)
            | pan _ _ _ ds' => simp only at hro; subst hro; exact evOps_dsp h (by simp)
        subst hrn
        refine defer_wp hf he ?_
        intro vs hvs
        exact next (ds1 := .call f cap :: ds) (a1 := { a with defers := { target := .fn (.func f) vs.toArray, args := #[] } :: a.defers }) h1 h2 (.refl _ _ _) hinv rep_undef rfl ⟨vs, a.defers, rfl, hvs, hD⟩ h
      · simp at h
    · rename_i hw
      rw [wantedA_rep hf hw]
      simp only [Bool.false_eq_true, if_false]
      split at h <;> try (simp at h; done)
      rename_i tm1 ht
      obtain ⟨h1, h2⟩ := setDst_spec ht
      exact ⟨fun _ _ => trivial, next h1 h2 (.refl _ _ _) hinv rep_undef rfl hD h⟩
    · simp at h
end
end Go.Proofs.YtlcbgidfdkbfcaaGreatDoor.Sw
namespace Go.Proofs.YtlcbgidfdkbfcaaGreatDoor.Sw
open Go.RowKit
section
variable {C : CallFn} {imp : Nat → Bool} {P : Program} {n : Nat} {ops : Array Oper}
def Ord (B : Array Nat) (i j : Nat) : Prop := (i < j ∧ (B.getD j 0).testBit i = true) ∨ (j < i ∧ (B.getD i 0).testBit j = true)
def Down (B : Array Nat) (L : Nat → Bool) : Prop := ∀ j i, L j = true → (B.getD j 0).testBit i = true → L i = true
theorem ord_iff {B : Array Nat} {L : Nat → Bool} {i j : Nat} (hd : Down B L) (hj : L j = false) (hr : ∀ i, (B.getD j 0).testBit i = true → L i = true) (ho : Ord B i j) : L i = decide (i < j) := by
  rcases ho with ⟨h1, h2⟩ | ⟨h1, h2⟩
  · rw [hr i h2]; simp [h1]
  · cases hL : L i with
    | false => simp; omega
    | true =>
      have := hd i j hL h2
      rw [hj] at this
      simp at this
def Out.looks (x : Out) (id : Nat) : Prop := match x with
  | .skip => False
  | .eff e => id ∈ e.rd
theorem meets_of {x : Nat} {l m : List Nat} (h1 : x ∈ l) (h2 : x ∈ m) : meets l m = true := by
  induction l with
  | nil => simp at h1
  | cons y l ih =>
    simp only [meets]
    split
    · rfl
    · rename_i hc
      cases h1 with
      | head => simp [h2] at hc
      | tail _ h => exact ih h
theorem clash_of {x y : Out} {id : Nat} (hx : x.writes id) (hy : y.looks id ∨ y.writes id) : clash x.rec' y.rec' = true ∧ clash y.rec' x.rec' = true ∧ x.rec'.touch ∧ y.rec'.touch := by
  cases x with
  | skip => exact hx.elim
  | eff e =>
    have tx : (Out.eff e).rec'.touch := .inr (List.ne_nil_of_mem hx)
    cases y with
    | skip => rcases hy with h | h <;> exact h.elim
    | eff e2 =>
      rcases hy with h | h
      · have := meets_of hx h
        exact ⟨by simp [clash, Out.rec', recOf, this], by simp [clash, Out.rec', recOf, this], tx, .inl (List.ne_nil_of_mem h)⟩
      · have h1 := meets_of hx h
        have h2 := meets_of h hx
        exact ⟨by simp [clash, Out.rec', recOf, h1], by simp [clash, Out.rec', recOf, h2], tx, .inr (List.ne_nil_of_mem h)⟩
theorem hit_ord {B : Array Nat} {items : Items} (hp : pairsFree B (recsOf 0 items []) = true) {i j : Nat} (hne : i ≠ j) {oi oj : Oper} {xi xj : Out} (hi : items[i]? = some (oi, xi)) (hj : items[j]? = some (oj, xj))
    {id : Nat} (hx : xi.writes id) (hy : xj.looks id ∨ xj.writes id) : Ord B i j := by
  obtain ⟨c1, c2, t1, t2⟩ := clash_of hx hy
  rcases Nat.lt_or_gt_of_ne hne with h | h
  · exact .inl ⟨h, clash_ordered hp h hi hj t1 t2 c2⟩
  · exact .inr ⟨h, clash_ordered hp h hj hi t2 t1 c1⟩
theorem name_ord {B : Array Nat} (hs : namesApart ops B = true) {i j : Nat} (hne : i ≠ j) {oi oj : Oper} (hi : ops[i]? = some oi) (hj : ops[j]? = some oj) {d : Tmp} (hd : oi.dst = some d)
    (hl : d ∈ oj.looksAt ops ∨ oj.dst = some d) : Ord B i j := by
  rcases Nat.lt_or_gt_of_ne hne with h | h
  · cases hb : (B.getD j 0).testBit i with
    | true => exact .inl ⟨h, hb⟩
    | false =>
      obtain ⟨h1, h2, _⟩ := Oper.apart_spec (namesApart_spec hs hi hj h hb)
      rcases hl with hl | hl
      · exact absurd hl (h1 d hd)
      · exact absurd hl (h2 d hd)
  · cases hb : (B.getD i 0).testBit j with
    | true => exact .inr ⟨h, hb⟩
    | false =>
      obtain ⟨_, h2, h3⟩ := Oper.apart_spec (namesApart_spec hs hj hi h hb)
      rcases hl with hl | hl
      · exact absurd hl (h3 d hd)
      · exact absurd hd (h2 d hl)
theorem wantedA_agree {tm tm' : Tr AVal} {o : Oper} (h : ∀ d ∈ o.looksAt ops, tm'.get d = tm.get d) : wantedA ops tm' o = wantedA ops tm o := by
  have h : ∀ d ∈ o.looksAt ops, operand tm' (.tmp d) = operand tm (.tmp d) := fun d hd => by simp only [operand]; rw [h d hd]
  unfold wantedA
  split
  · rfl
  · rename_i j want hg
    split
    · rename_i oj hoj
      split
      · rename_i d hd
        rw [h d (by simp [Oper.looksAt, hg, hoj, hd])]
      · rfl
    · rfl
theorem operands_look {o : Oper} {t : Tmp} (h : Operand.tmp t ∈ o.op.operands.toList) : t ∈ o.looksAt ops :=
  List.mem_append_left _ (List.mem_filterMap.2 ⟨.tmp t, h, rfl⟩)
section step
variable {B : Array Nat} {items : Items} {L : Nat → Bool} {j : Nat} {o : Oper} {x : Out} {tm : Tr AVal} {S : Sto}
theorem step_tm (hs : namesApart ops B = true) (hit : items.map (·.1) = ops.toList) (hd : Down B L) (hj : L j = false) (hr : ∀ i, (B.getD j 0).testBit i = true → L i = true) (ho : ops[j]? = some o) :
    ∀ d ∈ o.looksAt ops, (runTm L 0 items tm).get d = (runTm (fun m => decide (m < 0 + j)) 0 items tm).get d := by
  intro d hd'
  refine runTm_same rfl fun k o' x' hk hdst => ?_
  simp only [Nat.zero_add]
  by_cases hkj : k = j
  · subst hkj; rw [hj]; simp
  · have hk' : ops[k]? = some o' := by
      have : (items.map (·.1))[k]? = some o' := by simp [hk]
      rw [hit] at this
      simpa using this
    exact ord_iff hd hj hr (name_ord hs hkj hk' ho hdst (.inl hd'))
theorem step_st (hp : pairsFree B (recsOf 0 items []) = true) (hd : Down B L) (hj : L j = false) (hr : ∀ i, (B.getD j 0).testBit i = true → L i = true) (hx : items[j]? = some (o, x)) {id : Nat} (hl : x.looks id) :
    runSt L 0 items S id = runSt (fun m => decide (m < 0 + j)) 0 items S id := by
  refine runSt_same rfl fun k o' x' hk hw => ?_
  simp only [Nat.zero_add]
  by_cases hkj : k = j
  · subst hkj; rw [hj]; simp
  · exact ord_iff hd hj hr (hit_ord hp hkj hk hx hw (.inl hl))
theorem take_tm (hs : namesApart ops B = true) (hit : items.map (·.1) = ops.toList) (hd : Down B L) (hj : L j = false) (hr : ∀ i, (B.getD j 0).testBit i = true → L i = true) (hx : items[j]? = some (o, x)) (t : Nat) :
    (runTm (fun m => m == j || L m) 0 items tm).get t = (putD (runTm L 0 items tm) o.dst x.val).get t := by
  have op_of : ∀ {k : Nat} {o' : Oper} {x' : Out}, items[k]? = some (o', x') → ops[k]? = some o' := fun {k o' x'} hk => by
    have : (items.map (·.1))[k]? = some o' := by simp [hk]
    rw [hit] at this
    simpa using this
  rw [putD_get]
  by_cases hdt : o.dst = some t
  · rw [if_pos hdt]
    refine runTm_last (k := j) hx hdt (by simp) fun k o' x' hk hlt hd' => ?_
    simp only [Nat.zero_add]
    have hkj : k ≠ j := by omega
    have := ord_iff hd hj hr (name_ord hs hkj (op_of hk) (op_of hx) hd' (.inr hdt))
    rw [this]
    simp; omega
  · rw [if_neg hdt]
    refine runTm_same rfl fun k o' x' hk hd' => ?_
    simp only [Nat.zero_add]
    have : k ≠ j := fun e => by
      subst e
      rw [hk] at hx
      simp at hx
      exact hdt (hx.1 ▸ hd')
    simp [this]
theorem take_st (hp : pairsFree B (recsOf 0 items []) = true) (hd : Down B L) (hj : L j = false) (hr : ∀ i, (B.getD j 0).testBit i = true → L i = true) (hx : items[j]? = some (o, x)) (id : Nat) :
    runSt (fun m => m == j || L m) 0 items S id = x.st (runSt L 0 items S) id := by
  by_cases hw : x.writes id
  · refine runSt_last (k := j) hx hw (by simp) fun k o' x' hk hlt hw' => ?_
    simp only [Nat.zero_add]
    have hkj : k ≠ j := by omega
    have := ord_iff hd hj hr (hit_ord hp hkj hk hx hw' (.inr hw))
    rw [this]
    simp; omega
  · rw [Out.st_get hw]
    refine runSt_same rfl fun k o' x' hk hw' => ?_
    simp only [Nat.zero_add]
    have : k ≠ j := fun e => by
      subst e
      rw [hk] at hx
      simp at hx
      exact hw (hx.2 ▸ hw')
    simp [this]
end step
theorem any_wp {ro : Option Nat} {gl : Tr AVal} (hC : CallOk2 P gl C) (hN : NoOwn P) (hnb : n ≤ glBase) {dfs : List Dfr} {N : Nat} {Q : Exit → Act → World → Prop} (hst : statOk ops = true) {items : Items} (hit : items.map (·.1) = ops.toList)
    (hp : pairsFree (Region.before ops) (recsOf 0 items []) = true) {tm : Tr AVal} {S : St}
    {q : Option (Nat × AVal)}
    (hok : ∀ (k : Nat) (o : Oper) (x : Out), items[k]? = some (o, x) → AnyOk C imp P n ops (Region.before ops) q (0 + k) (runTm (fun m => decide (m < 0 + k)) 0 items tm) (runSt (fun m => decide (m < 0 + k)) 0 items S.get) o x)
    (hqt : ∀ p v, q = some (p, v) → p < ops.size ∧ quiet (Region.before ops) p (recsOf 0 items []) = true)
    {g₀ : Sg} {s₀ : Sto} {w₀ : World} {a₀ : Act} (hG : Glob gl g₀.imm w₀) (hQ : q = none → ∀ a' w', Here g₀ s₀ w₀ a₀ (runTm (fun _ => true) 0 items tm) dfs (runSt (fun _ => true) 0 items S.get) a' w' → Q .normal a' w')
    (hQp : ∀ p v, q = some (p, v) → ∀ chain a' w', HerePan g₀ s₀ w₀ a₀ v .lf dfs (runSt (fun _ => true) 0 items S.get) chain a' w' → Q (.panic chain) a' w') (hn : n ≤ a₀.tmps.size) :
    ∀ (fuel : Nat) (listed : Array Bool) (a : Act) (w : World), listed.size = ops.size → listed.toList.count false ≤ fuel → Down (Region.before ops) (fun m => listed.getD m false) → (∀ p v, q = some (p, v) → listed.getD p false = false) →
      Here g₀ s₀ w₀ a₀ (runTm (fun m => listed.getD m false) 0 items tm) dfs (runSt (fun m => listed.getD m false) 0 items S.get) a w → wpAnyIn (Fw ro) N P .any ops Q fuel listed a w := by
  have hst1 : edgesBack ops = true := by simp [statOk] at hst; exact hst.1
  have hst2 : namesApart ops (Region.before ops) = true := by simp [statOk] at hst; exact hst.2
  have hil : items.length = ops.size := by have := congrArg List.length hit; simpa using this
  have fin : ∀ (listed : Array Bool) (a : Act) (w : World), listed.size = ops.size → (∀ i, i < ops.size → listed.getD i false = true) → q = none →
      Here g₀ s₀ w₀ a₀ (runTm (fun m => listed.getD m false) 0 items tm) dfs (runSt (fun m => listed.getD m false) 0 items S.get) a w → Q .normal a w := by
    intro listed a w hsz hall hqn h
    have e1 : ∀ t, (runTm (fun _ => true) 0 items tm).get t = (runTm (fun m => listed.getD m false) 0 items tm).get t := fun t =>
      runTm_same rfl fun k o x hk _ => by
        have : k < items.length := (List.getElem?_eq_some_iff.1 hk).1
        simp only [Nat.zero_add]; exact (hall k (by omega)).symm
    have e2 : runSt (fun _ => true) 0 items S.get = runSt (fun m => listed.getD m false) 0 items S.get := funext fun id =>
      runSt_same rfl fun k o x hk _ => by
        have : k < items.length := (List.getElem?_eq_some_iff.1 hk).1
        simp only [Nat.zero_add]; exact (hall k (by omega)).symm
    obtain ⟨⟨g', f1, f2, f3, f4⟩, f5⟩ := h
    exact hQ hqn a w ⟨⟨g', by rw [e2]; exact f1, by rw [e2]; exact f2, by rw [e2]; exact f3.congr e1, by rw [e2]; exact f4⟩, f5⟩
  have least : ∀ (listed : Array Bool), listed.size = ops.size → Region.ready .any ops listed = [] → ∀ i, i < ops.size → listed.getD i false = true := by
    intro listed hsz hr i
    induction i using Nat.strongRecOn with
    | _ i ih =>
      intro hi
      cases hL : listed.getD i false with
      | true => rfl
      | false =>
        exfalso
        obtain ⟨o, ho⟩ : ∃ o, ops[i]? = some o := ⟨ops[i], by simp [hi]⟩
        have : i ∈ Region.ready .any ops listed := mem_ready.2 ⟨by
            have hi' : i < listed.size := by omega
            simp only [Array.getD_eq_getD_getElem?, Array.getElem?_eq_getElem hi', Option.getD_some] at hL ⊢
            exact hL, o, ho, fun e he hb => ih e.on (edgesBack_spec hst1 ho e he hb) (Nat.lt_trans (edgesBack_spec hst1 ho e he hb) hi)⟩
        rw [hr] at this
        simp at this
  intro fuel
  induction fuel with
  | zero =>
    intro listed a w hsz hcount hd hpl hh
    have h0 : listed.toList.count false = 0 := by omega
    have hall : ∀ i, i < ops.size → listed.getD i false = true := by
      intro i hi
      have hi' : i < listed.size := by omega
      have hnot := List.count_eq_zero.1 h0
      cases hL : listed.getD i false with
      | true => rfl
      | false =>
        exfalso
        simp only [Array.getD_eq_getD_getElem?, Array.getElem?_eq_getElem hi', Option.getD_some] at hL
        exact hnot (by rw [← hL]; simp)
    have hqn : q = none := by
      cases hq : q with
      | none => rfl
      | some z =>
        obtain ⟨p, v⟩ := z
        have e1 := hall p (hqt p v hq).1
        rw [hpl p v hq] at e1
        simp at e1
    refine ⟨?_, fin listed a w hsz hall hqn hh⟩
    cases hr : Region.ready .any ops listed with
    | nil => rfl
    | cons j r =>
      exfalso
      have hj : j ∈ Region.ready .any ops listed := by rw [hr]; simp
      obtain ⟨h1, o, ho, _⟩ := mem_ready.1 hj
      have hjs := (Array.getElem?_eq_some_iff.1 ho).1
      have := hall j hjs
      have hj' : j < listed.size := by omega
      simp only [Array.getD_eq_getD_getElem?, Array.getElem?_eq_getElem hj', Option.getD_some] at this h1
      rw [this] at h1
      simp at h1
  | succ fuel ih =>
    intro listed a w hsz hcount hd hpl hh
    refine ⟨fun hr => fin listed a w hsz (least listed hsz hr) (by
      cases hq : q with
      | none => rfl
      | some z =>
        obtain ⟨p, v⟩ := z
        have e1 := least listed hsz hr p (hqt p v hq).1
        rw [hpl p v hq] at e1
        simp at e1) hh, fun j hj => ?_⟩
    obtain ⟨h1, o, ho, hedges⟩ := mem_ready.1 hj
    have hjs := (Array.getElem?_eq_some_iff.1 ho).1
    have hj' : j < listed.size := by omega
    have hLj : listed.getD j false = false := by
      simp only [Array.getD_eq_getD_getElem?, Array.getElem?_eq_getElem hj', Option.getD_some] at h1 ⊢
      exact h1
    have hready : ∀ i, ((Region.before ops).getD j 0).testBit i = true → listed.getD i false = true := by
      intro i hb
      obtain ⟨e, e1, e2, e3⟩ := before_spec hst1 ho hb
      rcases e3 with rfl | e3
      · exact hedges e e1 e2
      · exact hd e.on i (hedges e e1 e2) e3
    obtain ⟨x, hx⟩ : ∃ x, items[j]? = some (o, x) := by
      have hjl : j < items.length := by omega
      have : (items.map (·.1))[j]? = some o := by rw [hit]; simpa using ho
      simp only [List.getElem?_map, Option.map_eq_some_iff] at this
      obtain ⟨⟨o', x⟩, q1, q2⟩ := this
      simp at q2
      subst q2
      exact ⟨x, q1⟩
    have hL1 : (fun m => (listed.setIfInBounds j true).getD m false) = fun m => m == j || listed.getD m false := by
      funext m
      simp only [Array.getD_eq_getD_getElem?, Array.getElem?_setIfInBounds]
      by_cases hm : m = j
      · subst hm; simp [hj']
      · have : ¬ j = m := fun e => hm e.symm
        simp [hm, this]
    have hdown : Down (Region.before ops) (fun m => (listed.setIfInBounds j true).getD m false) := by
      rw [hL1]
      intro k i hk hb
      simp only [Bool.or_eq_true, beq_iff_eq] at hk ⊢
      rcases hk with rfl | hk
      · exact .inr (hready i hb)
      · exact .inr (hd k i hk hb)
    have hcnt : (listed.setIfInBounds j true).toList.count false ≤ fuel := by
      rw [Array.toList_setIfInBounds, List.count_set (by simpa using hj')]
      have e1 : listed.toList[j] = false := by
        simp only [Array.getD_eq_getD_getElem?, Array.getElem?_eq_getElem hj', Option.getD_some] at hLj
        simpa using hLj
      simp only [e1, beq_self_eq_true, if_true]
      have : 0 < listed.toList.count false := List.count_pos_iff.2 (by rw [← e1]; simp)
      simp
      simp at this hcount
      omega
    obtain ⟨⟨g1, q1, q2, q3, q4⟩, q5⟩ := hh
    have hG1 := hG.ext q1
    have hna : n ≤ a.tmps.size := by omega
    have okA := hok j o x hx
    have hlook := step_tm (tm := tm) hst2 hit hd hLj hready ho
    have htk := take_tm (tm := tm) hst2 hit hd hLj hready hx
    have hsk : runSt (fun m => (listed.setIfInBounds j true).getD m false) 0 items S.get = x.st (runSt (fun m => listed.getD m false) 0 items S.get) := by
      rw [hL1]
      exact funext fun id => take_st hp hd hLj hready hx id
    have hagree : Agree (runTm (fun m => decide (m < 0 + j)) 0 items tm) (runTm (fun m => listed.getD m false) 0 items tm) o.op.operands.toList :=
      agree_of (fun t ht => hlook t (operands_look ht)) fun k => runTm_same rfl fun m o' x' hm hd' => by
        have := (hok m o' x' hm).1 _ hd'
        exact absurd (Nat.lt_of_lt_of_le this hnb) (Nat.not_lt.2 (Nat.le_add_right glBase k))
    have hwant := wantedA_agree hlook
    obtain ⟨hdst, okA⟩ := okA
    rcases okA with ⟨ok, hnp⟩ | ⟨v, s', hq, ok1, rfl, S1, b, hS1, ok2⟩ | ⟨p, v, hq, _, hb, _⟩
    rotate_left
    ·
      rw [Nat.zero_add] at hq
      rw [← hwant] at ok1
      unfold wpOpIn
      rw [ho]
      simp only
      rw [wantedA_rep q3 ok1]
      simp only [if_true]
      rw [← evOp_tm hagree] at ok2
      obtain ⟨N0, hN0⟩ := runSt_bounded (L := fun m => listed.getD m false) (items := items) (i := 0) (S.bounded)
      obtain ⟨S2, hS2⟩ := St.of_fun N0 _ hN0
      have hsame : ∀ id ∈ s'.log.rdOf, S2.get id = S1.get id := fun id hid => by
        rw [hS1, hS2]
        exact step_st hp hd hLj hready hx (x := .eff ⟨.junk, s'.log.rdOf, s'.log.flat⟩) hid
      obtain ⟨T', k1, k2, k3, k4⟩ := (evOp_again_pan hC.loc ok2).2 { S2 with next := S1.next } rfl (fun id hid => hsame id hid)
      have hT : T'.get = (Out.eff ⟨.junk, s'.log.rdOf, s'.log.flat⟩).st S2.get := by
        rw [k3, app_flat]
        rfl
      have hS2' : ({ S2 with next := S1.next } : St).get = S2.get := rfl
      have hend : runSt (fun _ => true) 0 items S.get = (Out.eff ⟨.junk, s'.log.rdOf, s'.log.flat⟩).st (runSt (fun m => listed.getD m false) 0 items S.get) := by
        rw [← show runSt (fun m => m == j || listed.getD m false) 0 items S.get = _ from funext fun id => take_st hp hd hLj hready hx id]
        refine funext fun id => runSt_same rfl fun k o' x' hk hw => ?_
        simp only [Nat.zero_add]
        by_cases hkj : k = j
        · subst hkj; simp
        · have ht : x'.rec'.touch := by
            cases x' with
            | skip => exact hw.elim
            | eff e =>
              refine .inr fun e0 => ?_
              have e0 : e.wr.map (·.1) = [] := e0
              have hw : id ∈ e.wr.map (·.1) := hw
              rw [e0] at hw
              simp at hw
          have hin := recsOf_in (i := 0) (recs := []) hk ht
          rw [Nat.zero_add] at hin
          rcases quiet_spec (hqt j v hq).2 _ hin with e1 | e1 | e1
          · exact absurd e1 hkj
          · have := hready k e1
            simp [this]
          · exfalso
            cases x' with
            | skip => exact hw
            | eff e =>
              have hw : id ∈ e.wr.map (·.1) := hw
              have e1 : e.wr.map (·.1) = [] := e1
              rw [e1] at hw
              simp at hw
      rw [← hS2, ← hS2'] at q2 q3
      rw [← hS2] at q1 q4
      refine evOp_wp hC.toCallOk hN q2 hG1 q3 k1 ?_
      intro u g' w' e1 e2 e3
      rw [hS2'] at e1
      refine hQp j v hq _ a w' ⟨⟨g', u, rfl, ?_, ?_, ?_, ?_, ?_⟩, q5⟩
      · rw [hend, ← hS2, ← hT]; exact q1.trans e1
      · rw [hend, ← hS2, ← hT]; exact e2
      · rw [hend, ← hS2, ← hT]; exact e3
      · intro t y ht
        rw [Tr.get_lf] at ht
        simp at ht
      · rw [hend, ← hS2, ← hT]; exact q4.ext e1
    · exfalso
      rw [Nat.zero_add] at hb
      have e1 := hready p hb
      rw [hpl p v hq] at e1
      simp at e1
    have hpl' : ∀ p v, q = some (p, v) → (listed.setIfInBounds j true).getD p false = false := by
      intro p v hq
      have := congrFun hL1 p
      rw [this]
      simp only [Bool.or_eq_false_iff]
      exact ⟨by simpa using fun e : p = j => hnp p v hq (by rw [Nat.zero_add]; exact e.symm), hpl p v hq⟩
    have next : ∀ {u : Value} {g2 : Sg} {w2 : World}, Ext g1 (runSt (fun m => listed.getD m false) 0 items S.get) w g2 (x.st (runSt (fun m => listed.getD m false) 0 items S.get)) w2 →
        Inv g2 (x.st (runSt (fun m => listed.getD m false) 0 items S.get)) w2 → RepA g2 (x.st (runSt (fun m => listed.getD m false) 0 items S.get)) w2 x.val u →
        wpAnyIn (Fw ro) N P .any ops Q fuel (listed.setIfInBounds j true) (a.put o.dst u) w2 := by
      intro u g2 w2 f1 f2 f3
      refine ih _ _ _ (by simpa using hsz) hcnt hdown hpl' ?_
      refine ⟨⟨g2, ?_, ?_, ?_, ?_⟩, by simpa using q5⟩
      · rw [hsk]; exact q1.trans f1
      · rw [hsk]; exact f2
      · rw [hsk]
        refine (Frm.put (q3.ext f1) f3 (fun d hd' => ⟨Nat.lt_of_lt_of_le (ok.1 d hd') hna, Nat.lt_of_lt_of_le (ok.1 d hd') hnb⟩)).congr fun t => ?_
        rw [hL1]
        exact htk t
      · rw [hsk, put_defers]; exact q4.ext f1
    unfold wpOpIn
    rw [ho]
    simp only
    obtain ⟨_, ok⟩ := ok
    cases x with
    | skip =>
      rw [← hwant] at ok
      rw [wantedA_rep q3 ok]
      simp only [Bool.false_eq_true, if_false]
      exact ⟨fun _ _ => trivial, next (.refl _ _ _) q2 rep_undef⟩
    | eff e =>
      obtain ⟨ok1, S1, b, hS1, ok2⟩ := ok
      rw [← hwant] at ok1
      rw [wantedA_rep q3 ok1]
      simp only [if_true]
      rw [← evOp_tm hagree] at ok2
      obtain ⟨N0, hN0⟩ := runSt_bounded (L := fun m => listed.getD m false) (items := items) (i := 0) (S.bounded)
      obtain ⟨S2, hS2⟩ := St.of_fun N0 _ hN0
      have hsame : ∀ id ∈ e.rd, S2.get id = S1.get id := fun id hid => by
        rw [hS1, hS2]
        exact step_st hp hd hLj hready hx (x := .eff e) hid
      rcases ok2 with ok2 | ⟨s', ok2, he⟩
      · have ok3 := evOp_same (S' := S2) ok2 hsame
        rw [← hS2] at q2 q3 next
        refine evOp_wp hC.toCallOk hN q2 hG1 q3 ok3 ?_
        intro u g' w' e1 e2 e3
        exact next e1 e2 e3
      · obtain ⟨T', k1, k2, k3, k4⟩ := (evOp_again hC.loc ok2).2 { S2 with next := S1.next } rfl (fun id hid => hsame id (by rw [he]; exact hid))
        have hT : T'.get = (Out.eff e).st S2.get := by
          rw [k3, app_flat]
          show upds S2.get s'.log.flat = upds S2.get e.wr
          rw [he]
        have hS2' : ({ S2 with next := S1.next } : St).get = S2.get := rfl
        rw [← hS2, ← hS2'] at q2 q3
        rw [← hS2] at next
        refine evOp_wp hC.toCallOk hN q2 hG1 q3 k1 ?_
        intro u g' w' e1 e2 e3
        rw [hT, hS2'] at e1
        rw [hT] at e2 e3
        exact next e1 e2 e3
end
end Go.Proofs.YtlcbgidfdkbfcaaGreatDoor.Sw
namespace Go.Proofs.YtlcbgidfdkbfcaaGreatDoor.Sw
open Go.RowKit
structure Fine (P : Program) : Prop where
  own : NoOwn P
  mixed : P.follows .mixedOrders = true
  code : ∀ (f : Nat) (fn : Func) (c : Code), P.funcs[f]? = some fn → fn.body = some c → codeOk c = true
section
variable {C : CallFn} {imp : Nat → Bool} {P : Program} {n : Nat} {g : Sg} {S : St} {w : World}
theorem tm_false {items : Items} : ∀ {i : Nat} {tm : Tr AVal}, runTm (fun _ => false) i items tm = tm := by
  induction items with
  | nil => intro i tm; rfl
  | cons q items ih => intro i tm; obtain ⟨o, x⟩ := q; simp only [runTm]; exact ih
theorem st_false {items : Items} : ∀ {i : Nat} {S : Sto}, runSt (fun _ => false) i items S = S := by
  induction items with
  | nil => intro i S; rfl
  | cons q items ih => intro i S; obtain ⟨o, x⟩ := q; simp only [runSt]; exact ih
def Left (g : Sg) (s : Sto) (w : World) (a : Act) (x : XExit) (tm' : Tr AVal) (dfs' : List Dfr) (S' : St) (e : Exit) (a' : Act) (w' : World) : Prop :=
  match x, e with
  | .normal, .normal => Here g s w a tm' dfs' S'.get a' w'
  | .exit i, .exit j => i = j ∧ Here g s w a tm' dfs' S'.get a' w'
  | .ret, .ret => Here g s w a tm' dfs' S'.get a' w'
  | .pan v, .panic chain => HerePan g s w a v tm' dfs' S'.get chain a' w'
  | _, _ => False
theorem Left.after {g g1 : Sg} {s s1 : Sto} {w w1 w2 : World} {a a1 a2 : Act} {x : XExit} {tm2 : Tr AVal} {d2 : List Dfr} {S2 : St} {e : Exit} (h1 : Ext g s w g1 s1 w1) (hz : a1.tmps.size = a.tmps.size)
    (h2 : Left g1 s1 w1 a1 x tm2 d2 S2 e a2 w2) : Left g s w a x tm2 d2 S2 e a2 w2 := by
  cases x <;> cases e <;> simp only [Left] at h2 ⊢ <;> first | exact Here.then h1 hz h2 | exact ⟨h2.1, Here.then h1 hz h2.2⟩ | exact h2.elim | exact HerePan.then h1 hz h2
theorem region_wp {ro : Option Nat} {gl : Tr AVal} (hC : CallOk2 P gl C) (hP : Fine P) (hnb : n ≤ glBase) {N id : Nat} {Q : Exit → Act → World → Prop} {rd : Bool} (hro : rd = false → ro = none) {ops : Array Oper} {draw : Bool}
    (hs : draw = true → statOk ops = true) {fr fr' : Fr} {S S' : St} {x : XExit} {g : Sg} {w : World} {a : Act}
    (h : evRegion C imp P n rd ops draw fr S = some (x, fr', S')) (hi : Inv g S.get w) (hG : Glob gl g.imm w) (hf : Frm g S.get w fr.tm a.tmps) (hd : RepD g S.get w fr.dfs a.defers) (hn : n ≤ a.tmps.size)
    (hQ : ∀ e a' w', Left g S.get w a x fr'.tm fr'.dfs S' e a' w' → Q e a' w') : (Code.region id ops draw).wpIn (Fw ro) N P Q a w := by
  cases draw with
  | false =>
    simp only [evRegion] at h
    refine wpIn_region ?_
    rw [List.range_eq_range']
    split at h
    · rename_i tm s recs ds ho
      have key : (ro = none ∨ ds = []) ∧ x = .normal ∧ fr' = { tm := tm, dfs := ds ++ fr.dfs } ∧ S' = s := by
        split at h <;> simp at h
        rename_i hno
        obtain ⟨rfl, rfl, rfl⟩ := h
        refine ⟨?_, rfl, rfl, rfl⟩
        cases rd with
        | false => exact .inl (hro rfl)
        | true => cases ds with
          | nil => exact .inr rfl
          | cons q ds => exact (hno q ds rfl rfl).elim
      obtain ⟨k1, rfl, rfl, rfl⟩ := key
      exact ops_wp hC hP.own hnb (dfs := fr.dfs) (i := 0) ho k1 (by simp) (Nat.zero_le _) hi hG hf hd hn (fun a' w' hh => hQ .normal a' w' hh)
    · rename_i v tm s ds ho
      have key : (ro = none ∨ ds = []) ∧ x = .pan v ∧ fr' = { tm := tm, dfs := ds ++ fr.dfs } ∧ S' = s := by
        split at h <;> simp at h
        rename_i hno
        obtain ⟨rfl, rfl, rfl⟩ := h
        refine ⟨?_, rfl, rfl, rfl⟩
        cases rd with
        | false => exact .inl (hro rfl)
        | true => cases ds with
          | nil => exact .inr rfl
          | cons q ds => exact (hno q ds rfl rfl).elim
      obtain ⟨k1, rfl, rfl, rfl⟩ := key
      exact ops_wp hC hP.own hnb (dfs := fr.dfs) (i := 0) ho k1 (by simp) (Nat.zero_le _) hi hG hf hd hn (fun a' w' chain hh => hQ (.panic chain) a' w' hh)
    · simp at h
  | true =>
    simp only [evRegion] at h
    refine wpIn_region_any hP.mixed ?_
    have e1 : (fun m => (Array.replicate ops.size false).getD m false) = fun _ => false := by
      funext m
      simp only [Array.getD_eq_getD_getElem?, Array.getElem?_replicate]
      split <;> rfl
    have hdown : Down (Region.before ops) (fun m => (Array.replicate ops.size false).getD m false) := by
      intro j i hj
      have e2 := congrFun e1 j
      simp only at e2 hj
      rw [e2] at hj
      simp at hj
    split at h
    · rename_i tm s recs ho
      split at h <;> simp at h
      rename_i hpf
      obtain ⟨rfl, rfl, rfl⟩ := h
      obtain ⟨items, h1, h2, h3, h4, h5⟩ := evAny_trace hC.loc ho (fun _ _ e => by simp at e)
      subst h2 h4
      refine any_wp (n := n) (dfs := fr.dfs) (a₀ := a) hC hP.own hnb (hs rfl) h1 hpf h5 (fun _ _ e => by simp at e) (g₀ := g) (s₀ := S.get) (w₀ := w) hG (fun _ a' w' hh => hQ .normal a' w' (by rw [← h3] at hh; exact hh))
        (fun _ _ e => by simp at e) hn ops.size _ a _ (by simp) ?_ hdown (fun _ _ e => by simp at e) ?_
      · simp
      · rw [e1, tm_false, st_false]
        exact ⟨⟨g, Ext.drew _ _ _, hi.drew, hf.ext (Ext.drew _ _ _), hd.ext (Ext.drew _ _ _)⟩, rfl⟩
    · rename_i tm s recs p u ho
      split at h <;> simp at h
      rename_i hpf hqu
      obtain ⟨rfl, rfl, rfl⟩ := h
      have hk := (evAny_trace hC.loc ho (fun _ _ e => by simp at e))
      obtain ⟨items, h1, h2, h3, h4, h5⟩ := hk
      subst h2 h4
      have hpos : p < ops.size := evAny_in ho (fun _ _ e => by simp at e)
      refine any_wp (n := n) (dfs := fr.dfs) (a₀ := a) hC hP.own hnb (hs rfl) h1 hpf h5 (fun p' v' e => by simp at e; obtain ⟨rfl, rfl⟩ := e; exact ⟨hpos, hqu⟩) (g₀ := g) (s₀ := S.get) (w₀ := w) hG
        (fun e => by simp at e) (fun p' v' e chain a' w' hh => by simp at e; obtain ⟨rfl, rfl⟩ := e; exact hQ (.panic chain) a' w' (by rw [← h3] at hh; exact hh)) hn ops.size _ a _ (by simp) ?_ hdown
        (fun p' v' _ => congrFun e1 p') ?_
      · simp
      · rw [e1, tm_false, st_false]
        exact ⟨⟨g, Ext.drew _ _ _, hi.drew, hf.ext (Ext.drew _ _ _), hd.ext (Ext.drew _ _ _)⟩, rfl⟩
    · simp at h
theorem wpIn_scope {c : Code} {N : Nat} {Q : Exit → Act → World → Prop} {a : Act} {w : World} (h : c.wpIn (Fw none) N P (Exit.noGoto Q) a w) : (Code.scope c).wpIn (Fw none) N P Q a w :=
  wpIn_wide.2 (wp_scope_straight (wpIn_wide.1 h))
theorem wpIn_loop_fuel {ro : Option Nat} {c : Code} {N : Nat} {Q : Exit → Act → World → Prop} (J : Nat → Act → World → Prop)
    (round : ∀ j a w, J j a w → c.wpIn (Fw ro) N P (Exit.then (fun a' w' => ∃ i, i < j ∧ J i a' w') Q) a w) {j : Nat} {a : Act} {w : World} (h : J j a w) : (Code.loop c).wpIn (Fw ro) N P Q a w := by
  have least : ∀ (a : Act) (w : World), (∃ j, J j a w) → ∃ j, J j a w ∧ ∀ i, J i a w → j ≤ i := by
    intro a w ⟨j, hj⟩
    induction j using Nat.strongRecOn with
    | _ j ih =>
      by_cases hl : ∃ i, i < j ∧ J i a w
      · obtain ⟨i, h1, h2⟩ := hl
        exact ih i h1 h2
      · exact ⟨j, hj, fun i hi => Nat.le_of_not_lt fun hlt => hl ⟨i, hlt, hi⟩⟩
  let μ : Act → World → Nat := fun a w => open Classical in if h : ∃ j, J j a w then Classical.choose (least a w h) else 0
  have hμ : ∀ a w (h : ∃ j, J j a w), J (μ a w) a w ∧ ∀ i, J i a w → μ a w ≤ i := by
    intro a w h
    have : μ a w = Classical.choose (least a w h) := by simp only [μ]; rw [dif_pos h]
    rw [this]
    exact Classical.choose_spec (least a w h)
  refine wpIn_loop (fun a w => ∃ j, J j a w) μ ⟨j, h⟩ fun a w hI => ?_
  obtain ⟨h1, h2⟩ := hμ a w hI
  refine wpIn_mono (round _ _ _ h1) fun e a' w' he => ?_
  cases e <;> try exact he
  obtain ⟨i, h3, h4⟩ := he
  have h5 := hμ a' w' ⟨i, h4⟩
  exact ⟨⟨i, h4⟩, Nat.lt_of_le_of_lt (h5.2 i h4) h3⟩
theorem start_run (hi : Inv g S.get w) {S1 : St} {n : Nat} (hnb : n ≤ glBase) {ps : Array Tmp} {assign body : Code} {tm : Tr AVal} {tmps : Array Value} (hf : Frm g S.get w tm tmps) (hn : n ≤ tmps.size)
    (hok : codeOk assign = true ∧ codeOk body = true) (h : startRange n ps.toList assign body tm S = some S1) (fn : FuncId) :
    ∃ g1 w1, (Instr.enterLoop fn tmps ps assign body none).run P w = .ok (w.heap.size + 1, [{ target := .collected w.heap.size, args := #[] }]) w1 ∧ Ext g S.get w g1 S1.get w1 ∧ Inv g1 S1.get w1 ∧
      g1.bx S.next = some w.heap.size ∧ g1.bx (S.next + 1) = some (w.heap.size + 1) := by
  unfold startRange at h
  split at h <;> simp at h
  rename_i h1 h2
  subst h
  obtain ⟨g1, e1, i1, b1⟩ := new_ho hi h1 (h := .dl true) (o := .deferred (some [])) rfl
  have h2' : upd S.get S.next (.ho (.dl true)) (S.next + 1) = none := by rw [upd_other _ _ (by omega)]; exact h2
  obtain ⟨g2, e2, i2, b2⟩ := new_ho i1 h2' (h := .lp tm n ps.toList assign body .ready none)
    (o := .loop { state := .ready, pending := none, fn, tmps, params := ps, assign, body, defers := w.heap.size }) ⟨_, rfl, rfl, rfl, rfl, rfl, rfl, ⟨hn, hnb, hok.1, hok.2⟩, hf.ext e1⟩
  have hst : (({ S with next := S.next + 16 } : St).did [S.next, S.next + 1] [(S.next, .ho (.dl true)), (S.next + 1, .ho (.lp tm n ps.toList assign body .ready none))]).get =
      upd (upd S.get S.next (.ho (.dl true))) (S.next + 1) (.ho (.lp tm n ps.toList assign body .ready none)) := did_get _ _ _
  refine ⟨g2, _, run_enterLoop_outer fn tmps ps assign body, ?_, ?_, e2.bx _ _ b1, by simpa using b2⟩
  · rw [hst]; exact e1.trans e2
  · rw [hst]; exact i2
def PendWp (F : Fence) (N : Nat) (P : Program) (Q : Exit → Act → World → Prop) (a : Act) (w : World) : Option Code → Prop
  | none => Q .normal a w
  | some c => c.wpIn F N P Q a w
theorem pendX_wp {F : Fence} {N : Nat} {pend : Option Code} {x : XExit} (h : pendX pend = some x) {Q : Exit → Act → World → Prop} {a : Act} {w : World}
    (hQ : match x with | .normal => Q .normal a w | .ret => Q .ret a w | .exit i => Q (.exit i) a w | .pan _ => True) :
    PendWp F N P Q a w pend := by
  unfold pendX at h
  split at h <;> simp at h <;> subst h
  · exact hQ
  · exact wpIn_ret hQ
  · exact wpIn_exit hQ
theorem code_wp {gl : Tr AVal} (hC : CallOk2 P gl C) (hP : Fine P) (hnb : n ≤ glBase) {k N : Nat} {rd : Bool} {ro : Option Nat} (hro : rd = false → ro = none) :
    ∀ (c : Code) {Q : Exit → Act → World → Prop} {fr fr' : Fr} {S S' : St} {x : XExit} {g : Sg} {w : World} {a : Act}, codeOk c = true →
    evCode C imp P k n rd c fr S = some (x, fr', S') → Inv g S.get w → Glob gl g.imm w → Frm g S.get w fr.tm a.tmps → RepD g S.get w fr.dfs a.defers → n ≤ a.tmps.size →
    (∀ e a' w', Left g S.get w a x fr'.tm fr'.dfs S' e a' w' → Q e a' w') → c.wpIn (Fw ro) N P Q a w := by
  intro c
  induction c with
  | skip =>
    intro Q fr fr' S S' x g w a _ h hi hG hf hd hn hQ
    simp [evCode] at h
    obtain ⟨rfl, rfl, rfl⟩ := h
    exact wpIn_skip (hQ .normal a w (Here.refl hi hf hd))
  | label l =>
    intro Q fr fr' S S' x g w a _ h hi hG hf hd hn hQ
    simp [evCode] at h
    obtain ⟨rfl, rfl, rfl⟩ := h
    exact wpIn_label (hQ .normal a w (Here.refl hi hf hd))
  | region id ops draw =>
    intro Q fr fr' S S' x g w a hok h hi hG hf hd hn hQ
    simp only [evCode] at h
    exact region_wp hC hP hnb hro (fun hd => by subst hd; exact hok) h hi hG hf hd hn hQ
  | seq c1 c2 ih1 ih2 =>
    intro Q fr fr' S S' x g w a hok h hi hG hf hd hn hQ
    simp only [codeOk, Bool.and_eq_true] at hok
    simp only [evCode] at h
    split at h
    · rename_i fr1 S1 h1
      refine wpIn_seq (ih1 hok.1 h1 hi hG hf hd hn fun e a1 w1 hl => ?_)
      cases e <;> simp only [Left] at hl
      obtain ⟨⟨g1, e1, e2, e3, e4⟩, e5⟩ := hl
      exact ih2 hok.2 h e2 (hG.ext e1) e3 e4 (by omega) fun e a2 w2 h2 => hQ e a2 w2 (Left.after e1 e5 h2)
    · rename_i hno
      refine wpIn_seq (ih1 hok.1 h hi hG hf hd hn fun e a1 w1 hl => ?_)
      cases e with
      | normal =>
        cases x <;> simp only [Left] at hl
        exact absurd h (hno _ _)
      | _ => exact hQ _ _ _ hl
  | cond o c1 c2 ih1 ih2 =>
    intro Q fr fr' S S' x g w a hok h hi hG hf hd hn hQ
    simp only [codeOk, Bool.and_eq_true] at hok
    simp only [evCode] at h
    split at h
    · rename_i hc
      exact wpIn_cond_true (operand_rep hf hc) (ih1 hok.1 h hi hG hf hd hn hQ)
    · rename_i hc
      exact wpIn_cond_false (operand_rep hf hc) (ih2 hok.2 h hi hG hf hd hn hQ)
    · simp at h
  | block id c ih =>
    intro Q fr fr' S S' x g w a hok h hi hG hf hd hn hQ
    simp only [codeOk] at hok
    simp only [evCode] at h
    split at h
    · rename_i i fr1 S1 h1
      refine wpIn_block (ih hok h1 hi hG hf hd hn fun e a1 w1 hl => ?_)
      cases e <;> simp only [Left] at hl
      rename_i j
      obtain ⟨rfl, hl⟩ := hl
      simp only [Exit.inBlock]
      split at h
      · rename_i hb
        have hb := Nat.eq_of_beq_eq_true hb
        simp at h
        obtain ⟨rfl, rfl, rfl⟩ := h
        rw [if_pos hb]
        exact hQ .normal _ _ hl
      · rename_i hb
        simp at h
        obtain ⟨rfl, rfl, rfl⟩ := h
        rw [if_neg (fun e => by subst e; rw [Nat.beq_refl] at hb; simp at hb)]
        exact hQ (.exit i) _ _ ⟨rfl, hl⟩
    · rename_i hno
      refine wpIn_block (ih hok h hi hG hf hd hn fun e a1 w1 hl => ?_)
      cases e with
      | exit j =>
        cases x <;> simp only [Left] at hl
        exact absurd h (hno _ _ _)
      | _ => exact hQ _ _ _ hl
  | loop c ih =>
    intro Q fr fr' S S' x g w a hok h hi hG hf hd hn hQ
    simp only [codeOk] at hok
    simp only [evCode] at h
    let J : Nat → Act → World → Prop := fun j a1 w1 => ∃ fr1 S1, loopN (evCode C imp P k n rd c) j fr1 S1 = some (x, fr', S') ∧ Here g S.get w a fr1.tm fr1.dfs S1.get a1 w1
    refine wpIn_loop_fuel J (j := k) ?_ ⟨fr, S, h, Here.refl hi hf hd⟩
    rintro j a1 w1 ⟨fr1, S1, h1, hh⟩
    obtain ⟨⟨g1, e1, e2, e3, e4⟩, e5⟩ := hh
    cases j with
    | zero => simp [loopN] at h1
    | succ j =>
      simp only [loopN] at h1
      split at h1
      · rename_i fr2 S2 h2
        refine ih hok h2 e2 (hG.ext e1) e3 e4 (by omega) fun e a2 w2 hl => ?_
        cases e <;> simp only [Left] at hl
        exact ⟨j, Nat.lt_succ_self j, fr2, S2, h1, Here.then e1 e5 hl⟩
      · rename_i hno
        refine ih hok h1 e2 (hG.ext e1) e3 e4 (by omega) fun e a2 w2 hl => ?_
        cases e with
        | normal =>
          cases x <;> simp only [Left] at hl
          exact absurd h1 (hno _ _)
        | _ => exact hQ _ _ _ (Left.after e1 e5 hl)
  | exit id =>
    intro Q fr fr' S S' x g w a _ h hi hG hf hd hn hQ
    simp [evCode] at h
    obtain ⟨rfl, rfl, rfl⟩ := h
    exact wpIn_exit (hQ (.exit id) a w ⟨rfl, Here.refl hi hf hd⟩)
  | scope c ih =>
    intro Q fr fr' S S' x g w a hok h hi hG hf hd hn hQ
    simp only [codeOk] at hok
    simp only [evCode] at h
    split at h <;> try (simp at h; done)
    obtain rfl := hro rfl
    refine wpIn_scope (ih hok h hi hG hf hd hn fun e a1 w1 hl => ?_)
    cases e with
    | goto l => cases x <;> simp only [Left] at hl
    | _ => exact hQ _ _ _ hl
  | ret =>
    intro Q fr fr' S S' x g w a _ h hi hG hf hd hn hQ
    simp [evCode] at h
    obtain ⟨rfl, rfl, rfl⟩ := h
    exact wpIn_ret (hQ .ret a w (Here.refl hi hf hd))
  | rangeFunc go ps assign body ih1 ih2 =>
    intro Q fr fr' S S' x g w a hok h hi hG hf hd hn hQ
    simp only [evCode] at h
    split at h <;> try (simp at h; done)
    rename_i gv hgv
    split at h <;> try (simp at h; done)
    rename_i f cap hfn
    split at h <;> try (simp at h; done)
    rename_i s1 hst
    obtain rfl := hro rfl
    obtain ⟨vs, v1, v2⟩ := fnOf_rep (operand_rep hf hgv) hfn
    refine wpIn_rangeFunc fun fn _ => ?_
    obtain ⟨g1, w1, r1, e1, i1, b1, b2⟩ := start_run (P := P) hi hnb hf hn (by simpa [codeOk] using hok) hst fn
    have hargs : RepAs g1 s1.get w1 (.rf .yld (S.next + 1) :: cap) (.func (.yield (w.heap.size + 1)) #[] #[] :: vs) := ⟨_, _, rfl, ⟨_, b2, rfl⟩, RepAs.ext e1 _ _ v2⟩
    unfold endRange at h
    split at h
    · rename_i rv s2 hcall
      obtain ⟨hb, hcl⟩ := hC.fn _ _ _ _ _ _ _ hcall i1 (hG.ext e1) hargs
      split at h <;> try (simp at h; done)
      rename_i tm' n' ps' as' bd' st pend hget
      have key : st ≠ .busy ∧ pendX pend = some x ∧ fr' = { fr with dfs := .mark S.next :: fr.dfs } ∧ S' = s2.did [S.next + 1] [(S.next + 1, .ho (.lp tm' n' ps' as' bd' .exhausted pend))] := by
        split at h <;> simp at h
        rename_i hno hpx
        obtain ⟨rfl, rfl, rfl⟩ := h
        exact ⟨fun e => hno e, hpx, rfl, rfl⟩
      obtain ⟨k1, k2, rfl, rfl⟩ := key
      refine ⟨w.heap.size + 1, [{ target := .collected w.heap.size, args := #[] }], w1, { target := .fn (.func f) vs.toArray, args := #[.func (.yield (w.heap.size + 1)) #[] #[]] }, w1, f,
        (.func (.yield (w.heap.size + 1)) #[] #[] :: vs).toArray, w1, r1, ?_, fun _ _ => trivial, ?_, by simp [Fw, Fence.wide], ?_⟩
      · have e : resolve a.eval (rangeCall go (w.heap.size + 1)) 0 = Deferred.ofValue (a.eval go) #[.func (.yield (w.heap.size + 1)) #[] #[]] := by
          simp only [resolve, List.map_toArray, List.map_cons, List.map_nil]; rfl
        rw [e, v1]
        simp [Deferred.ofValue]
      · simp [invoke, run_callFunc hP.own hb]
      · refine CallsIn.mono (show CallsIn (Fw none) (N - 1) P f _ w1 _ from hcl.more (Nat.zero_le _)) fun e w3 hc => ?_
        cases e with
        | panicked chain => exact hc.elim
        | outgrown => exact hc.elim
        | returned u =>
          obtain ⟨g2, f1, f2, f3⟩ := hc
          have bl := f1.bx _ _ b2
          obtain ⟨o, q1, r, rfl, q2, q3, q4, q5, q6, q7, q8⟩ := f2.at_ho hget bl
          obtain ⟨z1, z2⟩ := set_ho f2 hget bl (h := .lp tm' n' ps' as' bd' .exhausted pend) (o := .loop { r with state := .exhausted }) ⟨_, rfl, rfl, q3, q4, q5, q6, q7, q8⟩
          have hs3 : upd s2.get (S.next + 1) (.ho (.lp tm' n' ps' as' bd' .exhausted pend)) = (s2.did [S.next + 1] [(S.next + 1, .ho (.lp tm' n' ps' as' bd' .exhausted pend))]).get := by rw [did_get]; rfl
          rw [hs3] at z1 z2
          refine ⟨pend, _, by rw [← q3]; exact run_endLoop q1 (by rw [q2]; exact k1), ?_⟩
          have hext := (e1.trans f1).trans z1
          have hh : Here g S.get w a fr.tm (.mark S.next :: fr.dfs) (s2.did [S.next + 1] [(S.next + 1, .ho (.lp tm' n' ps' as' bd' .exhausted pend))]).get
              { a with defers := [{ target := .collected w.heap.size, args := #[] }] ++ a.defers } (w3.putObj (w.heap.size + 1) (.loop { r with state := .exhausted })) :=
            ⟨⟨g2, hext, z2, hf.ext hext, ⟨w.heap.size, a.defers, rfl, (f1.trans z1).bx _ _ b1, hd.ext hext⟩⟩, rfl⟩
          have := pendX_wp (F := Fw none) (N := N) (P := P) k2 (Q := Q) (a := { a with defers := [{ target := .collected w.heap.size, args := #[] }] ++ a.defers })
            (w := w3.putObj (w.heap.size + 1) (.loop { r with state := .exhausted })) (by
              cases x with
              | normal => exact hQ .normal _ _ hh
              | ret => exact hQ .ret _ _ hh
              | exit i => exact hQ (.exit i) _ _ ⟨rfl, hh⟩
              | pan v => trivial)
          cases pend with
          | none => exact this
          | some c => exact this
    · rename_i v s2 hcall
      obtain ⟨hb, hcl⟩ := hC.fn _ _ _ _ _ _ _ hcall i1 (hG.ext e1) hargs
      simp at h
      obtain ⟨rfl, rfl, rfl⟩ := h
      refine ⟨w.heap.size + 1, [{ target := .collected w.heap.size, args := #[] }], w1, { target := .fn (.func f) vs.toArray, args := #[.func (.yield (w.heap.size + 1)) #[] #[]] }, w1, f,
        (.func (.yield (w.heap.size + 1)) #[] #[] :: vs).toArray, w1, r1, ?_, fun _ _ => trivial, ?_, by simp [Fw, Fence.wide], ?_⟩
      · have e : resolve a.eval (rangeCall go (w.heap.size + 1)) 0 = Deferred.ofValue (a.eval go) #[.func (.yield (w.heap.size + 1)) #[] #[]] := by
          simp only [resolve, List.map_toArray, List.map_cons, List.map_nil]; rfl
        rw [e, v1]
        simp [Deferred.ofValue]
      · simp [invoke, run_callFunc hP.own hb]
      · refine CallsIn.mono (show CallsIn (Fw none) (N - 1) P f _ w1 _ from hcl.more (Nat.zero_le _)) fun e w3 hc => ?_
        cases e with
        | returned u => exact hc.elim
        | outgrown => exact hc.elim
        | panicked chain =>
          obtain ⟨g2, u, rfl, f1, f2, f3⟩ := hc
          have hext := e1.trans f1
          exact hQ (.panic _) _ _ ⟨⟨g2, u, rfl, hext, f2, f3, hf.ext hext, ⟨w.heap.size, a.defers, rfl, f1.bx _ _ b1, hd.ext hext⟩⟩, rfl⟩
    · simp at h
  | _ =>
    intro Q fr fr' S S' x g w a _ h
    simp [evCode] at h
end
end Go.Proofs.YtlcbgidfdkbfcaaGreatDoor.Sw
namespace Go.Proofs.YtlcbgidfdkbfcaaGreatDoor.Sw
open Go.RowKit
section
variable {C : CallFn} {imp : Nat → Bool} {P : Program} {g : Sg} {s : Sto} {S : St} {w : World} {n : Nat}
theorem did1 {S : St} (rd : List Nat) {id : Nat} {o : Obj} : (S.did rd [(id, o)]).get = upd S.get id o := did_get _ _ _
theorem cell_run {S : St} (hs : ∀ id, s id = S.get id) (hi : Inv g s w) {t : Nat} {x : AVal} {v : Value} {e : Eff} (hx : RepA g s w x v) (h : loadOp P S t x = some e) :
    ∃ u, (do loadVar t (← asAddr v) : Sem Value).run P w = .ok u w ∧ RepA g s w e.v u := by
  obtain ⟨_, u, h1, h2⟩ := load_run hs hi hx h
  refine ⟨u, ?_, h2⟩
  have : ∃ ad, v = .pointer (some ad) := by
    cases v with
    | pointer p =>
      cases p with
      | some ad => exact ⟨ad, rfl⟩
      | none => simp [Instr.loadAt, Instr.sureAddr] at h1
    | _ => simp [Instr.loadAt, Instr.sureAddr] at h1
  obtain ⟨ad, rfl⟩ := this
  simpa [Instr.loadAt, Instr.sureAddr, asAddr] using h1
def resVar (tmps : Array Value) (x : ResultVar) : Sem Value := match x with
  | .tmp t => pure (tmps.getD t undef)
  | .cell a t => do loadVar t (← asAddr (tmps.getD a undef))
theorem results_rep {S : St} (hi : Inv g S.get w) {tm : Tr AVal} {tmps : Array Value} (hf : Frm g S.get w tm tmps) : ∀ {l : List ResultVar} {vs : List AVal} {rd : List Nat}, resultsA P tm S l = some (vs, rd) →
    ∃ us, (l.mapM (resVar tmps)).run P w = .ok us w ∧ RepAs g S.get w vs us
  | [], vs, rd, h => by
    simp [resultsA] at h
    obtain ⟨rfl, _⟩ := h
    exact ⟨[], rfl, rfl⟩
  | .tmp t :: l, vs, rd, h => by
    simp only [resultsA] at h
    split at h <;> simp at h
    rename_i v xs rd' h1 h2
    obtain ⟨rfl, _⟩ := h
    have q2 : RepA g S.get w v (tmps.getD t undef) := operand_rep (a := { tmps, defers := [] }) hf h1
    obtain ⟨us, q3, q4⟩ := results_rep hi hf h2
    refine ⟨_ :: us, ?_, _, us, rfl, q2, q4⟩
    simp only [List.mapM_cons, resVar, Sem.run_bind, Sem.run_pure, Result.andThen_ok, q3]
  | .cell t ty :: l, vs, rd, h => by
    simp only [resultsA] at h
    split at h <;> try (simp at h; done)
    rename_i x h0
    split at h <;> simp at h
    rename_i e xs rd' h1 h2
    obtain ⟨rfl, _⟩ := h
    have q2 : RepA g S.get w x (tmps.getD t undef) := operand_rep (a := { tmps, defers := [] }) hf h0
    obtain ⟨r, q5, q6⟩ := cell_run (fun _ => rfl) hi q2 h1
    obtain ⟨us, q3, q4⟩ := results_rep hi hf h2
    refine ⟨r :: us, ?_, r, us, rfl, q6, q4⟩
    rw [List.mapM_cons, Sem.run_bind, show (resVar tmps (.cell t ty)).run P w = .ok r w from q5]
    simp only [Sem.run_bind, Sem.run_pure, Result.andThen_ok, q3]
theorem result_rep {S : St} (hi : Inv g S.get w) {tm : Tr AVal} {tmps : Array Value} (hf : Frm g S.get w tm tmps) {fn : Func} {vs : List AVal} {rd : List Nat} (h : resultsA P tm S fn.results.toList = some (vs, rd)) :
    ∃ u, (results fn tmps).run P w = .ok u w ∧ RepA g S.get w (resultA vs) u := by
  obtain ⟨us, h1, h2⟩ := results_rep hi hf h
  refine ⟨if h : us.toArray.size = 1 then us.toArray[0] else .tuple us.toArray, ?_, ?_⟩
  · have e1 : results fn tmps = (do let vs ← fn.results.mapM (resVar tmps); pure (if h : vs.size = 1 then vs[0] else .tuple vs)) := rfl
    rw [e1, Array.mapM_eq_mapM_toList]
    simp only [Sem.run_bind, Sem.run_map, h1, Result.andThen_ok, Sem.run_pure]
  · unfold resultA
    split
    · obtain ⟨u, us', rfl, h3, h4⟩ := h2
      have h4 : us' = [] := h4
      subst h4
      simpa using h3
    · rename_i hno
      have : us.length ≠ 1 := by
        rw [RepAs.length h2]
        intro hl
        obtain ⟨v, rfl⟩ := List.length_eq_one_iff.1 hl
        exact hno v rfl
      rw [dif_neg (by simpa using this)]
      exact mkTup_rep h2
theorem argsTm_get {gl : Tr AVal} : ∀ {args : List AVal} {i t : Nat}, (argsTm gl i args).get t = if i ≤ t ∧ t < i + args.length then args[t - i]? else gl.get t
  | [], i, t => by
    rw [if_neg (by simp)]
    rfl
  | v :: args, i, t => by
    simp only [argsTm, Tr.get_set, argsTm_get (args := args) (i := i + 1)]
    by_cases h1 : i = t
    · subst h1; simp
    · rw [if_neg h1]
      by_cases h2 : i ≤ t ∧ t < i + (v :: args).length
      · have h3 : i + 1 ≤ t ∧ t < i + 1 + args.length := by simp at h2; omega
        rw [if_pos h3, if_pos h2]
        have : t - i = (t - (i + 1)) + 1 := by omega
        rw [this, List.getElem?_cons_succ]
      · have h3 : ¬ (i + 1 ≤ t ∧ t < i + 1 + args.length) := by simp at h2; omega
        rw [if_neg h3, if_neg h2]
theorem args_frm {gl : Tr AVal} {args : List AVal} {us : List Value} (hG : Glob gl g.imm w) (hr : RepAs g s w args us) (hl : args.length ≤ glBase) (rest : Array Value) :
    Frm g s w (argsTm gl 0 args) (us.toArray ++ rest) := by
  intro t x ht
  rw [argsTm_get] at ht
  split at ht
  · rename_i h0
    simp at h0 ht
    obtain ⟨u, h1, h2⟩ := hr.get ht
    have hlt := (List.getElem?_eq_some_iff.1 h1).1
    refine ⟨u, ?_, h2⟩
    unfold slot
    rw [if_pos (by omega), Array.getElem?_append_left (by simpa using hlt)]
    simpa using h1
  · obtain ⟨h1, y, rfl, h2⟩ := hG t x ht
    refine ⟨_, ?_, h2⟩
    unfold slot
    rw [if_neg (by omega)]
def ModeRep (g : Sg) (s : Sto) (w : World) : Option AVal → FrameMode → Prop
  | none, u => u = .returning ∨ ∃ v, u = .panicking [{ v, recovered := true }]
  | some x, u => ∃ v, u = .panicking [{ v, recovered := false }] ∧ RepA g s w x v
theorem ModeRep.ext {g' : Sg} {s' : Sto} {w' : World} (he : Ext g s w g' s' w') {m : Option AVal} {u : FrameMode} (h : ModeRep g s w m u) : ModeRep g' s' w' m u := by
  cases m with
  | none => exact h
  | some x => obtain ⟨v, h1, h2⟩ := h; exact ⟨v, h1, RepA.ext he _ _ h2⟩
def ModeNow (g : Sg) (s : Sto) (w : World) : Option AVal → FrameMode → Prop
  | none, u => u = .returning
  | some x, u => ∃ v, u = .panicking [{ v, recovered := false }] ∧ RepA g s w x v
theorem ModeNow.rep {m : Option AVal} {u : FrameMode} (h : ModeNow g s w m u) : ModeRep g s w m u := by
  cases m with
  | none => exact .inl h
  | some x => exact h
theorem ModeRep.settle {m : Option AVal} {u : FrameMode} (h : ModeRep g s w m u) : ModeNow g s w m (Go.settle u) := by
  cases m with
  | none =>
    rcases h with rfl | ⟨v, rfl⟩
    · rfl
    · simp [Go.settle, ModeNow]
  | some x =>
    obtain ⟨v, rfl, h2⟩ := h
    exact ⟨v, by simp [Go.settle], h2⟩
structure HereD (g : Sg) (s : Sto) (w : World) (a : Act) (tm' : Tr AVal) (dfs' : List Dfr) (m' : Option AVal) (s' : Sto) (a' : Act) (u' : FrameMode) (w' : World) : Prop where
  ex : ∃ g', Ext g s w g' s' w' ∧ Inv g' s' w' ∧ Frm g' s' w' tm' a'.tmps ∧ RepD g' s' w' dfs' a'.defers ∧ ModeRep g' s' w' m' u'
  size : a'.tmps.size = a.tmps.size
theorem HereD.then {g1 : Sg} {s1 s2 : Sto} {w1 w2 : World} {a a1 a2 : Act} {tm2 : Tr AVal} {d2 : List Dfr} {m2 : Option AVal} {u2 : FrameMode} (e : Ext g s w g1 s1 w1) (hz : a1.tmps.size = a.tmps.size)
    (h : HereD g1 s1 w1 a1 tm2 d2 m2 s2 a2 u2 w2) : HereD g s w a tm2 d2 m2 s2 a2 u2 w2 := by
  obtain ⟨⟨g2, f1, f2⟩, f3⟩ := h
  exact ⟨⟨g2, e.trans f1, f2⟩, f3.trans hz⟩
theorem isRecover_spec {op : Op} (h : isRecover op = true) : ∃ c, op = .call c ∧ c.callee = .builtin .recover := by
  unfold isRecover at h
  split at h
  · exact ⟨_, rfl, rfl⟩
  · simp at h
theorem opsD_wp (hnb : n ≤ glBase) {N : Nat} {ops : Array Oper} {dfs : List Dfr} {c₀ : Frame} {cs : List Frame} {Q : Exit → Act → List Frame → World → Prop} :
    ∀ {l : List Oper} {i b : Nat} {tm tm' : Tr AVal} {S S' : St} {m m' : Option AVal} {u : FrameMode} {g : Sg} {w : World} {a : Act},
    evOpsD P n ops l b tm S m = some (tm', S', m') → l = ops.toList.drop i → i ≤ ops.size → Inv g S.get w → Frm g S.get w tm a.tmps → RepD g S.get w dfs a.defers → ModeRep g S.get w m u → n ≤ a.tmps.size →
    (∀ a' u' w', HereD g S.get w a tm' dfs m' S'.get a' u' w' → Q .normal a' ({ c₀ with mode := u' } :: cs) w') →
    wpOpsSIn Fence.wide N P ops Q (List.range' i (ops.size - i)) a ({ c₀ with mode := u } :: cs) w
  | [], i, b, tm, tm', S, S', m, m', u, g, w, a, h, hl, hi, hinv, hf, hD, hm, hn, hQ => by
    simp [evOpsD] at h
    obtain ⟨rfl, rfl, rfl⟩ := h
    have : ops.size - i = 0 := by
      have := congrArg List.length hl
      simp at this
      omega
    rw [this]
    exact hQ a u w ⟨⟨g, .refl _ _ _, hinv, hf, hD, hm⟩, rfl⟩
  | o :: l, i, b, tm, tm', S, S', m, m', u, g, w, a, h, hl, hi, hinv, hf, hD, hm, hn, hQ => by
    have hlen : i < ops.size := by
      have := congrArg List.length hl
      simp at this
      omega
    have ho : ops[i]? = some o := by
      have : (ops.toList.drop i)[0]? = some o := by rw [← hl]; simp
      simpa using this
    have hl' : l = ops.toList.drop (i + 1) := by
      have : (ops.toList.drop i).drop 1 = l := by rw [← hl]; simp
      rw [← this, List.drop_drop]
    have er : List.range' i (ops.size - i) = i :: List.range' (i + 1) (ops.size - (i + 1)) := by
      rw [show ops.size - i = (ops.size - (i + 1)) + 1 by omega, List.range'_succ]
    have next : ∀ {x : AVal} {S1 : St} {tm1 : Tr AVal} {m1 : Option AVal} {u1 : FrameMode} {v : Value} {g1 : Sg} {w1 : World}, tm1 = putD tm o.dst x → (∀ d, o.dst = some d → d < n) →
        Ext g S.get w g1 S1.get w1 → Inv g1 S1.get w1 → RepA g1 S1.get w1 x v → ModeRep g1 S1.get w1 m1 u1 → evOpsD P n ops l (b + 16) tm1 S1 m1 = some (tm', S', m') →
        wpOpsSIn Fence.wide N P ops Q (List.range' (i + 1) (ops.size - (i + 1))) (a.put o.dst v) ({ c₀ with mode := u1 } :: cs) w1 := by
      intro x S1 tm1 m1 u1 v g1 w1 htm hd e1 e2 e3 hm1 h
      subst htm
      refine opsD_wp hnb h hl' (by omega) e2 (Frm.put (hf.ext e1) e3 (fun d hd' => ⟨Nat.lt_of_lt_of_le (hd d hd') hn, Nat.lt_of_lt_of_le (hd d hd') hnb⟩)) (by simpa using hD.ext e1) hm1 (by simpa using hn) ?_
      intro a' u' w' hh
      exact hQ a' u' w' (HereD.then e1 (by simp) hh)
    rw [er]
    simp only [wpOpsSIn, ho]
    refine ⟨fun _ _ => trivial, ?_⟩
    simp only [evOpsD] at h
    split at h
    · rename_i hw
      rw [wantedA_rep hf hw]
      simp only [if_true]
      split at h
      · rename_i hrec
        split at h <;> try (simp at h; done)
        rename_i tm1 ht
        obtain ⟨h1, h2⟩ := setDst_spec ht
        obtain ⟨c, hc1, hc2⟩ := isRecover_spec hrec
        have hrun : (execOp a.eval o).run P w = .ok .recover w := by
          simp [execOp, hc1, resolve, hc2, invoke, builtin]
        rw [hrun]
        simp only
        cases m with
        | none =>
          have hno : recoverD ({ c₀ with mode := u } :: cs) = none := by
            rcases hm with rfl | ⟨v, rfl⟩ <;> simp [recoverD]
          rw [hno]
          exact next h1 h2 (.refl _ _ _) hinv (show RepA g S.get w (.p .nili) .nilIface from rfl) hm h
        | some x =>
          obtain ⟨v, rfl, hx⟩ := hm
          have hyes : recoverD ({ c₀ with mode := .panicking [{ v, recovered := false }] } :: cs) = some (v, { c₀ with mode := .panicking [{ v, recovered := true }] } :: cs) := by simp [recoverD]
          rw [hyes]
          exact next (m1 := none) h1 h2 (.refl _ _ _) hinv hx (.inr ⟨v, rfl⟩) h
      · split at h <;> try (simp at h; done)
        rename_i e he
        split at h <;> try (simp at h; done)
        rename_i tm1 ht
        obtain ⟨h1, h2⟩ := setDst_spec ht
        obtain ⟨v, g', w', hr, k2, k3, k4⟩ := plainOp_sound (fun _ => rfl) hinv hf he
        have hs : upds S.get e.wr = (S.did e.rd e.wr).get := (did_get _ _ _).symm
        rw [show List.foldl (fun s x => upd s x.1 x.2) S.get e.wr = upds S.get e.wr from rfl, hs] at k2 k3 k4
        rcases hr with hr | ⟨hr, rfl⟩
        · rw [hr]; exact next h1 h2 k2 k3 k4 (hm.ext k2) h
        · rw [hr]; exact next h1 h2 k2 k3 k4 (hm.ext k2) h
    · rename_i hw
      rw [wantedA_rep hf hw]
      simp only [Bool.false_eq_true, if_false]
      split at h <;> try (simp at h; done)
      rename_i tm1 ht
      obtain ⟨h1, h2⟩ := setDst_spec ht
      exact next h1 h2 (.refl _ _ _) hinv rep_undef hm h
    · simp at h
def LeftD (g : Sg) (s : Sto) (w : World) (a : Act) (x : XExit) (tm' : Tr AVal) (dfs' : List Dfr) (m' : Option AVal) (S' : St) (e : Exit) (a' : Act) (u' : FrameMode) (w' : World) : Prop :=
  match x, e with
  | .normal, .normal => HereD g s w a tm' dfs' m' S'.get a' u' w'
  | .exit i, .exit j => i = j ∧ HereD g s w a tm' dfs' m' S'.get a' u' w'
  | .ret, .ret => HereD g s w a tm' dfs' m' S'.get a' u' w'
  | .pan _, .panic _ => True
  | _, _ => False
theorem LeftD.after {g1 : Sg} {s1 : Sto} {w1 w2 : World} {a a1 a2 : Act} {x : XExit} {tm2 : Tr AVal} {d2 : List Dfr} {m2 : Option AVal} {S2 : St} {e : Exit} {u2 : FrameMode} (h1 : Ext g s w g1 s1 w1) (hz : a1.tmps.size = a.tmps.size)
    (h2 : LeftD g1 s1 w1 a1 x tm2 d2 m2 S2 e a2 u2 w2) : LeftD g s w a x tm2 d2 m2 S2 e a2 u2 w2 := by
  cases x <;> cases e <;> simp only [LeftD] at h2 ⊢ <;> first | exact HereD.then h1 hz h2 | exact ⟨h2.1, HereD.then h1 hz h2.2⟩ | exact h2.elim
theorem codeD_plain {gl : Tr AVal} (hC : CallOk2 P gl C) (hP : Fine P) (hnb : n ≤ glBase) {k N : Nat} {c₀ : Frame} {cs : List Frame} (c : Code) {Q : Exit → Act → List Frame → World → Prop} {fr fr' : Fr} {S S' : St}
    {x : XExit} {m : Option AVal} {u : FrameMode} {g : Sg} {w : World} {a : Act} (hok : codeOk c = true) (h : evCode C imp P k n false c fr S = some (x, fr', S')) (hi : Inv g S.get w) (hG : Glob gl g.imm w)
    (hf : Frm g S.get w fr.tm a.tmps) (hd : RepD g S.get w fr.dfs a.defers) (hm : ModeRep g S.get w m u) (hn : n ≤ a.tmps.size)
    (hQ : ∀ e a' u' w', LeftD g S.get w a x fr'.tm fr'.dfs m S' e a' u' w' → Q e a' ({ c₀ with mode := u' } :: cs) w') : c.wpSIn Fence.wide N P Q a ({ c₀ with mode := u } :: cs) w := by
  refine wpSIn_of_wpIn rfl (code_wp (ro := none) hC hP hnb (fun _ => rfl) c hok h hi hG hf hd hn fun e a' w' hl => hQ e a' u w' ?_)
  cases x <;> cases e <;> simp only [Left] at hl <;> simp only [LeftD] <;> first
    | (obtain ⟨⟨g', e1, e2, e3, e4⟩, e5⟩ := hl; exact ⟨⟨g', e1, e2, e3, e4, hm.ext e1⟩, e5⟩)
    | (obtain ⟨h0, ⟨g', e1, e2, e3, e4⟩, e5⟩ := hl; exact ⟨h0, ⟨g', e1, e2, e3, e4, hm.ext e1⟩, e5⟩)
    | exact hl.elim
theorem codeD_wp {gl : Tr AVal} (hC : CallOk2 P gl C) (hP : Fine P) (hnb : n ≤ glBase) {k N : Nat} {c₀ : Frame} {cs : List Frame} :
    ∀ (c : Code) {Q : Exit → Act → List Frame → World → Prop} {fr fr' : Fr} {S S' : St} {x : XExit} {m m' : Option AVal} {u : FrameMode} {g : Sg} {w : World} {a : Act}, codeOk c = true →
    evD C imp P k n c fr S m = some (x, fr', S', m') → Inv g S.get w → Glob gl g.imm w → Frm g S.get w fr.tm a.tmps → RepD g S.get w fr.dfs a.defers → ModeRep g S.get w m u → n ≤ a.tmps.size →
    (∀ e a' u' w', LeftD g S.get w a x fr'.tm fr'.dfs m' S' e a' u' w' → Q e a' ({ c₀ with mode := u' } :: cs) w') → c.wpSIn Fence.wide N P Q a ({ c₀ with mode := u } :: cs) w := by
  have plain : ∀ (c : Code) {Q : Exit → Act → List Frame → World → Prop} {fr fr' : Fr} {S S' : St} {x : XExit} {m m' : Option AVal} {u : FrameMode} {g : Sg} {w : World} {a : Act}, codeOk c = true →
      withM m (evCode C imp P k n false c fr S) = some (x, fr', S', m') → Inv g S.get w → Glob gl g.imm w → Frm g S.get w fr.tm a.tmps →
      RepD g S.get w fr.dfs a.defers → ModeRep g S.get w m u → n ≤ a.tmps.size →
      (∀ e a' u' w', LeftD g S.get w a x fr'.tm fr'.dfs m' S' e a' u' w' → Q e a' ({ c₀ with mode := u' } :: cs) w') → c.wpSIn Fence.wide N P Q a ({ c₀ with mode := u } :: cs) w := by
    intro c Q fr fr' S S' x m m' u g w a hok h hi hG hf hd hm hn hQ
    unfold withM at h
    split at h <;> simp at h
    rename_i x1 fr1 s1 h1
    obtain ⟨rfl, rfl, rfl, rfl⟩ := h
    exact codeD_plain hC hP hnb c hok h1 hi hG hf hd hm hn hQ
  intro c
  induction c with
  | seq c1 c2 ih1 ih2 =>
    intro Q fr fr' S S' x m m' u g w a hok h hi hG hf hd hm hn hQ
    have hok' := hok
    simp only [codeOk, Bool.and_eq_true] at hok
    simp only [evD] at h
    split at h
    · exact plain _ hok' h hi hG hf hd hm hn hQ
    · split at h
      · rename_i fr1 S1 m1 h1
        refine wpSIn_seq (ih1 hok.1 h1 hi hG hf hd hm hn fun e a1 u1 w1 hl => ?_)
        cases e <;> simp only [LeftD] at hl
        obtain ⟨⟨g1, e1, e2, e3, e4, e5⟩, e6⟩ := hl
        exact ih2 hok.2 h e2 (hG.ext e1) e3 e4 e5 (by omega) fun e a2 u2 w2 h2 => hQ e a2 u2 w2 (LeftD.after e1 e6 h2)
      · rename_i hno
        refine wpSIn_seq (ih1 hok.1 h hi hG hf hd hm hn fun e a1 u1 w1 hl => ?_)
        cases e with
        | normal =>
          cases x <;> simp only [LeftD] at hl
          exact absurd h (hno _ _ _)
        | _ => exact hQ _ _ _ _ hl
  | region id ops draw =>
    intro Q fr fr' S S' x m m' u g w a hok h hi hG hf hd hm hn hQ
    simp only [evD] at h
    split at h
    · split at h <;> simp at h
      rename_i tm s' m1 h1
      obtain ⟨rfl, rfl, rfl, rfl⟩ := h
      refine wpSIn_region ?_
      rw [List.range_eq_range']
      exact opsD_wp hnb (i := 0) h1 (by simp) (Nat.zero_le _) hi hf hd hm hn (fun a' u' w' hh => hQ .normal a' u' w' hh)
    · simp at h
    · exact plain _ hok h hi hG hf hd hm hn hQ
  | _ =>
    intro Q fr fr' S S' x m m' u g w a hok h hi hG hf hd hm hn hQ
    simp only [evD] at h
    split at h <;> first | exact plain _ hok h hi hG hf hd hm hn hQ | (simp at h; done)
theorem dfr_wp {gl : Tr AVal} (hC : CallOk2 P gl C) (hP : Fine P) {k N f : Nat} {args : List AVal} {us : List Value} {S S' : St} {m m' : Option AVal} {u : FrameMode}
    (h : evDfr C gl imp P k f args S m = some (S', m')) (hi : Inv g S.get w) (hG : Glob gl g.imm w) (hr : RepAs g S.get w args us) (hm : ModeRep g S.get w m u) :
    HasBody P f ∧ CallsDIn Fence.wide N P f us.toArray u w fun e u' w' => (∃ v, e = .returned v) ∧ ∃ g', Ext g S.get w g' S'.get w' ∧ Inv g' S'.get w' ∧ ModeRep g' S'.get w' m' u' := by
  unfold evDfr at h
  split at h <;> try (simp at h; done)
  rename_i fn hf
  split at h <;> try (simp at h; done)
  rename_i c hb
  split at h <;> try (simp at h; done)
  rename_i hl1 hl2
  have hl1 := Nat.le_of_ble_eq_true hl1
  have hl2 := Nat.le_of_ble_eq_true hl2
  split at h <;> try (simp at h; done)
  rename_i x fr s' m1 hev
  have hlen := RepAs.length hr
  have key : ∃ rd, fr.dfs = [] ∧ (∃ vs, resultsA P fr.tm s' fn.results.toList = some (vs, rd)) ∧ (x = .normal ∨ x = .ret) ∧ S' = s'.did rd [] ∧ m' = m1 := by
    split at h <;> simp at h
    · rename_i h1 h2; exact ⟨_, h1, ⟨_, h2⟩, .inl rfl, h.1.symm, h.2.symm⟩
    · rename_i h1 h2; exact ⟨_, h1, ⟨_, h2⟩, .inr rfl, h.1.symm, h.2.symm⟩
  obtain ⟨rd, k1, ⟨vs, k2⟩, k3, rfl, rfl⟩ := key
  have hgs : (s'.did rd []).get = s'.get := did_get _ _ _
  rw [hgs]
  refine ⟨⟨fn, c, hf, hb⟩, callsDIn_of_wpSIn hf hb trivial fun c₀ cs hu => ?_⟩
  have hc0 : c₀ :: cs = { c₀ with mode := u } :: cs := by subst hu; rfl
  rw [hc0]
  have hn : max args.length fn.ntmps ≤ (us.toArray ++ Array.replicate (fn.ntmps - us.toArray.size) undef).size := by simp; omega
  refine codeD_wp hC hP (by omega) c (hP.code f fn c hf hb) hev hi hG (args_frm hG hr hl1 _) rfl hm hn fun e a' u' w' hl => ?_
  have fin : HereD g S.get w { tmps := us.toArray ++ Array.replicate (fn.ntmps - us.toArray.size) undef, defers := [] } fr.tm fr.dfs m' s'.get a' u' w' →
      a'.defers = [] ∧ ∃ u'', ({ c₀ with mode := u' } :: cs : List Frame) = { c₀ with mode := u'' } :: cs ∧ ∃ v, (results fn a'.tmps).run P w' = .ok v w' ∧
        ((∃ v', Ending.returned v = .returned v') ∧ ∃ g', Ext g S.get w g' s'.get w' ∧ Inv g' s'.get w' ∧ ModeRep g' s'.get w' m' u'') := by
    rintro ⟨⟨g', e1, e2, e3, e4, e5⟩, _⟩
    rw [k1] at e4
    obtain ⟨r, h1, _⟩ := result_rep e2 e3 k2
    exact ⟨e4, u', rfl, r, h1, ⟨r, rfl⟩, g', e1, e2, e5⟩
  rcases k3 with rfl | rfl
  · cases e <;> simp only [LeftD] at hl
    exact fin hl
  · cases e <;> simp only [LeftD] at hl
    exact fin hl
theorem unwind_wp {gl : Tr AVal} (hC : CallOk2 P gl C) (hP : Fine P) {k N : Nat} {fn : Func} {tm : Tr AVal} {tmps : Array Value} {R : Ending → World → Prop} :
    ∀ {dfs : List Dfr} {ds : List Deferred} {S S' : St} {m m' : Option AVal} {u : FrameMode} {g : Sg} {w : World}, evUnwind C gl imp P k dfs S m = some (S', m') → Inv g S.get w → Glob gl g.imm w →
    RepD g S.get w dfs ds → Frm g S.get w tm tmps → ModeNow g S.get w m u →
    (∀ g' w' u', Ext g S.get w g' S'.get w' → Inv g' S'.get w' → Frm g' S'.get w' tm tmps → ModeNow g' S'.get w' m' u' → LeavesInM Fence.wide N P fn tmps R [] u' w') → LeavesInM Fence.wide N P fn tmps R ds u w
  | [], ds, S, S', m, m', u, g, w, h, hi, hG, hD, hf, hm, hQ => by
    simp [evUnwind] at h
    obtain ⟨rfl, rfl⟩ := h
    have hD : ds = [] := hD
    subst hD
    exact hQ g w u (.refl _ _ _) hi hf hm
  | .mark id :: r, ds, S, S', m, m', u, g, w, h, hi, hG, hD, hf, hm, hQ => by
    obtain ⟨b, t, rfl, hb, hD⟩ := hD
    simp only [evUnwind] at h
    split at h <;> try (simp at h; done)
    rename_i hid
    obtain ⟨o, q1, q2⟩ := hi.at_ho hid hb
    have q2 : o = .deferred (some []) := q2
    subst q2
    obtain ⟨e1, e2⟩ := set_ho hi hid hb (h := .dl false) (o := .deferred none) rfl
    rw [← did1 [id]] at e1 e2
    have hu : u ≠ .run := by
      cases m with
      | none => have : u = .returning := hm; rw [this]; simp
      | some x => obtain ⟨v, rfl, _⟩ := hm; simp
    refine ⟨hu, .inl ⟨b, _, rfl, run_takeDeferred q1, ?_⟩⟩
    refine unwind_wp hC hP h e2 (hG.ext e1) (hD.ext e1) (hf.ext e1) (by cases m with
      | none => exact hm
      | some x => obtain ⟨v, h1, h2⟩ := hm; exact ⟨v, h1, RepA.ext e1 _ _ h2⟩) fun g' w' u' f1 f2 f3 f4 => hQ g' w' u' (e1.trans f1) f2 f3 f4
  | .call f cap :: r, ds, S, S', m, m', u, g, w, h, hi, hG, hD, hf, hm, hQ => by
    obtain ⟨vs, t, rfl, hv, hD⟩ := hD
    simp only [evUnwind] at h
    split at h <;> try (simp at h; done)
    rename_i s1 m1 h1
    have hu : u ≠ .run := by
      cases m with
      | none => have : u = .returning := hm; rw [this]; simp
      | some x => obtain ⟨v, rfl, _⟩ := hm; simp
    obtain ⟨hb, hc⟩ := dfr_wp (N := N - 1) hC hP h1 hi hG hv hm.rep
    refine ⟨hu, .inr ⟨by simp [Fence.wide], .func f, vs.toArray, f, vs.toArray, rfl, by simp [invoke, run_callFunc hP.own hb], fun _ _ => trivial, CallsDIn.mono hc fun e u' w' he => ?_⟩⟩
    obtain ⟨⟨v, rfl⟩, g', e1, e2, e3⟩ := he
    exact unwind_wp hC hP h e2 (hG.ext e1) (hD.ext e1) (hf.ext e1) e3.settle fun g' w' u' f1 f2 f3 f4 => hQ g' w' u' (e1.trans f1) f2 f3 f4
theorem leave_wp {gl : Tr AVal} (hC : CallOk2 P gl C) (hP : Fine P) {k N : Nat} {fn : Func} {fr : Fr} {g0 : Sg} {s0 : Sto} {w0 : World} {tmps : Array Value} {ds : List Deferred} {S : St} {m : Option AVal} {u : FrameMode} {r : CR}
    (h : evLeave C gl imp P k fn fr S m = some r) (h0 : Ext g0 s0 w0 g S.get w) (hi : Inv g S.get w) (hG : Glob gl g.imm w) (hD : RepD g S.get w fr.dfs ds) (hf : Frm g S.get w fr.tm tmps) (hm : ModeNow g S.get w m u) :
    LeavesInM Fence.wide N P fn tmps (fun e w' => Came g0 s0 w0 r e w') ds u w := by
  unfold evLeave at h
  split at h
  · rename_i s' h1
    split at h <;> simp at h
    rename_i vs rd h2
    subst h
    refine unwind_wp hC hP h1 hi hG hD hf hm fun g' w' u' e1 e2 e3 e4 => ?_
    have e4 : u' = .returning := e4
    subst e4
    obtain ⟨v, q1, q2⟩ := result_rep e2 e3 h2
    have hgs : (s'.did rd []).get = s'.get := did_get _ _ _
    refine ⟨v, q1, g', ?_, ?_, ?_⟩
    · rw [hgs]; exact h0.trans e1
    · rw [hgs]; exact e2
    · rw [hgs]; exact q2
  · rename_i s' v h1
    simp at h
    subst h
    refine unwind_wp hC hP h1 hi hG hD hf hm fun g' w' u' e1 e2 e3 e4 => ?_
    obtain ⟨x, rfl, e5⟩ := e4
    exact ⟨g', x, rfl, h0.trans e1, e2, e5⟩
  · simp at h
theorem evFunc_ok {gl : Tr AVal} (hC : CallOk2 P gl C) (hP : Fine P) {k f : Nat} {args : List AVal} {S : St} {r : CR} {us : List Value} (h : evFunc C gl imp P k f args S = some r) (hi : Inv g S.get w)
    (hG : Glob gl g.imm w) (hr : RepAs g S.get w args us) : HasBody P f ∧ CallsIn Fence.wide 0 P f us.toArray w (Came g S.get w r) := by
  unfold evFunc at h
  split at h <;> try (simp at h; done)
  rename_i fn hf
  split at h <;> try (simp at h; done)
  rename_i c hb
  split at h <;> try (simp at h; done)
  rename_i hl1 hl2
  have hl1 := Nat.le_of_ble_eq_true hl1
  have hl2 := Nat.le_of_ble_eq_true hl2
  refine ⟨⟨fn, c, hf, hb⟩, callsIn_of_wp_marks hf hb trivial ?_⟩
  have hlen := RepAs.length hr
  have hn : max args.length fn.ntmps ≤ (us.toArray ++ Array.replicate (fn.ntmps - us.toArray.size) undef).size := by simp; omega
  split at h <;> try (simp at h; done)
  · rename_i fr S' hev
    refine code_wp (ro := none) hC hP (by omega) (fun _ => rfl) c (hP.code f fn c hf hb) hev hi hG (args_frm hG hr hl1 _) rfl hn fun e a' w' hl => ?_
    cases e <;> simp only [Left] at hl
    obtain ⟨⟨g', e1, e2, e3, e4⟩, _⟩ := hl
    exact leave_wp hC hP h e1 e2 (hG.ext e1) e4 e3 rfl
  · rename_i fr S' hev
    refine code_wp (ro := none) hC hP (by omega) (fun _ => rfl) c (hP.code f fn c hf hb) hev hi hG (args_frm hG hr hl1 _) rfl hn fun e a' w' hl => ?_
    cases e <;> simp only [Left] at hl
    obtain ⟨⟨g', e1, e2, e3, e4⟩, _⟩ := hl
    exact leave_wp hC hP h e1 e2 (hG.ext e1) e4 e3 rfl
  · rename_i v fr S' hev
    refine code_wp (ro := none) hC hP (by omega) (fun _ => rfl) c (hP.code f fn c hf hb) hev hi hG (args_frm hG hr hl1 _) rfl hn fun e a' w' hl => ?_
    cases e <;> simp only [Left] at hl
    obtain ⟨⟨g', u, rfl, e1, e2, e3, e4, e5⟩, _⟩ := hl
    exact leave_wp hC hP h e1 e2 (hG.ext e1) e5 e4 ⟨u, rfl, e3⟩
end
end Go.Proofs.YtlcbgidfdkbfcaaGreatDoor.Sw
namespace Go.Proofs.YtlcbgidfdkbfcaaGreatDoor.Sw
open Go.RowKit
section
variable {C : CallFn} {imp : Nat → Bool} {P : Program} {g : Sg} {s : Sto} {S : St} {w : World} {n : Nat}
theorem putArgs_frm (hnb : n ≤ glBase) : ∀ {ps : List Nat} {args : List AVal} {us : List Value} {tm tm' : Tr AVal} {tmps : Array Value}, putArgs n ps args tm = some tm' → Frm g s w tm tmps → RepAs g s w args us → n ≤ tmps.size →
    us.length = ps.length ∧ Frm g s w tm' ((ps.zip us).foldl (fun tmps (t, a) => tmps.setIfInBounds t a) tmps) ∧ ((ps.zip us).foldl (fun tmps (t, a) => tmps.setIfInBounds t a) tmps).size = tmps.size
  | [], [], us, tm, tm', tmps, h, hf, hr, _ => by
    simp [putArgs] at h
    subst h
    have hr : us = [] := hr
    subst hr
    exact ⟨rfl, hf, rfl⟩
  | p :: ps, v :: vs, us, tm, tm', tmps, h, hf, hr, hn => by
    obtain ⟨u, us, rfl, h1, h2⟩ := hr
    simp only [putArgs] at h
    split at h <;> try (simp at h; done)
    rename_i tm1 ht
    obtain ⟨k1, k2⟩ := setDst_spec ht
    subst k1
    have hp := k2 p rfl
    have hf' : Frm g s w (putD tm (some p) v) (tmps.setIfInBounds p u) :=
      Frm.put (a := { tmps, defers := [] }) (dst := some p) hf h1 (fun d hd => by simp at hd; subst hd; exact ⟨Nat.lt_of_lt_of_le hp hn, Nat.lt_of_lt_of_le hp hnb⟩)
    obtain ⟨q1, q2, q3⟩ := putArgs_frm hnb h hf' h2 (by simpa using hn)
    exact ⟨by simp [q1], q2, by simpa using q3⟩
  | [], _ :: _, us, tm, tm', tmps, h, _, _, _ => by simp [putArgs] at h
  | _ :: _, [], us, tm, tm', tmps, h, _, _, _ => by simp [putArgs] at h
theorem endRound_run (hi : Inv g S.get w) {id l : Nat} (hb : g.bx id = some l) {x : XExit} {r : CR} (h : endRoundA id x S = some r) {g0 : Sg} {s0 : Sto} {w0 : World} (h0 : Ext g0 s0 w0 g S.get w) :
    ∃ jump, (match x with | .normal => jump = none | .ret => jump = some .ret | .exit i => jump = some (.exit i) | .pan _ => False) ∧
      ∃ v w', (Instr.endRound l jump).run P w = .ok v w' ∧ Came g0 s0 w0 r (.returned v) w' := by
  unfold endRoundA at h
  split at h <;> try (simp at h; done)
  rename_i tm n ps as bd hid
  obtain ⟨o, q1, rec, rfl, q2, q3, q4, q5, q6, q7, q8⟩ := hi.at_ho hid hb
  split at h <;> simp at h <;> subst h
  · obtain ⟨e1, e2⟩ := set_ho hi hid hb (h := .lp tm n ps as bd .ready none) (o := .loop { rec with state := .ready, pending := none }) ⟨_, rfl, rfl, rfl, q4, q5, q6, q7, q8⟩
    rw [← did1 [id]] at e1 e2
    exact ⟨none, rfl, _, _, run_endRound none q1, g, h0.trans e1, e2, rfl⟩
  · obtain ⟨e1, e2⟩ := set_ho hi hid hb (h := .lp tm n ps as bd .done (some .ret)) (o := .loop { rec with state := .done, pending := some .ret }) ⟨_, rfl, rfl, rfl, q4, q5, q6, q7, q8⟩
    rw [← did1 [id]] at e1 e2
    exact ⟨some .ret, rfl, _, _, run_endRound (some .ret) q1, g, h0.trans e1, e2, rfl⟩
  · rename_i i
    obtain ⟨e1, e2⟩ := set_ho hi hid hb (h := .lp tm n ps as bd .done (some (.exit i))) (o := .loop { rec with state := .done, pending := some (.exit i) }) ⟨_, rfl, rfl, rfl, q4, q5, q6, q7, q8⟩
    rw [← did1 [id]] at e1 e2
    exact ⟨some (.exit i), rfl, _, _, run_endRound (some (.exit i)) q1, g, h0.trans e1, e2, rfl⟩
theorem evRound_ok {gl : Tr AVal} (hC : CallOk2 P gl C) (hP : Fine P) {k id : Nat} {args : List AVal} {r : CR} {us : List Value} (h : evRound C imp P k id args S = some r) (hi : Inv g S.get w)
    (hG : Glob gl g.imm w) (hr : RepAs g S.get w args us) :
    ∃ (l : Nat) (rec : Loop), g.bx id = some l ∧ w.heap[l]? = some (.loop rec) ∧ us.length = rec.params.size ∧
      RoundIn Fence.wide 0 P l rec.fn ((rec.params.zip us.toArray).foldl (fun tmps (t, a) => tmps.setIfInBounds t a) rec.tmps) rec.assign rec.body w (Came g S.get w r) := by
  unfold evRound at h
  split at h <;> try (simp at h; done)
  rename_i tm n ps assign body hid
  obtain ⟨l, o, hb, q1, rec, rfl, q2, q3, q4, q5, q6, ⟨q7, q8, q9, q10⟩, q11⟩ := hi.ho id _ hid
  split at h <;> try (simp at h; done)
  rename_i tm1 hput
  obtain ⟨p1, p2, p3⟩ := putArgs_frm q8 hput q11 hr q7
  have hz : (rec.params.zip us.toArray).foldl (fun tmps (t, a) => tmps.setIfInBounds t a) rec.tmps = (ps.zip us).foldl (fun tmps (t, a) => tmps.setIfInBounds t a) rec.tmps := by
    rw [← Array.foldl_toList, Array.toList_zip, q4]
  refine ⟨l, rec, hb, q1, by rw [p1, ← q4]; simp, ?_⟩
  rw [hz, q5, q6]
  split at h <;> try (simp at h; done)
  rename_i fr1 s1 h1
  split at h <;> try (simp at h; done)
  rename_i tm' n' ps' as' bd' hid1
  split at h <;> try (simp at h; done)
  rename_i x fr3 s3 h3
  refine roundIn_of_wpIn (F := Fence.wide) trivial ?_
  refine code_wp (ro := some l) hC hP q8 (by simp) assign q9 h1 hi hG p2 rfl (by rw [p3]; exact q7) fun e a1 w1 hl => ?_
  cases e <;> simp only [Left] at hl
  obtain ⟨⟨g1, e1, i1, f1, d1⟩, z1⟩ := hl
  have hb1 := e1.bx _ _ hb
  obtain ⟨o1, r1, rec1, rfl, r2, r3, r4, r5, r6, r7, r8⟩ := i1.at_ho hid1 hb1
  obtain ⟨e2, i2⟩ := set_ho i1 hid1 hb1 (h := .lp tm' n' ps' as' bd' .busy none) (o := .loop { rec1 with state := .busy }) ⟨_, rfl, rfl, r3, r4, r5, r6, r7, r8⟩
  rw [← did1 [id]] at e2 i2
  refine ⟨_, run_beginRound r1 r2, ?_⟩
  have hsz : n ≤ a1.tmps.size := by rw [z1, p3]; exact q7
  refine code_wp (ro := some l) hC hP q8 (by simp) body q10 h3 i2 (hG.ext (e1.trans e2)) (f1.ext e2) (d1.ext e2) hsz fun e a3 w3 hl3 => ?_
  have fin : ∀ {x' : XExit}, x' = x → (∃ g', Ext g1 (s1.did [id] [(id, .ho (.lp tm' n' ps' as' bd' .busy none))]).get (w1.putObj l (.loop { rec1 with state := .busy })) g' s3.get w3 ∧ Inv g' s3.get w3) →
      ∃ jump, (match x' with | .normal => jump = none | .ret => jump = some .ret | .exit i => jump = some (.exit i) | .pan _ => False) ∧
        ∃ v w', (Instr.endRound l jump).run P w3 = .ok v w' ∧ Came g S.get w r (.returned v) w' := by
    rintro x' rfl ⟨g3, e3, i3⟩
    exact endRound_run i3 (e3.bx _ _ (e2.bx _ _ hb1)) h ((e1.trans e2).trans e3)
  cases x with
  | normal =>
    cases e <;> simp only [Left] at hl3
    obtain ⟨⟨g3, e3, i3, _⟩, _⟩ := hl3
    obtain ⟨j, rfl, v, w', k1, k2⟩ := fin rfl ⟨g3, e3, i3⟩
    exact ⟨v, w', k1, k2⟩
  | ret =>
    cases e <;> simp only [Left] at hl3
    obtain ⟨⟨g3, e3, i3, _⟩, _⟩ := hl3
    obtain ⟨j, rfl, v, w', k1, k2⟩ := fin rfl ⟨g3, e3, i3⟩
    exact ⟨v, w', k1, k2⟩
  | exit i =>
    cases e <;> simp only [Left] at hl3
    obtain ⟨rfl, ⟨g3, e3, i3, _⟩, _⟩ := hl3
    obtain ⟨j, rfl, v, w', k1, k2⟩ := fin rfl ⟨g3, e3, i3⟩
    exact ⟨v, w', k1, k2⟩
  | pan v =>
    unfold endRoundA at h
    split at h <;> simp at h
def Known (P : Program) (gl : Tr AVal) (f : Nat) (args : List AVal) (v : AVal) (wr : List (Nat × Obj)) : Prop :=
  ∀ (g : Sg) (w : World) (us : List Value), Inv g St.empty.get w → Glob gl g.imm w → RepAs g St.empty.get w args us →
    HasBody P f ∧ CallsIn Fence.wide 0 P f us.toArray w (Came g St.empty.get w (.ret v (St.empty.did [] wr)))
def MemoOk (P : Program) (gl : Tr AVal) (M : Memo) : Prop :=
  ∀ (f : Nat) (args : List AVal) (r : CR), M f args = some r → ∃ v wr, r = .ret v (St.empty.did [] wr) ∧ Known P gl f args v wr
theorem evCall_ok {gl : Tr AVal} {M : Memo} (hM : MemoOk P gl M) (hP : Fine P) {k : Nat} : ∀ (n : Nat), CallOk2 P gl (evCall M gl imp P k n)
  | 0 => { fn := fun f args S r g w us h => by simp [evCall] at h, iso := fun f args r g w us h => by simp [evCall] at h, yld := fun id args S r g w us h => by simp [evCall] at h, loc := evCall_loc 0 }
  | n + 1 =>
    { fn := fun _ _ _ _ _ _ _ h hi hG hr => evFunc_ok (evCall_ok hM hP n) hP h hi hG hr
      yld := fun _ _ _ _ _ _ _ h hi hG hr => evRound_ok (evCall_ok hM hP n) hP h hi hG hr
      iso := fun f args r g w us h hi hG hr => by
        simp only [evCall] at h
        split at h
        · rename_i r' hm
          simp at h
          subst h
          obtain ⟨v, wr, rfl, hk⟩ := hM f args _ hm
          exact hk g w us hi hG hr
        · exact evFunc_ok (evCall_ok hM hP n) hP h hi hG hr
      loc := evCall_loc (n + 1) }
theorem known_of {gl : Tr AVal} {M : Memo} (hM : MemoOk P gl M) (hP : Fine P) {k n f : Nat} {args : List AVal} {v : AVal} {rd : List Nat} {wr : List (Nat × Obj)}
    (h : callAt (evCall M gl imp P k n) imp St.empty 0 f args = some (.eff ⟨v, rd, wr⟩)) : Known P gl f args v wr := fun g w us hi hG hr => by
  obtain ⟨h1, h2⟩ := callAt_sound (evCall_ok hM hP n).toCallOk hi hG hr h
  refine ⟨h1, CallsIn.mono h2 fun e w' hc => ?_⟩
  cases e with
  | returned u =>
    obtain ⟨g', e1, e2, e3⟩ := hc
    rw [← did_get (rd := [])] at e1 e2 e3
    exact ⟨g', e1, e2, e3⟩
  | panicked _ => exact hc.elim
  | outgrown => exact hc.elim
theorem evCall_closed {gl : Tr AVal} {M : Memo} (hM : MemoOk P gl M) (hP : Fine P) {k n f : Nat} {v : PVal} {s' : St} (h : evCall M gl imp P k n (.iso f) [] St.empty = some (.ret (.p v) s')) {I : Nat → Nat → Prop}
    (hI : ∀ b o, I b o → b < w.heap.size) (hG : Glob gl I w) :
    Calls P f #[] w (fun e w' => ∃ u, e = .returned u ∧ (∃ I', RepP I' w' v u) ∧ Below w.heap.size w w') := by
  obtain ⟨_, hc⟩ := (evCall_ok hM hP n).iso f [] _ _ w [] h (inv_empty hI) hG rfl
  refine (callsIn_wide (n := 0)).1 (CallsIn.mono hc fun e w' hcm => ?_)
  cases e with
  | returned u =>
    obtain ⟨g', e1, e2, e3⟩ := hcm
    exact ⟨u, rfl, ⟨_, e3⟩, e1.below⟩
  | panicked _ => exact hcm.elim
  | outgrown => exact hcm.elim
end
end Go.Proofs.YtlcbgidfdkbfcaaGreatDoor.Sw
namespace Go.Proofs.YtlcbgidfdkbfcaaGreatDoor.Sw
def sameI : Int → Int → Bool
  | .ofNat a, .ofNat b => Nat.beq a b
  | .negSucc a, .negSucc b => Nat.beq a b
  | _, _ => false
def kNum : IntKind → Nat
  | .i8 => 0 | .i16 => 1 | .i32 => 2 | .i64 => 3 | .u8 => 4 | .u16 => 5 | .u32 => 6 | .u64 => 7
def sameB : Bool → Bool → Bool
  | true, b => b
  | false, true => false
  | false, false => true
def sameFn : Fn → Fn → Bool
  | .func f, .func g => Nat.beq f g
  | _, _ => false
def sameP : PVal → PVal → Bool
  | .bool a, .bool b => sameB a b
  | .int k a, .int l b => match sameI a b with
    | true => Nat.beq (kNum k) (kNum l)
    | false => false
  | .str a, .str b => sameBytes a b
  | .nilp, .nilp => true
  | .nils, .nils => true
  | .nilm, .nilm => true
  | .nilf, .nilf => true
  | .nili, .nili => true
  | .agg a, .agg b => samePs a b
  | .tup a, .tup b => samePs a b
  | .iface t x, .iface u y => match Nat.beq t u with
    | true => sameP x y
    | false => false
  | .sl a, .sl b => samePs a b
  | .ip x, .ip y => sameP x y
  | .fn f a, .fn g b => match sameFn f g with
    | true => samePs a b
    | false => false
  | _, _ => false
where
  samePs : List PVal → List PVal → Bool
    | [], [] => true
    | x :: xs, y :: ys => match sameP x y with
      | true => samePs xs ys
      | false => false
    | _, _ => false
def sameArgs : List PVal → List AVal → Bool
  | [], [] => true
  | x :: xs, .p y :: ys => match sameArgs xs ys with
    | true => sameP x y
    | false => false
  | _, _ => false
theorem sameI_eq : ∀ {a b : Int}, sameI a b = true → a = b
  | .ofNat a, .ofNat b, h => by rw [Nat.eq_of_beq_eq_true h]
  | .negSucc a, .negSucc b, h => by rw [Nat.eq_of_beq_eq_true h]
  | .ofNat _, .negSucc _, h => by simp [sameI] at h
  | .negSucc _, .ofNat _, h => by simp [sameI] at h
theorem kNum_eq {k l : IntKind} (h : Nat.beq (kNum k) (kNum l) = true) : k = l := by
  have h := Nat.eq_of_beq_eq_true h
  cases k <;> cases l <;> first | rfl | (simp [kNum] at h)
theorem sameB_eq {a b : Bool} (h : sameB a b = true) : a = b := by cases a <;> cases b <;> simp_all [sameB]
theorem sameBytes_eq' : ∀ {a b : List Nat}, sameBytes a b = true → a = b
  | [], [], _ => rfl
  | x :: a, y :: b, h => by
    simp only [sameBytes] at h
    split at h <;> try (simp at h; done)
    rename_i e
    rw [Nat.eq_of_beq_eq_true e, sameBytes_eq' h]
  | [], _ :: _, h => by simp [sameBytes] at h
  | _ :: _, [], h => by simp [sameBytes] at h
theorem sameFn_eq {f g : Fn} (h : sameFn f g = true) : f = g := by
  unfold sameFn at h
  split at h
  · rw [Nat.eq_of_beq_eq_true h]
  · simp at h
mutual
theorem sameP_eq : ∀ (x y : PVal), sameP x y = true → x = y
  | .bool a, y, h => by cases y <;> simp only [sameP] at h <;> first | (rw [sameB_eq h]) | simp at h
  | .int k a, y, h => by
    cases y <;> simp only [sameP] at h <;> try (simp at h; done)
    split at h <;> try (simp at h; done)
    rename_i e
    rw [sameI_eq e, kNum_eq h]
  | .str a, y, h => by cases y <;> simp only [sameP] at h <;> first | (rw [sameBytes_eq' h]) | simp at h
  | .nilp, y, h => by cases y <;> simp only [sameP] at h <;> first | rfl | simp at h
  | .nils, y, h => by cases y <;> simp only [sameP] at h <;> first | rfl | simp at h
  | .nilm, y, h => by cases y <;> simp only [sameP] at h <;> first | rfl | simp at h
  | .nilf, y, h => by cases y <;> simp only [sameP] at h <;> first | rfl | simp at h
  | .nili, y, h => by cases y <;> simp only [sameP] at h <;> first | rfl | simp at h
  | .agg a, y, h => by cases y <;> simp only [sameP] at h <;> first | (rw [samePs_eq _ _ h]) | simp at h
  | .tup a, y, h => by cases y <;> simp only [sameP] at h <;> first | (rw [samePs_eq _ _ h]) | simp at h
  | .iface t a, y, h => by
    cases y <;> simp only [sameP] at h <;> try (simp at h; done)
    split at h <;> try (simp at h; done)
    rename_i e
    rw [Nat.eq_of_beq_eq_true e, sameP_eq _ _ h]
  | .sl a, y, h => by cases y <;> simp only [sameP] at h <;> first | (rw [samePs_eq _ _ h]) | simp at h
  | .ip a, y, h => by cases y <;> simp only [sameP] at h <;> first | (rw [sameP_eq _ _ h]) | simp at h
  | .fn f a, y, h => by
    cases y <;> simp only [sameP] at h <;> try (simp at h; done)
    split at h <;> try (simp at h; done)
    rename_i e
    rw [sameFn_eq e, samePs_eq _ _ h]
theorem samePs_eq : ∀ (x y : List PVal), sameP.samePs x y = true → x = y
  | [], [], _ => rfl
  | x :: xs, y :: ys, h => by
    simp only [sameP.samePs] at h
    split at h <;> try (simp at h; done)
    rename_i e
    rw [sameP_eq _ _ e, samePs_eq _ _ h]
  | [], _ :: _, h => by simp [sameP.samePs] at h
  | _ :: _, [], h => by simp [sameP.samePs] at h
end
theorem sameArgs_eq : ∀ {x : List PVal} {y : List AVal}, sameArgs x y = true → x.map .p = y
  | [], [], _ => rfl
  | x :: xs, .p y :: ys, h => by
    simp only [sameArgs] at h
    split at h <;> try (simp at h; done)
    rename_i e
    rw [List.map_cons, sameP_eq _ _ h, sameArgs_eq e]
  | [], _ :: _, h => by simp [sameArgs] at h
  | _ :: _, [], h => by simp [sameArgs] at h
  | _ :: _, .agg _ :: _, h => by simp [sameArgs] at h
  | _ :: _, .tup _ :: _, h => by simp [sameArgs] at h
  | _ :: _, .iface _ _ :: _, h => by simp [sameArgs] at h
  | _ :: _, .cl _ :: _, h => by simp [sameArgs] at h
  | _ :: _, .own _ _ :: _, h => by simp [sameArgs] at h
  | _ :: _, .ownm _ :: _, h => by simp [sameArgs] at h
  | _ :: _, .box _ _ :: _, h => by simp [sameArgs] at h
  | _ :: _, .arr _ _ _ _ _ :: _, h => by simp [sameArgs] at h
  | _ :: _, .el _ _ _ _ :: _, h => by simp [sameArgs] at h
  | _ :: _, .fn _ _ :: _, h => by simp [sameArgs] at h
  | _ :: _, .fnb _ _ :: _, h => by simp [sameArgs] at h
  | _ :: _, .rf _ _ :: _, h => by simp [sameArgs] at h
  | _ :: _, .junk :: _, h => by simp [sameArgs] at h
structure Ent where
  f : Nat
  args : List PVal
  v : AVal
  wr : List (Nat × Obj)
inductive BT where
  | lf
  | nd (f : Nat) (es : List Ent) (l r : BT)
def BT.at : BT → Nat → List Ent
  | .lf, _ => []
  | .nd g es l r, f => match Nat.beq f g with
    | true => es
    | false => match Nat.ble f g with
      | true => l.at f
      | false => r.at f
def entOf (args : List AVal) : List Ent → Option CR
  | [] => none
  | e :: r => match sameArgs e.args args with
    | true => some (.ret e.v (St.empty.did [] e.wr))
    | false => entOf args r
def BT.memo (t : BT) : Memo := fun f args => entOf args (t.at f)
def Ent.Ok (P : Program) (gl : Tr AVal) (e : Ent) : Prop := Known P gl e.f (e.args.map .p) e.v e.wr
def allEnt (P : Program) (gl : Tr AVal) (f : Nat) : List Ent → Prop
  | [] => True
  | e :: r => (e.f = f ∧ e.Ok P gl) ∧ allEnt P gl f r
def BT.Ok (P : Program) (gl : Tr AVal) : BT → Prop
  | .lf => True
  | .nd f es l r => allEnt P gl f es ∧ l.Ok P gl ∧ r.Ok P gl
theorem BT.at_ok {P : Program} {gl : Tr AVal} : ∀ {t : BT} {f : Nat}, t.Ok P gl → allEnt P gl f (t.at f)
  | .lf, _, _ => trivial
  | .nd g es l r, f, h => by
    obtain ⟨h1, h2, h3⟩ := h
    unfold BT.at
    split
    · rename_i e; rw [Nat.eq_of_beq_eq_true e]; exact h1
    · split
      · exact BT.at_ok h2
      · exact BT.at_ok h3
theorem entOf_ok {P : Program} {gl : Tr AVal} {f : Nat} {args : List AVal} {r : CR} : ∀ {es : List Ent}, allEnt P gl f es → entOf args es = some r → ∃ v wr, r = .ret v (St.empty.did [] wr) ∧ Known P gl f args v wr
  | [], _, h => by simp [entOf] at h
  | e :: es, ho, h => by
    obtain ⟨⟨h1, h2⟩, h3⟩ := ho
    simp only [entOf] at h
    split at h
    · rename_i hs
      simp at h
      refine ⟨e.v, e.wr, h.symm, ?_⟩
      have h2 : Known P gl e.f (e.args.map .p) e.v e.wr := h2
      rw [sameArgs_eq hs, h1] at h2
      exact h2
    · exact entOf_ok h3 h
theorem BT.memo_ok {P : Program} {gl : Tr AVal} {t : BT} (h : t.Ok P gl) : MemoOk P gl t.memo := fun _ _ _ hm => entOf_ok (BT.at_ok h) hm
theorem ent_ok {P : Program} {gl : Tr AVal} {imp : Nat → Bool} {t : BT} (ht : t.Ok P gl) (hP : Fine P) {k n : Nat} {e : Ent} {rd : List Nat}
    (h : callAt (evCall t.memo gl imp P k n) imp St.empty 0 e.f (e.args.map .p) = some (.eff ⟨e.v, rd, e.wr⟩)) : e.Ok P gl := known_of (BT.memo_ok ht) hP h
def inMask (m f : Nat) : Bool := Nat.beq (Nat.land (Nat.shiftRight m f) 1) 1
end Go.Proofs.YtlcbgidfdkbfcaaGreatDoor.Sw
namespace Go.Proofs.YtlcbgidfdkbfcaaGreatDoor.Sw
open Go.RowKit
theorem keptBut_of_below {w w' : World} (h : Below w.heap.size w w') (may : MemPlace → Prop) : w.keptBut w' may := by
  refine ⟨h.os, h.output, fun i hi => ?_⟩
  rw [h.block i hi]
  split
  · rename_i e1 e2
    rw [e1] at e2
    simp only [Option.some.injEq, Obj.cells.injEq] at e2
    obtain ⟨rfl, rfl, rfl⟩ := e2
    exact ⟨rfl, rfl, rfl, fun _ _ => rfl⟩
  · rename_i e1 e2
    rw [e1] at e2
    simp only [Option.some.injEq, Obj.map.injEq] at e2
    obtain ⟨rfl, rfl⟩ := e2
    exact .inr ⟨rfl, rfl⟩
  · rfl
theorem known_true {P : Program} {gl : Tr AVal} {f : Nat} {w : World} (hk : Known P gl f [] (.p (.bool true)) []) (hG : Glob gl (fun b _ => b < w.heap.size) w) :
    Calls P f #[] w (fun e w' => e = .returned (.bool true) ∧ Below w.heap.size w w') := by
  obtain ⟨_, hc⟩ := hk _ w [] (inv_empty (I := fun b _ => b < w.heap.size) fun _ _ h => h) hG rfl
  refine (callsIn_wide (n := 0)).1 (CallsIn.mono hc fun e w' hcm => ?_)
  cases e with
  | returned u =>
    obtain ⟨g', e1, e2, e3⟩ := hcm
    have e3 : u = .bool true := e3
    rw [e3]
    exact ⟨rfl, e1.below⟩
  | panicked _ => exact hcm.elim
  | outgrown => exact hcm.elim
def tabP (k : IntKind) (zs : List Int) : PVal := .ip (.agg (zs.map (.int k)))
theorem reps_ints {I : Nat → Nat → Prop} {w : World} {k : IntKind} : ∀ (zs : List Int), RepPs I w (zs.map (.int k)) (zs.map fun z => Value.int k z)
  | [] => rfl
  | _z :: zs => ⟨_, _, rfl, rfl, reps_ints zs⟩
theorem rep_tab {P : Program} {w : World} {name : String} {k : IntKind} {zs : List Int} {g : Nat} (h : Lib.TabIs P w name k zs) (hg : P.globalNamed name = some g) :
    RepP (fun b _ => b < w.heap.size) w (tabP k zs) (.pointer (some ⟨g, 0, none⟩)) := by
  refine ⟨g, 0, .agg (zs.map fun z => Value.int k z).toArray, rfl, ⟨_, rfl, reps_ints zs, fun x hx => ?_⟩, fun i c hc => ?_⟩
  · obtain ⟨z, _, rfl⟩ := List.mem_map.1 hx
    rfl
  · have hc : (zs.map fun z => Value.int k z)[i]? = some c := hc
    have hi : i < zs.length := by
      have := (List.getElem?_eq_some_iff.1 hc).1
      simpa using this
    have h1 := h.cell hg i hi
    rw [Nat.zero_add]
    refine ⟨?_, ?_⟩
    · rw [h1]
      simp only [List.getElem?_map, Option.map_eq_some_iff] at hc
      obtain ⟨z, hz, rfl⟩ := hc
      simp [List.getD, hz]
    · simp only [World.cell?] at h1
      by_cases hs : g < w.heap.size
      · exact hs
      · simp [Array.getElem?_eq_none (by omega : w.heap.size ≤ g)] at h1
theorem glob_empty {I : Nat → Nat → Prop} {w : World} : Glob .lf I w := fun t x h => by
  rw [Tr.get_lf] at h
  simp at h
theorem glob_set {gl : Tr AVal} {I : Nat → Nat → Prop} {w : World} (h : Glob gl I w) {g : Nat} {y : PVal} (hr : RepP I w y (.pointer (some ⟨g, 0, none⟩))) : Glob (gl.set (glBase + g) (.p y)) I w := fun t x hx => by
  by_cases e : t = glBase + g
  · subst e
    rw [Tr.get_set, if_pos rfl] at hx
    simp at hx
    subst hx
    exact ⟨Nat.le_add_right _ _, y, rfl, by rw [Nat.add_sub_cancel_left]; exact hr⟩
  · rw [Tr.get_set, if_neg (fun h => e h.symm)] at hx
    exact h t x hx
end Go.Proofs.YtlcbgidfdkbfcaaGreatDoor.Sw
namespace Go.Proofs.YtlcbgidfdkbfcaaGreatDoor.Sw
section
variable {α : Type}
def chk (b : Bool) (x : Option α) : Option α := match b with
  | true => x
  | false => none
def ifB (b : Bool) (x y : Option α) : Option α := match b with
  | true => x
  | false => y
def selB (b u v : Bool) : Bool := match b with
  | true => u
  | false => v
def bindK {β : Type} (o : Option β) (K : β → Option α) : Option α := match o with
  | some x => K x
  | none => none
def listK {β : Type} (l : List β) (A : Option α) (K : β → List β → Option α) : Option α := match l with
  | [] => A
  | x :: r => K x r
def natK (z : Int) (K : Nat → Option α) : Option α := match z with
  | .ofNat n => K n
  | .negSucc _ => none
def intK (k : IntKind) (x : PVal) (K : Int → Option α) : Option α := match x with
  | .int k' z => match Nat.beq (kNum k) (kNum k') with
    | true => K z
    | false => none
  | _ => none
def boolK (x : PVal) (K : Bool → Option α) : Option α := match x with
  | .bool b => K b
  | _ => none
def strK (x : PVal) (K : List Nat → Option α) : Option α := match x with
  | .str l => K l
  | _ => none
def aggK (x : PVal) (K : List PVal → Option α) : Option α := match x with
  | .agg l => K l
  | _ => none
def tupK (x : PVal) (K : List PVal → Option α) : Option α := match x with
  | .tup l => K l
  | _ => none
def slK (x : PVal) (K : List PVal → Option α) : Option α := match x with
  | .nils => K []
  | .sl l => K l
  | _ => none
def ipK (x : PVal) (K : PVal → Option α) : Option α := match x with
  | .ip v => K v
  | _ => none
def fnK (x : PVal) (K : Nat → List PVal → Option α) : Option α := match x with
  | .fn (.func f) cap => K f cap
  | _ => none
def ifK (x : PVal) (K : Nat → PVal → Option α) : Option α := match x with
  | .iface t v => K t v
  | _ => none
def nilK (x : PVal) (K : Bool → Option α) : Option α := match x with
  | .nils => K true
  | .sl _ => K false
  | .nilp => K true
  | .ip _ => K false
  | .nilf => K true
  | .fn _ _ => K false
  | .nili => K true
  | .iface _ _ => K false
  | _ => none
def nthK {β : Type} (l : List β) (n : Nat) (K : β → Option α) : Option α := match nth l n with
  | some x => K x
  | none => none
def consK (l : List PVal) (K : PVal → List PVal → Option α) : Option α := match l with
  | [] => none
  | x :: r => K x r
def endK (l : List PVal) (x : Option α) : Option α := match l with
  | [] => x
  | _ :: _ => none
def pK (v : AVal) (K : PVal → Option α) : Option α := match v with
  | .p x => K x
  | _ => none
def nownK (v : AVal) (A : Option α) (K : Nat → List PVal → Option α) : Option α := match v with
  | .p .nils => A
  | .own sz xs => K sz xs
  | _ => none
def nclK (v : AVal) (A : Option α) (K : List PVal → Option α) : Option α := match v with
  | .p .nils => A
  | .cl xs => K xs
  | _ => none
def oneP (x : PVal) : Bool := match x with
  | .agg _ => false
  | .tup _ => false
  | _ => true
end
inductive Cs where
  | int (k : IntKind)
  | bool
  | str
  | opq
inductive Sh where
  | one (c : Cs)
  | agg (l : List Cs)
def Cs.view {α : Type} (c : Cs) (x : PVal) (K : PVal → Option α) : Option α := match c with
  | .int k => intK k x fun z => K (.int k z)
  | .bool => boolK x fun b => K (.bool b)
  | .str => strK x fun l => K (.str l)
  | .opq => K x
def viewCells {α : Type} : List Cs → List PVal → (List PVal → Option α) → Option α
  | [], l, K => endK l (K [])
  | c :: cs, l, K => consK l fun x r => c.view x fun x' => viewCells cs r fun r' => K (x' :: r')
def Sh.view {α : Type} (s : Sh) (x : PVal) (K : PVal → Option α) : Option α := match s with
  | .one c => c.view x K
  | .agg l => aggK x fun cs => viewCells l cs fun cs' => K (.agg cs')
def viewA {α : Type} (s : Sh) (v : AVal) (K : AVal → Option α) : Option α := match v with
  | .p x => s.view x fun x' => K (.p x')
  | v => K v
inductive XObj where
  | box (cs : List AVal)
  | arr (sz : Nat) (xs : List PVal) (ep lost fz : Nat)
  | pbox (cs : List PVal)
def XObj.to : XObj → Obj
  | .box cs => .box cs
  | .arr sz xs ep lost fz => .arr sz xs.length (xs.map .p) ep lost fz
  | .pbox cs => .box (cs.map .p)
structure XSt where
  next : Nat
  objs : Tr XObj
def XSt.get (σ : XSt) (id : Nat) : Option XObj := σ.objs.get id
def XSt.set (σ : XSt) (id : Nat) (o : XObj) : XSt := { σ with objs := σ.objs.set id o }
def Tr.mapv {α β : Type} (f : α → β) : Tr α → Tr β
  | .lf => .lf
  | .nd v l r => .nd (match v with | some x => some (f x) | none => none) (l.mapv f) (r.mapv f)
def XSt.to (σ : XSt) : St := { next := σ.next, objs := σ.objs.mapv XObj.to }
def Tr.cut {α : Type} : List Bool → Tr α → Tr α
  | [], .nd _ l r => .nd none l r
  | b :: p, .nd v l r => match b with
    | true => .nd v (Tr.cut p l) r
    | false => .nd v l (Tr.cut p r)
  | _, .lf => .lf
def XSt.forget (σ : XSt) : List Nat → XSt
  | [] => σ
  | id :: r => ({ σ with objs := σ.objs.cut (path id) } : XSt).forget r
def XSt.sets (σ : XSt) : List (Nat × Obj) → Option XSt
  | [] => some σ
  | (id, .box cs) :: r => (σ.set id (.box cs)).sets r
  | _ :: _ => none
section
variable {α : Type}
abbrev Nx (α : Type) := AVal → XSt → List Nat → List Nat → Option α
def seen (σ : XSt) (b : Nat) : List Nat → Bool
  | [] => true
  | id :: r => match (match σ.get id with | some _ => true | none => Nat.beq id b) with
    | true => seen σ b r
    | false => false
def plainK (P : Program) (tm : Tr AVal) (σ : XSt) (b : Nat) (op : Op) (K : Nx α) : Option α :=
  match plainOp P tm σ.to b op with
  | some e => match seen σ b e.rd, seen σ b (e.wr.map (·.1)), σ.sets e.wr with
    | true, true, some σ' => K e.v σ' e.rd (e.wr.map (·.1))
    | _, _, _ => none
  | none => none
def opdK (tm : Tr AVal) (o : Operand) (K : AVal → Option α) : Option α := match operand tm o with
  | some v => K v
  | none => none
def typeK (P : Program) (t : Nat) (K : Bool → Nat → Option α) : Option α := match aggT P t, szT P t with
  | some g, some n => K g n
  | _, _ => none
def objK (g : Bool) (n : Nat) (sh : Sh) (v : AVal) (K : XObj → Option α) : Option α :=
  match g with
  | false => match v with
    | .p x => chk (oneP x) (chk (Nat.beq n 1) (K (.box [.p x])))
    | .agg _ => none
    | .tup _ => none
    | .own _ _ => none
    | .ownm _ => none
    | .junk => none
    | v => chk (Nat.beq n 1) (K (.box [v]))
  | true => match v with
    | .p x => match sh with
      | .agg l => aggK x fun cs => viewCells l cs fun cs => chk (Nat.beq cs.length n) (K (.box (cs.map .p)))
      | .one _ => aggK x fun cs => chk (Nat.beq cs.length n) (K (.pbox cs))
    | .agg cs => chk (Nat.beq cs.length n) (K (.box cs))
    | _ => none
def freeK (σ : XSt) (b : Nat) (x : Option α) : Option α := match σ.get b with
  | none => x
  | some _ => none
def lenK (P : Program) (t : Nat) (v : AVal) (K : AVal → Option α) : Option α :=
  match P.underlying t with
  | some .string => match v with
    | .p x => strK x fun l => K (.p (.int .i64 l.length))
    | _ => none
  | some (.slice _) => match v with
    | .p x => slK x fun l => K (.p (.int .i64 l.length))
    | .cl l => K (.p (.int .i64 l.length))
    | .arr _ _ _ len _ => K (.p (.int .i64 len))
    | _ => none
  | some (.array n _) => K (.p (.int .i64 n))
  | _ => none
def ixK (v : AVal) (K : Nat → Option α) : Option α := match v with
  | .p (.int _ z) => natK z K
  | _ => none
def elemK (sz : Nat) (sh : Sh) (l : List PVal) (n : Nat) (K : PVal → Option α) : Option α :=
  nthK l n fun x => sh.view x fun x' => chk (Nat.beq (cellsP x').length sz) (K x')
def indexAddrK (P : Program) (shs : Nat → Sh) (σ : XSt) (t : Nat) (v i : AVal) (K : Nx α) : Option α :=
  match P.underlying t with
  | some (.slice e) => match szT P e with
    | some sz => match v with
      | .p x => slK x fun l => ixK i fun n => elemK sz (shs e) l n fun y => K (.p (.ip y)) σ [] []
      | .cl l => ixK i fun n => elemK sz (shs e) l n fun y => K (.p (.ip y)) σ [] []
      | .arr id ep off len _ => match σ.get id with
        | some (.arr sz' _ _ lost _) => ixK i fun n => chk (Nat.blt n len) (chk (Nat.beq sz sz') (chk (Nat.ble lost ep) (K (.el id ep (off + n) 0) σ [id] [])))
        | _ => none
      | _ => none
    | none => none
  | some (.array len e) => match szT P e with
    | some sz => match v with
      | .box id off => ixK i fun n => chk (Nat.blt n len) (K (.box id (off + n * sz)) σ [] [])
      | .el id ep j off => ixK i fun n => chk (Nat.blt n len) (K (.el id ep j (off + n * sz)) σ [] [])
      | .p x => ipK x fun x => match aggT P e with
        | some false => aggK x fun cs => ixK i fun n => chk (Nat.blt n len) (nthK cs (n * sz) fun y => (shs e).view y fun y' => K (.p (.ip y')) σ [] [])
        | some true => aggK x fun cs => ixK i fun n => chk (Nat.blt n len) (chk (Nat.ble (n * sz + sz) cs.length) ((shs e).view (.agg ((cs.drop (n * sz)).take sz)) fun y' => K (.p (.ip y')) σ [] []))
        | none => none
      | _ => none
    | none => none
  | _ => none
def partK (g : Bool) (cs : List PVal) (off n : Nat) (K : PVal → Option α) : Option α :=
  match g with
  | true => chk (Nat.ble (off + n) cs.length) (K (.agg ((cs.drop off).take n)))
  | false => nthK cs off K
def partAK (g : Bool) (cs : List AVal) (off n : Nat) (K : AVal → Option α) : Option α :=
  match g with
  | true => chk (Nat.ble (off + n) cs.length) (K (mkAgg ((cs.drop off).take n)))
  | false => nthK cs off K
def loadK (P : Program) (shs : Nat → Sh) (σ : XSt) (t : Nat) (v : AVal) (K : Nx α) : Option α :=
  typeK P t fun g n => match v with
    | .p x => ipK x fun x => match g with
      | true => aggK x fun cs => chk (Nat.beq cs.length n) ((shs t).view (.agg cs) fun y => K (.p y) σ [] [])
      | false => chk (!isAggP x) ((shs t).view x fun x => K (.p x) σ [] [])
    | .box id off => match σ.get id with
      | some (.box cs) => partAK g cs off n fun v => viewA (shs t) v fun v' => K v' σ [id] []
      | some (.pbox cs) => partK g cs off n fun y => (shs t).view y fun y' => K (.p y') σ [id] []
      | _ => none
    | .el id ep i off => match σ.get id with
      | some (.arr _ xs _ lost _) => chk (Nat.ble lost ep) (nthK xs i fun y => match g with
        | false => ifB (oneP y) (chk (Nat.beq off 0) ((shs t).view y fun y' => K (.p y') σ [id] []))
          (aggK y fun cs => nthK cs off fun y => (shs t).view y fun y' => K (.p y') σ [id] [])
        | true => aggK y fun cs => partK true cs off n fun y => (shs t).view y fun y' => K (.p y') σ [id] [])
      | _ => none
    | _ => none
def purK (v : AVal) (K : PVal → Option α) : Option α := match v with
  | .p x => K x
  | _ => none
def storeK (P : Program) (shs : Nat → Sh) (σ : XSt) (t : Nat) (a v : AVal) (K : Nx α) : Option α :=
  typeK P t fun g n => match a with
    | .box id off => match σ.get id with
      | some (.box cs) => objK g n (shs t) v fun o => match o with
        | .box new => match putCells cs off new with
          | some cs' => K (.p (.tup [])) (σ.set id (.box cs')) [id] [id]
          | none => none
        | .pbox new => chk (Nat.beq off 0) (chk (Nat.beq n cs.length) (K (.p (.tup [])) (σ.set id (.pbox new)) [id] [id]))
        | _ => none
      | some (.pbox cs) => purK v fun x => match g with
        | false => chk (oneP x) (chk (Nat.beq n 1) (chk (Nat.blt off cs.length) (K (.p (.tup [])) (σ.set id (.pbox (cs.set off x))) [id] [id])))
        | true => aggK x fun new => chk (Nat.beq new.length n) (chk (Nat.ble (off + n) cs.length) (K (.p (.tup [])) (σ.set id (.pbox (cs.take off ++ new ++ cs.drop (off + n)))) [id] [id]))
      | _ => none
    | .el id ep i 0 => match σ.get id with
      | some (.arr sz xs cur _ fz) => chk (Nat.beq ep cur) (chk (Nat.ble fz i) (chk (Nat.blt i xs.length) (purK v fun x => match g with
        | false => chk (oneP x) (chk (Nat.beq n 1) (nthK xs i fun y => chk (oneP y) (K (.p (.tup [])) (σ.set id (.arr sz (xs.set i x) cur cur fz)) [id] [id])))
        | true => aggK x fun new => chk (Nat.beq new.length n) (nthK xs i fun y => aggK y fun cs => chk (Nat.beq cs.length n) (K (.p (.tup [])) (σ.set id (.arr sz (xs.set i (.agg new)) cur cur fz)) [id] [id])))))
      | _ => none
    | _ => none
def sourceK (σ : XSt) (v : AVal) (K : List PVal → List Nat → Option α) : Option α := match v with
  | .p x => slK x fun l => K l []
  | .cl l => K l []
  | .arr id ep off len _ => match σ.get id with
    | some (.arr _ xs _ lost _) => chk (Nat.ble lost ep) (chk (Nat.ble (off + len) xs.length) (K ((xs.drop off).take len) [id]))
    | _ => none
  | _ => none
def widths (g : Bool) (sz : Nat) : List PVal → Bool
  | [] => true
  | x :: r => match (match g with
    | true => match x with | .agg cs => Nat.beq cs.length sz | _ => false
    | false => oneP x && Nat.beq sz 1) with
    | true => widths g sz r
    | false => false
def appendK (P : Program) (σ : XSt) (b t : Nat) (v u : AVal) (K : Nx α) : Option α :=
  match elemT P t with
  | some e => match szT P e, bytesT P e, aggT P e with
    | some sz, some by_, some g => sourceK σ u fun ys rd => chk (widths g sz ys) (chk (zeroOk P e g sz) (chk (Nat.blt 0 by_) (match v with
      | .p .nils => listK ys (K (.p .nils) σ rd [])
        fun y r => chk (Nat.ble ((y :: r).length * by_) 1099511627776) (freeK σ b (K (.arr b 0 0 (y :: r).length false) (σ.set b (.arr sz (y :: r) 0 0 0)) (b :: rd) [b]))
      | .cl xs => listK ys (K (.cl xs) σ rd [])
        fun y r => chk (widths g sz xs) (chk (Nat.ble ((xs.length + (y :: r).length) * by_) 1099511627776) (freeK σ b (K (.arr b 0 0 (xs.length + (y :: r).length) false) (σ.set b (.arr sz (xs ++ y :: r) 0 0 0)) (b :: rd) [b])))
      | .arr id ep 0 len false => match σ.get id with
        | some (.arr sz' xs cur lost fz) => chk (Nat.beq sz sz') (chk (Nat.ble lost ep) (chk (Nat.beq len xs.length) (chk (Nat.ble ((len + ys.length) * by_) 1099511627776) (listK ys (K v σ (id :: rd) [])
          fun y r => K (.arr id (cur + 1) 0 (len + (y :: r).length) false) (σ.set id (.arr sz (xs ++ y :: r) (cur + 1) lost fz)) (id :: rd) [id]))))
        | _ => none
      | .arr id ep off len true => match σ.get id with
        | some (.arr sz' xs _ lost _) => chk (Nat.beq sz sz') (chk (Nat.ble lost ep) (chk (Nat.ble ((len + ys.length) * by_) 1099511627776) (chk (Nat.ble (off + len) xs.length) (listK ys (K v σ (id :: rd) [])
          fun y r => freeK σ b (K (.arr b 0 0 (len + (y :: r).length) false) (σ.set b (.arr sz ((xs.drop off).take len ++ y :: r) 0 0 0)) (b :: id :: rd) [b])))))
        | _ => none
      | _ => none)))
    | _, _, _ => none
  | none => none
end
end Go.Proofs.YtlcbgidfdkbfcaaGreatDoor.Sw
namespace Go.Proofs.YtlcbgidfdkbfcaaGreatDoor.Sw
section
variable {α : Type}
def depthX : Nat := 12
def nslK (x : PVal) (A : Option α) (K : List PVal → Option α) : Option α := match x with
  | .nils => A
  | .sl l => K l
  | _ => none
def sliceP (x : PVal) (l h : Nat) : PVal := match x with
  | .sl xs => .sl ((xs.drop l).take (h - l))
  | x => x
def boundK (x : Option AVal) (d : Nat) (K : Nat → Option α) : Option α := match x with
  | none => K d
  | some v => ixK v K
def cutK (lo hi : Option AVal) (len : Nat) (K : Nat → Nat → Option α) : Option α :=
  boundK lo 0 fun l => boundK hi len fun h => chk (Nat.ble l h) (chk (Nat.ble h len) (K l h))
def sliceK (P : Program) (σ : XSt) (t : Nat) (v : AVal) (lo hi mx : Option AVal) (K : Nx α) : Option α :=
  match mx with
  | some m => match P.underlying t, v, hi with
    | some (.slice e), .p x, some h => match szT P e with
      | some sz => nslK x (cutK lo (some h) 0 fun _ h => ixK m fun m => chk (Nat.beq m h) (K (.p .nils) σ [] []))
        fun xs => cutK lo (some h) xs.length fun l h => ixK m fun m => chk (Nat.beq m h) (chk (wide sz xs) (K (.cl ((xs.drop l).take (h - l))) σ [] []))
      | none => none
    | _, _, _ => none
  | none => match P.underlying t, v with
    | some .string, .p x => strK x fun bs => cutK lo hi bs.length fun l h => K (.p (.str ((bs.drop l).take (h - l)))) σ [] []
    | some (.slice e), .p x => match szT P e with
      | some sz => slK x fun xs => cutK lo hi xs.length fun l h => chk (wide sz xs) (K (.p (sliceP x l h)) σ [] [])
      | none => none
    | some (.slice e), .cl xs => match szT P e with
      | some sz => cutK lo hi xs.length fun l h => chk (wide sz xs) (K (.p (.sl ((xs.drop l).take (h - l)))) σ [] [])
      | none => none
    | some (.slice e), .arr id ep off len c => match szT P e, σ.get id with
      | some sz, some (.arr sz' _ _ _ _) => cutK lo hi len fun l h => chk (Nat.beq sz sz')
        (ifB (Nat.beq l h)
          (match c with
            | true => K (.p (.sl [])) σ [id] []
            | false => ifB (Nat.beq l 0) (K (.arr id ep off 0 false) σ [id] []) (K (.p (.sl [])) σ [id] []))
          (match c with
            | true => chk (Nat.beq h len) (K (.arr id ep (off + l) (h - l) true) σ [id] [])
            | false => K (.arr id ep (off + l) (h - l) false) σ [id] []))
      | _, _ => none
    | _, _ => none
def fieldK (P : Program) (shs : Nat → Sh) (t f : Nat) (v : AVal) (K : AVal → Option α) : Option α :=
  match fieldT P t f with
  | some fd => typeK P fd.type fun g n => match v with
    | .p x => aggK x fun cs => partK g cs fd.offset n fun y => (shs fd.type).view y fun y' => K (.p y')
    | .agg cs => partAK g cs fd.offset n K
    | _ => none
  | none => none
def fieldAddrK (P : Program) (shs : Nat → Sh) (t f : Nat) (v : AVal) (K : AVal → Option α) : Option α :=
  match fieldT P t f with
  | some fd => typeK P fd.type fun g n => match n with
    | 0 => none
    | _ => match v with
      | .box id off => K (.box id (off + fd.offset))
      | .el id ep i off => K (.el id ep i (off + fd.offset))
      | .p x => ipK x fun x => aggK x fun cs => partK g cs fd.offset n fun y => (shs fd.type).view y fun y' => K (.p (.ip y'))
      | _ => none
  | none => none
def indexK (P : Program) (shs : Nat → Sh) (t : Nat) (v i : AVal) (K : AVal → Option α) : Option α :=
  match P.underlying t with
  | some .string => match v with
    | .p x => strK x fun bs => ixK i fun n => nthK bs n fun c => K (.p (.int .u8 (Int.ofNat c)))
    | _ => none
  | some (.array len e) => typeK P e fun g sz => match v with
    | .p x => aggK x fun cs => ixK i fun n => chk (Nat.blt n len) (partK g cs (n * sz) sz fun y => (shs e).view y fun y' => K (.p y'))
    | _ => none
  | _ => none
def pickK (c x y : AVal) (K : AVal → Option α) : Option α := match c with
  | .p (.bool b) => match x, y with
    | .p (.bool u), .p (.bool v) => K (.p (.bool (selB b u v)))
    | x, y => ifB b (K x) (K y)
  | _ => none
def allSameB (P : Program) : List Field → List PVal → List PVal → Option Bool
  | [], _, _ => some true
  | f :: fs, a, b => match f.name == "_", aggT P f.type, nth a f.offset, nth b f.offset with
    | false, some false, some x, some y => match basicSame (P.underlying f.type) x y, allSameB P fs a b with
      | some u, some v => some (selB u v false)
      | _, _ => none
    | _, _, _, _ => none
def rowSameB (P : Program) (e c : Nat) (a b : List PVal) : Nat → Nat → Option Bool
  | _, 0 => some true
  | i, k + 1 => match nth a (i * c), nth b (i * c) with
    | some x, some y => match basicSame (P.underlying e) x y, rowSameB P e c a b (i + 1) k with
      | some u, some v => some (selB u v false)
      | _, _ => none
    | _, _ => none
def structEqB (P : Program) (t : Nat) (a b : List PVal) : Option Bool :=
  match P.underlying t with
  | some (.array n e) => match aggT P e, szT P e with
    | some false, some c => rowSameB P e c a b 0 n
    | _, _ => none
  | some (.struct fs) => match P.stoodInHeld t with
    | false => allSameB P fs.toList a b
    | true => none
  | _ => none
def nilSK (x : PVal) (K : Bool → Option α) : Option α := match x with
  | .nils => K true
  | .sl _ => K false
  | _ => none
def nilPK (x : PVal) (K : Bool → Option α) : Option α := match x with
  | .nilp => K true
  | .ip _ => K false
  | _ => none
def nilFK (x : PVal) (K : Bool → Option α) : Option α := match x with
  | .nilf => K true
  | .fn _ _ => K false
  | _ => none
def nilIK (x : PVal) (K : Bool → Option α) : Option α := match x with
  | .nili => K true
  | .iface _ _ => K false
  | _ => none
def nilEqK (d : Option TypeDesc) (op : BinOp) (x y : PVal) (K : AVal → Option α) : Option α :=
  match op with
  | .eql => match d, y with
    | some (.slice _), .nils => nilSK x fun b => K (.p (.bool b))
    | some (.pointer _), .nilp => nilPK x fun b => K (.p (.bool b))
    | some (.func _ _ _), .nilf => nilFK x fun b => K (.p (.bool b))
    | some (.interface _), .nili => nilIK x fun b => K (.p (.bool b))
    | _, _ => none
  | .neq => match d, y with
    | some (.slice _), .nils => nilSK x fun b => K (.p (.bool (!b)))
    | some (.pointer _), .nilp => nilPK x fun b => K (.p (.bool (!b)))
    | some (.func _ _ _), .nilf => nilFK x fun b => K (.p (.bool (!b)))
    | some (.interface _), .nili => nilIK x fun b => K (.p (.bool (!b)))
    | _, _ => none
  | _ => none
def isNilP (x : PVal) : Bool := match x with
  | .nils => true
  | .nilp => true
  | .nilf => true
  | .nili => true
  | _ => false
def binV (P : Program) (op : BinOp) (t : Nat) (ox oy : Operand) (x y : AVal) (K : AVal → Option α) : Option α :=
  match x, y with
  | .p (.int k a), .p (.int k' b) => match op with
    | .quo => chk (Nat.beq (kNum k) (kNum k')) (ifB (decide (b = 0)) none (K (.p (.int k (k.wrap (a.tdiv b))))))
    | .rem => chk (Nat.beq (kNum k) (kNum k')) (ifB (decide (b = 0)) none (K (.p (.int k (a.tmod b)))))
    | .shl => ifB (decide (b < 0)) none (K (.p (.int k (k.wrap (a * 2 ^ (min b.toNat k.bits))))))
    | .shr => ifB (decide (b < 0)) none (K (.p (.int k (a.fdiv (2 ^ (min b.toNat k.bits))))))
    | op => chk (Nat.beq (kNum k) (kNum k')) (match intBin op k a b with
      | some z => K (.p z)
      | none => none)
  | .p (.str a), .p (.str b) => match op with
    | .add => chk (Nat.ble (a.length + b.length) 1099511627776) (K (.p (.str (a ++ b))))
    | op => match strBin op a b with
      | some z => K (.p z)
      | none => none
  | .p (.agg a), .p (.agg b) => match op, P.eqGuardType P.depth t with
    | .eql, false => bindK (structEqB P t a b) fun z => K (.p (.bool z))
    | .neq, false => bindK (structEqB P t a b) fun z => K (.p (.bool (!z)))
    | _, _ => none
  | .p x, .p y => match P.underlying t with
    | some .bool => match x, y with
      | .bool a, .bool b => match op with
        | .eql => K (.p (.bool (a == b)))
        | .neq => K (.p (.bool (!(a == b))))
        | _ => none
      | _, _ => none
    | _ => none
  | x, y => match binary P op t ox oy x y with
    | some v => K v
    | none => none
def nilC (o : Operand) (v : AVal) : Bool := match isConst o with
  | true => match v with
    | .p x => isNilP x
    | _ => false
  | false => false
def binE (P : Program) (op : BinOp) (t : Nat) (ox oy : Operand) (x y : AVal) (K : AVal → Option α) : Option α := match binary P op t ox oy x y with
  | some v => K v
  | none => none
def binK (P : Program) (op : BinOp) (t : Nat) (ox oy : Operand) (x y : AVal) (K : AVal → Option α) : Option α :=
  match nilC oy y with
  | true => match x, y with
    | .p x, .p y => nilEqK (P.underlying t) op x y K
    | x, y => binE P op t ox oy x y K
  | false => match nilC ox x with
    | true => match x, y with
      | .p x, .p y => nilEqK (P.underlying t) op y x K
      | x, y => binE P op t ox oy x y K
    | false => binV P op t ox oy x y K
def handsWith (f : AVal → (PVal → List Nat → Option α) → Option α) : List AVal → (List PVal → List Nat → Option α) → Option α
  | [], K => K [] []
  | v :: r, K => f v fun x a => handsWith f r fun xs b => K (x :: xs) (a ++ b)
def handK (bw : Bool) (σ : XSt) : Nat → AVal → (PVal → List Nat → Option α) → Option α
  | 0, _, _ => none
  | d + 1, v, K => match v with
    | .p x => K x []
    | .cl l => K (.sl l) []
    | .agg cs => handsWith (handK bw σ d) cs fun ps ids => K (.agg ps) ids
    | .tup cs => handsWith (handK bw σ d) cs fun ps ids => K (.tup ps) ids
    | .iface t v => handK bw σ d v fun x ids => K (.iface t x) ids
    | .fn f cs => handsWith (handK bw σ d) cs fun ps ids => K (.fn f ps) ids
    | .arr id ep off len _ => match d, σ.get id with
      | _ + 1, some (.arr _ xs _ lost _) => chk (Nat.ble lost ep) (chk (Nat.ble (off + len) xs.length) (K (.sl ((xs.drop off).take len)) [id]))
      | _, _ => none
    | .box id 0 => match σ.get id with
      | some (.pbox cs) => match d with
        | 0 => none
        | _ + 1 => chk bw (chk (Nat.blt 1 cs.length) (K (.ip (.agg cs)) [id]))
      | some (.box cs) => chk bw (handsWith (handK bw σ d) cs fun ps ids => K (.ip (ipOf ps)) (id :: ids))
      | _ => none
    | _ => none
def handsK (bw : Bool) (σ : XSt) (l : List AVal) (K : List PVal → List Nat → Option α) : Option α := handsWith (handK bw σ depthX) l K
inductive Rs where
  | one (s : Sh)
  | many (l : List Sh)
  | own
  | clip
def viewsP : List Sh → List PVal → (List PVal → Option α) → Option α
  | [], l, K => endK l (K [])
  | s :: ss, l, K => consK l fun x r => s.view x fun x' => viewsP ss r fun r' => K (x' :: r')
def Rs.view (s : Rs) (v : AVal) (Kp : PVal → Option α) (Ko : Nat → List PVal → Option α) (Kc : List PVal → Option α) : Option α := match s with
  | .one s => pK v fun x => s.view x Kp
  | .many l => pK v fun x => tupK x fun vs => viewsP l vs fun vs' => Kp (.tup vs')
  | .own => nownK v (Kp .nils) Ko
  | .clip => nclK v (Kp .nils) Kc
abbrev Rec1 := Nat → List PVal → Option AVal
structure Cfg where
  shs : Nat → Sh
  res : Nat → Rs
  imp : Nat → Bool
def XSt.freeze : List Nat → XSt → Option XSt
  | [], σ => some σ
  | id :: r, σ => match σ.get id with
    | some (.arr sz xs ep lost _) => XSt.freeze r (σ.set id (.arr sz xs ep lost xs.length))
    | _ => none
def freezeK (ids : List Nat) (σ : XSt) (K : XSt → Option α) : Option α := match XSt.freeze ids σ with
  | some σ' => K σ'
  | none => none
def pureK (σ : XSt) (ids : List Nat) (K : Nx α) (x : PVal) : Option α := match ids with
  | [] => K (.p x) σ [] []
  | _ :: _ => ifB (flatP x) (K (.p x) σ ids []) (freezeK ids σ fun σ' => K (.p x) σ' ids ids)
def isoK (cf : Cfg) (rec : Rec1) (σ : XSt) (b site f : Nat) (args : List AVal) (tail : List PVal) (K : Nx α) : Option α :=
  chk (!cf.imp f) (handsK (lends cf.imp f) σ args fun ps ids => bindK (rec f (ps ++ tail)) fun v => (cf.res site).view v
    (pureK σ ids K)
    (fun sz xs => freeK σ b (freezeK ids σ fun σ' => K (.arr b 0 0 xs.length false) (σ'.set b (.arr sz xs 0 0 0)) (ids ++ [b]) (ids ++ [b])))
    (fun xs => chk (clips cf.imp f) (freezeK ids σ fun σ' => K (.cl xs) σ' ids ids)))
def callK (P : Program) (cf : Cfg) (rec : Rec1) (tm : Tr AVal) (σ : XSt) (b site : Nat) (c : Call) (K : Nx α) : Option α :=
  match c.callee with
  | .value o => opdK tm o fun fv => match operands tm c.args.toList with
    | some args => match fv with
      | .p x => fnK x fun f cap => isoK cf rec σ b site f args cap K
      | .fn (.func f) cap => isoK cf rec σ b site f (args ++ cap) [] K
      | .fnb (.func f) first => isoK cf rec σ b site f (first ++ args) [] K
      | _ => none
    | none => none
  | .invoke o name => opdK tm o fun x => match operands tm c.args.toList with
    | some args => match x with
      | .p x => ifK x fun t v => bindK (methodAt P t name) fun f => isoK cf rec σ b site f (.p v :: args) [] K
      | .iface t v => bindK (methodAt P t name) fun f => isoK cf rec σ b site f (v :: args) [] K
      | _ => none
    | none => none
  | _ => none
def assertK (P : Program) (v : AVal) (a : Nat) (ok : Bool) (K : AVal → Option α) : Option α := match v with
  | .p x => match ifaceT P a, P.underlying a, zeroT P a with
    | false, some _, some z => ifK x fun t y => ifB (Nat.beq t a)
        (match ok with | true => K (.p (.tup [y, .bool true])) | false => K (.p y))
        (match ok with | true => K (.p (.tup [z, .bool false])) | false => none)
    | _, _, _ => none
  | v => match assertOp P v a ok with
    | some z => K z
    | none => none
def xop (P : Program) (cf : Cfg) (rec : Rec1) (tm : Tr AVal) (σ : XSt) (b site : Nat) (op : Op) (K : Nx α) : Option α :=
  match op with
  | .pick c x y => opdK tm c fun c => opdK tm x fun x => opdK tm y fun y => pickK c x y fun v => K v σ [] []
  | .binOp op t x y _ => opdK tm x fun v => opdK tm y fun u => binK P op t x y v u fun z => K z σ [] []
  | .box t x => opdK tm x fun v => typeK P t fun g n => objK g n (cf.shs t) v fun o => freeK σ b (K (.box b 0) (σ.set b o) [b] [b])
  | .alloc t => match zeroT P t with
    | some z => typeK P t fun g n => objK g n (cf.shs t) (.p z) fun o => freeK σ b (K (.box b 0) (σ.set b o) [b] [b])
    | none => none
  | .load t x => opdK tm x fun v => loadK P cf.shs σ t v K
  | .store t x y => opdK tm x fun a => opdK tm y fun v => storeK P cf.shs σ t a v K
  | .fieldAddr t x f => opdK tm x fun v => fieldAddrK P cf.shs t f v fun z => K z σ [] []
  | .field t x f => opdK tm x fun v => fieldK P cf.shs t f v fun z => K z σ [] []
  | .indexAddr t x i => opdK tm x fun v => opdK tm i fun i => indexAddrK P cf.shs σ t v i K
  | .index t x i => opdK tm x fun v => opdK tm i fun i => indexK P cf.shs t v i fun z => K z σ [] []
  | .slice t x lo hi mx => opdK tm x fun v => match operand? tm lo, operand? tm hi, operand? tm mx with
    | some lo, some hi, some mx => sliceK P σ t v lo hi mx K
    | _, _, _ => none
  | .call { callee := .builtin .len, args, argTypes } => match args.toList, argTypes.toList with
    | [x], [t] => opdK tm x fun v => lenK P t v fun z => K z σ [] []
    | _, _ => none
  | .call { callee := .builtin .append, args, argTypes } => match args.toList, argTypes.toList with
    | [x, y], [t, t2] => match notInt P t2 with
      | true => opdK tm x fun v => opdK tm y fun u => appendK P σ b t v u K
      | false => none
    | _, _ => none
  | .call { callee := .builtin _, .. } => plainK P tm σ b op K
  | .call c => callK P cf rec tm σ b site c K
  | .panic _ => none
  | .defer _ => none
  | .typeAssert x _ a ok => opdK tm x fun v => assertK P v a ok fun z => K z σ [] []
  | op => plainK P tm σ b op K
def wantK (ops : Array Oper) (tm : Tr AVal) (o : Oper) (K : Bool → Tr AVal → Option α) : Option α :=
  match o.guard with
  | none => K true tm
  | some (j, want) => match ops[j]? with
    | some oj => match oj.dst with
      | some d => match operand tm (.tmp d) with
        | some (.p (.bool b)) => ifB b (K want (tm.set d (.p (.bool true)))) (K (match want with | true => false | false => true) (tm.set d (.p (.bool false))))
        | some (.p (.tup [])) => K false tm
        | _ => none
      | none => none
    | none => none
def dstK (n : Nat) (tm : Tr AVal) (d : Option Nat) (v : AVal) (K : Tr AVal → Option α) : Option α := match setDst n tm d v with
  | some tm' => K tm'
  | none => none
def opsK (P : Program) (cf : Cfg) (rec : Rec1) (n : Nat) (ops : Array Oper) : List Oper → Nat → Nat → Tr AVal → XSt → List (Nat × Rec) → (Tr AVal → XSt → List (Nat × Rec) → Option α) → Option α
  | [], _, _, tm, σ, recs, K => K tm σ recs
  | o :: r, i, b, tm, σ, recs, K => wantK ops tm o fun w tm => match w with
    | true => xop P cf rec tm σ b (o.dst.getD 0) o.op fun v σ' rd wr => viewA (cf.shs o.type) v fun v' => dstK n tm o.dst v' fun tm' =>
      opsK P cf rec n ops r (i + 1) (b + 16) tm' σ' (addRec i ⟨rd, wr⟩ recs) K
    | false => dstK n tm o.dst (.p (.tup [])) fun tm' => opsK P cf rec n ops r (i + 1) (b + 16) tm' σ recs K
def regionK (P : Program) (cf : Cfg) (rec : Rec1) (n : Nat) (ops : Array Oper) (draw : Bool) (tm : Tr AVal) (σ : XSt) (K : Tr AVal → XSt → Option α) : Option α :=
  opsK P cf rec n ops ops.toList 0 σ.next tm σ [] fun tm' σ' recs => match draw with
    | false => K tm' { σ' with next := σ.next + 16 * ops.size }
    | true => chk (pairsFree (Region.before ops) recs) (K tm' { σ' with next := σ.next + 16 * ops.size })
inductive XE where
  | normal
  | exit (id : Nat)
  | ret
abbrev Loops (α : Type) := Nat → Tr AVal → XSt → (XE → Tr AVal → XSt → Option α) → Option α
def codeK (P : Program) (cf : Cfg) (rec : Rec1) (n : Nat) (lo : Loops α) : Code → Tr AVal → XSt → (XE → Tr AVal → XSt → Option α) → Option α
  | .skip, tm, σ, K => K .normal tm σ
  | .label _, tm, σ, K => K .normal tm σ
  | .region _ ops draw, tm, σ, K => regionK P cf rec n ops draw tm σ (K .normal)
  | .seq a b, tm, σ, K => codeK P cf rec n lo a tm σ fun x tm' σ' => match x with
    | .normal => codeK P cf rec n lo b tm' σ' K
    | x => K x tm' σ'
  | .cond c a b, tm, σ, K => match operand tm c with
    | some (.p x) => boolK x fun v => ifB v (codeK P cf rec n lo a tm σ K) (codeK P cf rec n lo b tm σ K)
    | _ => none
  | .block id (.loop _), tm, σ, K => lo id tm σ K
  | .block id c, tm, σ, K => codeK P cf rec n lo c tm σ fun x tm' σ' => match x with
    | .exit i => match Nat.beq i id with
      | true => K .normal tm' σ'
      | false => K (.exit i) tm' σ'
    | x => K x tm' σ'
  | .exit id, tm, σ, K => K (.exit id) tm σ
  | .scope c, tm, σ, K => codeK P cf rec n lo c tm σ K
  | .ret, tm, σ, K => K .ret tm σ
  | _, _, _, _ => none
end
end Go.Proofs.YtlcbgidfdkbfcaaGreatDoor.Sw
namespace Go.Proofs.YtlcbgidfdkbfcaaGreatDoor.Sw
section
variable {α : Type} {r : α}
theorem chk_some {b : Bool} {x : Option α} (h : chk b x = some r) : b = true ∧ x = some r := by
  cases b <;> simp [chk] at h
  exact ⟨rfl, h⟩
theorem ifB_some {b : Bool} {x y : Option α} (h : ifB b x y = some r) : (b = true ∧ x = some r) ∨ (b = false ∧ y = some r) := by
  cases b with
  | true => exact .inl ⟨rfl, h⟩
  | false => exact .inr ⟨rfl, h⟩
theorem bindK_some {β : Type} {o : Option β} {K : β → Option α} (h : bindK o K = some r) : ∃ x, o = some x ∧ K x = some r := by
  cases o with
  | none => simp [bindK] at h
  | some x => exact ⟨x, rfl, h⟩
theorem listK_some {β : Type} {l : List β} {A : Option α} {K : β → List β → Option α} (h : listK l A K = some r) : (l = [] ∧ A = some r) ∨ ∃ x t, l = x :: t ∧ K x t = some r := by
  cases l with
  | nil => exact .inl ⟨rfl, h⟩
  | cons x t => exact .inr ⟨x, t, rfl, h⟩
theorem pK_some {v : AVal} {K : PVal → Option α} (h : pK v K = some r) : ∃ x, v = .p x ∧ K x = some r := by
  unfold pK at h
  split at h <;> try (simp at h; done)
  exact ⟨_, rfl, h⟩
theorem nownK_some {v : AVal} {A : Option α} {K : Nat → List PVal → Option α} (h : nownK v A K = some r) : (v = .p .nils ∧ A = some r) ∨ ∃ sz xs, v = .own sz xs ∧ K sz xs = some r := by
  unfold nownK at h
  split at h <;> try (simp at h; done)
  · exact .inl ⟨rfl, h⟩
  · exact .inr ⟨_, _, rfl, h⟩
theorem nclK_some {v : AVal} {A : Option α} {K : List PVal → Option α} (h : nclK v A K = some r) : (v = .p .nils ∧ A = some r) ∨ ∃ xs, v = .cl xs ∧ K xs = some r := by
  unfold nclK at h
  split at h <;> try (simp at h; done)
  · exact .inl ⟨rfl, h⟩
  · exact .inr ⟨_, rfl, h⟩
theorem ifK_some {x : PVal} {K : Nat → PVal → Option α} (h : ifK x K = some r) : ∃ t v, x = .iface t v ∧ K t v = some r := by
  unfold ifK at h
  split at h <;> try (simp at h; done)
  exact ⟨_, _, rfl, h⟩
theorem natK_some {z : Int} {K : Nat → Option α} (h : natK z K = some r) : ∃ n, z = .ofNat n ∧ K n = some r := by
  cases z <;> simp [natK] at h
  exact ⟨_, rfl, h⟩
theorem intK_some {k : IntKind} {x : PVal} {K : Int → Option α} (h : intK k x K = some r) : ∃ z, x = .int k z ∧ K z = some r := by
  unfold intK at h
  split at h <;> try (simp at h; done)
  split at h <;> try (simp at h; done)
  rename_i hk
  rw [kNum_eq hk]
  exact ⟨_, rfl, h⟩
theorem boolK_some {x : PVal} {K : Bool → Option α} (h : boolK x K = some r) : ∃ z, x = .bool z ∧ K z = some r := by
  unfold boolK at h
  split at h <;> try (simp at h; done)
  exact ⟨_, rfl, h⟩
theorem strK_some {x : PVal} {K : List Nat → Option α} (h : strK x K = some r) : ∃ z, x = .str z ∧ K z = some r := by
  unfold strK at h
  split at h <;> try (simp at h; done)
  exact ⟨_, rfl, h⟩
theorem aggK_some {x : PVal} {K : List PVal → Option α} (h : aggK x K = some r) : ∃ z, x = .agg z ∧ K z = some r := by
  unfold aggK at h
  split at h <;> try (simp at h; done)
  exact ⟨_, rfl, h⟩
theorem tupK_some {x : PVal} {K : List PVal → Option α} (h : tupK x K = some r) : ∃ z, x = .tup z ∧ K z = some r := by
  unfold tupK at h
  split at h <;> try (simp at h; done)
  exact ⟨_, rfl, h⟩
theorem slK_some {x : PVal} {K : List PVal → Option α} (h : slK x K = some r) : (x = .nils ∧ K [] = some r) ∨ ∃ z, x = .sl z ∧ K z = some r := by
  unfold slK at h
  split at h <;> try (simp at h; done)
  · exact .inl ⟨rfl, h⟩
  · exact .inr ⟨_, rfl, h⟩
theorem ipK_some {x : PVal} {K : PVal → Option α} (h : ipK x K = some r) : ∃ v, x = .ip v ∧ K v = some r := by
  unfold ipK at h
  split at h <;> try (simp at h; done)
  exact ⟨_, rfl, h⟩
theorem fnK_some {x : PVal} {K : Nat → List PVal → Option α} (h : fnK x K = some r) : ∃ f c, x = .fn (.func f) c ∧ K f c = some r := by
  unfold fnK at h
  split at h <;> try (simp at h; done)
  exact ⟨_, _, rfl, h⟩
theorem nthK_some {β : Type} {l : List β} {n : Nat} {K : β → Option α} (h : nthK l n K = some r) : ∃ x, nth l n = some x ∧ K x = some r := by
  unfold nthK at h
  split at h <;> try (simp at h; done)
  exact ⟨_, by assumption, h⟩
theorem consK_some {l : List PVal} {K : PVal → List PVal → Option α} (h : consK l K = some r) : ∃ x t, l = x :: t ∧ K x t = some r := by
  cases l <;> simp [consK] at h
  exact ⟨_, _, rfl, h⟩
theorem endK_some {l : List PVal} {x : Option α} (h : endK l x = some r) : l = [] ∧ x = some r := by
  cases l <;> simp [endK] at h
  exact ⟨rfl, h⟩
theorem ixK_some {v : AVal} {K : Nat → Option α} (h : ixK v K = some r) : ∃ n, natOf v = some n ∧ K n = some r := by
  unfold ixK at h
  split at h <;> try (simp at h; done)
  obtain ⟨n, rfl, h⟩ := natK_some h
  exact ⟨n, rfl, h⟩
theorem opdK_some {tm : Tr AVal} {o : Operand} {K : AVal → Option α} (h : opdK tm o K = some r) : ∃ v, operand tm o = some v ∧ K v = some r := by
  unfold opdK at h
  split at h <;> try (simp at h; done)
  exact ⟨_, by assumption, h⟩
theorem typeK_some {P : Program} {t : Nat} {K : Bool → Nat → Option α} (h : typeK P t K = some r) : ∃ g n, aggT P t = some g ∧ szT P t = some n ∧ K g n = some r := by
  unfold typeK at h
  split at h <;> try (simp at h; done)
  exact ⟨_, _, by assumption, by assumption, h⟩
theorem Cs.view_some {c : Cs} {x : PVal} {K : PVal → Option α} (h : c.view x K = some r) : K x = some r := by
  cases c with
  | int k => obtain ⟨z, rfl, h1⟩ := intK_some (show intK k x _ = some r from h); exact h1
  | bool => obtain ⟨z, rfl, h1⟩ := boolK_some (show boolK x _ = some r from h); exact h1
  | str => obtain ⟨z, rfl, h1⟩ := strK_some (show strK x _ = some r from h); exact h1
  | opq => exact h
theorem viewCells_some : ∀ {l : List Cs} {xs : List PVal} {K : List PVal → Option α}, viewCells l xs K = some r → K xs = some r
  | [], xs, K, h => by
    obtain ⟨rfl, h⟩ := endK_some (show endK xs (K []) = some r from h)
    exact h
  | c :: l, xs, K, h => by
    obtain ⟨x, t, rfl, h1⟩ := consK_some (show consK xs _ = some r from h)
    exact viewCells_some (l := l) (K := fun r' => K (x :: r')) (Cs.view_some h1)
theorem Sh.view_some {s : Sh} {x : PVal} {K : PVal → Option α} (h : s.view x K = some r) : K x = some r := by
  cases s with
  | one c => exact Cs.view_some h
  | agg l =>
    obtain ⟨cs, rfl, h⟩ := aggK_some (show aggK x _ = some r from h)
    exact viewCells_some h
theorem viewA_some {s : Sh} {v : AVal} {K : AVal → Option α} (h : viewA s v K = some r) : K v = some r := by
  unfold viewA at h
  split at h
  · exact Sh.view_some h
  · exact h
theorem viewsP_some : ∀ {l : List Sh} {xs : List PVal} {K : List PVal → Option α}, viewsP l xs K = some r → K xs = some r
  | [], xs, K, h => by
    obtain ⟨rfl, h⟩ := endK_some (show endK xs (K []) = some r from h)
    exact h
  | c :: l, xs, K, h => by
    obtain ⟨x, t, rfl, h1⟩ := consK_some (show consK xs _ = some r from h)
    exact viewsP_some (l := l) (K := fun r' => K (x :: r')) (Sh.view_some (K := fun x' => viewsP l t fun r' => K (x' :: r')) h1)
theorem elemK_some {sz : Nat} {sh : Sh} {l : List PVal} {n : Nat} {K : PVal → Option α} (h : elemK sz sh l n K = some r) : ∃ x, nth l n = some x ∧ Nat.beq (cellsP x).length sz = true ∧ K x = some r := by
  obtain ⟨x, h1, h⟩ := nthK_some h
  obtain ⟨h2, h⟩ := chk_some (Sh.view_some h)
  exact ⟨x, h1, h2, h⟩
theorem partK_some {g : Bool} {cs : List PVal} {off n : Nat} {K : PVal → Option α} (h : partK g cs off n K = some r) : ∃ x, partP g cs off n = some x ∧ K x = some r := by
  cases g with
  | true =>
    obtain ⟨h1, h⟩ := chk_some (show chk _ _ = some r from h)
    exact ⟨_, by simp [partP, h1], h⟩
  | false =>
    obtain ⟨x, h1, h⟩ := nthK_some (show nthK cs off K = some r from h)
    exact ⟨x, h1, h⟩
theorem partAK_some {g : Bool} {cs : List AVal} {off n : Nat} {K : AVal → Option α} (h : partAK g cs off n K = some r) : ∃ x, part g cs off n = some x ∧ K x = some r := by
  cases g with
  | true =>
    obtain ⟨h1, h⟩ := chk_some (show chk _ _ = some r from h)
    exact ⟨_, by simp [part, h1], h⟩
  | false =>
    obtain ⟨x, h1, h⟩ := nthK_some (show nthK cs off K = some r from h)
    exact ⟨x, h1, h⟩
end
theorem Tr.find_mapv {α β : Type} (f : α → β) : ∀ (p : List Bool) (t : Tr α), (t.mapv f).find p = (t.find p).map f
  | [], .lf => rfl
  | _ :: _, .lf => rfl
  | [], .nd v l r => by cases v <;> rfl
  | true :: p, .nd v l r => Tr.find_mapv f p l
  | false :: p, .nd v l r => Tr.find_mapv f p r
theorem XSt.to_get (σ : XSt) (id : Nat) : σ.to.get id = (σ.get id).map XObj.to := Tr.find_mapv _ _ _
theorem XSt.get_set (σ : XSt) (m n : Nat) (o : XObj) : (σ.set m o).get n = if m = n then some o else σ.get n := Tr.get_set _ _ _ _
theorem Tr.find_cut {α : Type} : ∀ (p q : List Bool) (t : Tr α), (t.cut p).find q = if p = q then none else t.find q := by
  intro p
  induction p with
  | nil =>
    intro q t
    cases t with
    | lf => cases q <;> simp [Tr.cut, Tr.find]
    | nd v l r => cases q with
      | nil => simp [Tr.cut, Tr.find]
      | cons b q => cases b <;> simp [Tr.cut, Tr.find]
  | cons a p ih =>
    intro q t
    cases t with
    | lf => cases q <;> simp [Tr.cut, Tr.find]
    | nd v l r => cases q with
      | nil => cases a <;> simp [Tr.cut, Tr.find]
      | cons b q => cases a <;> cases b <;> simp [Tr.cut, Tr.find, ih]
theorem XSt.forget_get : ∀ (ids : List Nat) (σ : XSt) (id : Nat) (o : XObj), (σ.forget ids).get id = some o → σ.get id = some o ∧ id ∉ ids
  | [], σ, id, o, h => ⟨h, by simp⟩
  | i :: ids, σ, id, o, h => by
    obtain ⟨h1, h2⟩ := XSt.forget_get ids _ id o h
    have h3 : (σ.objs.cut (path i)).find (path id) = some o := h1
    rw [Tr.find_cut] at h3
    split at h3
    · simp at h3
    · rename_i hne
      exact ⟨h3, by simp only [List.mem_cons, not_or]; exact ⟨fun e => hne (by rw [e]), h2⟩⟩
structure SE (s : St) (σ : XSt) (b : Nat) : Prop where
  get : ∀ id o, σ.get id = some o → s.get id = some o.to
  free : ∀ id, b ≤ id → s.get id = none
theorem SE.lt {s : St} {σ : XSt} {b : Nat} (h : SE s σ b) {id : Nat} {o : XObj} (ho : σ.get id = some o) : id < b := by
  rcases Nat.lt_or_ge id b with h1 | h1
  · exact h1
  · have := h.get id o ho
    rw [h.free id h1] at this
    simp at this
theorem SE.same {s s' : St} {σ : XSt} {b b' : Nat} (h : SE s σ b) (hs : s'.get = s.get) (hb : b ≤ b') : SE s' σ b' :=
  ⟨fun id o ho => by rw [hs]; exact h.get id o ho, fun id hi => by rw [hs]; exact h.free id (Nat.le_trans hb hi)⟩
theorem SE.set {s s' : St} {σ : XSt} {b b' id : Nat} {o : XObj} (h : SE s σ b) (hs : s'.get = upds s.get [(id, o.to)]) (hb : b ≤ b') (hid : id < b') : SE s' (σ.set id o) b' := by
  have e : ∀ i, s'.get i = if i = id then some o.to else s.get i := fun i => by rw [hs]; rfl
  refine ⟨fun i x hx => ?_, fun i hi => ?_⟩
  · rw [XSt.get_set] at hx
    rw [e]
    by_cases hii : id = i
    · rw [if_pos hii] at hx
      simp at hx
      subst hx
      rw [if_pos hii.symm]
    · rw [if_neg hii] at hx
      rw [if_neg (fun e => hii e.symm)]
      exact h.get i x hx
  · rw [e, if_neg (by omega)]
    exact h.free i (Nat.le_trans hb hi)
theorem SE.at {s : St} {σ : XSt} {b : Nat} (h : SE s σ b) : s.get b = none := h.free b (Nat.le_refl _)
theorem seen_same {s : St} {σ : XSt} {b : Nat} (h : SE s σ b) : ∀ {l : List Nat}, seen σ b l = true → ∀ id ∈ l, s.get id = σ.to.get id
  | [], _, _, hid => by cases hid
  | i :: l, hs, id, hid => by
    simp only [seen] at hs
    split at hs <;> try (simp at hs; done)
    rename_i hb
    rcases List.mem_cons.1 hid with rfl | hid
    · rw [XSt.to_get]
      split at hb
      · rename_i o ho
        rw [ho, h.get _ _ ho]; rfl
      · rename_i ho
        rw [ho, Nat.eq_of_beq_eq_true hb, h.at]; rfl
    · exact seen_same h hs id hid
theorem sets_ok : ∀ {wr : List (Nat × Obj)} {s s' : St} {σ σ' : XSt} {b b' : Nat}, SE s σ b → σ.sets wr = some σ' → s'.get = upds s.get wr → b ≤ b' → (∀ q ∈ wr, q.1 < b') → SE s' σ' b'
  | [], s, s', σ, σ', b, b', h, hw, hs, hb, _ => by
    simp [XSt.sets] at hw
    subst hw
    exact h.same hs hb
  | (id, o) :: wr, s, s', σ, σ', b, b', h, hw, hs, hb, hl => by
    cases o with
    | box cs =>
      simp only [XSt.sets] at hw
      have h1 : SE (s.did [] [(id, .box cs)]) (σ.set id (.box cs)) b' := h.set (o := .box cs) (did_get _ _ _) hb (hl (id, .box cs) (by simp))
      exact sets_ok h1 hw (by rw [hs, did_get]; rfl) (Nat.le_refl _) (fun q hq => hl q (by simp [hq]))
    | arr => simp [XSt.sets] at hw
    | ho => simp [XSt.sets] at hw
end Go.Proofs.YtlcbgidfdkbfcaaGreatDoor.Sw
namespace Go.Proofs.YtlcbgidfdkbfcaaGreatDoor.Sw
section
variable {α : Type} {r : α} {P : Program} {shs : Nat → Sh} {s : St} {σ : XSt} {b : Nat}
def OpIs (P : Program) (tm : Tr AVal) (s : St) (b : Nat) (op : Op) (v : AVal) (σ' : XSt) (rd wr : List Nat) : Prop :=
  ∃ e : Eff, plainOp P tm s b op = some e ∧ e.v = v ∧ e.rd = rd ∧ e.wr.map (·.1) = wr ∧ SE (s.did e.rd e.wr) σ' (b + 16)
theorem OpIs.read {tm : Tr AVal} {op : Op} {v : AVal} {rd : List Nat} (hs : SE s σ b) (h : plainOp P tm s b op = some ⟨v, rd, []⟩) : OpIs P tm s b op v σ rd [] :=
  ⟨_, h, rfl, rfl, rfl, hs.same (did_get _ _ _) (by omega)⟩
theorem OpIs.set {tm : Tr AVal} {op : Op} {v : AVal} {rd : List Nat} {id : Nat} {o : XObj} (hs : SE s σ b) (hid : id ≤ b) (h : plainOp P tm s b op = some ⟨v, rd, [(id, o.to)]⟩) : OpIs P tm s b op v (σ.set id o) rd [id] :=
  ⟨_, h, rfl, rfl, rfl, hs.set (did_get _ _ _) (by omega) (by omega)⟩
theorem unP_map : ∀ (l : List PVal), unP (l.map .p) = some l
  | [] => rfl
  | x :: l => by simp [unP, unP_map l]
theorem mkAgg_map (l : List PVal) : mkAgg (l.map .p) = .p (.agg l) := by simp [mkAgg, unP_map]
theorem nth_map {β γ : Type} (f : β → γ) : ∀ (l : List β) (n : Nat), nth (l.map f) n = (nth l n).map f
  | [], _ => rfl
  | _ :: _, 0 => rfl
  | _ :: l, n + 1 => nth_map f l n
theorem part_map {g : Bool} {cs : List PVal} {off n : Nat} {y : PVal} (h : partP g cs off n = some y) : part g (cs.map .p) off n = some (.p y) := by
  cases g with
  | true =>
    simp only [partP] at h
    split at h <;> simp at h
    rename_i hb
    subst h
    simp only [part, List.length_map, hb]
    rw [← List.map_drop, ← List.map_take, mkAgg_map]
  | false =>
    have h : nth cs off = some y := h
    show nth (cs.map AVal.p) off = _
    rw [nth_map, h]; rfl
theorem lenK_ok {t : Nat} {v : AVal} {K : AVal → Option α} (h : lenK P t v K = some r) : ∃ z, lenOp P t v = some z ∧ K z = some r := by
  unfold lenK at h
  unfold lenOp
  split at h
  · rename_i hu
    simp only [hu]
    split at h <;> try (simp at h; done)
    obtain ⟨l, rfl, h⟩ := strK_some h
    exact ⟨_, rfl, h⟩
  · rename_i hu
    simp only [hu]
    split at h <;> try (simp at h; done)
    · rcases slK_some h with ⟨rfl, h⟩ | ⟨l, rfl, h⟩
      · exact ⟨_, rfl, h⟩
      · exact ⟨_, rfl, h⟩
    · exact ⟨_, rfl, h⟩
    · exact ⟨_, rfl, h⟩
  · rename_i hu
    simp only [hu]
    exact ⟨_, rfl, h⟩
  · simp at h
theorem indexAddrK_ok (hs : SE s σ b) {t : Nat} {v i : AVal} {K : Nx α} (h : indexAddrK P shs σ t v i K = some r) : ∃ z rd, indexAddrOp P s t v i = some ⟨z, rd, []⟩ ∧ K z σ rd [] = some r := by
  unfold indexAddrK at h
  unfold indexAddrOp
  split at h
  · rename_i el hu
    split at h <;> try (simp at h; done)
    rename_i sz hsz
    split at h <;> try (simp at h; done)
    · rcases slK_some h with ⟨rfl, h⟩ | ⟨l, rfl, h⟩
      · obtain ⟨n, hn, h⟩ := ixK_some h
        obtain ⟨x, h1, _⟩ := elemK_some h
        simp [nth] at h1
      · obtain ⟨n, hn, h⟩ := ixK_some h
        obtain ⟨x, h1, h2, h⟩ := elemK_some h
        exact ⟨_, _, by simp only [hn, hu, hsz, h1, h2] <;> rfl, h⟩
    · obtain ⟨n, hn, h⟩ := ixK_some h
      obtain ⟨x, h1, h2, h⟩ := elemK_some h
      exact ⟨_, _, by simp only [hn, hu, hsz, h1, h2] <;> rfl, h⟩
    · split at h <;> try (simp at h; done)
      rename_i id ep off len c sz' xs cur lost fz ho
      obtain ⟨n, hn, h⟩ := ixK_some h
      obtain ⟨h1, h⟩ := chk_some h
      obtain ⟨h2, h⟩ := chk_some h
      obtain ⟨h3, h⟩ := chk_some h
      exact ⟨_, _, by simp only [hn, hu, hsz, hs.get _ _ ho, XObj.to, h1, h2, h3] <;> rfl, h⟩
  · rename_i ln el hu
    split at h <;> try (simp at h; done)
    rename_i sz hsz
    split at h <;> try (simp at h; done)
    · obtain ⟨n, hn, h⟩ := ixK_some h
      obtain ⟨h1, h⟩ := chk_some h
      exact ⟨_, _, by simp only [hn, hu, hsz, h1] <;> rfl, h⟩
    · obtain ⟨n, hn, h⟩ := ixK_some h
      obtain ⟨h1, h⟩ := chk_some h
      exact ⟨_, _, by simp only [hn, hu, hsz, h1] <;> rfl, h⟩
    · obtain ⟨x, rfl, h0⟩ := ipK_some h
      clear h
      split at h0 <;> try (simp at h0; done)
      · rename_i hg
        obtain ⟨cs, rfl, h⟩ := aggK_some h0
        obtain ⟨n, hn, h⟩ := ixK_some h
        obtain ⟨h1, h⟩ := chk_some h
        obtain ⟨y, h2, h⟩ := nthK_some h
        exact ⟨_, _, by simp only [hn, hu, hsz, h1, hg, partP, h2] <;> rfl, Sh.view_some h⟩
      · rename_i hg
        obtain ⟨cs, rfl, h⟩ := aggK_some h0
        obtain ⟨n, hn, h⟩ := ixK_some h
        obtain ⟨h1, h⟩ := chk_some h
        obtain ⟨h2, h⟩ := chk_some h
        exact ⟨_, _, by simp only [hn, hu, hsz, h1, hg, partP, h2] <;> rfl, Sh.view_some h⟩
  · simp at h
theorem loadK_ok (hs : SE s σ b) {t : Nat} {v : AVal} {K : Nx α} (h : loadK P shs σ t v K = some r) : ∃ z rd, loadOp P s t v = some ⟨z, rd, []⟩ ∧ K z σ rd [] = some r := by
  unfold loadK at h
  obtain ⟨g, n, hg, hn, h1⟩ := typeK_some h
  clear h
  have h := h1
  clear h1
  unfold loadOp
  simp only [hg, hn]
  split at h <;> try (simp at h; done)
  · obtain ⟨x, rfl, h⟩ := ipK_some h
    cases g with
    | true =>
      simp only at h ⊢
      obtain ⟨cs, rfl, h⟩ := aggK_some h
      obtain ⟨h1, h⟩ := chk_some h
      exact ⟨_, _, by simp only [h1] <;> rfl, Sh.view_some h⟩
    | false =>
      simp only at h ⊢
      obtain ⟨h1, h⟩ := chk_some h
      refine ⟨_, [], ?_, Sh.view_some h⟩
      cases x <;> first | rfl | (simp [isAggP] at h1)
  · rename_i id off
    split at h <;> try (simp at h; done)
    · rename_i cs ho
      obtain ⟨y, h1, h⟩ := partAK_some h
      exact ⟨_, _, by simp only [at_, hs.get _ _ ho, XObj.to, h1] <;> rfl, viewA_some h⟩
    · rename_i cs ho
      obtain ⟨y, h1, h⟩ := partK_some h
      exact ⟨_, _, by simp only [at_, hs.get _ _ ho, XObj.to, part_map h1] <;> rfl, Sh.view_some h⟩
  · rename_i id ep i off
    split at h <;> try (simp at h; done)
    rename_i sz xs cur lost fz ho
    obtain ⟨h1, h⟩ := chk_some h
    obtain ⟨y, h2, h⟩ := nthK_some h
    have hat : at_ s (.el id ep i off) = some (cells (.p y), off, [id]) := by
      simp only [at_, hs.get _ _ ho, XObj.to, h1, nth_map, h2, Option.map_some]
    rw [hat]
    cases g with
    | true =>
      simp only at h ⊢
      obtain ⟨cs, rfl, h4⟩ := aggK_some h
      obtain ⟨z, h3, h⟩ := partK_some h4
      exact ⟨_, _, by simp only [cells, part_map h3] <;> rfl, Sh.view_some h⟩
    | false =>
      simp only at h ⊢
      rcases ifB_some h with ⟨hone, h⟩ | ⟨_, h⟩
      · obtain ⟨h3, h⟩ := chk_some h
        have h3 := Nat.eq_of_beq_eq_true h3
        subst h3
        have hc : cells (.p y) = [.p y] := by cases y <;> first | rfl | simp [oneP] at hone
        exact ⟨_, _, by rw [hc] <;> rfl, Sh.view_some h⟩
      · obtain ⟨cs, rfl, h4⟩ := aggK_some h
        obtain ⟨z, h3, h⟩ := nthK_some h4
        exact ⟨_, _, by simp only [cells, part_map (g := false) (n := n) (show partP false cs off n = some z from h3)] <;> rfl, Sh.view_some h⟩
end
end Go.Proofs.YtlcbgidfdkbfcaaGreatDoor.Sw
namespace Go.Proofs.YtlcbgidfdkbfcaaGreatDoor.Sw
section
variable {α : Type} {r : α} {P : Program} {shs : Nat → Sh} {s : St} {σ : XSt} {b : Nat}
theorem fieldK_ok {t f : Nat} {v : AVal} {K : AVal → Option α} (h : fieldK P shs t f v K = some r) : ∃ z, fieldOp P t f v = some z ∧ K z = some r := by
  unfold fieldK at h
  unfold fieldOp
  split at h <;> try (simp at h; done)
  rename_i fd hf
  obtain ⟨g, n, hg, hn, h1⟩ := typeK_some h
  split at h1 <;> try (simp at h1; done)
  · obtain ⟨cs, rfl, h2⟩ := aggK_some h1
    obtain ⟨y, h3, h4⟩ := partK_some h2
    exact ⟨_, by simp only [hf, hg, hn, partV, h3] <;> rfl, Sh.view_some h4⟩
  · obtain ⟨y, h3, h4⟩ := partAK_some h1
    exact ⟨_, by simp only [hf, hg, hn, partV, h3], h4⟩
theorem fieldAddrK_ok {t f : Nat} {v : AVal} {K : AVal → Option α} (h : fieldAddrK P shs t f v K = some r) : ∃ z, fieldAddrOp P t f v = some z ∧ K z = some r := by
  unfold fieldAddrK at h
  unfold fieldAddrOp
  split at h <;> try (simp at h; done)
  rename_i fd hf
  obtain ⟨g, n, hg, hn, h1⟩ := typeK_some h
  split at h1 <;> try (simp at h1; done)
  rename_i hne
  simp only [hf, hg, hn]
  split at h1 <;> try (simp at h1; done)
  · exact ⟨_, rfl, h1⟩
  · exact ⟨_, rfl, h1⟩
  · obtain ⟨x, rfl, h1⟩ := ipK_some h1
    obtain ⟨cs, rfl, h2⟩ := aggK_some h1
    obtain ⟨y, h3, h4⟩ := partK_some h2
    exact ⟨_, by simp only [h3] <;> rfl, Sh.view_some h4⟩
theorem indexK_ok {t : Nat} {v i : AVal} {K : AVal → Option α} (h : indexK P shs t v i K = some r) : ∃ z, indexOp P t v i = some z ∧ K z = some r := by
  unfold indexK at h
  unfold indexOp
  split at h
  · rename_i hu
    split at h <;> try (simp at h; done)
    obtain ⟨bs, rfl, h1⟩ := strK_some h
    obtain ⟨n, hn, h2⟩ := ixK_some h1
    obtain ⟨c, h3, h4⟩ := nthK_some h2
    exact ⟨_, by simp only [hn, hu, h3] <;> rfl, h4⟩
  · rename_i ln e hu
    obtain ⟨g, n, hg, hn, h1⟩ := typeK_some h
    split at h1 <;> try (simp at h1; done)
    obtain ⟨cs, rfl, h2⟩ := aggK_some h1
    obtain ⟨k, hk, h3⟩ := ixK_some h2
    obtain ⟨h4, h5⟩ := chk_some h3
    obtain ⟨y, h6, h7⟩ := partK_some h5
    exact ⟨_, by simp only [hk, hu, hg, hn, h4, partV, h6] <;> rfl, Sh.view_some h7⟩
  · simp at h
theorem boundK_some {x : Option AVal} {d : Nat} {K : Nat → Option α} (h : boundK x d K = some r) : ∃ n, bound x d = some n ∧ K n = some r := by
  unfold boundK at h
  split at h
  · exact ⟨_, rfl, h⟩
  · obtain ⟨n, hn, h⟩ := ixK_some h
    exact ⟨n, hn, h⟩
theorem cutK_some {lo hi : Option AVal} {len : Nat} {K : Nat → Nat → Option α} (h : cutK lo hi len K = some r) : ∃ l h', cut lo hi none len = some (l, h', false) ∧ K l h' = some r := by
  unfold cutK at h
  obtain ⟨l, h1, h⟩ := boundK_some h
  obtain ⟨h', h2, h⟩ := boundK_some h
  obtain ⟨h3, h⟩ := chk_some h
  obtain ⟨h4, h⟩ := chk_some h
  exact ⟨l, h', by simp only [cut, h1, h2, h3, h4], h⟩
theorem nslK_some {x : PVal} {A : Option α} {K : List PVal → Option α} (h : nslK x A K = some r) : (x = .nils ∧ A = some r) ∨ ∃ l, x = .sl l ∧ K l = some r := by
  unfold nslK at h
  split at h <;> try (simp at h; done)
  · exact .inl ⟨rfl, h⟩
  · exact .inr ⟨_, rfl, h⟩
theorem cutK3_some {lo : Option AVal} {h0 m : AVal} {len : Nat} {K : Nat → Nat → Option α} (h : (cutK lo (some h0) len fun l h => ixK m fun m => chk (Nat.beq m h) (K l h)) = some r) :
    ∃ l h', cut lo (some h0) (some m) len = some (l, h', true) ∧ K l h' = some r := by
  unfold cutK at h
  obtain ⟨l, h1, h⟩ := boundK_some h
  obtain ⟨h', h2, h⟩ := boundK_some h
  obtain ⟨h3, h⟩ := chk_some h
  obtain ⟨h4, h⟩ := chk_some h
  obtain ⟨m', h5, h⟩ := ixK_some h
  obtain ⟨h6, h⟩ := chk_some h
  exact ⟨l, h', by simp only [cut, h1, h2, h3, h4, h5, h6], h⟩
theorem sliceK_ok (hs : SE s σ b) {t : Nat} {v : AVal} {lo hi mx : Option AVal} {K : Nx α} (h : sliceK P σ t v lo hi mx K = some r) : ∃ z rd, sliceOp P s t v lo hi mx = some ⟨z, rd, []⟩ ∧ K z σ rd [] = some r := by
  unfold sliceK at h
  unfold sliceOp
  split at h
  · rename_i m
    split at h <;> try (simp at h; done)
    rename_i e x h0 hu
    split at h <;> try (simp at h; done)
    rename_i sz hsz
    rcases nslK_some h with ⟨rfl, h1⟩ | ⟨xs, rfl, h1⟩
    · obtain ⟨l, h', h2, h3⟩ := cutK3_some h1
      exact ⟨_, _, by simp only [hu, hsz, h2] <;> rfl, h3⟩
    · obtain ⟨l, h', h2, h3⟩ := cutK3_some h1
      obtain ⟨h4, h5⟩ := chk_some h3
      exact ⟨_, _, by simp only [hu, hsz, h2, h4] <;> rfl, h5⟩
  split at h <;> try (simp at h; done)
  · rename_i x hu
    obtain ⟨bs, rfl, h1⟩ := strK_some h
    obtain ⟨l, h', h2, h3⟩ := cutK_some h1
    exact ⟨_, _, by simp only [hu, h2] <;> rfl, h3⟩
  · rename_i e x hu
    split at h <;> try (simp at h; done)
    rename_i sz hsz
    rcases slK_some h with ⟨rfl, h1⟩ | ⟨xs, rfl, h1⟩
    · obtain ⟨l, h', h2, h3⟩ := cutK_some h1
      obtain ⟨_, h5⟩ := chk_some h3
      have h2' : cut lo hi none 0 = some (l, h', false) := h2
      exact ⟨_, _, by simp only [hu, hsz, h2'] <;> rfl, h5⟩
    · obtain ⟨l, h', h2, h3⟩ := cutK_some h1
      obtain ⟨h4, h5⟩ := chk_some h3
      exact ⟨_, _, by simp only [hu, hsz, h2, h4] <;> rfl, h5⟩
  · rename_i e xs hu
    split at h <;> try (simp at h; done)
    rename_i sz hsz
    obtain ⟨l, h', h2, h3⟩ := cutK_some h
    obtain ⟨h4, h5⟩ := chk_some h3
    exact ⟨_, _, by simp only [hu, hsz, h2, h4] <;> rfl, h5⟩
  · rename_i e id ep off len c hu
    split at h <;> try (simp at h; done)
    rename_i sz sz' xs cur lost fz hsz ho
    obtain ⟨l, h', h2, h3⟩ := cutK_some h
    obtain ⟨h4, h5⟩ := chk_some h3
    have hg := hs.get _ _ ho
    rcases ifB_some h5 with ⟨hlh, h5⟩ | ⟨hlh, h5⟩
    · cases c with
      | true =>
        simp only at h5
        refine ⟨_, _, ?_, h5⟩
        simp only [hu, hsz, h2, hg, XObj.to, h4, hlh]
      | false =>
        simp only at h5
        rcases ifB_some h5 with ⟨h0, h5⟩ | ⟨h0, h5⟩
        · refine ⟨_, _, ?_, h5⟩
          have := Nat.eq_of_beq_eq_true h0
          subst this
          simp only [hu, hsz, h2, hg, XObj.to, h4, hlh]
        · refine ⟨_, _, ?_, h5⟩
          simp only [hu, hsz, h2, hg, XObj.to, h4, hlh]
          cases l with
          | zero => simp at h0
          | succ l => rfl
    · cases c with
      | true =>
        obtain ⟨h6, h5⟩ := chk_some (show chk _ _ = some r from h5)
        refine ⟨_, _, ?_, h5⟩
        simp only [hu, hsz, h2, hg, XObj.to, h4, hlh, h6]
        rfl
      | false =>
        simp only at h5
        refine ⟨_, _, ?_, h5⟩
        simp only [hu, hsz, h2, hg, XObj.to, h4, hlh]
        rfl
theorem oneP_cells {n : Nat} {x : PVal} (h : oneP x = true) (hn : Nat.beq n 1 = true) : cellsAs false n (.p x) = some [.p x] := by
  cases x <;> first | (simp [oneP] at h; done) | simp [cellsAs, hn]
theorem objK_ok {g : Bool} {n : Nat} {sh : Sh} {v : AVal} {K : XObj → Option α} (h : objK g n sh v K = some r) : ∃ cs o, cellsAs g n v = some cs ∧ o.to = .box cs ∧ cs.length = n ∧ K o = some r := by
  unfold objK at h
  cases g with
  | false =>
    simp only at h
    split at h <;> try (simp at h; done)
    · obtain ⟨h1, h⟩ := chk_some h
      obtain ⟨h2, h⟩ := chk_some h
      exact ⟨_, _, oneP_cells h1 h2, rfl, by simp [Nat.eq_of_beq_eq_true h2], h⟩
    · rename_i h1 h2 h3 h4 h5 h6
      obtain ⟨h7, h⟩ := chk_some h
      refine ⟨_, _, ?_, rfl, by simp [Nat.eq_of_beq_eq_true h7], h⟩
      cases v with
      | p x => exact absurd rfl (h1 x)
      | agg cs => exact absurd rfl (h2 cs)
      | tup cs => exact absurd rfl (h3 cs)
      | own a c => exact absurd rfl (h4 a c)
      | ownm a => exact absurd rfl (h5 a)
      | junk => exact absurd rfl h6
      | _ => simp [cellsAs, h7]
  | true =>
    simp only at h
    split at h <;> try (simp at h; done)
    · split at h
      · obtain ⟨cs, rfl, h1⟩ := aggK_some h
        obtain ⟨h2, h3⟩ := chk_some (viewCells_some h1)
        exact ⟨_, _, by simp only [cellsAs, h2], rfl, by simp [Nat.eq_of_beq_eq_true h2], h3⟩
      · obtain ⟨cs, rfl, h1⟩ := aggK_some h
        obtain ⟨h2, h3⟩ := chk_some h1
        exact ⟨_, .pbox cs, by simp only [cellsAs, h2], rfl, by simp [Nat.eq_of_beq_eq_true h2], h3⟩
    · obtain ⟨h2, h3⟩ := chk_some h
      exact ⟨_, _, by simp only [cellsAs, h2], rfl, Nat.eq_of_beq_eq_true h2, h3⟩
theorem freeK_some {x : Option α} (h : freeK σ b x = some r) : σ.get b = none ∧ x = some r := by
  unfold freeK at h
  split at h <;> try (simp at h; done)
  exact ⟨by assumption, h⟩
theorem putCells_all {cs new : List PVal} (e : new.length = cs.length) : putCells (cs.map AVal.p) 0 (new.map .p) = some (new.map .p) := by
  have hb : Nat.ble (0 + (new.map AVal.p).length) (cs.map AVal.p).length = true := Nat.ble_eq_true_of_le (by simp [e])
  simp only [putCells, hb]
  simp [e]
theorem putCells_map {cs : List PVal} {off : Nat} {new : List PVal} (h : off + new.length ≤ cs.length) :
    putCells (cs.map .p) off (new.map .p) = some ((cs.take off ++ new ++ cs.drop (off + new.length)).map .p) := by
  have : Nat.ble (off + new.length) cs.length = true := Nat.ble_eq_true_of_le h
  simp [putCells, this, List.map_take, List.map_drop]
theorem storeK_ok {tm : Tr AVal} (hs : SE s σ b) {t : Nat} {x y : Operand} {a v : AVal} {K : Nx α} (hx : operand tm x = some a) (hy : operand tm y = some v) (h : storeK P shs σ t a v K = some r) :
    ∃ z σ' rd wr, OpIs P tm s b (.store t x y) z σ' rd wr ∧ K z σ' rd wr = some r := by
  unfold storeK at h
  obtain ⟨g, n, hg, hn, h1⟩ := typeK_some h
  clear h
  have key : ∀ {id : Nat} {o : XObj}, id < b → storeOp P s t a v = some ⟨.p (.tup []), [id], [(id, o.to)]⟩ → OpIs P tm s b (.store t x y) (.p (.tup [])) (σ.set id o) [id] [id] := fun hid he =>
    OpIs.set hs (Nat.le_of_lt hid) (by simp only [plainOp, hx, hy]; exact he)
  split at h1 <;> try (simp at h1; done)
  · rename_i id off
    split at h1 <;> try (simp at h1; done)
    · rename_i cs ho
      obtain ⟨new, o, h2, h3, h4, h5⟩ := objK_ok h1
      split at h5 <;> try (simp at h5; done)
      · rename_i new'
        have h3 : Obj.box new' = .box new := h3
        simp only [Obj.box.injEq] at h3
        subst h3
        split at h5 <;> try (simp at h5; done)
        rename_i cs' h6
        exact ⟨_, _, _, _, key (o := .box cs') (hs.lt ho) (by simp only [storeOp, hg, hn, h2, hs.get _ _ ho, XObj.to, h6] <;> rfl), h5⟩
      · rename_i new'
        have h3 : Obj.box (new'.map .p) = .box new := h3
        simp only [Obj.box.injEq] at h3
        subst h3
        obtain ⟨h6, h7⟩ := chk_some h5
        obtain ⟨h8, h9⟩ := chk_some h7
        have h6 := Nat.eq_of_beq_eq_true h6
        have h8 := Nat.eq_of_beq_eq_true h8
        subst h6
        have hp : putCells cs 0 (new'.map .p) = some (new'.map .p) := by
          have e : new'.length = cs.length := by rw [List.length_map] at h4; omega
          have hb : Nat.ble (0 + (new'.map AVal.p).length) cs.length = true := Nat.ble_eq_true_of_le (by simp [e])
          simp only [putCells, hb]
          simp [e]
        exact ⟨_, _, _, _, key (o := .pbox new') (hs.lt ho) (by simp only [storeOp, hg, hn, h2, hs.get _ _ ho, XObj.to, hp] <;> rfl), h9⟩
    · rename_i cs ho
      unfold purK at h1
      split at h1 <;> try (simp at h1; done)
      cases g with
      | false =>
        obtain ⟨h2, h3⟩ := chk_some (show chk _ _ = some r from h1)
        obtain ⟨h4, h5⟩ := chk_some h3
        obtain ⟨h6, h7⟩ := chk_some h5
        rename_i y'
        have hlt : off < cs.length := by
          have : Nat.ble (off + 1) cs.length = true := h6
          exact Nat.le_of_ble_eq_true this
        have hp := putCells_map (cs := cs) (off := off) (new := [y']) (by simp; omega)
        have he : cs.take off ++ [y'] ++ cs.drop (off + [y'].length) = cs.set off y' := by
          rw [List.set_eq_take_append_cons_drop, if_pos hlt]
          simp
        rw [he] at hp
        exact ⟨_, _, _, _, key (o := .pbox (cs.set off y')) (hs.lt ho) (by simp only [storeOp, hg, hn, oneP_cells h2 h4, hs.get _ _ ho, XObj.to]; rw [show [AVal.p y'] = [y'].map .p from rfl, hp]; rfl), h7⟩
      | true =>
        obtain ⟨new, rfl, h2⟩ := aggK_some (show aggK _ _ = some r from h1)
        obtain ⟨h3, h4⟩ := chk_some h2
        obtain ⟨h5, h6⟩ := chk_some h4
        have e1 := Nat.eq_of_beq_eq_true h3
        have hp := putCells_map (cs := cs) (off := off) (new := new) (by rw [e1]; exact Nat.le_of_ble_eq_true h5)
        rw [e1] at hp
        exact ⟨_, _, _, _, key (o := .pbox (cs.take off ++ new ++ cs.drop (off + n))) (hs.lt ho) (by simp only [storeOp, hg, hn, cellsAs, h3, hs.get _ _ ho, XObj.to, hp] <;> rfl), h6⟩
  · rename_i id ep i
    split at h1 <;> try (simp at h1; done)
    rename_i sz xs cur lost fz ho
    obtain ⟨h2, h3⟩ := chk_some h1
    obtain ⟨h4, h5⟩ := chk_some h3
    obtain ⟨h6, h7⟩ := chk_some h5
    have e1 := Nat.eq_of_beq_eq_true h2
    subst e1
    have hlt : i < xs.length := by
      have : Nat.ble (i + 1) xs.length = true := h6
      exact Nat.le_of_ble_eq_true this
    unfold purK at h7
    split at h7 <;> try (simp at h7; done)
    rename_i y'
    have hsn : ∀ z : PVal, setNth (xs.map AVal.p) i (.p z) = some ((xs.set i z).map .p) := fun z => by
      rw [setNth_eq, if_pos (by simpa using hlt), List.map_set]
    cases g with
    | false =>
      obtain ⟨k2, k3⟩ := chk_some (show chk _ _ = some r from h7)
      obtain ⟨k4, k5⟩ := chk_some k3
      obtain ⟨z, k6, k7⟩ := nthK_some k5
      obtain ⟨k8, k9⟩ := chk_some k7
      have hc : cells (.p z) = [.p z] := by cases z <;> first | rfl | (simp [oneP] at k8; done)
      have hr : reform (.p z) [.p y'] = .p y' := by cases z <;> first | rfl | (simp [oneP] at k8; done)
      have hpc : putCells [AVal.p z] 0 [.p y'] = some [.p y'] := by simp [putCells]
      refine ⟨_, _, _, _, key (o := .arr sz (xs.set i y') ep ep fz) (hs.lt ho) ?_, k9⟩
      simp only [storeOp, hg, hn, oneP_cells k2 k4, hs.get _ _ ho, XObj.to, Nat.beq_refl, h4, nth_map, k6, Option.map_some, hc, hpc, hr, hsn, List.length_set]
    | true =>
      obtain ⟨new, rfl, k2⟩ := aggK_some (show aggK _ _ = some r from h7)
      obtain ⟨k3, k4⟩ := chk_some k2
      obtain ⟨z, k5, k6⟩ := nthK_some k4
      obtain ⟨cs, rfl, k7⟩ := aggK_some k6
      obtain ⟨k8, k9⟩ := chk_some k7
      have e1 := Nat.eq_of_beq_eq_true k3
      have e2 := Nat.eq_of_beq_eq_true k8
      have hpc : putCells (cs.map AVal.p) 0 (new.map .p) = some (new.map .p) := putCells_all (by omega)
      have hr : reform (.p (.agg cs)) (new.map .p) = .p (.agg new) := mkAgg_map new
      refine ⟨_, _, _, _, key (o := .arr sz (xs.set i (.agg new)) ep ep fz) (hs.lt ho) ?_, k9⟩
      simp only [storeOp, hg, hn, cellsAs, k3, hs.get _ _ ho, XObj.to, Nat.beq_refl, h4, nth_map, k5, Option.map_some, cells, hpc, hr, hsn, List.length_set]
end
end Go.Proofs.YtlcbgidfdkbfcaaGreatDoor.Sw
namespace Go.Proofs.YtlcbgidfdkbfcaaGreatDoor.Sw
section
variable {α : Type} {r : α} {P : Program} {shs : Nat → Sh} {s : St} {σ : XSt} {b : Nat}
theorem widths_ok {g : Bool} {sz : Nat} : ∀ {l : List PVal}, widths g sz l = true → allCells g sz (l.map .p) = true
  | [], _ => rfl
  | x :: l, h => by
    simp only [widths] at h
    split at h <;> try (simp at h; done)
    rename_i hx
    have ih := widths_ok h
    simp only [List.map_cons, allCells]
    cases g with
    | true =>
      simp only at hx
      split at hx <;> try (simp at hx; done)
      simp only [cellsAs, hx]
      exact ih
    | false =>
      simp only [Bool.and_eq_true] at hx
      rw [oneP_cells hx.1 (by rw [Nat.eq_of_beq_eq_true hx.2]; rfl)]
      exact ih
theorem viewed_ok (hs : SE s σ b) {id ep off len sz cur lost fz : Nat} {xs : List PVal} (ho : σ.get id = some (.arr sz xs cur lost fz)) (h1 : Nat.ble lost ep = true) (h2 : Nat.ble (off + len) xs.length = true) :
    viewed s id ep off len = some (((xs.drop off).take len).map .p) := by
  simp only [viewed, hs.get _ _ ho, XObj.to, h1, h2, List.map_take, List.map_drop]
theorem sourceK_some (hs : SE s σ b) {v : AVal} {K : List PVal → List Nat → Option α} (h : sourceK σ v K = some r) : ∃ ys rd, source s v = some (ys.map .p, rd) ∧ K ys rd = some r := by
  unfold sourceK at h
  split at h <;> try (simp at h; done)
  · rcases slK_some h with ⟨rfl, h1⟩ | ⟨l, rfl, h1⟩
    · exact ⟨_, _, rfl, h1⟩
    · exact ⟨_, _, rfl, h1⟩
  · exact ⟨_, _, rfl, h⟩
  · split at h <;> try (simp at h; done)
    rename_i ho
    obtain ⟨h1, h2⟩ := chk_some h
    obtain ⟨h3, h4⟩ := chk_some h2
    exact ⟨_, _, by simp only [source, viewed_ok hs ho h1 h3], h4⟩
theorem appendK_ok {tm : Tr AVal} (hs : SE s σ b) {t t2 : Nat} {x y : Operand} {v u : AVal} {ty : TypeId} {args : Array Operand} {ats : Array TypeId} {K : Nx α} (ha : args.toList = [x, y]) (ht : ats.toList = [t, t2])
    (hx : operand tm x = some v) (hy : operand tm y = some u) (hni : notInt P t2 = true) (h : appendK P σ b t v u K = some r) :
    ∃ z σ' rd wr, OpIs P tm s b (.call { callee := .builtin .append, args := args, argTypes := ats }) z σ' rd wr ∧ K z σ' rd wr = some r := by
  have _ := ty
  unfold appendK at h
  split at h <;> try (simp at h; done)
  rename_i e he
  split at h <;> try (simp at h; done)
  rename_i sz by_ g hsz hby hg
  obtain ⟨ys, rd, hsrc, h1⟩ := sourceK_some hs h
  clear h
  obtain ⟨hw, h2⟩ := chk_some h1
  obtain ⟨hz, h3⟩ := chk_some h2
  obtain ⟨hb0, h4⟩ := chk_some h3
  clear h1 h2 h3
  have hpre : (allCells g sz (ys.map .p) && zeroOk P e g sz && Nat.blt 0 by_) = true := by simp [widths_ok hw, hz, hb0]
  have pl : plainOp P tm s b (.call { callee := .builtin .append, args := args, argTypes := ats }) = appendOp P b t v u s := by
    simp only [plainOp, ha, ht, hx, hy, hni]
  split at h4 <;> try (simp at h4; done)
  · rcases listK_some h4 with ⟨rfl, h4⟩ | ⟨y1, l, rfl, h4⟩
    · have hs1 : source s u = some ([], rd) := hsrc
      have hp1 : (allCells g sz [] && zeroOk P e g sz && Nat.blt 0 by_) = true := hpre
      exact ⟨_, _, _, _, OpIs.read hs (by rw [pl]; simp only [appendOp, he, hsz, hby, hg, hs1, hp1] <;> rfl), h4⟩
    · have hs1 : source s u = some (.p y1 :: l.map .p, rd) := hsrc
      have hp1 : (allCells g sz (.p y1 :: l.map .p) && zeroOk P e g sz && Nat.blt 0 by_) = true := hpre
      obtain ⟨h5, h6⟩ := chk_some h4
      obtain ⟨h7, h8⟩ := freeK_some h6
      refine ⟨_, _, _, _, OpIs.set (o := .arr sz (y1 :: l) 0 0 0) hs (Nat.le_refl _) ?_, h8⟩
      rw [pl]
      simp only [appendOp, he, hsz, hby, hg, hs1, hp1, List.length_cons, List.length_map] at h5 ⊢
      simp only [h5, hs.at, XObj.to, List.map_cons, List.length_cons]
  · rename_i xs
    rcases listK_some h4 with ⟨rfl, h4⟩ | ⟨y1, l, rfl, h4⟩
    · have hs1 : source s u = some ([], rd) := hsrc
      have hp1 : (allCells g sz [] && zeroOk P e g sz && Nat.blt 0 by_) = true := hpre
      exact ⟨_, _, _, _, OpIs.read hs (by rw [pl]; simp only [appendOp, he, hsz, hby, hg, hs1, hp1] <;> rfl), h4⟩
    · have hs1 : source s u = some (.p y1 :: l.map .p, rd) := hsrc
      have hp1 : (allCells g sz (.p y1 :: l.map .p) && zeroOk P e g sz && Nat.blt 0 by_) = true := hpre
      obtain ⟨hwx, h5⟩ := chk_some h4
      obtain ⟨h5, h6⟩ := chk_some h5
      obtain ⟨h7, h8⟩ := freeK_some h6
      refine ⟨_, _, _, _, OpIs.set (o := .arr sz (xs ++ y1 :: l) 0 0 0) hs (Nat.le_refl _) ?_, h8⟩
      rw [pl]
      simp only [appendOp, he, hsz, hby, hg, hs1, hp1, List.length_cons, List.length_map] at h5 ⊢
      simp only [h5, hs.at, widths_ok hwx, XObj.to, List.map_append, List.map_cons, List.length_append, List.length_cons]
  · rename_i id ep len
    split at h4 <;> try (simp at h4; done)
    rename_i sz' xs cur lost fz ho
    obtain ⟨k1, hA0⟩ := chk_some h4
    obtain ⟨k2, hA1⟩ := chk_some hA0
    obtain ⟨k3, hA2⟩ := chk_some hA1
    obtain ⟨k4, h5⟩ := chk_some hA2
    clear h4 hA0 hA1 hA2
    have e3 := Nat.eq_of_beq_eq_true k3
    subst e3
    have e1 := Nat.eq_of_beq_eq_true k1
    subst e1
    have hle : Nat.ble (0 + xs.length) xs.length = true := Nat.ble_eq_true_of_le (by omega)
    rcases listK_some h5 with ⟨rfl, h5⟩ | ⟨y1, l, rfl, h5⟩
    · have kk : Nat.ble ((xs.length + 0) * by_) 1099511627776 = true := k4
      have hs1 : source s u = some ([], rd) := hsrc
      have hp1 : (allCells g sz [] && zeroOk P e g sz && Nat.blt 0 by_) = true := hpre
      exact ⟨_, _, _, _, OpIs.read hs (by rw [pl]; simp only [appendOp, he, hsz, hby, hg, hs1, hp1, hs.get _ _ ho, XObj.to, k1, k2, List.length_nil, kk, hle] <;> rfl), h5⟩
    · have hs1 : source s u = some (.p y1 :: l.map .p, rd) := hsrc
      have hp1 : (allCells g sz (.p y1 :: l.map .p) && zeroOk P e g sz && Nat.blt 0 by_) = true := hpre
      refine ⟨_, _, _, _, OpIs.set (o := .arr sz (xs ++ y1 :: l) (cur + 1) lost fz) hs (Nat.le_of_lt (hs.lt ho)) ?_, h5⟩
      rw [pl]
      simp only [appendOp, he, hsz, hby, hg, hs1, hp1, List.length_cons, List.length_map] at k4 ⊢
      simp only [hs.get _ _ ho, XObj.to, k1, k2, k4, hle, Nat.beq_refl, List.map_append, List.map_cons, List.length_append, List.length_cons]
  · rename_i id ep off len
    split at h4 <;> try (simp at h4; done)
    rename_i sz' xs cur lost fz ho
    obtain ⟨k1, hA0⟩ := chk_some h4
    obtain ⟨k2, hA1⟩ := chk_some hA0
    obtain ⟨k4, hA2⟩ := chk_some hA1
    obtain ⟨k5, hA3⟩ := chk_some hA2
    clear h4 hA0 hA1 hA2
    have e1 := Nat.eq_of_beq_eq_true k1
    subst e1
    rcases listK_some hA3 with ⟨rfl, hA3⟩ | ⟨y1, l, rfl, hA3⟩
    · have kk : Nat.ble ((len + 0) * by_) 1099511627776 = true := k4
      have hs1 : source s u = some ([], rd) := hsrc
      have hp1 : (allCells g sz [] && zeroOk P e g sz && Nat.blt 0 by_) = true := hpre
      exact ⟨_, _, _, _, OpIs.read hs (by rw [pl]; simp only [appendOp, he, hsz, hby, hg, hs1, hp1, hs.get _ _ ho, XObj.to, k1, k2, List.length_nil, kk, k5] <;> rfl), hA3⟩
    · have hs1 : source s u = some (.p y1 :: l.map .p, rd) := hsrc
      have hp1 : (allCells g sz (.p y1 :: l.map .p) && zeroOk P e g sz && Nat.blt 0 by_) = true := hpre
      obtain ⟨h7, h8⟩ := freeK_some hA3
      refine ⟨_, _, _, _, OpIs.set (o := .arr sz ((xs.drop off).take len ++ y1 :: l) 0 0 0) hs (Nat.le_refl _) ?_, h8⟩
      rw [pl]
      have hlen : ((xs.drop off).take len).length = len := by
        have := Nat.le_of_ble_eq_true k5
        simp
        omega
      simp only [appendOp, he, hsz, hby, hg, hs1, hp1, List.length_cons, List.length_map] at k4 ⊢
      simp only [hs.get _ _ ho, XObj.to, k1, k2, k4, k5, hs.at, List.map_append, List.map_cons, List.length_append, List.length_cons, List.map_take, List.map_drop, hlen]
theorem pickK_ok {tm : Tr AVal} {c x y : Operand} {vc vx vy : AVal} {K : AVal → Option α} (h1 : operand tm c = some vc) (h2 : operand tm x = some vx) (h3 : operand tm y = some vy) (h : pickK vc vx vy K = some r) :
    ∃ z, plainOp P tm s b (.pick c x y) = some (.pure z) ∧ K z = some r := by
  unfold pickK at h
  split at h <;> try (simp at h; done)
  rename_i bb
  split at h
  · cases bb with
    | true => exact ⟨_, by simp only [plainOp, h1, h2, someP]; rfl, h⟩
    | false => exact ⟨_, by simp only [plainOp, h1, h3, someP]; rfl, h⟩
  · rcases ifB_some h with ⟨rfl, h⟩ | ⟨rfl, h⟩
    · exact ⟨_, by simp only [plainOp, h1, h2, someP], h⟩
    · exact ⟨_, by simp only [plainOp, h1, h3, someP], h⟩
theorem allSameB_ok : ∀ {fs : List Field} {a b' : List PVal} {z : Bool}, allSameB P fs a b' = some z → sameFields P fs a b' = some z
  | [], _, _, _, h => h
  | f :: fs, a, b', z, h => by
    simp only [allSameB] at h
    simp only [sameFields]
    split at h <;> try (simp at h; done)
    rename_i hf hg hx hy
    split at h <;> try (simp at h; done)
    rename_i u v hu hv
    simp at h
    subst h
    simp only [hf, hg, hx, hy, hu]
    cases u with
    | true => exact allSameB_ok hv
    | false => rfl
theorem rowSameB_ok {e c : Nat} {a b' : List PVal} : ∀ {k i : Nat} {z : Bool}, rowSameB P e c a b' i k = some z → sameRow P e c a b' i k = some z
  | 0, _, _, h => h
  | k + 1, i, z, h => by
    simp only [rowSameB] at h
    simp only [sameRow]
    split at h <;> try (simp at h; done)
    rename_i hx hy
    split at h <;> try (simp at h; done)
    rename_i u v hu hv
    simp at h
    subst h
    simp only [hx, hy, hu]
    cases u with
    | true => exact rowSameB_ok hv
    | false => rfl
theorem structEqB_ok {t : Nat} {a b' : List PVal} {z : Bool} (h : structEqB P t a b' = some z) : structEq P t a b' = some z := by
  unfold structEqB at h
  unfold structEq
  split at h <;> try (simp at h; done)
  · rename_i hu
    simp only [hu]
    split at h <;> try (simp at h; done)
    rename_i hg hn
    simp only [hg, hn]
    exact rowSameB_ok h
  · rename_i hu
    simp only [hu]
    split at h <;> try (simp at h; done)
    rename_i hst
    simp only [hst]
    exact allSameB_ok h
end
end Go.Proofs.YtlcbgidfdkbfcaaGreatDoor.Sw
namespace Go.Proofs.YtlcbgidfdkbfcaaGreatDoor.Sw
section
variable {α : Type} {r : α} {P : Program}
theorem nilSK_some {x : PVal} {K : Bool → Option α} (h : nilSK x K = some r) : ∃ b, nilSl (.p x) = some b ∧ K b = some r := by
  unfold nilSK at h
  split at h <;> try (simp at h; done)
  · exact ⟨_, rfl, h⟩
  · exact ⟨_, rfl, h⟩
theorem nilPK_some {x : PVal} {K : Bool → Option α} (h : nilPK x K = some r) : ∃ b, nilPt (.p x) = some b ∧ K b = some r := by
  unfold nilPK at h
  split at h <;> try (simp at h; done)
  · exact ⟨_, rfl, h⟩
  · exact ⟨_, rfl, h⟩
theorem nilFK_some {x : PVal} {K : Bool → Option α} (h : nilFK x K = some r) : ∃ b, nilFn (.p x) = some b ∧ K b = some r := by
  unfold nilFK at h
  split at h <;> try (simp at h; done)
  · exact ⟨_, rfl, h⟩
  · exact ⟨_, rfl, h⟩
theorem nilIK_some {x : PVal} {K : Bool → Option α} (h : nilIK x K = some r) : ∃ b, nilIf (.p x) = some b ∧ K b = some r := by
  unfold nilIK at h
  split at h <;> try (simp at h; done)
  · exact ⟨_, rfl, h⟩
  · exact ⟨_, rfl, h⟩
theorem nilEqK_eqv {t : Nat} {d : Option TypeDesc} (hd : P.underlying t = d) {op : BinOp} {x y : PVal} {K : AVal → Option α} (h : nilEqK d op x y K = some r) :
    ∃ b, eqv P t (.p x) (.p y) = some b ∧ eqv P t (.p y) (.p x) = some b ∧ ((op = .eql ∧ K (.p (.bool b)) = some r) ∨ (op = .neq ∧ K (.p (.bool (!b))) = some r)) ∧
      (∀ k z, x ≠ .int k z) ∧ (∀ z, x ≠ .str z) ∧ ∀ z, x ≠ .agg z := by
  unfold nilEqK at h
  split at h <;> try (simp at h; done)
  all_goals
    split at h <;> try (simp at h; done)
    · obtain ⟨b, h1, h⟩ := nilSK_some h
      refine ⟨b, by simp only [eqv, hd, h1]; cases b <;> rfl, by simp only [eqv, hd, h1]; cases b <;> rfl, by simp [h], ?_, ?_, ?_⟩ <;> (intros; intro e; subst e; simp [nilSl] at h1)
    · obtain ⟨b, h1, h⟩ := nilPK_some h
      refine ⟨b, by simp only [eqv, hd, h1]; cases b <;> rfl, by simp only [eqv, hd, h1]; cases b <;> rfl, by simp [h], ?_, ?_, ?_⟩ <;> (intros; intro e; subst e; simp [nilPt] at h1)
    · obtain ⟨b, h1, h⟩ := nilFK_some h
      refine ⟨b, by simp only [eqv, hd, h1]; cases b <;> rfl, by simp only [eqv, hd, h1]; cases b <;> rfl, by simp [h], ?_, ?_, ?_⟩ <;> (intros; intro e; subst e; simp [nilFn] at h1)
    · obtain ⟨b, h1, h⟩ := nilIK_some h
      refine ⟨b, by simp only [eqv, hd, h1]; cases b <;> rfl, by simp only [eqv, hd, h1]; cases b <;> rfl, by simp [h], ?_, ?_, ?_⟩ <;> (intros; intro e; subst e; simp [nilIf] at h1)
theorem binary_other {t : Nat} {ox oy : Operand} {x y : PVal} {b : Bool} (h1 : eqv P t (.p x) (.p y) = some b) (hc : isConst ox = true ∨ isConst oy = true)
    (hx : ∀ k z, x ≠ .int k z) (hx2 : ∀ z, x ≠ .str z) (hx3 : ∀ z, x ≠ .agg z) :
    binary P .eql t ox oy (.p x) (.p y) = some (.p (.bool b)) ∧ binary P .neq t ox oy (.p x) (.p y) = some (.p (.bool (!b))) := by
  have hb : (bothNili (.p x) (.p y) && !(isConst ox || isConst oy)) = false := by rcases hc with h | h <;> simp [h]
  cases x with
  | int k z => exact absurd rfl (hx k z)
  | str z => exact absurd rfl (hx2 z)
  | agg z => exact absurd rfl (hx3 z)
  | _ => constructor <;> simp only [binary, hb, h1] <;> rfl
theorem binary_other' {t : Nat} {ox oy : Operand} {x y : PVal} {b : Bool} (h1 : eqv P t (.p x) (.p y) = some b) (hc : isConst ox = true ∨ isConst oy = true)
    (hx : ∀ k z, y ≠ .int k z) (hx2 : ∀ z, y ≠ .str z) (hx3 : ∀ z, y ≠ .agg z) :
    binary P .eql t ox oy (.p x) (.p y) = some (.p (.bool b)) ∧ binary P .neq t ox oy (.p x) (.p y) = some (.p (.bool (!b))) := by
  have hb : (bothNili (.p x) (.p y) && !(isConst ox || isConst oy)) = false := by rcases hc with h | h <;> simp [h]
  cases y with
  | int k z => exact absurd rfl (hx k z)
  | str z => exact absurd rfl (hx2 z)
  | agg z => exact absurd rfl (hx3 z)
  | _ => cases x <;> (constructor <;> simp only [binary, hb, h1] <;> rfl)
theorem binV_ok {t : Nat} {op : BinOp} {ox oy : Operand} {x y : AVal} {K : AVal → Option α} (h : binV P op t ox oy x y K = some r) :
    ∃ z, binary P op t ox oy x y = some z ∧ K z = some r := by
  unfold binV at h
  split at h
  · rename_i k a k' b
    split at h
    · obtain ⟨hk, k1⟩ := chk_some h
      rcases ifB_some k1 with ⟨_, k2⟩ | ⟨hb, k2⟩
      · simp at k2
      have hk := kNum_eq hk
      subst hk
      exact ⟨_, by simp at hb; simp [binary, intBin, hb], k2⟩
    · obtain ⟨hk, k1⟩ := chk_some h
      rcases ifB_some k1 with ⟨_, k2⟩ | ⟨hb, k2⟩
      · simp at k2
      have hk := kNum_eq hk
      subst hk
      exact ⟨_, by simp at hb; simp [binary, intBin, hb], k2⟩
    · rcases ifB_some h with ⟨_, h⟩ | ⟨hb, h⟩
      · simp at h
      exact ⟨_, by simp at hb; simp [binary, shiftBin, Int.not_lt.2 hb], h⟩
    · rcases ifB_some h with ⟨_, h⟩ | ⟨hb, h⟩
      · simp at h
      exact ⟨_, by simp at hb; simp [binary, shiftBin, Int.not_lt.2 hb], h⟩
    · obtain ⟨hk, k1⟩ := chk_some h
      clear h
      have hk := kNum_eq hk
      subst hk
      split at k1 <;> try (simp at k1; done)
      rename_i z hz
      refine ⟨_, ?_, k1⟩
      simp only [binary]
      split <;> simp_all
  · split at h
    · obtain ⟨h1, h2⟩ := chk_some h
      exact ⟨_, by simp [binary, strBin, h1], h2⟩
    · split at h <;> try (simp at h; done)
      rename_i z hz
      exact ⟨_, by simp [binary, hz], h⟩
  · split at h <;> try (simp at h; done)
    all_goals
      rename_i hg
      obtain ⟨z, hz, h⟩ := bindK_some h
      exact ⟨_, by simp only [binary, hg, structEqB_ok hz, Option.map], h⟩
  · split at h
    · rename_i hu
      split at h <;> try (simp at h; done)
      split at h <;> try (simp at h; done)
      all_goals exact ⟨_, by simp [binary, eqv, hu, bothNili], h⟩
    · simp at h
  · split at h <;> try (simp at h; done)
    rename_i hz
    exact ⟨_, hz, h⟩
theorem nilC_const {o : Operand} {v : AVal} (h : nilC o v = true) : isConst o = true := by
  unfold nilC at h
  split at h
  · assumption
  · simp at h
theorem binK_ok {t : Nat} {op : BinOp} {ox oy : Operand} {x y : AVal} {K : AVal → Option α} (h : binK P op t ox oy x y K = some r) :
    ∃ z, binary P op t ox oy x y = some z ∧ K z = some r := by
  have hE : ∀ {x y : AVal}, binE P op t ox oy x y K = some r → ∃ z, binary P op t ox oy x y = some z ∧ K z = some r := by
    intro x y h
    unfold binE at h
    split at h <;> try (simp at h; done)
    exact ⟨_, by assumption, h⟩
  unfold binK at h
  split at h
  · split at h
    · obtain ⟨b, h1, h2, h3, h4, h5, h6⟩ := nilEqK_eqv rfl h
      obtain ⟨k1, k2⟩ := binary_other (ox := ox) (oy := oy) h1 (.inr (nilC_const ‹_›)) h4 h5 h6
      rcases h3 with ⟨rfl, h3⟩ | ⟨rfl, h3⟩
      · exact ⟨_, k1, h3⟩
      · exact ⟨_, k2, h3⟩
    · exact hE h
  · split at h
    · split at h
      · obtain ⟨b, h1, h2, h3, h4, h5, h6⟩ := nilEqK_eqv rfl h
        obtain ⟨k1, k2⟩ := binary_other' (ox := ox) (oy := oy) h2 (.inl (nilC_const ‹_›)) h4 h5 h6
        rcases h3 with ⟨rfl, h3⟩ | ⟨rfl, h3⟩
        · exact ⟨_, k1, h3⟩
        · exact ⟨_, k2, h3⟩
      · exact hE h
    · exact binV_ok h
end
end Go.Proofs.YtlcbgidfdkbfcaaGreatDoor.Sw
namespace Go.Proofs.YtlcbgidfdkbfcaaGreatDoor.Sw
section
variable {α : Type} {r : α} {P : Program} {s : St} {σ : XSt} {b : Nat}
theorem purs_0 (s : St) : ∀ (l : List AVal), purs (pur s 0) l = (match l with | [] => some ([], []) | _ :: _ => none)
  | [] => rfl
  | _ :: _ => rfl
theorem purs_p (s : St) (d : Nat) : ∀ (l : List PVal), purs (pur s (d + 1)) (l.map .p) = some (l, [])
  | [] => rfl
  | x :: l => by
    simp only [List.map_cons, purs, purs_p s d l]
    simp [pur]
theorem pur_arr (s : St) (d id ep off len : Nat) (c : Bool) : pur s (d + 1) (.arr id ep off len c) = (match viewed s id ep off len with | some xs => (purs (pur s d) xs).map fun (ys, a) => (.sl ys, id :: a) | none => none) := rfl
theorem pur_box (s : St) (d id : Nat) : pur s (d + 1) (.box id 0) = (match s.get id with | some (.box cs) => (purs (pur s d) cs).map fun (ys, a) => (.ip (ipOf ys), id :: a) | _ => none) := rfl
theorem handsWith_some {f : AVal → (PVal → List Nat → Option α) → Option α} {d : Nat} {bw : Bool}
    (hf : ∀ {v : AVal} {K : PVal → List Nat → Option α}, f v K = some r → ∃ x ids, pur s d v = some (x, ids) ∧ pureA bw d v = true ∧ K x ids = some r) :
    ∀ {vs : List AVal} {K : List PVal → List Nat → Option α}, handsWith f vs K = some r → ∃ ps ids, purs (pur s d) vs = some (ps, ids) ∧ pureAs (pureA bw d) vs = true ∧ K ps ids = some r
  | [], K, h => ⟨[], [], rfl, rfl, h⟩
  | v :: vs, K, h => by
    obtain ⟨x, a, h1, h2, h3⟩ := hf (show f v _ = some r from h)
    obtain ⟨xs, c, h4, h5, h6⟩ := handsWith_some hf h3
    exact ⟨_, _, by simp only [purs, h1, h4], by simp only [pureAs, h2, h5], h6⟩
theorem handK_some (hs : SE s σ b) {bw : Bool} : ∀ {d : Nat} {v : AVal} {K : PVal → List Nat → Option α}, handK bw σ d v K = some r →
    ∃ x ids, pur s d v = some (x, ids) ∧ pureA bw d v = true ∧ K x ids = some r
  | 0, v, K, h => by simp [handK] at h
  | d + 1, v, K, h => by
    simp only [handK] at h
    split at h <;> try (simp at h; done)
    · exact ⟨_, _, rfl, rfl, h⟩
    · exact ⟨_, _, rfl, rfl, h⟩
    · obtain ⟨ps, ids, h1, h2, h3⟩ := handsWith_some (fun {v K} => handK_some hs (d := d)) h
      exact ⟨_, _, by simp only [pur, h1, Option.map], by simpa only [pureA] using h2, h3⟩
    · obtain ⟨ps, ids, h1, h2, h3⟩ := handsWith_some (fun {v K} => handK_some hs (d := d)) h
      exact ⟨_, _, by simp only [pur, h1, Option.map], by simpa only [pureA] using h2, h3⟩
    · obtain ⟨x, ids, h1, h2, h3⟩ := handK_some hs h
      exact ⟨_, _, by simp only [pur, h1, Option.map], by simpa only [pureA] using h2, h3⟩
    · obtain ⟨ps, ids, h1, h2, h3⟩ := handsWith_some (fun {v K} => handK_some hs (d := d)) h
      exact ⟨_, _, by simp only [pur, h1, Option.map], by simpa only [pureA] using h2, h3⟩
    · split at h <;> try (simp at h; done)
      rename_i ho
      obtain ⟨h1, h2⟩ := chk_some h
      obtain ⟨h3, h4⟩ := chk_some h2
      refine ⟨_, _, ?_, rfl, h4⟩
      rw [pur_arr, viewed_ok hs ho h1 h3]
      simp only
      rw [purs_p]; rfl
    · split at h <;> try (simp at h; done)
      · rename_i cs ho
        split at h <;> try (simp at h; done)
        obtain ⟨h1, h2⟩ := chk_some h
        obtain ⟨h3, h4⟩ := chk_some h2
        have hg : s.get _ = some (.box (cs.map .p)) := hs.get _ _ ho
        refine ⟨_, _, ?_, by simpa only [pureA] using h1, h4⟩
        rw [pur_box, hg]
        simp only
        rw [purs_p]
        simp only [Option.map]
        have : ipOf cs = .agg cs := by
          have h3 : Nat.ble 2 cs.length = true := h3
          have := Nat.le_of_ble_eq_true h3
          match cs with
          | [] => rfl
          | [c] => simp at this
          | _ :: _ :: _ => rfl
        rw [this]
      · rename_i cs ho
        obtain ⟨h1, h2⟩ := chk_some h
        obtain ⟨ps, ids, h3, h4, h5⟩ := handsWith_some (fun {v K} => handK_some hs (d := d)) h2
        have hg : s.get _ = some (.box cs) := hs.get _ _ ho
        exact ⟨_, _, by rw [pur_box, hg]; simp only [h3, Option.map], by simpa only [pureA] using h1, h5⟩
theorem handsK_some (hs : SE s σ b) {bw : Bool} {vs : List AVal} {K : List PVal → List Nat → Option α} (h : handsK bw σ vs K = some r) :
    ∃ ps ids, purs (pur s depth) vs = some (ps, ids) ∧ pureAs (pureA bw depth) vs = true ∧ K ps ids = some r :=
  handsWith_some (fun {_ _} => handK_some hs) (show handsWith (handK bw σ depth) vs K = some r from h)
theorem freeze_names : ∀ {ids : List Nat}, (∀ i ∈ ids, ∃ sz xs ep lost fz, s.get i = some (.arr sz (List.length xs) xs ep lost fz)) → (freeze s ids).map (·.1) = ids
  | [], _ => rfl
  | i :: ids, h => by
    obtain ⟨sz, xs, ep, lost, fz, h1⟩ := h i (by simp)
    have ih := freeze_names (ids := ids) (fun j hj => h j (List.mem_cons_of_mem _ hj))
    simp only [freeze, h1, List.map_cons, ih]
theorem freeze_mem : ∀ {ids : List Nat} {i : Nat} {o : Obj}, (i, o) ∈ freeze s ids → ∃ sz n xs ep lost fz, s.get i = some (.arr sz n xs ep lost fz) ∧ o = .arr sz n xs ep lost n
  | [], _, _, h => by cases h
  | j :: ids, i, o, h => by
    simp only [freeze] at h
    split at h
    · rename_i hj
      rcases List.mem_cons.1 h with h | h
      · simp at h
        obtain ⟨rfl, rfl⟩ := h
        exact ⟨_, _, _, _, _, _, hj, rfl⟩
      · exact freeze_mem h
    · exact freeze_mem h
theorem upds_mem {l : List (Nat × Obj)} : ∀ {t : Sto} {i : Nat}, i ∈ l.map (·.1) → ∃ o, (i, o) ∈ l ∧ upds t l i = some o := by
  induction l with
  | nil => intro t i h; simp at h
  | cons q l ih =>
    intro t i h
    by_cases hm : i ∈ l.map (·.1)
    · obtain ⟨o, h1, h2⟩ := ih (t := upd t q.1 q.2) hm
      exact ⟨o, by simp [h1], h2⟩
    · simp only [List.map_cons, List.mem_cons] at h
      rcases h with h | h
      · refine ⟨q.2, by simp [h], ?_⟩
        show upds (upd t q.1 q.2) l i = _
        rw [upds_not hm, h]
        simp [upd]
      · exact absurd h hm
theorem xfreeze_spec : ∀ {ids : List Nat} {σ σ' : XSt}, XSt.freeze ids σ = some σ' →
    (∀ i ∈ ids, ∃ sz xs ep lost fz, σ.get i = some (.arr sz xs ep lost fz) ∧ σ'.get i = some (.arr sz xs ep lost xs.length)) ∧ (∀ i, i ∉ ids → σ'.get i = σ.get i)
  | [], σ, σ', h => by
    simp [XSt.freeze] at h
    subst h
    exact ⟨by simp, fun _ _ => rfl⟩
  | j :: ids, σ, σ', h => by
    simp only [XSt.freeze] at h
    split at h <;> try (simp at h; done)
    rename_i sz xs ep lost fz hj
    obtain ⟨h1, h2⟩ := xfreeze_spec h
    refine ⟨fun i hi => ?_, fun i hi => ?_⟩
    · by_cases e : j = i
      · subst e
        refine ⟨sz, xs, ep, lost, fz, hj, ?_⟩
        by_cases hm : j ∈ ids
        · obtain ⟨sz', xs', ep', lost', fz', k1, k2⟩ := h1 j hm
          rw [XSt.get_set, if_pos rfl] at k1
          simp at k1
          obtain ⟨rfl, rfl, rfl, rfl, rfl⟩ := k1
          exact k2
        · rw [h2 j hm, XSt.get_set, if_pos rfl]
      · have hi' : i ∈ ids := by
          rcases List.mem_cons.1 hi with h | h
          · exact absurd h.symm e
          · exact h
        obtain ⟨sz', xs', ep', lost', fz', k1, k2⟩ := h1 i hi'
        rw [XSt.get_set, if_neg e] at k1
        exact ⟨_, _, _, _, _, k1, k2⟩
    · simp only [List.mem_cons, not_or] at hi
      rw [h2 i hi.2, XSt.get_set, if_neg (fun e => hi.1 e.symm)]
theorem freeze_ok (hs : SE s σ b) {ids rd : List Nat} {σ' : XSt} (h : XSt.freeze ids σ = some σ') : (freeze s ids).map (·.1) = ids ∧ SE (s.did rd (freeze s ids)) σ' (b + 16) := by
  obtain ⟨h1, h2⟩ := xfreeze_spec h
  have hn : (freeze s ids).map (·.1) = ids := freeze_names fun i hi => by
    obtain ⟨sz, xs, ep, lost, fz, k1, _⟩ := h1 i hi
    have := hs.get _ _ k1
    exact ⟨sz, xs.map .p, ep, lost, fz, by rw [this]; simp [XObj.to]⟩
  have hget : ∀ i, (s.did rd (freeze s ids)).get i = upds s.get (freeze s ids) i := fun i => congrFun (did_get _ _ _) i
  refine ⟨hn, fun i o ho => ?_, fun i hi => ?_⟩
  · rw [hget]
    by_cases hm : i ∈ ids
    · obtain ⟨sz, xs, ep, lost, fz, k1, k2⟩ := h1 i hm
      rw [k2] at ho
      simp at ho
      subst ho
      obtain ⟨o, m1, m2⟩ := upds_mem (l := freeze s ids) (t := s.get) (i := i) (by rw [hn]; exact hm)
      rw [m2]
      obtain ⟨sz', n', xs', ep', lost', fz', m3, rfl⟩ := freeze_mem m1
      have := hs.get _ _ k1
      rw [m3] at this
      simp [XObj.to] at this
      obtain ⟨rfl, rfl, rfl, rfl, rfl, rfl⟩ := this
      rfl
    · rw [upds_not (by rw [hn]; exact hm), ← hs.get i o (by rw [← h2 i hm]; exact ho)]
  · rw [hget]
    have hm : i ∉ ids := fun hm => by
      obtain ⟨sz, xs, ep, lost, fz, k1, _⟩ := h1 i hm
      have := hs.lt k1
      omega
    rw [upds_not (by rw [hn]; exact hm)]
    exact hs.free i (by omega)
theorem freeze_noBox (hs : SE s σ b) : ∀ {ids : List Nat} {σ' : XSt}, XSt.freeze ids σ = some σ' → noBox s ids = true := by
  intro ids σ' h
  have h1 := (xfreeze_spec h).1
  clear h
  induction ids with
  | nil => rfl
  | cons i ids ih =>
    obtain ⟨sz, xs, ep, lost, fz, k1, _⟩ := h1 i (by simp)
    simp only [noBox, hs.get _ _ k1, XObj.to]
    exact ih fun j hj => h1 j (List.mem_cons_of_mem _ hj)
def RecOk (C : CallFn) (rec : Rec1) : Prop := ∀ f ps v, rec f ps = some v → ∃ vE sE, C (.iso f) (ps.map .p) St.empty = some (.ret vE sE) ∧
  ((outR sE vE = some v ∧ clipOf true vE = none) ∨ ∃ xs, v = .cl xs ∧ vE = .cl xs)
def CallIs (C : CallFn) (imp : Nat → Bool) (s : St) (b f : Nat) (args : List AVal) (v : AVal) (σ' : XSt) (rd wr : List Nat) : Prop :=
  ∃ e : Eff, callAt C imp s b f args = some (.eff e) ∧ e.v = v ∧ e.rd = rd ∧ e.wr.map (·.1) = wr ∧ SE (s.did e.rd e.wr) σ' (b + 16)
theorem freezeK_some {ids : List Nat} {K : XSt → Option α} (h : freezeK ids σ K = some r) : ∃ σ', XSt.freeze ids σ = some σ' ∧ K σ' = some r := by
  unfold freezeK at h
  split at h <;> try (simp at h; done)
  exact ⟨_, by assumption, h⟩
theorem purs_tail (tail : List PVal) : ∀ {l : List AVal} {ps : List PVal} {ids : List Nat}, purs (pur s depth) l = some (ps, ids) → purs (pur s depth) (l ++ tail.map .p) = some (ps ++ tail, ids)
  | [], ps, ids, h => by
    simp [purs] at h
    obtain ⟨rfl, rfl⟩ := h
    exact purs_p s 11 tail
  | v :: l, ps, ids, h => by
    simp only [purs] at h
    split at h <;> simp at h
    rename_i x a xs b hx hxs
    obtain ⟨rfl, rfl⟩ := h
    simp only [List.cons_append, purs, hx, purs_tail tail hxs]
theorem pureAs_tail {bw : Bool} (tail : List PVal) : ∀ {l : List AVal}, pureAs (pureA bw depth) l = true → pureAs (pureA bw depth) (l ++ tail.map .p) = true
  | [], _ => by
    induction tail with
    | nil => rfl
    | cons x t ih => exact ih
  | v :: l, h => by
    simp only [pureAs] at h
    split at h <;> try (simp at h; done)
    rename_i hv
    simp only [List.cons_append, pureAs, hv]
    exact pureAs_tail tail h
theorem isoK_ok {C : CallFn} {cf : Cfg} {rec : Rec1} (hC : RecOk C rec) (hs : SE s σ b) {site f : Nat} {args0 : List AVal} {tail : List PVal} {K : Nx α} (h : isoK cf rec σ b site f args0 tail K = some r) :
    ∃ z σ' rd wr, CallIs C cf.imp s b f (args0 ++ tail.map .p) z σ' rd wr ∧ K z σ' rd wr = some r := by
  unfold isoK at h
  obtain ⟨himp, h⟩ := chk_some h
  have himp : cf.imp f = false := by simpa using himp
  obtain ⟨ps0, ids, h10, h20, h3⟩ := handsK_some hs h
  clear h
  have h1 := purs_tail (s := s) tail h10
  have h2 := pureAs_tail (bw := lends cf.imp f) tail h20
  generalize args0 ++ tail.map AVal.p = args at h1 h2 ⊢
  generalize ps0 ++ tail = ps at h1 h3
  obtain ⟨v, hv, h3⟩ := bindK_some h3
  obtain ⟨vE, sE, hc, hout⟩ := hC f ps v hv
  have pure : ∀ x, v = .p x → pureK σ ids K x = some r → ∃ z σ' rd wr, CallIs C cf.imp s b f args z σ' rd wr ∧ K z σ' rd wr = some r := by
    intro x hx h4
    subst hx
    obtain ⟨ho, hcl⟩ : outR sE vE = some (.p x) ∧ clipOf true vE = none := by
      rcases hout with h | ⟨xs, h, _⟩
      · exact h
      · simp at h
    have hcl' : clipOf (clips cf.imp f) vE = none := by
      cases clips cf.imp f with
      | true => exact hcl
      | false => cases vE <;> rfl
    have call : ∀ w, (match flatA (.p x) with | true => true | false => noBox s ids) = true → (match flatA (.p x) with | true => [] | false => freeze s ids) = w → callAt C cf.imp s b f args = some (.eff ⟨.p x, ids, w⟩) := by
      intro w hn hw
      subst hw
      cases hfl : flatA (.p x) with
      | true =>
        simp only [callAt, himp, h2, h1, hc, hcl', ho, adopt, adopt1, allFree, hfl, List.map_nil, List.append_nil, List.length_nil]
      | false =>
        have hn : noBox s ids = true := by rw [hfl] at hn; exact hn
        simp only [callAt, himp, h2, h1, hc, hcl', ho, adopt, adopt1, allFree, hfl, hn, List.map_nil, List.append_nil, List.length_nil]
    unfold pureK at h4
    split at h4
    · exact ⟨_, _, _, _, ⟨_, call [] (by cases flatA (.p x) <;> rfl) (by cases flatA (.p x) <;> rfl), rfl, rfl, rfl, hs.same (did_get _ _ _) (by omega)⟩, h4⟩
    · rcases ifB_some h4 with ⟨hf, h4⟩ | ⟨hf, h4⟩
      · exact ⟨_, _, _, _, ⟨_, call [] (by simp [flatA, hf]) (by simp [flatA, hf]), rfl, rfl, rfl, hs.same (did_get _ _ _) (by omega)⟩, h4⟩
      · obtain ⟨σ', hfr, h4⟩ := freezeK_some h4
        obtain ⟨k1, k2⟩ := freeze_ok (rd := _) hs hfr
        exact ⟨_, _, _, _, ⟨_, call (freeze s (_ :: _)) (by rw [show flatA (.p x) = false from hf]; exact freeze_noBox hs hfr) (by rw [show flatA (.p x) = false from hf]), rfl, rfl, k1, k2⟩, h4⟩
  cases hres : cf.res site with
  | one sh =>
    rw [hres] at h3
    obtain ⟨x, rfl, h4⟩ := pK_some (show pK v _ = some r from h3)
    exact pure x rfl (Sh.view_some h4)
  | many l =>
    rw [hres] at h3
    obtain ⟨x, rfl, h4⟩ := pK_some (show pK v _ = some r from h3)
    obtain ⟨vs, rfl, h4⟩ := tupK_some h4
    exact pure _ rfl (viewsP_some h4)
  | own =>
    rw [hres] at h3
    rcases nownK_some (show nownK v _ _ = some r from h3) with ⟨rfl, h4⟩ | ⟨sz, xs, rfl, h4⟩
    · exact pure _ rfl h4
    · obtain ⟨hfree, h4⟩ := freeK_some h4
      obtain ⟨σ', hfr, h4⟩ := freezeK_some h4
      obtain ⟨ho, hcl⟩ : outR sE vE = some (.own sz xs) ∧ clipOf true vE = none := by
        rcases hout with h | ⟨xs, h, _⟩
        · exact h
        · simp at h
      have hcl' : clipOf (clips cf.imp f) vE = none := by
        cases clips cf.imp f with
        | true => exact hcl
        | false => cases vE <;> rfl
      obtain ⟨k1, k2⟩ := freeze_ok (rd := []) hs hfr
      have hb : s.get b = none := hs.at
      refine ⟨_, _, _, _, ⟨⟨.arr b 0 0 xs.length false, ids ++ [b], freeze s ids ++ [(b, .arr sz xs.length (xs.map .p) 0 0 0)]⟩, ?_, rfl, rfl, by simp [k1], ?_⟩, h4⟩
      · simp only [callAt, himp, h2, h1, hc, hcl', ho, adopt, adopt1, allFree, hb, flatA, freeze_noBox hs hfr]
        rfl
      · have k3 : SE ((s.did [] (freeze s ids)).did [] [(b, (XObj.arr sz xs 0 0 0).to)]) (σ'.set b (.arr sz xs 0 0 0)) (b + 16) := k2.set (did_get _ _ _) (Nat.le_refl _) (by omega)
        refine k3.same ?_ (Nat.le_refl _)
        rw [did_get, did_get, did_get, upds_append]
        rfl
  | clip =>
    rw [hres] at h3
    rcases nclK_some (show nclK v _ _ = some r from h3) with ⟨rfl, h4⟩ | ⟨xs, rfl, h4⟩
    · exact pure _ rfl h4
    · obtain ⟨hclip, h4⟩ := chk_some h4
      obtain ⟨σ', hfr, h4⟩ := freezeK_some h4
      have hvE : vE = .cl xs := by
        rcases hout with ⟨h, hcl⟩ | ⟨ys, h, h'⟩
        · exfalso
          unfold outR at h
          split at h
          · rename_i z hz
            simp at h
            subst h
            split at hz
            · simp only [Option.map_eq_some_iff] at hz
              obtain ⟨_, _, hz⟩ := hz
              unfold mkTup at hz
              split at hz <;> simp at hz
            · simp only [Option.map_eq_some_iff] at hz
              obtain ⟨_, _, hz⟩ := hz
              unfold mkAgg at hz
              split at hz <;> simp at hz
            · split at hz <;> simp at hz
              rename_i z' hz'
              subst hz
              unfold outL at hz'
              split at hz' <;> try (simp at hz'; done)
              rename_i xs' rd ow ho'
              split at hz' <;> simp at hz'
              subst hz'
              simp only [outvs] at ho'
              split at ho' <;> simp at ho'
              rename_i x1 a1 b1 x2 a2 b2 e1 e2
              obtain ⟨⟨rfl, _⟩, _⟩ := ho'
              unfold outv at e1
              repeat' split at e1
              all_goals first | (simp at e1; done) | (simp only [Option.map_eq_some_iff] at e1; obtain ⟨_, _, e1⟩ := e1; simp at e1)
          · simp only [Option.map_eq_some_iff] at h
            obtain ⟨_, _, h⟩ := h
            simp at h
        · simp at h
          rw [h', h]
      subst hvE
      obtain ⟨k1, k2⟩ := freeze_ok (rd := ids) hs hfr
      refine ⟨_, _, _, _, ⟨⟨.cl xs, ids, freeze s ids⟩, ?_, rfl, rfl, k1, k2⟩, h4⟩
      simp only [callAt, himp, h2, h1, hc, hclip, clipOf, freeze_noBox hs hfr]
end
end Go.Proofs.YtlcbgidfdkbfcaaGreatDoor.Sw
namespace Go.Proofs.YtlcbgidfdkbfcaaGreatDoor.Sw
section
variable {α : Type} {r : α} {P : Program} {s : St} {σ : XSt} {b : Nat} {C : CallFn} {cf : Cfg} {rec : Rec1} {tm : Tr AVal}
def EvIs (C : CallFn) (imp : Nat → Bool) (P : Program) (tm : Tr AVal) (s : St) (b : Nat) (op : Op) (v : AVal) (σ' : XSt) (rd wr : List Nat) : Prop :=
  ∃ e : Eff, evOp C imp P tm s b op = some (.eff e) ∧ e.v = v ∧ e.rd = rd ∧ e.wr.map (·.1) = wr ∧ SE (s.did e.rd e.wr) σ' (b + 16)
def plainly : Op → Bool
  | .panic _ => false
  | .call c => match c.callee with
    | .builtin _ => true
    | _ => false
  | .defer _ => false
  | _ => true
theorem evOp_plain {imp : Nat → Bool} {op : Op} (h : plainly op = true) : evOp C imp P tm s b op = (plainOp P tm s b op).map .eff := by
  cases op <;> try rfl
  · simp only [evOp]
    simp only [plainly] at h
    split at h <;> try (simp at h; done)
    rename_i hc
    simp only [hc]
  all_goals simp [plainly] at h
theorem OpIs.ev {imp : Nat → Bool} {op : Op} (hp : plainly op = true) {v : AVal} {σ' : XSt} {rd wr : List Nat} (h : OpIs P tm s b op v σ' rd wr) : EvIs C imp P tm s b op v σ' rd wr := by
  obtain ⟨e, h1, h2, h3, h4, h5⟩ := h
  exact ⟨e, by rw [evOp_plain hp, h1]; rfl, h2, h3, h4, h5⟩
theorem EvIs.read {imp : Nat → Bool} {op : Op} (hs : SE s σ b) (hp : plainly op = true) {v : AVal} {rd : List Nat} (h : plainOp P tm s b op = some ⟨v, rd, []⟩) : EvIs C imp P tm s b op v σ rd [] := (OpIs.read hs h).ev hp
theorem EvIs.pure {imp : Nat → Bool} {op : Op} (hs : SE s σ b) (hp : plainly op = true) {v : AVal} (h : plainOp P tm s b op = some (.pure v)) : EvIs C imp P tm s b op v σ [] [] := .read hs hp h
theorem seen_lt (hs : SE s σ b) : ∀ {l : List Nat}, seen σ b l = true → ∀ id ∈ l, id ≤ b
  | [], _, _, hid => by cases hid
  | i :: l, h, id, hid => by
    simp only [seen] at h
    split at h <;> try (simp at h; done)
    rename_i hb
    rcases List.mem_cons.1 hid with rfl | hid
    · split at hb
      · rename_i o ho
        exact Nat.le_of_lt (hs.lt ho)
      · exact Nat.le_of_eq (Nat.eq_of_beq_eq_true hb)
    · exact seen_lt hs h id hid
theorem plainK_ok {imp : Nat → Bool} {op : Op} {K : Nx α} (hs : SE s σ b) (hp : plainly op = true) (h : plainK P tm σ b op K = some r) :
    ∃ z σ' rd wr, EvIs C imp P tm s b op z σ' rd wr ∧ K z σ' rd wr = some r := by
  unfold plainK at h
  split at h <;> try (simp at h; done)
  rename_i e he
  split at h <;> try (simp at h; done)
  rename_i σ' h1 h0 h2
  refine ⟨_, _, _, _, ⟨e, by rw [evOp_plain hp, plainOp_same he (fun i hi => (seen_same hs h1 i hi))]; rfl, rfl, rfl, rfl, ?_⟩, h⟩
  refine sets_ok hs h2 (did_get _ _ _) (by omega) fun q hq => ?_
  have := seen_lt hs h0 q.1 (List.mem_map_of_mem hq)
  omega
theorem assertK_ok {v : AVal} {a : Nat} {ok : Bool} {K : AVal → Option α} (h : assertK P v a ok K = some r) : ∃ z, assertOp P v a ok = some z ∧ K z = some r := by
  unfold assertK at h
  split at h
  · split at h <;> try (simp at h; done)
    rename_i d z hi hd hz
    obtain ⟨t, y, rfl, h⟩ := ifK_some h
    have hne : ∀ l, d ≠ .interface l := fun l e => by
      subst e
      unfold ifaceT at hi
      rw [hd] at hi
      simp at hi
    have hfit : fitsT P a t = some (Nat.beq t a) := by
      unfold fitsT
      rw [hd]
      cases d <;> first | rfl | exact absurd rfl (hne _)
    rcases ifB_some h with ⟨hb, h⟩ | ⟨hb, h⟩
    · cases ok with
      | true => exact ⟨_, by simp only [assertOp, ifOf, fitsD, hfit, hb, hi]; rfl, h⟩
      | false => exact ⟨_, by simp only [assertOp, ifOf, fitsD, hfit, hb, hi], h⟩
    · cases ok with
      | true => exact ⟨_, by simp only [assertOp, ifOf, fitsD, hfit, hb, hz], h⟩
      | false => simp at h
  · split at h <;> try (simp at h; done)
    rename_i z hz
    exact ⟨z, hz, h⟩
theorem xop_ok (hC : RecOk C rec) (hs : SE s σ b) {site : Nat} {op : Op} {K : Nx α} (h : xop P cf rec tm σ b site op K = some r) :
    ∃ z σ' rd wr, EvIs C cf.imp P tm s b op z σ' rd wr ∧ K z σ' rd wr = some r := by
  unfold xop at h
  split at h
  · obtain ⟨c, hc, h⟩ := opdK_some h
    obtain ⟨x, hx, h⟩ := opdK_some h
    obtain ⟨y, hy, h⟩ := opdK_some h
    obtain ⟨z, h1, h⟩ := pickK_ok (P := P) (s := s) (b := b) hc hx hy h
    exact ⟨_, _, _, _, .pure hs rfl h1, h⟩
  · obtain ⟨x, hx, h⟩ := opdK_some h
    obtain ⟨y, hy, h⟩ := opdK_some h
    obtain ⟨z, h1, h⟩ := binK_ok h
    exact ⟨_, _, _, _, .pure hs rfl (by simp only [plainOp, hx, hy, h1, someP]), h⟩
  · obtain ⟨x, hx, h⟩ := opdK_some h
    obtain ⟨g, n, hg, hn, h⟩ := typeK_some h
    obtain ⟨cs, o, h1, h2, h3, h⟩ := objK_ok h
    obtain ⟨h4, h⟩ := freeK_some h
    exact ⟨_, _, _, _, (OpIs.set hs (Nat.le_refl _) (by simp only [plainOp, hx, boxOp, hg, hn, h1, hs.at, h2])).ev rfl, h⟩
  · split at h <;> try (simp at h; done)
    rename_i z hz
    obtain ⟨g, n, hg, hn, h⟩ := typeK_some h
    obtain ⟨cs, o, h1, h2, h3, h⟩ := objK_ok h
    obtain ⟨h4, h⟩ := freeK_some h
    exact ⟨_, _, _, _, (OpIs.set hs (Nat.le_refl _) (by simp only [plainOp, allocOp, hz, hg, hn, h1, hs.at, h2])).ev rfl, h⟩
  · obtain ⟨x, hx, h⟩ := opdK_some h
    obtain ⟨z, rd, h1, h⟩ := loadK_ok hs h
    exact ⟨_, _, _, _, .read hs rfl (by simp only [plainOp, hx, h1]), h⟩
  · obtain ⟨x, hx, h⟩ := opdK_some h
    obtain ⟨y, hy, h⟩ := opdK_some h
    obtain ⟨z, σ', rd, wr, h1, h⟩ := storeK_ok hs hx hy h
    exact ⟨_, _, _, _, h1.ev rfl, h⟩
  · obtain ⟨x, hx, h⟩ := opdK_some h
    obtain ⟨z, h1, h⟩ := fieldAddrK_ok h
    exact ⟨_, _, _, _, .pure hs rfl (by simp only [plainOp, hx, h1, someP]), h⟩
  · obtain ⟨x, hx, h⟩ := opdK_some h
    obtain ⟨z, h1, h⟩ := fieldK_ok h
    exact ⟨_, _, _, _, .pure hs rfl (by simp only [plainOp, hx, h1, someP]), h⟩
  · obtain ⟨x, hx, h⟩ := opdK_some h
    obtain ⟨y, hy, h⟩ := opdK_some h
    obtain ⟨z, rd, h1, h⟩ := indexAddrK_ok hs h
    exact ⟨_, _, _, _, .read hs rfl (by simp only [plainOp, hx, hy, h1]), h⟩
  · obtain ⟨x, hx, h⟩ := opdK_some h
    obtain ⟨y, hy, h⟩ := opdK_some h
    obtain ⟨z, h1, h⟩ := indexK_ok h
    exact ⟨_, _, _, _, .pure hs rfl (by simp only [plainOp, hx, hy, h1, someP]), h⟩
  · obtain ⟨x, hx, h⟩ := opdK_some h
    split at h <;> try (simp at h; done)
    rename_i lo hi mx k1 k2 k3
    obtain ⟨z, rd, h1, h⟩ := sliceK_ok hs h
    exact ⟨_, _, _, _, .read hs rfl (by simp only [plainOp, hx, k1, k2, k3, h1]), h⟩
  · split at h <;> try (simp at h; done)
    rename_i ha ht
    obtain ⟨x, hx, h⟩ := opdK_some h
    obtain ⟨z, h1, h⟩ := lenK_ok h
    exact ⟨_, _, _, _, .pure hs rfl (by simp only [plainOp, ha, ht, hx, h1, someP]), h⟩
  · split at h <;> try (simp at h; done)
    rename_i ha ht
    split at h <;> try (simp at h; done)
    rename_i hni
    obtain ⟨x, hx, h⟩ := opdK_some h
    obtain ⟨y, hy, h⟩ := opdK_some h
    obtain ⟨z, σ', rd, wr, h1, h⟩ := appendK_ok hs (ty := 0) ha ht hx hy hni h
    exact ⟨_, _, _, _, h1.ev rfl, h⟩
  · exact plainK_ok hs rfl h
  · rename_i c hn1 hn2 hn3
    unfold callK at h
    split at h <;> try (simp at h; done)
    · rename_i o hc
      obtain ⟨fv, hf, h⟩ := opdK_some h
      split at h <;> try (simp at h; done)
      rename_i args ha
      split at h <;> try (simp at h; done)
      · obtain ⟨f, cap, rfl, h⟩ := fnK_some h
        obtain ⟨z, σ', rd, wr, ⟨e, h1, h2, h3, h4, h5⟩, h⟩ := isoK_ok hC hs h
        refine ⟨_, _, _, _, ⟨e, ?_, h2, h3, h4, h5⟩, h⟩
        simp only [evOp, hc, callOp, hf, ha, fnOf]
        exact h1
      · obtain ⟨z, σ', rd, wr, ⟨e, h1, h2, h3, h4, h5⟩, h⟩ := isoK_ok hC hs h
        refine ⟨_, _, _, _, ⟨e, ?_, h2, h3, h4, h5⟩, h⟩
        simp only [evOp, hc, callOp, hf, ha, fnOf]
        simpa using h1
      · obtain ⟨z, σ', rd, wr, ⟨e, h1, h2, h3, h4, h5⟩, h⟩ := isoK_ok hC hs h
        refine ⟨_, _, _, _, ⟨e, ?_, h2, h3, h4, h5⟩, h⟩
        simp only [evOp, hc, callOp, hf, ha, fnOf]
        simpa using h1
    · rename_i o name hc
      obtain ⟨x, hf, h⟩ := opdK_some h
      split at h <;> try (simp at h; done)
      rename_i args ha
      split at h <;> try (simp at h; done)
      · obtain ⟨t, v, rfl, h⟩ := ifK_some h
        obtain ⟨f, hm, h⟩ := bindK_some h
        obtain ⟨z, σ', rd, wr, ⟨e, h1, h2, h3, h4, h5⟩, h⟩ := isoK_ok hC hs h
        refine ⟨_, _, _, _, ⟨e, ?_, h2, h3, h4, h5⟩, h⟩
        simp only [evOp, hc, callOp, hf, ha, ifOf, hm]
        simpa using h1
      · obtain ⟨f, hm, h⟩ := bindK_some h
        obtain ⟨z, σ', rd, wr, ⟨e, h1, h2, h3, h4, h5⟩, h⟩ := isoK_ok hC hs h
        refine ⟨_, _, _, _, ⟨e, ?_, h2, h3, h4, h5⟩, h⟩
        simp only [evOp, hc, callOp, hf, ha, ifOf, hm]
        simpa using h1
  · simp at h
  · simp at h
  · obtain ⟨x, hx, h⟩ := opdK_some h
    obtain ⟨z, h1, h⟩ := assertK_ok h
    exact ⟨_, _, _, _, .pure hs rfl (by simp only [plainOp, hx, h1, someP]), h⟩
  · rename_i hp1 hp2 hp3 hp4 hp5 hp6 hp7 hp8 hp9 hp10 hp11 hp12 hp13 hp14 hp15 hp16
    refine plainK_ok hs ?_ h
    cases op <;> first | rfl | simp_all
end
end Go.Proofs.YtlcbgidfdkbfcaaGreatDoor.Sw
namespace Go.Proofs.YtlcbgidfdkbfcaaGreatDoor.Sw
section
variable {α : Type} {r : α} {P : Program} {C : CallFn} {cf : Cfg} {rec : Rec1} {n : Nat} {ops : Array Oper}
def TmEq (tm tm' : Tr AVal) : Prop := ∀ t, tm'.get t = tm.get t
theorem TmEq.operand {tm tm' : Tr AVal} (h : TmEq tm tm') (o : Operand) : operand tm' o = operand tm o := by
  cases o <;> simp only [Go.Proofs.YtlcbgidfdkbfcaaGreatDoor.Sw.operand, h _]
theorem TmEq.wanted {tm tm' : Tr AVal} (h : TmEq tm tm') (o : Oper) : wantedA ops tm' o = wantedA ops tm o := by
  simp only [wantedA, h.operand]
theorem TmEq.dst {tm tm' tm1 : Tr AVal} (h : TmEq tm tm') {d : Option Nat} {v : AVal} (hd : setDst n tm d v = some tm1) : ∃ tm1', setDst n tm' d v = some tm1' ∧ TmEq tm1 tm1' := by
  cases d with
  | none =>
    simp [setDst] at hd
    subst hd
    exact ⟨tm', rfl, h⟩
  | some d =>
    simp only [setDst] at hd ⊢
    split at hd <;> simp at hd
    subst hd
    exact ⟨_, rfl, fun t => by simp only [Tr.get_set, h t]⟩
theorem TmEq.again {tm tm' : Tr AVal} (h : TmEq tm tm') {d : Nat} {v : AVal} (hv : tm.get d = some v) : TmEq (tm.set d v) tm' := fun t => by
  rw [Tr.get_set, h t]
  split
  · rename_i e; rw [← e, hv]
  · rfl
theorem tmp_get {tm : Tr AVal} {d : Nat} {v : AVal} (h : operand tm (.tmp d) = some v) : tm.get d = some v := by
  simp only [operand] at h
  split at h <;> first | exact h | simp at h
theorem wantK_some {tm tm' : Tr AVal} {o : Oper} {K : Bool → Tr AVal → Option α} (he : TmEq tm tm') (h : wantK ops tm o K = some r) :
    ∃ w tm1, TmEq tm1 tm' ∧ wantedA ops tm' o = some w ∧ K w tm1 = some r := by
  unfold wantK at h
  split at h
  · rename_i hg
    exact ⟨true, tm, he, by simp only [wantedA, hg], h⟩
  · rename_i j want hg
    split at h <;> try (simp at h; done)
    rename_i oj hj
    split at h <;> try (simp at h; done)
    rename_i d hd
    rw [he.wanted]
    split at h <;> try (simp at h; done)
    · rename_i b hb
      rcases ifB_some h with ⟨rfl, h⟩ | ⟨rfl, h⟩
      · exact ⟨_, _, he.again (tmp_get hb), by simp only [wantedA, hg, hj, hd, hb]; cases want <;> rfl, h⟩
      · exact ⟨_, _, he.again (tmp_get hb), by simp only [wantedA, hg, hj, hd, hb]; cases want <;> rfl, h⟩
    · rename_i hb
      exact ⟨false, tm, he, by simp only [wantedA, hg, hj, hd, hb], h⟩
theorem dstK_some {tm : Tr AVal} {d : Option Nat} {v : AVal} {K : Tr AVal → Option α} (h : dstK n tm d v K = some r) : ∃ tm', setDst n tm d v = some tm' ∧ K tm' = some r := by
  unfold dstK at h
  split at h <;> try (simp at h; done)
  exact ⟨_, by assumption, h⟩
theorem sets_keeps : ∀ (wr : List (Nat × Obj)) (s : St), (s.sets wr).next = s.next
  | [], _ => rfl
  | (i, o) :: wr, s => sets_keeps wr (s.set i o)
theorem did_keeps (s : St) (rd : List Nat) (wr : List (Nat × Obj)) : (s.did rd wr).next = s.next := sets_keeps wr s
theorem opsK_ok (hC : RecOk C rec) (B : Array Nat) : ∀ {l : List Oper} {i b : Nat} {tm tmE : Tr AVal} {σ : XSt} {s : St} {recs : List (Nat × Rec)} {K : Tr AVal → XSt → List (Nat × Rec) → Option α},
    TmEq tm tmE → SE s σ b → opsK P cf rec n ops l i b tm σ recs K = some r →
    ∃ tm' tmE' σ' s' recs', TmEq tm' tmE' ∧ SE s' σ' (b + 16 * l.length) ∧ s'.next = s.next ∧ evOps C cf.imp P n ops l i b tmE s recs [] = some (.done tmE' s' recs' []) ∧
      evAny C cf.imp P n ops B l i b tmE s recs none = some (tmE', s', recs', none) ∧ K tm' σ' recs' = some r
  | [], i, b, tm, tmE, σ, s, recs, K, he, hs, h => ⟨tm, tmE, σ, s, recs, he, hs, rfl, rfl, rfl, h⟩
  | o :: l, i, b, tm, tmE, σ, s, recs, K, he, hs, h => by
    obtain ⟨w, tm1, he1, hw, h⟩ := wantK_some he (show wantK ops tm o _ = some r from h)
    have hlen : b + 16 * (o :: l).length = (b + 16) + 16 * l.length := by simp only [List.length_cons]; omega
    rw [hlen]
    split at h
    · obtain ⟨z, σ1, rd, wr, ⟨e, h1, h2, h3, h4, h5⟩, h⟩ := xop_ok hC hs h
      subst h2 h3 h4
      obtain ⟨tm2, h6, h⟩ := dstK_some (viewA_some h)
      obtain ⟨tm2', h7, h8⟩ := he1.dst h6
      obtain ⟨tm', tmE', σ', s', recs', k1, k2, k3, k4, k5, k6⟩ := opsK_ok hC B h8 h5 h
      have h1' : evOp C cf.imp P tmE s b o.op = some (.eff e) := by rw [evOp_tm (fun x _ => he1.operand x)]; exact h1
      exact ⟨tm', tmE', σ', s', recs', k1, k2, by rw [k3, did_keeps], by simp only [evOps, hw, h1', h7]; exact k4, by simp only [evAny, hw, h1', h7]; exact k5, k6⟩
    · obtain ⟨tm2, h6, h⟩ := dstK_some h
      obtain ⟨tm2', h7, h8⟩ := he1.dst h6
      obtain ⟨tm', tmE', σ', s', recs', k1, k2, k3, k4, k5, k6⟩ := opsK_ok hC B h8 (hs.same rfl (Nat.le_add_right b 16)) h
      exact ⟨tm', tmE', σ', s', recs', k1, k2, k3, by simp only [evOps, hw, h7]; exact k4, by simp only [evAny, hw, h7]; exact k5, k6⟩
theorem regionK_ok (hC : RecOk C rec) {draw : Bool} {tm tmE : Tr AVal} {σ : XSt} {s : St} {dfs : List Dfr} {K : Tr AVal → XSt → Option α} (he : TmEq tm tmE) (hs : SE s σ σ.next) (hn : s.next = σ.next)
    (h : regionK P cf rec n ops draw tm σ K = some r) :
    ∃ tm' tmE' σ' s', TmEq tm' tmE' ∧ SE s' σ' σ'.next ∧ s'.next = σ'.next ∧ evRegion C cf.imp P n false ops draw { tm := tmE, dfs } s = some (.normal, { tm := tmE', dfs }, s') ∧ K tm' σ' = some r := by
  have hs0 : SE ({ s with next := s.next + 16 * ops.size } : St) σ σ.next := hs.same rfl (Nat.le_refl _)
  obtain ⟨tm', tmE', σ', s', recs', k1, k2, k3, k4, k5, k6⟩ := opsK_ok hC (Region.before ops) he hs0 (show opsK P cf rec n ops ops.toList 0 σ.next tm σ [] _ = some r from h)
  have k3 : s'.next = s.next + 16 * ops.size := k3
  have ke : SE s' ({ σ' with next := σ.next + 16 * ops.size } : XSt) (σ.next + 16 * ops.size) := ⟨k2.get, by simpa using k2.free⟩
  rw [← hn] at k4 k5
  cases draw with
  | false => exact ⟨tm', tmE', _, s', k1, ke, by rw [k3, hn], by simp only [evRegion, k4]; rfl, k6⟩
  | true =>
    obtain ⟨hp, k6⟩ := chk_some k6
    exact ⟨tm', tmE', _, s', k1, ke, by rw [k3, hn], by simp only [evRegion, k5, hp], k6⟩
end
end Go.Proofs.YtlcbgidfdkbfcaaGreatDoor.Sw
namespace Go.Proofs.YtlcbgidfdkbfcaaGreatDoor.Sw
open Go.RowKit
section
variable {α : Type} {r : α} {P : Program} {C : CallFn} {cf : Cfg} {rec : Rec1} {n : Nat} {gl : Tr AVal}
structure XIs (gl : Tr AVal) (g0 : Sg) (w0 : World) (n : Nat) (tm : Tr AVal) (σ : XSt) (a : Act) (w : World) : Prop where
  ex : ∃ g S tmE, TmEq tm tmE ∧ SE S σ σ.next ∧ S.next = σ.next ∧ Inv g S.get w ∧ Frm g S.get w tmE a.tmps ∧ Glob gl g.imm w ∧
    g.base = g0.base ∧ Below g0.base w0 w ∧ Keeps g0.imm g.imm w0 w ∧ ∀ b o, b < g0.base → g.imm b o → g0.imm b o
  defers : a.defers = []
  size : n ≤ a.tmps.size
def XE.to : XE → Exit
  | .normal => .normal
  | .exit i => .exit i
  | .ret => .ret
theorem regionK_wp (hC : CallOk2 P gl C) (hR : RecOk C rec) (hP : Fine P) (hnb : n ≤ glBase) {N id : Nat} {Q : Exit → Act → World → Prop} {ops : Array Oper} {draw : Bool} (hst : draw = true → statOk ops = true)
    {g0 : Sg} {w0 : World} {tm : Tr AVal} {σ : XSt} {a : Act} {w : World} {K : Tr AVal → XSt → Option α} (hx : XIs gl g0 w0 n tm σ a w) (h : regionK P cf rec n ops draw tm σ K = some r)
    (hQ : ∀ tm' σ' a' w', XIs gl g0 w0 n tm' σ' a' w' → K tm' σ' = some r → Q .normal a' w') : (Code.region id ops draw).wpIn (Fw none) N P Q a w := by
  obtain ⟨⟨g, S, tmE, h1, h2, h3, h4, h5, h6, h7, h8, h9, h10⟩, hd, hz⟩ := hx
  obtain ⟨tm', tmE', σ', S', k1, k2, k3, k4, k5⟩ := regionK_ok (dfs := []) hR h1 h2 h3 h
  refine region_wp (rd := false) hC hP hnb (fun _ => rfl) hst k4 h4 h6 h5 hd hz fun e a' w' hl => ?_
  cases e <;> simp only [Left] at hl
  obtain ⟨⟨g', e1, e2, e3, e4⟩, e5⟩ := hl
  refine hQ tm' σ' a' w' ⟨⟨g', S', tmE', k1, k2, k3, e2, e3, h6.ext e1, e1.base.trans h7, h8.trans (h7 ▸ e1.below), h9.trans e1.keeps, fun b o hb hi => h10 b o hb (e1.immB b o (by rw [h7]; exact hb) hi)⟩, e4, by rw [e5]; exact hz⟩ k5
def LoopsOk (P : Program) (gl : Tr AVal) (n : Nat) (lo : Loops α) (loops : Nat → Option Code) : Prop :=
  ∀ {id : Nat} {c : Code} {g0 : Sg} {w0 : World} {tm : Tr AVal} {σ : XSt} {a : Act} {w : World} {K : XE → Tr AVal → XSt → Option α} {r : α} {N : Nat} {Q : Exit → Act → World → Prop}, loops id = some c →
    XIs gl g0 w0 n tm σ a w → lo id tm σ K = some r → (∀ x tm' σ' a' w', XIs gl g0 w0 n tm' σ' a' w' → K x tm' σ' = some r → Q x.to a' w') → (Code.block id (.loop c)).wpIn (Fw none) N P Q a w
def loopsIn (loops : Nat → Option Code) : Code → Prop
  | .seq a b => loopsIn loops a ∧ loopsIn loops b
  | .cond _ a b => loopsIn loops a ∧ loopsIn loops b
  | .block id (.loop c) => loops id = some c
  | .block _ c => loopsIn loops c
  | .scope c => loopsIn loops c
  | _ => True
theorem codeK_wp (hC : CallOk2 P gl C) (hR : RecOk C rec) (hP : Fine P) (hnb : n ≤ glBase) {lo : Loops α} {loops : Nat → Option Code} (hL : LoopsOk P gl n lo loops) {N : Nat} {g0 : Sg} {w0 : World} :
    ∀ (c : Code) {Q : Exit → Act → World → Prop} {tm : Tr AVal} {σ : XSt} {a : Act} {w : World} {K : XE → Tr AVal → XSt → Option α}, codeOk c = true → loopsIn loops c → XIs gl g0 w0 n tm σ a w →
    codeK P cf rec n lo c tm σ K = some r → (∀ x tm' σ' a' w', XIs gl g0 w0 n tm' σ' a' w' → K x tm' σ' = some r → Q x.to a' w') → c.wpIn (Fw none) N P Q a w := by
  intro c
  induction c with
  | skip => intro Q tm σ a w K _ _ hx h hQ; exact wpIn_skip (hQ .normal _ _ _ _ hx h)
  | label l => intro Q tm σ a w K _ _ hx h hQ; exact wpIn_label (hQ .normal _ _ _ _ hx h)
  | region id ops draw =>
    intro Q tm σ a w K hok _ hx h hQ
    exact regionK_wp hC hR hP hnb (fun hd => by subst hd; exact hok) hx h fun tm' σ' a' w' k1 k2 => hQ .normal _ _ _ _ k1 k2
  | seq c1 c2 ih1 ih2 =>
    intro Q tm σ a w K hok hl hx h hQ
    simp only [codeOk, Bool.and_eq_true] at hok
    refine wpIn_seq (ih1 hok.1 hl.1 hx h fun x tm' σ' a' w' k1 k2 => ?_)
    cases x with
    | normal => exact ih2 hok.2 hl.2 k1 k2 hQ
    | exit i => exact hQ (.exit i) _ _ _ _ k1 k2
    | ret => exact hQ .ret _ _ _ _ k1 k2
  | cond o c1 c2 ih1 ih2 =>
    intro Q tm σ a w K hok hl hx h hQ
    simp only [codeOk, Bool.and_eq_true] at hok
    simp only [codeK] at h
    split at h <;> try (simp at h; done)
    rename_i x hv
    obtain ⟨v, rfl, h⟩ := boolK_some h
    obtain ⟨g, S, tmE, h1, h2, h3, h4, h5, h6⟩ := hx.ex
    rw [← h1.operand] at hv
    have hev := operand_rep h5 hv
    rcases ifB_some h with ⟨rfl, h⟩ | ⟨rfl, h⟩
    · exact wpIn_cond_true hev (ih1 hok.1 hl.1 hx h hQ)
    · exact wpIn_cond_false hev (ih2 hok.2 hl.2 hx h hQ)
  | block id c ih =>
    intro Q tm σ a w K hok hl hx h hQ
    simp only [codeOk] at hok
    by_cases hloop : ∃ c', c = .loop c'
    · obtain ⟨c', rfl⟩ := hloop
      exact hL (show loops id = some c' from hl) hx h hQ
    · have hl' : loopsIn loops c := by
        cases c <;> first | exact hl | exact absurd ⟨_, rfl⟩ hloop
      have h' : codeK P cf rec n lo c tm σ (fun x tm' σ' => match x with
          | .exit i => match Nat.beq i id with
            | true => K .normal tm' σ'
            | false => K (.exit i) tm' σ'
          | x => K x tm' σ') = some r := by
        cases c <;> first | exact h | exact absurd ⟨_, rfl⟩ hloop
      refine wpIn_block (ih hok hl' hx h' fun x tm' σ' a' w' k1 k2 => ?_)
      cases x with
      | normal => exact hQ .normal _ _ _ _ k1 k2
      | ret => exact hQ .ret _ _ _ _ k1 k2
      | exit i =>
        simp only at k2
        simp only [XE.to, Exit.inBlock]
        split at k2
        · rename_i hb
          rw [if_pos (Nat.eq_of_beq_eq_true hb)]
          exact hQ .normal _ _ _ _ k1 k2
        · rename_i hb
          rw [if_neg (fun e => by subst e; rw [Nat.beq_refl] at hb; simp at hb)]
          exact hQ (.exit i) _ _ _ _ k1 k2
  | exit id => intro Q tm σ a w K _ _ hx h hQ; exact wpIn_exit (hQ (.exit id) _ _ _ _ hx h)
  | scope c ih =>
    intro Q tm σ a w K hok hl hx h hQ
    simp only [codeOk] at hok
    refine wpIn_scope (ih hok hl hx h fun x tm' σ' a' w' k1 k2 => ?_)
    cases x <;> exact hQ _ _ _ _ _ k1 k2
  | ret => intro Q tm σ a w K _ _ hx h hQ; exact wpIn_ret (hQ .ret _ _ _ _ hx h)
  | _ => intro Q tm σ a w K _ _ _ h; simp [codeK] at h
end
end Go.Proofs.YtlcbgidfdkbfcaaGreatDoor.Sw
namespace Go.Proofs.YtlcbgidfdkbfcaaGreatDoor.Sw
open Go.RowKit
section
variable {α : Type} {r : α} {P : Program} {C : CallFn} {cf : Cfg} {rec : Rec1} {n : Nat} {gl : Tr AVal}
def resultsK (P : Program) (shs : Nat → Sh) (tm : Tr AVal) (σ : XSt) : List ResultVar → (List AVal → Option α) → Option α
  | [], K => K []
  | .tmp t :: r, K => opdK tm (.tmp t) fun v => resultsK P shs tm σ r fun vs => K (v :: vs)
  | .cell a t :: r, K => opdK tm (.tmp a) fun p => loadK P shs σ t p fun v _ _ _ => resultsK P shs tm σ r fun vs => K (v :: vs)
def resultP (l : List PVal) : PVal := match l with
  | [x] => x
  | l => .tup l
inductive Fo where
  | pure
  | own
  | clip
def ownR (σ : XSt) (v : AVal) : Option AVal := match v with
  | .p .nils => some (.p .nils)
  | .arr id ep 0 len false => match σ.get id with
    | some (.arr sz xs cur lost 0) => chk (Nat.beq ep cur) (chk (Nat.ble lost ep) (chk (Nat.beq len xs.length) (some (.own sz xs))))
    | _ => none
  | _ => none
def clipR (v : AVal) : Option AVal := match v with
  | .p .nils => some (.p .nils)
  | .cl xs => some (.cl xs)
  | _ => none
def outK (o : Fo) (σ : XSt) (vs : List AVal) : Option AVal := match o, vs with
  | .pure, vs => handsK true σ vs fun ps _ => some (.p (resultP ps))
  | .own, [v] => ownR σ v
  | .clip, [v] => clipR v
  | _, _ => none
def viewArgs (shs : Nat → Sh) : List Nat → List PVal → (List PVal → Option α) → Option α
  | t :: ts, x :: xs, K => (shs t).view x fun x' => viewArgs shs ts xs fun xs' => K (x' :: xs')
  | _, xs, K => K xs
def fnX (P : Program) (cf : Cfg) (out : Fo) (rec : Rec1) (gl : Tr AVal) (lo : Nat → Loops AVal) (f : Nat) (args : List PVal) : Option AVal := match P.funcs[f]? with
  | some fn => match fn.body with
    | some c => chk (Nat.ble args.length glBase) (chk (Nat.ble fn.ntmps glBase) (viewArgs cf.shs fn.params.toList args fun args =>
      (codeK P cf rec (max args.length fn.ntmps) (lo f) c (argsTm gl 0 (args.map .p)) ⟨0, .lf⟩ fun x tm σ => match x with
        | .exit _ => none
        | _ => resultsK P cf.shs tm σ fn.results.toList fun vs => outK out σ vs)))
    | none => none
  | none => none
theorem resultsK_some {s : St} {σ : XSt} {b : Nat} {tm tmE : Tr AVal} (he : TmEq tm tmE) (hs : SE s σ b) : ∀ {l : List ResultVar} {K : List AVal → Option α}, resultsK P cf.shs tm σ l K = some r →
    ∃ vs rd, resultsA P tmE s l = some (vs, rd) ∧ K vs = some r
  | [], K, h => ⟨[], [], rfl, h⟩
  | .tmp t :: l, K, h => by
    obtain ⟨v, h1, h⟩ := opdK_some (show opdK tm (.tmp t) _ = some r from h)
    obtain ⟨vs, rd, h2, h⟩ := resultsK_some he hs h
    rw [← he.operand] at h1
    exact ⟨v :: vs, rd, by simp only [resultsA, h1, h2], h⟩
  | .cell a t :: l, K, h => by
    obtain ⟨v, h1, h⟩ := opdK_some (show opdK tm (.tmp a) _ = some r from h)
    obtain ⟨z, rd1, h3, h⟩ := loadK_ok hs h
    obtain ⟨vs, rd, h2, h⟩ := resultsK_some he hs h
    rw [← he.operand] at h1
    exact ⟨z :: vs, rd1 ++ rd, by simp only [resultsA, h1, h2, h3], h⟩
theorem one_rep {I : Nat → Nat → Prop} {w : World} {ps : List PVal} {us : List Value} (h : RepPs I w ps us) : RepP I w (resultP ps) (if h : us.toArray.size = 1 then us.toArray[0] else .tuple us.toArray) := by
  have hl := RepPs.length h
  unfold resultP
  split
  · obtain ⟨u, us', rfl, h3, h4⟩ := h
    have h4 : us' = [] := h4
    subst h4
    simpa using h3
  · rename_i hno
    have : us.length ≠ 1 := by
      rw [hl]
      intro hl
      obtain ⟨v, rfl⟩ := List.length_eq_one_iff.1 hl
      exact hno v rfl
    rw [dif_neg (by simpa using this)]
    exact ⟨us, rfl, h⟩
theorem viewArgs_some {shs : Nat → Sh} : ∀ {ts : List Nat} {xs : List PVal} {K : List PVal → Option α}, viewArgs shs ts xs K = some r → K xs = some r
  | [], _, _, h => h
  | _ :: _, [], _, h => h
  | t :: ts, x :: xs, K, h => by
    have h1 := Sh.view_some (s := shs t) (x := x) (K := fun x' => viewArgs shs ts xs fun xs' => K (x' :: xs')) h
    exact viewArgs_some (K := fun xs' => K (x :: xs')) h1
theorem immOf_nil {g : Sg} {s : Sto} {b o : Nat} (h : immOf g s [] b o) : g.imm b o := by
  rcases h with h | ⟨id, st, m, _, _, _, _, _, _, h1, _⟩ | ⟨id, cs, h1, _⟩
  · exact h
  · simp at h1
  · simp at h1
theorem came_pure {g g' : Sg} {S' : St} {w w' : World} (hi : Inv g St.empty.get w) (hk : Back g St.empty.get w [] g' S'.get w') (hkeep : Keeps g.imm g'.imm w w') (ids : List Nat) :
    Ext g St.empty.get w ⟨immOf g' S'.get ids, g.bx, g.rg, g.cb, g.base⟩ (St.empty.did [] []).get w' ∧ Inv ⟨immOf g' S'.get ids, g.bx, g.rg, g.cb, g.base⟩ (St.empty.did [] []).get w' := by
  have hnone : ∀ id, St.empty.get id = none := fun id => Tr.get_lf id
  have hempty : (St.empty.did [] []).get = St.empty.get := did_get _ _ _
  rw [hempty]
  have hbase := hi.baseS
  have hb2 := hk.base
  refine ⟨⟨hkeep.trans (.mono fun _ _ h => .inl h), fun _ _ h => h, ?_, ?_, rfl, hk.below.mono hi.baseS, ?_⟩, ⟨fun id cs z => ?_, fun id sz n xs cur lost fz z => ?_, fun b id st m z => ?_, fun id b z => ?_, fun id id' b z => ?_, fun b o z => ?_, ?_, fun id o z => ?_⟩⟩
  · rintro id ep off len capd b o cap ⟨sz, n, xs, cur, lost, fz, z1, _⟩
    rw [hnone] at z1; simp at z1
  · rintro id ep i off b o ⟨sz, n, xs, cur, lost, fz, z1, _⟩
    rw [hnone] at z1; simp at z1
  · intro b o hb hi''
    rcases hi'' with hi'' | ⟨id, st, m, _, _, _, _, _, _, _, z1, _⟩ | ⟨id, cs, _, z1, _⟩
    · exact immOf_nil (hk.old b o (Nat.lt_of_lt_of_le hb hbase) hi'')
    · have := (hk.inv.rgS _ _ _ _ z1).2.1
      omega
    · have := (hk.inv.bxS _ _ z1).1
      omega
  · rw [hnone] at z; simp at z
  · rw [hnone] at z; simp at z
  · obtain ⟨⟨_, _, _, _, _, _, z1⟩, _⟩ := hi.rgS b id st m z
    rw [hnone] at z1; simp at z1
  · obtain ⟨_, _, _, _, z1⟩ := hi.bxS id b z
    rcases z1 with ⟨_, z1⟩ | ⟨_, z1⟩ <;> (rw [hnone] at z1; simp at z1)
  · obtain ⟨_, _, _, _, z1⟩ := hi.bxS id b z
    rcases z1 with ⟨_, z1⟩ | ⟨_, z1⟩ <;> (rw [hnone] at z1; simp at z1)
  · rcases z with z | ⟨id, st, m, _, _, _, _, _, _, _, z1, _⟩ | ⟨id, cs, _, z1, _⟩
    · exact hk.inv.immS b o z
    · exact (hk.inv.rgS _ _ _ _ z1).2.2
    · exact (hk.inv.bxS _ _ z1).2.1
  · have := hk.below.size
    show g.base ≤ w'.heap.size
    omega
  · rw [hnone] at z; simp at z
theorem chkSome {β : Type} {b : Bool} {x : Option β} {y : β} (h : chk b x = some y) : b = true ∧ x = some y := chk_some h
theorem fnX_known (hC : CallOk2 P gl C) (hR : RecOk C rec) (hP : Fine P) {out : Fo} {lo : Nat → Loops AVal} {f : Nat} {args : List PVal} {v : AVal}
    (hL : ∀ fn c, P.funcs[f]? = some fn → fn.body = some c → ∃ loops, loopsIn loops c ∧ LoopsOk P gl (max args.length fn.ntmps) (lo f) loops)
    (h : fnX P cf out rec gl lo f args = some v) : Known P gl f (args.map .p) (adopt 0 v).1 (adopt 0 v).2 := by
  intro g w us hi hG hr
  have hnone : ∀ id, St.empty.get id = none := fun id => Tr.get_lf id
  unfold fnX at h
  split at h <;> try (simp at h; done)
  rename_i fn hf
  split at h <;> try (simp at h; done)
  rename_i c hb
  obtain ⟨hl1, h⟩ := chk_some h
  obtain ⟨hl2, h⟩ := chk_some h
  have hl1 := Nat.le_of_ble_eq_true hl1
  have hl2 := Nat.le_of_ble_eq_true hl2
  have h := viewArgs_some h
  obtain ⟨loops, hl3, hl4⟩ := hL fn c hf hb
  refine ⟨⟨fn, c, hf, hb⟩, callsIn_of_wp_marks hf hb trivial ?_⟩
  have hlen : us.length = args.length := by rw [RepAs.length hr]; simp
  have hn : max args.length fn.ntmps ≤ (us.toArray ++ Array.replicate (fn.ntmps - us.toArray.size) undef).size := by simp; omega
  let g0 : Sg := ⟨g.imm, fun _ => none, fun _ => none, fun _ => 0, w.heap.size⟩
  have hi0 : Inv g0 St.empty.get w := inv_empty hi.immS
  have hr0 : RepAs g0 St.empty.get w (args.map .p) us := mapP_rep (g := g0) (unP_rep (g := g) (unP_map args) hr)
  refine codeK_wp (g0 := g0) (w0 := w) hC hR hP (by omega) hl4 c (hP.code f fn c hf hb) hl3 ⟨⟨g0, St.empty, _, fun _ => rfl, ⟨fun id o ho => ?_, fun id _ => Tr.get_lf id⟩, rfl, hi0, args_frm (g := g0) hG hr0 (by simpa using hl1) _, hG, rfl, .refl _ _, .refl _ _, fun _ _ _ h => h⟩, rfl, hn⟩ h ?_
  · have : (Tr.lf : Tr XObj).get id = some o := ho
    rw [Tr.get_lf] at this
    simp at this
  · intro x' tm' σ' a' w' hx hk
    obtain ⟨⟨g1, S, tmE, h1, h2, h3, h4, h5, h6, h7, h8, h9, h10⟩, hd, _⟩ := hx
    have fin : ∀ {N : Nat}, (resultsK P cf.shs tm' σ' fn.results.toList fun vs => outK out σ' vs) = some v →
        LeavesInM Fence.wide N P fn a'.tmps (fun e w' => Came g St.empty.get w (.ret (adopt 0 v).1 (St.empty.did [] (adopt 0 v).2)) e w') a'.defers .returning w' := by
      intro N hk
      obtain ⟨vs, rd, k1, hk⟩ := resultsK_some h1 h2 hk
      refine unwind_wp (S := S) (m := none) (dfs := []) hC hP (imp := cf.imp) (k := 0) rfl h4 h6 hd h5 rfl fun g' w'' u' e1 e2 e3 e4 => ?_
      have e4 : u' = .returning := e4
      subst e4
      obtain ⟨us1, q1, q2⟩ := results_rep e2 e3 k1
      have hk1 : Back g St.empty.get w [] g' S.get w'' := ⟨e2, h8.trans (h7 ▸ e1.below), e1.base.trans h7, fun b o hb hi => .inl (h10 b o hb (e1.immB b o (by rw [h7]; exact hb) hi))⟩
      have hkeep : Keeps g.imm g'.imm w w'' := h9.trans e1.keeps
      have e5 : results fn a'.tmps = (do let vs ← fn.results.mapM (resVar a'.tmps); pure (if h : vs.size = 1 then vs[0] else .tuple vs)) := rfl
      have e6 : (results fn a'.tmps).run P w'' = .ok (if h : us1.toArray.size = 1 then us1.toArray[0] else .tuple us1.toArray) w'' := by
        rw [e5, Array.mapM_eq_mapM_toList]
        simp only [Sem.run_bind, Sem.run_map, q1, Result.andThen_ok, Sem.run_pure]
      refine ⟨_, e6, ?_⟩
      unfold outK at hk
      split at hk
      · obtain ⟨ps, ids, k2, k3, k4⟩ := handsK_some h2 hk
        simp at k4
        subst k4
        have q3 := purs_rep (fun v x ids u => pur_rep (fun _ => rfl) e2 depth v x ids u) k2 q2
        obtain ⟨z1, z2⟩ := came_pure hi hk1 hkeep ids
        exact ⟨_, z1, z2, one_rep q3⟩
      · rename_i vE
        obtain ⟨u, us', rfl, q3, q4⟩ := q2
        have q4 : us' = [] := q4
        subst q4
        unfold ownR at hk
        split at hk <;> try (simp at hk; done)
        · simp at hk
          subst hk
          obtain ⟨z1, z2⟩ := came_pure hi hk1 hkeep []
          exact ⟨_, z1, z2, q3⟩
        · rename_i id ep len
          split at hk <;> try (simp at hk; done)
          rename_i sz xs cur lost ho
          obtain ⟨k2, hk⟩ := chk_some hk
          obtain ⟨k3, hk⟩ := chk_some hk
          obtain ⟨k4, hk⟩ := chk_some hk
          simp at hk
          subst hk
          have hS : S.get id = some (.arr sz xs.length (xs.map .p) cur lost 0) := h2.get _ _ ho
          have hout : outR S (.arr id ep 0 len false) = some (.own sz xs) := by
            simp only [outR, outL, outvs, outv, hS, k2, k3, k4, Nat.beq_refl]
            rw [show purs (pur S depth) (xs.map .p) = some (xs, []) from purs_p S 11 xs]
            simp [hasDup, meets]
          obtain ⟨g3, f1, f2, f3⟩ := call_back (S := St.empty) (b := 0) (fun _ => rfl) hi (fun _ => rfl) hk1 q3 hout rfl rfl (.inr (by simp))
          have hget : (St.empty.did [] (adopt 0 (.own sz xs)).2).get = upds St.empty.get ((match flatA (adopt 0 (.own sz xs)).1 with | true => [] | false => freeze St.empty []) ++ (adopt 0 (.own sz xs)).2) := by
            rw [did_get]; rfl
          exact ⟨g3, by rw [hget]; exact f1, by rw [hget]; exact f2, by rw [hget]; exact f3⟩
      · rename_i vE
        obtain ⟨u, us', rfl, q3, q4⟩ := q2
        have q4 : us' = [] := q4
        subst q4
        unfold clipR at hk
        split at hk <;> simp at hk
        · subst hk
          obtain ⟨z1, z2⟩ := came_pure hi hk1 hkeep []
          exact ⟨_, z1, z2, q3⟩
        · rename_i xs
          subst hk
          obtain ⟨z1, z2⟩ := came_pure hi hk1 hkeep []
          obtain ⟨b, o, sz, vs, e7, e8, e9, e10⟩ := q3
          exact ⟨_, z1, z2, b, o, sz, vs, e7, RepPs.keeps (.mono fun _ _ h => .inl h) _ _ e8, e9, e10.mono fun _ _ h => .inl h⟩
      · simp at hk
    cases x' with
    | normal => exact fin hk
    | ret => exact fin hk
    | exit i => simp at hk
end
end Go.Proofs.YtlcbgidfdkbfcaaGreatDoor.Sw
namespace Go.Proofs.YtlcbgidfdkbfcaaGreatDoor.Sw
open Go.RowKit
section
variable {P : Program} {gl : Tr AVal} {cf : Cfg}
def goodV (v : AVal) : Bool := match v with
  | .p _ => true
  | .own _ _ => true
  | .cl _ => true
  | _ => false
def memoX (rec : Rec1) : Memo := fun f args => match unP args with
  | some ps => match rec f ps with
    | some v => some (.ret (adopt 0 v).1 (St.empty.did [] (adopt 0 v).2))
    | none => none
  | none => none
def RecKnown (P : Program) (gl : Tr AVal) (rec : Rec1) : Prop := ∀ f ps v, rec f ps = some v → goodV v = true ∧ Known P gl f (ps.map .p) (adopt 0 v).1 (adopt 0 v).2
theorem unP_some : ∀ {l : List AVal} {ps : List PVal}, unP l = some ps → l = ps.map .p
  | [], ps, h => by simp [unP] at h; subst h; rfl
  | .p x :: l, ps, h => by
    simp only [unP] at h
    split at h <;> simp at h
    rename_i xs hx
    subst h
    rw [unP_some hx]; rfl
  | .agg _ :: _, _, h | .tup _ :: _, _, h | .iface _ _ :: _, _, h | .cl _ :: _, _, h | .own _ _ :: _, _, h | .ownm _ :: _, _, h | .box _ _ :: _, _, h | .arr _ _ _ _ _ :: _, _, h
  | .el _ _ _ _ :: _, _, h | .fn _ _ :: _, _, h | .fnb _ _ :: _, _, h | .rf _ _ :: _, _, h | .junk :: _, _, h => by simp [unP] at h
theorem ble_self (n : Nat) : Nat.ble n n = true := Nat.ble_eq_true_of_le (Nat.le_refl n)
theorem memoX_ok {rec : Rec1} (h : RecKnown P gl rec) : MemoOk P gl (memoX rec) := fun f args r hm => by
  unfold memoX at hm
  split at hm <;> try (simp at hm; done)
  rename_i ps hp
  split at hm <;> simp at hm
  rename_i v hv
  rw [unP_some hp]
  exact ⟨_, _, hm.symm, (h f ps v hv).2⟩
theorem outR_own (sz : Nat) (xs : List PVal) : outR (St.empty.did [] (adopt 0 (.own sz xs)).2) (adopt 0 (.own sz xs)).1 = some (.own sz xs) := by
  have hg : (St.empty.did [] [(0, Obj.arr sz xs.length (xs.map .p) 0 0 0)]).get 0 = some (.arr sz xs.length (xs.map .p) 0 0 0) := by
    rw [did_get]; rfl
  simp only [adopt, adopt1]
  simp only [outR, outL, outvs, outv, hg, Nat.beq_refl, ble_self]
  rw [show purs (pur (St.empty.did [] [(0, Obj.arr sz xs.length (xs.map .p) 0 0 0)]) depth) (xs.map .p) = some (xs, []) from purs_p _ 11 xs]
  simp [hasDup, meets]
theorem recOk {rec : Rec1} (h : RecKnown P gl rec) (imp : Nat → Bool) (k n : Nat) : RecOk (evCall (memoX rec) gl imp P k (n + 1)) rec := fun f ps v hv => by
  refine ⟨(adopt 0 v).1, St.empty.did [] (adopt 0 v).2, by simp [evCall, memoX, unP_map, hv], ?_⟩
  have hg := (h f ps v hv).1
  cases v <;> simp [goodV] at hg
  · exact .inl ⟨rfl, rfl⟩
  · exact .inr ⟨_, rfl, rfl⟩
  · exact .inl ⟨outR_own _ _, rfl⟩
def purV (v : AVal) : AVal := match v with
  | .own _ xs => .p (.sl xs)
  | .cl xs => .p (.sl xs)
  | v => v
def recP (m : Nat → Bool) (rec : Rec1) : Rec1 := fun f ps => match rec f ps with
  | some v => some (match m f with | true => v | false => purV v)
  | none => none
theorem known_pure {f : Nat} {args : List AVal} {sz : Nat} {xs : List PVal} (h : Known P gl f args (adopt 0 (.own sz xs)).1 (adopt 0 (.own sz xs)).2) : Known P gl f args (.p (.sl xs)) [] := fun g w us hi hG hr => by
  obtain ⟨h1, h2⟩ := h g w us hi hG hr
  refine ⟨h1, CallsIn.mono h2 fun e w' hc => ?_⟩
  cases e with
  | panicked _ => exact hc.elim
  | outgrown => exact hc.elim
  | returned u =>
    obtain ⟨g', e1, e2, e3⟩ := hc
    have hS : (St.empty.did [] (adopt 0 (.own sz xs)).2).get 0 = some (.arr sz xs.length (xs.map .p) 0 0 0) := by
      show (St.empty.did [] [(0, Obj.arr sz xs.length (xs.map .p) 0 0 0)]).get 0 = _
      rw [did_get]; rfl
    have hp : pur (St.empty.did [] (adopt 0 (.own sz xs)).2) depth (adopt 0 (.own sz xs)).1 = some (.sl xs, [0]) := by
      show (match viewed (St.empty.did [] (adopt 0 (.own sz xs)).2) 0 0 0 xs.length with | some zs => (purs (pur (St.empty.did [] (adopt 0 (.own sz xs)).2) 11) zs).map fun (ys, a) => (PVal.sl ys, 0 :: a) | none => none) = _
      have hv : viewed (St.empty.did [] (adopt 0 (.own sz xs)).2) 0 0 0 xs.length = some (xs.map .p) := by
        simp only [viewed, hS, Nat.zero_add, ble_self]
        simp
        rw [← List.length_map (f := AVal.p), List.take_length]
      rw [hv]
      simp only
      rw [purs_p]; rfl
    have q := pur_rep (fun _ => rfl) e2 _ _ _ _ _ hp e3
    have hnone : ∀ id, St.empty.get id = none := fun id => Tr.get_lf id
    have hempty : (St.empty.did [] []).get = St.empty.get := did_get _ _ _
    have hb1 := e1.base
    refine ⟨⟨immOf g' _ [0], g.bx, g.rg, g.cb, g.base⟩, ?_, ?_, q⟩
    · rw [hempty]
      refine ⟨e1.keeps.trans (.mono fun _ _ h => .inl h), fun _ _ h => h, ?_, ?_, rfl, e1.below, ?_⟩
      · rintro id ep off len capd b o cap ⟨sz, n, xs, cur, lost, fz, z1, _⟩
        rw [hnone] at z1; simp at z1
      · rintro id ep i off b o ⟨sz, n, xs, cur, lost, fz, z1, _⟩
        rw [hnone] at z1; simp at z1
      · intro b o hb hi''
        rcases hi'' with hi'' | ⟨id, st, m, _, _, _, _, _, _, _, z1, _⟩ | ⟨id, cs, _, z1, _⟩
        · exact e1.immB b o hb hi''
        · have := (e2.rgS _ _ _ _ z1).2.1
          omega
        · have := (e2.bxS _ _ z1).1
          omega
    · rw [hempty]
      refine ⟨fun id cs z => ?_, fun id sz n xs cur lost fz z => ?_, fun b id st m z => ?_, fun id b z => ?_, fun id id' b z => ?_, fun b o z => ?_, ?_, fun id o z => ?_⟩
      · rw [hnone] at z; simp at z
      · rw [hnone] at z; simp at z
      · obtain ⟨⟨_, _, _, _, _, _, z1⟩, _⟩ := hi.rgS b id st m z
        rw [hnone] at z1; simp at z1
      · obtain ⟨_, _, _, _, z1⟩ := hi.bxS id b z
        rcases z1 with ⟨_, z1⟩ | ⟨_, z1⟩ <;> (rw [hnone] at z1; simp at z1)
      · obtain ⟨_, _, _, _, z1⟩ := hi.bxS id b z
        rcases z1 with ⟨_, z1⟩ | ⟨_, z1⟩ <;> (rw [hnone] at z1; simp at z1)
      · rcases z with z | ⟨id, st, m, _, _, _, _, _, _, _, z1, _⟩ | ⟨id, cs, _, z1, _⟩
        · exact e2.immS b o z
        · exact (e2.rgS _ _ _ _ z1).2.2
        · exact (e2.bxS _ _ z1).2.1
      · have := e2.baseS
        show g.base ≤ w'.heap.size
        omega
      · rw [hnone] at z; simp at z
theorem known_clip {f : Nat} {args : List AVal} {xs : List PVal} (h : Known P gl f args (.cl xs) []) : Known P gl f args (.p (.sl xs)) [] := fun g w us hi hG hr => by
  obtain ⟨h1, h2⟩ := h g w us hi hG hr
  refine ⟨h1, CallsIn.mono h2 fun e w' hc => ?_⟩
  cases e with
  | panicked _ => exact hc.elim
  | outgrown => exact hc.elim
  | returned u =>
    obtain ⟨g', e1, e2, b, o, sz, vs, e3, e4, e5, e6⟩ := hc
    exact ⟨g', e1, e2, b, o, xs.length, sz, vs, e3, Nat.le_refl _, e4, e5, e6⟩
theorem recP_known {rec : Rec1} (h : RecKnown P gl rec) (m : Nat → Bool) : RecKnown P gl (recP m rec) := fun f ps v hv => by
  unfold recP at hv
  split at hv <;> simp at hv
  rename_i x hx
  obtain ⟨h1, h2⟩ := h f ps x hx
  subst hv
  cases m f with
  | true => exact ⟨h1, h2⟩
  | false =>
    cases x <;> simp [goodV] at h1
    · exact ⟨rfl, h2⟩
    · exact ⟨rfl, known_clip h2⟩
    · exact ⟨rfl, known_pure h2⟩
theorem outK_good {o : Fo} {σ : XSt} {vs : List AVal} {v : AVal} (h : outK o σ vs = some v) {s : St} {b : Nat} (hs : SE s σ b) : goodV v = true := by
  unfold outK at h
  split at h
  · obtain ⟨ps, ids, _, _, h⟩ := handsK_some hs h
    simp at h
    rw [← h]; rfl
  · unfold ownR at h
    split at h <;> try (simp at h; done)
    · simp at h; rw [← h]; rfl
    · split at h <;> try (simp at h; done)
      obtain ⟨_, h⟩ := chk_some h
      obtain ⟨_, h⟩ := chk_some h
      obtain ⟨_, h⟩ := chk_some h
      simp at h; rw [← h]; rfl
  · unfold clipR at h
    split at h <;> simp at h <;> (rw [← h]; rfl)
  · simp at h
theorem fnX_step (hP : Fine P) {rec : Rec1} (h : RecKnown P gl rec) {out : Fo} {lo : Nat → Loops AVal} {f : Nat} {args : List PVal} {v : AVal} (hg : goodV v = true)
    (hL : ∀ fn c, P.funcs[f]? = some fn → fn.body = some c → ∃ loops, loopsIn loops c ∧ LoopsOk P gl (max args.length fn.ntmps) (lo f) loops)
    (hx : fnX P cf out rec gl lo f args = some v) : goodV v = true ∧ Known P gl f (args.map .p) (adopt 0 v).1 (adopt 0 v).2 :=
  ⟨hg, fnX_known (C := evCall (memoX rec) gl cf.imp P 0 1) (evCall_ok (memoX_ok h) hP 1) (recOk h cf.imp 0 0) hP hL hx⟩
end
end Go.Proofs.YtlcbgidfdkbfcaaGreatDoor.Sw

