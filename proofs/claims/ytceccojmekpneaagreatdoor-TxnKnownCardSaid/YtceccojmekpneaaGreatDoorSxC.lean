/- Regions: in the order of the text. -/
import Derived.Test.YtceccojmekpneaaGreatDoorSxB
import Derived.OrdersIn
namespace Go.Proofs.YtceccojmekpneaaGreatDoor.Sw
open Go.RowKit

section
variable {C : CallFn} {imp : Nat → Bool} {P : Program} {n : Nat} {ops : Array Oper} {g : Sg} {s : Sto} {w : World} {tm : Tr AVal}

theorem Frm.congr {tm' : Tr AVal} {tmps : Array Value} (h : Frm g s w tm tmps) (he : ∀ t, tm'.get t = tm.get t) : Frm g s w tm' tmps := fun t x ht => h t x (by rw [← he]; exact ht)

theorem Frm.put {a : Act} (h : Frm g s w tm a.tmps) {x : AVal} {u : Value} (hx : RepA g s w x u) {dst : Option Tmp} (hd : ∀ d, dst = some d → d < a.tmps.size ∧ d < glBase) :
    Frm g s w (putD tm dst x) (a.put dst u).tmps := by
  intro t y ht
  rw [putD_get] at ht
  cases dst with
  | none => simp at ht; exact h t y ht
  | some d =>
    obtain ⟨hlt, hlb⟩ := hd d rfl
    simp only [Act.put]
    by_cases hdt : d = t
    · subst hdt
      simp at ht
      subst ht
      exact ⟨u, by simp [slot, hlt, hlb], hx⟩
    · simp [hdt] at ht
      obtain ⟨v, h1, h2⟩ := h t y ht
      refine ⟨v, ?_, h2⟩
      unfold slot at h1 ⊢
      split
      · rename_i hb
        rw [if_pos hb] at h1
        rw [Array.getElem?_setIfInBounds_ne hdt]; exact h1
      · rename_i hb
        rw [if_neg hb] at h1
        exact h1

@[simp] theorem put_defers (a : Act) (dst : Option Tmp) (u : Value) : (a.put dst u).defers = a.defers := by cases dst <;> rfl
@[simp] theorem put_size (a : Act) (dst : Option Tmp) (u : Value) : (a.put dst u).tmps.size = a.tmps.size := by cases dst <;> simp [Act.put]

theorem rep_undef : RepA g s w (.p (.tup [])) undef := ⟨[], rfl, rfl⟩

theorem operand_tmp {d : Tmp} {x : AVal} (h : operand tm (.tmp d) = some x) : tm.get d = some x ∧ d < glBase := by
  simp only [operand] at h
  split at h <;> try (simp at h; done)
  rename_i hb
  have hb : Nat.ble (d + 1) glBase = true := hb
  exact ⟨h, Nat.le_of_ble_eq_true hb⟩

theorem wantedA_rep {a : Act} (hf : Frm g s w tm a.tmps) {o : Oper} {b : Bool} (h : wantedA ops tm o = some b) : Region.wanted o (yielded ops a.tmps) = b := by
  unfold wantedA at h
  unfold Region.wanted
  split at h
  · rename_i hg
    simp at h
    subst h
    simp [hg]
  · rename_i j want hg
    simp only [hg]
    split at h <;> try (simp at h; done)
    rename_i oj hoj
    split at h <;> try (simp at h; done)
    rename_i d hd
    split at h <;> simp at h
    · rename_i c hc
      obtain ⟨hc, hlt⟩ := operand_tmp hc
      obtain ⟨v, h1, h2⟩ := hf d _ hc
      simp only [slot, hlt, if_true] at h1
      have e1 : v = .bool c := h2
      subst e1
      have : yielded ops a.tmps j = some c := by simp [yielded, hoj, hd, h1]
      rw [this, ← h]
      rfl
    · rename_i hc
      obtain ⟨hc, hlt⟩ := operand_tmp hc
      obtain ⟨v, h1, vs, e1, e2⟩ := hf d _ hc
      simp only [slot, hlt, if_true] at h1
      have e2 : vs = [] := e2
      subst e2
      subst e1
      have : yielded ops a.tmps j = none := by simp [yielded, hoj, hd, h1]
      rw [this, h]
      rfl

/-- what was put off, and what the model has of it. -/
def RepD (g : Sg) (s : Sto) (w : World) : List Dfr → List Deferred → Prop
  | [], l => l = []
  | .mark id :: r, l => ∃ b t, l = { target := .collected b, args := #[] } :: t ∧ g.bx id = some b ∧ RepD g s w r t
  | .call f cap :: r, l => ∃ (vs : List Value) (t : List Deferred), l = { target := .fn (.func f) vs.toArray, args := #[] } :: t ∧ RepAs g s w cap vs ∧ RepD g s w r t

theorem RepD.ext {g' : Sg} {s' : Sto} {w' : World} (he : Ext g s w g' s' w') : ∀ {l : List Dfr} {ds : List Deferred}, RepD g s w l ds → RepD g' s' w' l ds
  | [], _, h => h
  | .mark id :: r, _, h => by
    obtain ⟨b, t, rfl, h1, h2⟩ := h
    exact ⟨b, t, rfl, he.bx _ _ h1, RepD.ext he h2⟩
  | .call f cap :: r, _, h => by
    obtain ⟨vs, t, rfl, h1, h2⟩ := h
    exact ⟨vs, t, rfl, RepAs.ext he _ _ h1, RepD.ext he h2⟩

/-- what is so after some code. -/
structure Here (g : Sg) (s : Sto) (w : World) (a : Act) (tm' : Tr AVal) (dfs' : List Dfr) (s' : Sto) (a' : Act) (w' : World) : Prop where
  ex : ∃ g', Ext g s w g' s' w' ∧ Inv g' s' w' ∧ Frm g' s' w' tm' a'.tmps ∧ RepD g' s' w' dfs' a'.defers
  size : a'.tmps.size = a.tmps.size

/-- what is so after a panic. -/
structure HerePan (g : Sg) (s : Sto) (w : World) (a : Act) (v : AVal) (tm' : Tr AVal) (dfs' : List Dfr) (s' : Sto) (chain : List PanicEntry) (a' : Act) (w' : World) : Prop where
  ex : ∃ g' u, chain = [{ v := u, recovered := false }] ∧ Ext g s w g' s' w' ∧ Inv g' s' w' ∧ RepA g' s' w' v u ∧ Frm g' s' w' tm' a'.tmps ∧ RepD g' s' w' dfs' a'.defers
  size : a'.tmps.size = a.tmps.size

theorem Here.refl {g : Sg} {s : Sto} {w : World} {a : Act} {tm : Tr AVal} {dfs : List Dfr} (hi : Inv g s w) (hf : Frm g s w tm a.tmps) (hd : RepD g s w dfs a.defers) : Here g s w a tm dfs s a w :=
  ⟨⟨g, .refl _ _ _, hi, hf, hd⟩, rfl⟩

theorem Here.then {g g1 : Sg} {s s1 s2 : Sto} {w w1 w2 : World} {a a1 a2 : Act} {tm2 : Tr AVal} {d2 : List Dfr} (e : Ext g s w g1 s1 w1) (hz : a1.tmps.size = a.tmps.size)
    (h : Here g1 s1 w1 a1 tm2 d2 s2 a2 w2) : Here g s w a tm2 d2 s2 a2 w2 := by
  obtain ⟨⟨g2, f1, f2⟩, f3⟩ := h
  exact ⟨⟨g2, e.trans f1, f2⟩, f3.trans hz⟩

theorem HerePan.then {g g1 : Sg} {s s1 s2 : Sto} {w w1 w2 : World} {a a1 a2 : Act} {v : AVal} {tm2 : Tr AVal} {d2 : List Dfr} {chain : List PanicEntry} (e : Ext g s w g1 s1 w1) (hz : a1.tmps.size = a.tmps.size)
    (h : HerePan g1 s1 w1 a1 v tm2 d2 s2 chain a2 w2) : HerePan g s w a v tm2 d2 s2 chain a2 w2 := by
  obtain ⟨⟨g2, u, f0, f1, f2⟩, f3⟩ := h
  exact ⟨⟨g2, u, f0, e.trans f1, f2⟩, f3.trans hz⟩

theorem ops_wp {ro : Option Nat} {gl : Tr AVal} (hC : CallOk2 P gl C) (hN : NoOwn P) (hnb : n ≤ glBase) {dfs : List Dfr} {N : Nat} {Q : Exit → Act → World → Prop} :
    ∀ {l : List Oper} {i b : Nat} {tm : Tr AVal} {S : St} {recs : List (Nat × Rec)} {ds : List Dfr} {ro' : RO} {g : Sg} {w : World} {a : Act},
    evOps C imp P n ops l i b tm S recs ds = some ro' → (ro = none ∨ (match ro' with | .done _ _ _ ds' => ds' = [] | .pan _ _ _ ds' => ds' = [])) → l = ops.toList.drop i → i ≤ ops.size → Inv g S.get w → Glob gl g.imm w →
    Frm g S.get w tm a.tmps → RepD g S.get w (ds ++ dfs) a.defers → n ≤ a.tmps.size →
    (∀ a' w', (match ro' with
      | .done tm' S' _ ds' => Here g S.get w a tm' (ds' ++ dfs) S'.get a' w' → Q .normal a' w'
      | .pan v tm' S' ds' => ∀ chain, HerePan g S.get w a v tm' (ds' ++ dfs) S'.get chain a' w' → Q (.panic chain) a' w')) →
    wpOpsIn (Fw ro) N P ops Q (List.range' i (ops.size - i)) a w
  | [], i, b, tm, S, recs, ds, ro', g, w, a, h, hro, hl, hi, hinv, hG, hf, hD, hn, hQ => by
    simp [evOps] at h
    subst h
    have : ops.size - i = 0 := by
      have := congrArg List.length hl
      simp at this
      omega
    rw [this]
    exact hQ a w (.refl hinv hf hD)
  | o :: l, i, b, tm, S, recs, ds, ro', g, w, a, h, hro, hl, hi, hinv, hG, hf, hD, hn, hQ => by
    have hlen : i < ops.size := by
      have := congrArg List.length hl
      simp at this
      omega
    have ho : ops[i]? = some o := by
      have : (ops.toList.drop i)[0]? = some o := by rw [← hl]; simp
      simpa using this
    have hl' : l = ops.toList.drop (i + 1) := by
      have : (ops.toList.drop i).drop 1 = l := by rw [← hl]; simp
      rw [← this, List.drop_drop]
    have er : List.range' i (ops.size - i) = i :: List.range' (i + 1) (ops.size - (i + 1)) := by
      rw [show ops.size - i = (ops.size - (i + 1)) + 1 by omega, List.range'_succ]
    rw [er, wpOpsIn_cons]
    unfold wpOpIn
    rw [ho]
    simp only
    -- what comes after
    have next : ∀ {x : AVal} {S1 : St} {tm1 : Tr AVal} {recs1 : List (Nat × Rec)} {ds1 : List Dfr} {u : Value} {g1 : Sg} {w1 : World} {a1 : Act}, tm1 = putD tm o.dst x → (∀ d, o.dst = some d → d < n) →
        Ext g S.get w g1 S1.get w1 → Inv g1 S1.get w1 → RepA g1 S1.get w1 x u → a1.tmps = a.tmps → RepD g1 S1.get w1 (ds1 ++ dfs) a1.defers →
        evOps C imp P n ops l (i + 1) (b + 16) tm1 S1 recs1 ds1 = some ro' →
        wpOpsIn (Fw ro) N P ops Q (List.range' (i + 1) (ops.size - (i + 1))) (a1.put o.dst u) w1 := by
      intro x S1 tm1 recs1 ds1 u g1 w1 a1 htm hd e1 e2 e3 hat hD1 h
      subst htm
      refine ops_wp hC hN hnb h hro hl' (by omega) e2 (hG.ext e1) (Frm.put (a := a1) (by rw [hat]; exact hf.ext e1) e3 (fun d hd' => ⟨by rw [hat]; exact Nat.lt_of_lt_of_le (hd d hd') hn, Nat.lt_of_lt_of_le (hd d hd') hnb⟩))
        (by simpa using hD1) (by simpa [hat] using hn) ?_
      intro a' w'
      have := hQ a' w'
      cases ro' with
      | done tm' S' r ds' =>
        simp only at this ⊢
        intro hh
        exact this (Here.then e1 (by simp [hat]) hh)
      | pan v t S' ds' =>
        simp only at this ⊢
        intro chain hh
        exact this chain (HerePan.then e1 (by simp [hat]) hh)
    simp only [evOps] at h
    split at h
    · rename_i hw
      rw [wantedA_rep hf hw]
      simp only [if_true]
      split at h
      · rename_i e he
        split at h <;> try (simp at h; done)
        rename_i tm1 ht
        obtain ⟨h1, h2⟩ := setDst_spec ht
        refine evOp_wp hC.toCallOk hN hinv hG hf he ?_
        intro u g' w' e1 e2 e3
        have hs : upds S.get e.wr = (S.did e.rd e.wr).get := (did_get _ _ _).symm
        rw [hs] at e1 e2 e3
        exact next (S1 := S.did e.rd e.wr) h1 h2 e1 e2 e3 rfl (hD.ext e1) h
      · rename_i v s' he
        split at h <;> try (simp at h; done)
        rename_i tm1 ht
        obtain ⟨h1, h2⟩ := setDst_spec ht
        refine evOp_wp hC.toCallOk hN hinv hG hf he ?_
        intro u g' w' e1 e2 e3
        exact next (S1 := { s' with log := .call s'.log S.log }) h1 h2 e1 e2 e3 rfl (hD.ext e1) h
      · rename_i v s' he
        simp at h
        subst h
        refine evOp_wp hC.toCallOk hN hinv hG hf he ?_
        intro u g' w' e1 e2 e3
        exact hQ a w' _ ⟨⟨g', u, rfl, e1, e2, e3, hf.ext e1, hD.ext e1⟩, rfl⟩
      · rename_i f cap he
        split at h <;> try (simp at h; done)
        rename_i tm1 ht
        obtain ⟨h1, h2⟩ := setDst_spec ht
        have hrn : ro = none := by
          rcases hro with hro | hro
          · exact hro
          · exfalso
            cases ro' with
            | done _ _ _ ds' => simp only at hro; subst hro; exact evOps_ds h (by simp)
            | pan _ _ _ ds' => simp only at hro; subst hro; exact evOps_dsp h (by simp)
        subst hrn
        refine defer_wp hf he ?_
        intro vs hvs
        exact next (ds1 := .call f cap :: ds) (a1 := { a with defers := { target := .fn (.func f) vs.toArray, args := #[] } :: a.defers }) h1 h2 (.refl _ _ _) hinv rep_undef rfl ⟨vs, a.defers, rfl, hvs, hD⟩ h
      · simp at h
    · rename_i hw
      rw [wantedA_rep hf hw]
      simp only [Bool.false_eq_true, if_false]
      split at h <;> try (simp at h; done)
      rename_i tm1 ht
      obtain ⟨h1, h2⟩ := setDst_spec ht
      exact ⟨fun _ _ => trivial, next h1 h2 (.refl _ _ _) hinv rep_undef rfl hD h⟩
    · simp at h

end
end Go.Proofs.YtceccojmekpneaaGreatDoor.Sw
