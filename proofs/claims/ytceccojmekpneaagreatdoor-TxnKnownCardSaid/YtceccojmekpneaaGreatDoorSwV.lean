/- Calls: what is promised of them, and what comes of one. -/
import Derived.Test.YtceccojmekpneaaGreatDoorSwU
namespace Go.Proofs.YtceccojmekpneaaGreatDoor.Sw
open Go.RowKit

section
variable {P : Program} {g g' : Sg} {s s' : Sto} {w w' : World}

theorem PartsOk.block {I : Nat → Nat → Prop} : ∀ {xs : List AVal} {ow : List Nat} {us : List Value}, PartsOk I g w xs ow us → ∀ id ∈ ow, (∃ st m, g.rg (g.cb id) = some (id, st, m)) ∨ ∃ b, g.bx id = some b
  | [], ow, us, h => by rw [h.1]; simp
  | x :: xs, ow, us, h => by
    obtain ⟨ow1, ow2, u, us', rfl, rfl, h1, h2⟩ := h
    intro id hid
    simp only [List.mem_append] at hid
    rcases hid with hid | hid
    · cases x with
      | p x => rw [h1.1] at hid; simp at hid
      | own sz ys =>
        obtain ⟨id', st, cap, c, t, vs, rfl, _, _, k4, _⟩ := h1
        simp at hid
        subst hid
        exact .inl ⟨_, _, k4⟩
      | ownm es =>
        obtain ⟨id', b, ents, clock, rfl, _, k3, _⟩ := h1
        simp at hid
        subst hid
        exact .inr ⟨_, k3⟩
      | _ => exact h1.elim
    · exact PartsOk.block h2 id hid

theorem upds_append (s : Sto) (l m : List (Nat × Obj)) : upds s (l ++ m) = upds (upds s l) m := by simp [upds]

/-- what is in the store is one of: as it was; frozen. -/
theorem Frozen.none {s s' : Sto} {ids : List Nat} (h : Frozen s s' ids) {id : Nat} (hn : s id = none) : s' id = none := by
  rcases h.1 id with h | ⟨_, _, _, _, _, _, h1, _⟩
  · rw [h, hn]
  · rw [hn] at h1; simp at h1

/-- the memory after a call that was made in a store of its own, and its result there. -/
structure Back (g : Sg) (s : Sto) (w : World) (ids : List Nat) (g2 : Sg) (s2 : Sto) (w2 : World) : Prop where
  inv : Inv g2 s2 w2
  below : Below w.heap.size w w2
  base : g2.base = w.heap.size
  old : ∀ b o, b < w.heap.size → g2.imm b o → immOf g s ids b o

theorem Back.imm_old {ids rd : List Nat} {g2 : Sg} {s2 : Sto} {w2 : World} (h : Back g s w ids g2 s2 w2) {b o : Nat} (hb : b < w.heap.size) (hi : immOf g2 s2 rd b o) : immOf g s ids b o := by
  rcases hi with hi | ⟨id, st, m, sz, n, xs, cur, lost, fz, h1, h2, _⟩
  · exact h.old b o hb hi
  · have := (h.inv.rgS _ _ _ _ h2).2.1
    rw [h.base] at this
    omega

theorem Back.imm_lt {ids rd : List Nat} {g2 : Sg} {s2 : Sto} {w2 : World} (h : Back g s w ids g2 s2 w2) {b o : Nat} (hi : immOf g2 s2 rd b o) : b < w2.heap.size := by
  rcases hi with hi | ⟨id, st, m, sz, n, xs, cur, lost, fz, h1, h2, _⟩
  · exact h.inv.immS b o hi
  · exact (h.inv.rgS _ _ _ _ h2).2.2

/-- with what was looked at left as it is, whatever stays in the call stays. -/
theorem Back.frozen {S : St} (hs : ∀ id, s id = S.get id) (hi : Inv g s w) {ids : List Nat} (rd : List Nat) {g2 : Sg} {s2 : Sto} {w2 : World} (h : Back g s w ids g2 s2 w2) :
    Ext g s w { g with imm := fun b o => g.imm b o ∨ immOf g2 s2 rd b o } (upds s (freeze S ids)) w2 ∧
    Inv { g with imm := fun b o => g.imm b o ∨ immOf g2 s2 rd b o } (upds s (freeze S ids)) w2 ∧ Frozen s (upds s (freeze S ids)) ids := by
  obtain ⟨e1, e2, e3⟩ := freeze_all (s₀ := s) hs ids (l := []) hi ⟨fun _ => .inl rfl, by simp⟩
  simp only [List.nil_append] at e3
  obtain ⟨f1, f2⟩ := e2.past h.below (I := immOf g2 s2 rd) (fun b o => h.imm_lt) (fun b o hb hlt => by
    rcases h.imm_old hlt hb with hb | ⟨id, st, m, sz, n, xs, cur, lost, fz, h1, h2, h3, h4⟩
    · exact .inl hb
    · exact .inr ⟨id, st, m, sz, n, xs, cur, lost, h2, e3.2 id h1 _ _ _ _ _ _ h3, h4⟩)
  exact ⟨e1.trans f1, f2, e3⟩

theorem call_back {S S2 : St} (hs : ∀ id, s id = S.get id) (hi : Inv g s w) {ids : List Nat} {g2 : Sg} {s2 : Sto} {w2 : World} (hs2 : ∀ id, s2 id = S2.get id) (hk : Back g s w ids g2 s2 w2)
    {v v1 v' : AVal} {u : Value} (hr : RepA g2 s2 w2 v u) (ho : outR S2 v = some v1) {b : Nat} {wr : List (Nat × Obj)} (ha : adopt b v1 = (v', wr)) (hfree : allFree S wr = true) :
    ∃ g', Ext g s w g' (upds s ((match flatA v' with | true => [] | false => freeze S ids) ++ wr)) w2 ∧
      Inv g' (upds s ((match flatA v' with | true => [] | false => freeze S ids) ++ wr)) w2 ∧
      RepA g' (upds s ((match flatA v' with | true => [] | false => freeze S ids) ++ wr)) w2 v' u := by
  have parts : ∀ {xs : List AVal} {rd ow : List Nat} {us : List Value} (b : Nat), PartsOk (immOf g2 s2 rd) g2 w2 xs ow us → hasDup ow = false → meets ow rd = false →
      (∀ q ∈ (adopts b xs).2, s q.1 = none) →
      ∃ g', Ext g s w g' (upds s (freeze S ids ++ (adopts b xs).2)) w2 ∧ Inv g' (upds s (freeze S ids ++ (adopts b xs).2)) w2 ∧
        RepAs g' (upds s (freeze S ids ++ (adopts b xs).2)) w2 (adopts b xs).1 us := by
    intro xs rd ow us b hp hd hm hn
    obtain ⟨e1, e2, e3⟩ := hk.frozen hs hi rd
    have hrd := meets_not hm
    obtain ⟨g', f1, f2, f3⟩ := adopts_rep (g2 := g2) b hp e2 (fun b o h => .inr h) (fun id hid blk st m hrg => by
        obtain ⟨_, q1, q2⟩ := hk.inv.rgS _ _ _ _ hrg
        rw [hk.base] at q1
        refine ⟨Nat.le_trans hi.baseS q1, ?_, fun i hb => ?_⟩
        · show g.rg blk = none
          cases hq : g.rg blk with
          | none => rfl
          | some r => obtain ⟨a, b, c⟩ := r; have := (hi.rgS _ _ _ _ hq).2.2; omega
        · have := (hi.bxS i blk hb).2.1; omega)
      (fun id hid blk hbx => by
        obtain ⟨q1, q2, q3, q4, _⟩ := hk.inv.bxS _ _ hbx
        rw [hk.base] at q1
        refine ⟨Nat.le_trans hi.baseS q1, ?_, fun i hb => ?_, fun o ho => ?_⟩
        · show g.rg blk = none
          cases hq : g.rg blk with
          | none => rfl
          | some r => obtain ⟨a, b, c⟩ := r; have := (hi.rgS _ _ _ _ hq).2.2; omega
        · have := (hi.bxS i blk hb).2.1; omega
        · rcases ho with ho | ho
          · have := hi.immS _ _ ho; omega
          · rcases ho with ho | ⟨id', st', m', sz', n', xs', cur', lost', fz', h1, h2, _⟩
            · exact q4 o ho
            · rw [q3] at h2; simp at h2)
      (fun id id' b h1 h2 => hk.inv.inj id id' b h1 h2) (fun id b h => (hk.inv.bxS id b h).2.2.1)
      (fun id hid hrg o st hst ho => by
        obtain ⟨st', m', hq⟩ := hrg
        have hcb := (hk.inv.rgS _ _ _ _ hq).2.1
        rw [hk.base] at hcb
        rcases ho with ho | ho
        · have := hi.immS _ _ ho; omega
        · rcases ho with ho | ⟨id', st', m', sz', n', xs', cur', lost', fz', h1, h2, _⟩
          · exact hst o ho
          · rw [hq] at h2
            simp at h2
            exact absurd (h2.1 ▸ h1) (hrd id hid)) hd (fun q hq => e3.none (hn q hq))
    rw [← upds_append] at f1 f2 f3
    exact ⟨g', e1.trans f1, f2, f3⟩
  have hfr := allFree_spec hfree
  rcases outR_cases hs2 hk.inv ho hr with ⟨x, rd, rfl, hx⟩ | ⟨xs, rd, ow, us, hp, hd, hm, hv⟩
  · simp only [adopt, adopt1, Prod.mk.injEq] at ha
    obtain ⟨rfl, rfl⟩ := ha
    simp only [flatA]
    cases hf : flatP x with
    | true =>
      obtain ⟨f1, f2⟩ := hi.past hk.below (I := fun _ _ => False) (fun _ _ h => h.elim) (fun _ _ h => h.elim)
      exact ⟨_, f1, f2, flat_rep x u hf hx⟩
    | false =>
      obtain ⟨e1, e2, e3⟩ := hk.frozen hs hi rd
      simp only [List.append_nil]
      exact ⟨_, e1, e2, RepP.keeps (.mono fun _ _ h => .inr h) _ _ hx⟩
  · rcases hv with ⟨rfl, rfl⟩ | ⟨rfl, rfl, hc⟩ | ⟨hown, rfl, rfl⟩
    · simp only [adopt, Prod.mk.injEq] at ha
      obtain ⟨rfl, rfl⟩ := ha
      simp only [flatA]
      obtain ⟨g', e1, e2, e3⟩ := parts b hp hd hm (fun q hq => (hs q.1).trans (hfr q hq))
      exact ⟨g', e1, e2, us, rfl, e3⟩
    · simp only [adopt, Prod.mk.injEq] at ha
      obtain ⟨rfl, rfl⟩ := ha
      simp only [flatA]
      obtain ⟨g', e1, e2, e3⟩ := parts b hp hd hm (fun q hq => (hs q.1).trans (hfr q hq))
      exact ⟨g', e1, e2, us, rfl, e3, hc⟩
    · rcases hown with ⟨sz, ys, rfl⟩ | ⟨es, rfl⟩
      · simp only [adopt, adopt1, Prod.mk.injEq] at ha
        obtain ⟨rfl, rfl⟩ := ha
        simp only [flatA]
        obtain ⟨g', e1, e2, e3⟩ := parts b hp hd hm (fun q hq => (hs q.1).trans (hfr q (by simpa [adopts, adopt1] using hq)))
        simp only [adopts, adopt1, List.append_nil] at e1 e2 e3
        obtain ⟨y, ys', e4, e5, _⟩ := e3
        simp at e4
        obtain ⟨rfl, _⟩ := e4
        exact ⟨g', e1, e2, e5⟩
      · simp only [adopt, adopt1, Prod.mk.injEq] at ha
        obtain ⟨rfl, rfl⟩ := ha
        simp only [flatA]
        obtain ⟨g', e1, e2, e3⟩ := parts b hp hd hm (fun q hq => (hs q.1).trans (hfr q (by simpa [adopts, adopt1] using hq)))
        simp only [adopts, adopt1, List.append_nil] at e1 e2 e3
        obtain ⟨y, ys', e4, e5, _⟩ := e3
        simp at e4
        obtain ⟨rfl, _⟩ := e4
        exact ⟨g', e1, e2, e5⟩

end
end Go.Proofs.YtceccojmekpneaaGreatDoor.Sw
