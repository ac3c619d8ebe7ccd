/- Regions: the trace of a run in the order of the text. -/
import Derived.Test.YtceccojmekpneaaGreatDoorSxA
namespace Go.Proofs.YtceccojmekpneaaGreatDoor.Sw

section
variable {C : CallFn} {imp : Nat → Bool} {P : Program} {n : Nat} {ops : Array Oper}

/-- an operation came to x, at a state. -/
def OutOk (C : CallFn) (imp : Nat → Bool) (P : Program) (n : Nat) (ops : Array Oper) (tm : Tr AVal) (s : Sto) (o : Oper) (x : Out) : Prop :=
  (∀ d, o.dst = some d → d < n) ∧
  match x with
  | .skip => wantedA ops tm o = some false
  | .eff e => wantedA ops tm o = some true ∧ ∃ (S : St) (b : Nat), S.get = s ∧
      (evOp C imp P tm S b o.op = some (.eff e) ∨ ∃ s', evOp C imp P tm S b o.op = some (.all e.v s') ∧ e = ⟨e.v, s'.log.rdOf, s'.log.flat⟩)

def recsOf : Nat → Items → List (Nat × Rec) → List (Nat × Rec)
  | _, [], recs => recs
  | i, (_, x) :: r, recs => recsOf (i + 1) r (addRec i x.rec' recs)

theorem setDst_spec {tm tm' : Tr AVal} {d : Option Nat} {v : AVal} (h : setDst n tm d v = some tm') : tm' = putD tm d v ∧ ∀ k, d = some k → k < n := by
  unfold setDst at h
  cases d with
  | none => simp at h; subst h; exact ⟨rfl, by simp⟩
  | some d =>
    simp only at h
    split at h <;> simp at h
    rename_i hb
    subst h
    refine ⟨rfl, fun k hk => ?_⟩
    simp at hk
    subst hk
    have h3 : Nat.ble (d + 1) n = true := hb
    exact Nat.le_of_ble_eq_true h3

/-- what was put off stays put off. -/
theorem evOps_ds : ∀ {l : List Oper} {i b : Nat} {tm : Tr AVal} {S : St} {recs : List (Nat × Rec)} {tm' : Tr AVal} {S' : St} {recs' : List (Nat × Rec)} {ds : List Dfr},
    evOps C imp P n ops l i b tm S recs ds = some (.done tm' S' recs' []) → ds ≠ [] → False
  | [], i, b, tm, S, recs, tm', S', recs', ds, h, hd => by
    simp [evOps] at h
    exact hd h.2.2.2
  | o :: l, i, b, tm, S, recs, tm', S', recs', ds, h, hd => by
    simp only [evOps] at h
    repeat' split at h
    all_goals first
      | (simp at h; done)
      | exact evOps_ds h hd
      | exact evOps_ds h (by simp)

theorem evOps_dsp : ∀ {l : List Oper} {i b : Nat} {tm : Tr AVal} {S : St} {recs : List (Nat × Rec)} {v : AVal} {tm' : Tr AVal} {S' : St} {ds : List Dfr},
    evOps C imp P n ops l i b tm S recs ds = some (.pan v tm' S' []) → ds ≠ [] → False
  | [], i, b, tm, S, recs, v, tm', S', ds, h, hd => by simp [evOps] at h
  | o :: l, i, b, tm, S, recs, v, tm', S', ds, h, hd => by
    simp only [evOps] at h
    repeat' split at h
    all_goals first
      | (simp at h; done)
      | (simp at h; exact hd h.2.2.2)
      | exact evOps_dsp h hd
      | exact evOps_dsp h (by simp)

theorem evOps_trace (hC : CLoc C) : ∀ {l : List Oper} {i b : Nat} {tm : Tr AVal} {S : St} {recs : List (Nat × Rec)} {tm' : Tr AVal} {S' : St} {recs' : List (Nat × Rec)} {ds : List Dfr},
    evOps C imp P n ops l i b tm S recs ds = some (.done tm' S' recs' []) →
    ∃ items : Items, items.map (·.1) = l ∧ tm' = runTm (fun _ => true) i items tm ∧ S'.get = runSt (fun _ => true) i items S.get ∧ recs' = recsOf i items recs ∧
      ∀ (k : Nat) (o : Oper) (x : Out), items[k]? = some (o, x) → OutOk C imp P n ops (runTm (fun m => decide (m < i + k)) i items tm) (runSt (fun m => decide (m < i + k)) i items S.get) o x
  | [], i, b, tm, S, recs, tm', S', recs', ds, h => by
    simp [evOps] at h
    obtain ⟨rfl, rfl, rfl, _⟩ := h
    exact ⟨[], rfl, rfl, rfl, rfl, by simp⟩
  | o :: l, i, b, tm, S, recs, tm', S', recs', ds, h => by
    have step : ∀ {x : Out} {S1 : St} {tm1 : Tr AVal} {recs1 : List (Nat × Rec)}, S1.get = x.st S.get → tm1 = putD tm o.dst x.val → recs1 = addRec i x.rec' recs → OutOk C imp P n ops tm S.get o x →
        evOps C imp P n ops l (i + 1) (b + 16) tm1 S1 recs1 ds = some (.done tm' S' recs' []) →
        ∃ items : Items, items.map (·.1) = o :: l ∧ tm' = runTm (fun _ => true) i items tm ∧ S'.get = runSt (fun _ => true) i items S.get ∧ recs' = recsOf i items recs ∧
          ∀ (k : Nat) (o : Oper) (x : Out), items[k]? = some (o, x) → OutOk C imp P n ops (runTm (fun m => decide (m < i + k)) i items tm) (runSt (fun m => decide (m < i + k)) i items S.get) o x := by
      intro x S1 tm1 recs1 hS htm hrecs hok h
      subst htm hrecs
      obtain ⟨items, h1, h2, h3, h4, h5⟩ := evOps_trace hC h
      rw [hS] at h3 h5
      refine ⟨(o, x) :: items, by simp [h1], by simpa [runTm] using h2, by simpa [runSt] using h3, by simpa [recsOf] using h4, ?_⟩
      intro k o' x' hk
      cases k with
      | zero =>
        simp at hk
        obtain ⟨rfl, rfl⟩ := hk
        have e1 : ∀ (items : Items) (j : Nat) (tm : Tr AVal), i ≤ j → runTm (fun m => decide (m < i + 0)) j items tm = tm := by
          intro items
          induction items with
          | nil => intro j tm _; rfl
          | cons q items ih =>
            intro j tm hj
            obtain ⟨a, b⟩ := q
            simp only [runTm]
            rw [show decide (j < i + 0) = false by simp; omega]
            exact ih _ _ (by omega)
        have e2 : ∀ (items : Items) (j : Nat) (s : Sto), i ≤ j → runSt (fun m => decide (m < i + 0)) j items s = s := by
          intro items
          induction items with
          | nil => intro j tm _; rfl
          | cons q items ih =>
            intro j tm hj
            obtain ⟨a, b⟩ := q
            simp only [runSt]
            rw [show decide (j < i + 0) = false by simp; omega]
            exact ih _ _ (by omega)
        rw [e1 _ _ _ (Nat.le_refl _), e2 _ _ _ (Nat.le_refl _)]
        exact hok
      | succ k =>
        have := h5 k o' x' (by simpa using hk)
        simp only [runTm, runSt]
        rw [show decide (i < i + (k + 1)) = true by simp]
        rw [show i + (k + 1) = i + 1 + k by omega]
        exact this
    simp only [evOps] at h
    split at h
    · rename_i hw
      split at h
      · rename_i e he
        split at h <;> try (simp at h; done)
        rename_i tm1 ht
        obtain ⟨h1, h2⟩ := setDst_spec ht
        exact step (x := .eff e) (did_get _ _ _) h1 rfl ⟨h2, hw, S, b, rfl, .inl he⟩ h
      · rename_i v s' he
        split at h <;> try (simp at h; done)
        rename_i tm1 ht
        obtain ⟨h1, h2⟩ := setDst_spec ht
        exact step (x := .eff ⟨v, s'.log.rdOf, s'.log.flat⟩) (by rw [show ({ s' with log := .call s'.log S.log } : St).get = s'.get from rfl, (evOp_again hC he).1, app_flat]; rfl) h1 rfl ⟨h2, hw, S, b, rfl, .inr ⟨s', he, rfl⟩⟩ h
      · simp at h
      · exfalso
        split at h <;> try (simp at h; done)
        exact evOps_ds h (by simp)
      · simp at h
    · rename_i hw
      split at h <;> try (simp at h; done)
      rename_i tm1 ht
      obtain ⟨h1, h2⟩ := setDst_spec ht
      exact step (x := .skip) rfl h1 rfl ⟨h2, hw⟩ h
    · simp at h

/-! ### What touches -/
theorem recsOf_mem : ∀ {items : Items} {i : Nat} {recs : List (Nat × Rec)} {q : Nat × Rec}, q ∈ recs → q ∈ recsOf i items recs
  | [], _, _, _, h => h
  | (_, x) :: r, i, recs, q, h => by
    simp only [recsOf]
    refine recsOf_mem ?_
    unfold addRec
    split
    · exact h
    · exact List.mem_cons_of_mem _ h

/-- does it look at, or change, anything? -/
def Rec.touch (x : Rec) : Prop := x.rd ≠ [] ∨ x.wr ≠ []

theorem recsOf_in : ∀ {items : Items} {i k : Nat} {recs : List (Nat × Rec)} {o : Oper} {x : Out}, items[k]? = some (o, x) → x.rec'.touch → (i + k, x.rec') ∈ recsOf i items recs
  | [], _, _, _, _, _, h, _ => by simp at h
  | (o1, x1) :: r, i, 0, recs, o, x, h, ht => by
    simp at h
    obtain ⟨rfl, rfl⟩ := h
    simp only [recsOf]
    refine recsOf_mem ?_
    unfold addRec
    split
    · rename_i h1 h2
      rcases ht with h | h
      · exact absurd h1 h
      · exact absurd h2 h
    · simp
  | (o1, x1) :: r, i, k + 1, recs, o, x, h, ht => by
    simp only [recsOf]
    rw [show i + (k + 1) = i + 1 + k by omega]
    exact recsOf_in (k := k) (by simpa using h) ht

theorem recsOf_sorted : ∀ {items : Items} {i : Nat} {recs : List (Nat × Rec)}, recs.Pairwise (fun a b => b.1 < a.1) → (∀ q ∈ recs, q.1 < i) → (recsOf i items recs).Pairwise (fun a b => b.1 < a.1)
  | [], _, _, h, _ => h
  | (_, x) :: r, i, recs, h, hlt => by
    simp only [recsOf]
    have h1 : (addRec i x.rec' recs).Pairwise (fun a b => b.1 < a.1) ∧ ∀ q ∈ addRec i x.rec' recs, q.1 < i + 1 := by
      unfold addRec
      split
      · exact ⟨h, fun q hq => Nat.lt_succ_of_lt (hlt q hq)⟩
      · refine ⟨List.pairwise_cons.2 ⟨fun q hq => hlt q hq, h⟩, fun q hq => ?_⟩
        cases hq with
        | head => exact Nat.lt_succ_self _
        | tail _ hq => exact Nat.lt_succ_of_lt (hlt q hq)
    exact recsOf_sorted h1.1 h1.2

theorem freeOf_spec {m : Nat} {x : Rec} : ∀ {l : List (Nat × Rec)}, freeOf m x l = true → ∀ q ∈ l, clash x q.2 = true → m.testBit q.1 = true
  | [], _ => by simp
  | (j, y) :: l, h => by
    simp only [freeOf] at h
    intro q hq hc
    split at h
    · rename_i hn
      cases hq with
      | head => rw [hn] at hc; simp at hc
      | tail _ hq => exact freeOf_spec h q hq hc
    · split at h
      · rename_i hb
        cases hq with
        | head => exact hb
        | tail _ hq => exact freeOf_spec h q hq hc
      · simp at h

theorem pairsFree_spec {B : Array Nat} : ∀ {l : List (Nat × Rec)}, pairsFree B l = true → l.Pairwise (fun a b => clash a.2 b.2 = true → (B.getD a.1 0).testBit b.1 = true)
  | [], _ => .nil
  | (i, x) :: l, h => by
    simp only [pairsFree] at h
    split at h
    · rename_i hf
      exact List.pairwise_cons.2 ⟨fun q hq hc => freeOf_spec hf q hq hc, pairsFree_spec h⟩
    · simp at h

theorem pairwise_of {α : Type} {R Q : α → α → Prop} : ∀ {l : List α}, l.Pairwise R → l.Pairwise Q → ∀ a ∈ l, ∀ b ∈ l, a ≠ b → (R a b ∧ Q a b) ∨ (R b a ∧ Q b a)
  | [], _, _ => by simp
  | x :: l, hr, hq => by
    obtain ⟨r1, r2⟩ := List.pairwise_cons.1 hr
    obtain ⟨q1, q2⟩ := List.pairwise_cons.1 hq
    intro a ha b hb hne
    cases ha with
    | head =>
      cases hb with
      | head => exact absurd rfl hne
      | tail _ hb => exact .inl ⟨r1 b hb, q1 b hb⟩
    | tail _ ha =>
      cases hb with
      | head => exact .inr ⟨r1 a ha, q1 a ha⟩
      | tail _ hb => exact pairwise_of r2 q2 a ha b hb hne

/-- two operations that clash stand in an order. -/
theorem clash_ordered {B : Array Nat} {items : Items} (hp : pairsFree B (recsOf 0 items []) = true) {i j : Nat} (hlt : i < j) {oi oj : Oper} {xi xj : Out} (hi : items[i]? = some (oi, xi))
    (hj : items[j]? = some (oj, xj)) (ti : xi.rec'.touch) (tj : xj.rec'.touch) (hc : clash xj.rec' xi.rec' = true) : (B.getD j 0).testBit i = true := by
  have m1 := recsOf_in (i := 0) (recs := []) hi ti
  have m2 := recsOf_in (i := 0) (recs := []) hj tj
  simp only [Nat.zero_add] at m1 m2
  rcases pairwise_of (recsOf_sorted (items := items) (i := 0) .nil (by simp)) (pairsFree_spec hp) _ m2 _ m1 (by simp; omega) with ⟨_, h⟩ | ⟨h, _⟩
  · exact h hc
  · simp at h; omega

end
end Go.Proofs.YtceccojmekpneaaGreatDoor.Sw
