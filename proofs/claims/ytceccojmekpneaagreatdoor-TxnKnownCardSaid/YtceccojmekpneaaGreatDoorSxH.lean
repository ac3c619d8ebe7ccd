/- Rounds, calls: what the evaluator says of a call is so. -/
import Derived.Test.YtceccojmekpneaaGreatDoorSxG
namespace Go.Proofs.YtceccojmekpneaaGreatDoor.Sw
open Go.RowKit

section
variable {C : CallFn} {imp : Nat → Bool} {P : Program} {g : Sg} {s : Sto} {S : St} {w : World} {n : Nat}

theorem putArgs_frm (hnb : n ≤ glBase) : ∀ {ps : List Nat} {args : List AVal} {us : List Value} {tm tm' : Tr AVal} {tmps : Array Value}, putArgs n ps args tm = some tm' → Frm g s w tm tmps → RepAs g s w args us → n ≤ tmps.size →
    us.length = ps.length ∧ Frm g s w tm' ((ps.zip us).foldl (fun tmps (t, a) => tmps.setIfInBounds t a) tmps) ∧ ((ps.zip us).foldl (fun tmps (t, a) => tmps.setIfInBounds t a) tmps).size = tmps.size
  | [], [], us, tm, tm', tmps, h, hf, hr, _ => by
    simp [putArgs] at h
    subst h
    have hr : us = [] := hr
    subst hr
    exact ⟨rfl, hf, rfl⟩
  | p :: ps, v :: vs, us, tm, tm', tmps, h, hf, hr, hn => by
    obtain ⟨u, us, rfl, h1, h2⟩ := hr
    simp only [putArgs] at h
    split at h <;> try (simp at h; done)
    rename_i tm1 ht
    obtain ⟨k1, k2⟩ := setDst_spec ht
    subst k1
    have hp := k2 p rfl
    have hf' : Frm g s w (putD tm (some p) v) (tmps.setIfInBounds p u) :=
      Frm.put (a := { tmps, defers := [] }) (dst := some p) hf h1 (fun d hd => by simp at hd; subst hd; exact ⟨Nat.lt_of_lt_of_le hp hn, Nat.lt_of_lt_of_le hp hnb⟩)
    obtain ⟨q1, q2, q3⟩ := putArgs_frm hnb h hf' h2 (by simpa using hn)
    exact ⟨by simp [q1], q2, by simpa using q3⟩
  | [], _ :: _, us, tm, tm', tmps, h, _, _, _ => by simp [putArgs] at h
  | _ :: _, [], us, tm, tm', tmps, h, _, _, _ => by simp [putArgs] at h

theorem endRound_run (hi : Inv g S.get w) {id l : Nat} (hb : g.bx id = some l) {x : XExit} {r : CR} (h : endRoundA id x S = some r) {g0 : Sg} {s0 : Sto} {w0 : World} (h0 : Ext g0 s0 w0 g S.get w) :
    ∃ jump, (match x with | .normal => jump = none | .ret => jump = some .ret | .exit i => jump = some (.exit i) | .pan _ => False) ∧
      ∃ v w', (Instr.endRound l jump).run P w = .ok v w' ∧ Came g0 s0 w0 r (.returned v) w' := by
  unfold endRoundA at h
  split at h <;> try (simp at h; done)
  rename_i tm n ps as bd hid
  obtain ⟨o, q1, rec, rfl, q2, q3, q4, q5, q6, q7, q8⟩ := hi.at_ho hid hb
  split at h <;> simp at h <;> subst h
  · obtain ⟨e1, e2⟩ := set_ho hi hid hb (h := .lp tm n ps as bd .ready none) (o := .loop { rec with state := .ready, pending := none }) ⟨_, rfl, rfl, rfl, q4, q5, q6, q7, q8⟩
    rw [← did1 [id]] at e1 e2
    exact ⟨none, rfl, _, _, run_endRound none q1, g, h0.trans e1, e2, rfl⟩
  · obtain ⟨e1, e2⟩ := set_ho hi hid hb (h := .lp tm n ps as bd .done (some .ret)) (o := .loop { rec with state := .done, pending := some .ret }) ⟨_, rfl, rfl, rfl, q4, q5, q6, q7, q8⟩
    rw [← did1 [id]] at e1 e2
    exact ⟨some .ret, rfl, _, _, run_endRound (some .ret) q1, g, h0.trans e1, e2, rfl⟩
  · rename_i i
    obtain ⟨e1, e2⟩ := set_ho hi hid hb (h := .lp tm n ps as bd .done (some (.exit i))) (o := .loop { rec with state := .done, pending := some (.exit i) }) ⟨_, rfl, rfl, rfl, q4, q5, q6, q7, q8⟩
    rw [← did1 [id]] at e1 e2
    exact ⟨some (.exit i), rfl, _, _, run_endRound (some (.exit i)) q1, g, h0.trans e1, e2, rfl⟩

theorem evRound_ok {gl : Tr AVal} (hC : CallOk2 P gl C) (hP : Fine P) {k id : Nat} {args : List AVal} {r : CR} {us : List Value} (h : evRound C imp P k id args S = some r) (hi : Inv g S.get w)
    (hG : Glob gl g.imm w) (hr : RepAs g S.get w args us) :
    ∃ (l : Nat) (rec : Loop), g.bx id = some l ∧ w.heap[l]? = some (.loop rec) ∧ us.length = rec.params.size ∧
      RoundIn Fence.wide 0 P l rec.fn ((rec.params.zip us.toArray).foldl (fun tmps (t, a) => tmps.setIfInBounds t a) rec.tmps) rec.assign rec.body w (Came g S.get w r) := by
  unfold evRound at h
  split at h <;> try (simp at h; done)
  rename_i tm n ps assign body hid
  obtain ⟨l, o, hb, q1, rec, rfl, q2, q3, q4, q5, q6, ⟨q7, q8, q9, q10⟩, q11⟩ := hi.ho id _ hid
  split at h <;> try (simp at h; done)
  rename_i tm1 hput
  obtain ⟨p1, p2, p3⟩ := putArgs_frm q8 hput q11 hr q7
  have hz : (rec.params.zip us.toArray).foldl (fun tmps (t, a) => tmps.setIfInBounds t a) rec.tmps = (ps.zip us).foldl (fun tmps (t, a) => tmps.setIfInBounds t a) rec.tmps := by
    rw [← Array.foldl_toList, Array.toList_zip, q4]
  refine ⟨l, rec, hb, q1, by rw [p1, ← q4]; simp, ?_⟩
  rw [hz, q5, q6]
  split at h <;> try (simp at h; done)
  rename_i fr1 s1 h1
  split at h <;> try (simp at h; done)
  rename_i tm' n' ps' as' bd' hid1
  split at h <;> try (simp at h; done)
  rename_i x fr3 s3 h3
  refine roundIn_of_wpIn (F := Fence.wide) trivial ?_
  refine code_wp (ro := some l) hC hP q8 (by simp) assign q9 h1 hi hG p2 rfl (by rw [p3]; exact q7) fun e a1 w1 hl => ?_
  cases e <;> simp only [Left] at hl
  obtain ⟨⟨g1, e1, i1, f1, d1⟩, z1⟩ := hl
  have hb1 := e1.bx _ _ hb
  obtain ⟨o1, r1, rec1, rfl, r2, r3, r4, r5, r6, r7, r8⟩ := i1.at_ho hid1 hb1
  obtain ⟨e2, i2⟩ := set_ho i1 hid1 hb1 (h := .lp tm' n' ps' as' bd' .busy none) (o := .loop { rec1 with state := .busy }) ⟨_, rfl, rfl, r3, r4, r5, r6, r7, r8⟩
  rw [← did1 [id]] at e2 i2
  refine ⟨_, run_beginRound r1 r2, ?_⟩
  have hsz : n ≤ a1.tmps.size := by rw [z1, p3]; exact q7
  refine code_wp (ro := some l) hC hP q8 (by simp) body q10 h3 i2 (hG.ext (e1.trans e2)) (f1.ext e2) (d1.ext e2) hsz fun e a3 w3 hl3 => ?_
  have fin : ∀ {x' : XExit}, x' = x → (∃ g', Ext g1 (s1.did [id] [(id, .ho (.lp tm' n' ps' as' bd' .busy none))]).get (w1.putObj l (.loop { rec1 with state := .busy })) g' s3.get w3 ∧ Inv g' s3.get w3) →
      ∃ jump, (match x' with | .normal => jump = none | .ret => jump = some .ret | .exit i => jump = some (.exit i) | .pan _ => False) ∧
        ∃ v w', (Instr.endRound l jump).run P w3 = .ok v w' ∧ Came g S.get w r (.returned v) w' := by
    rintro x' rfl ⟨g3, e3, i3⟩
    exact endRound_run i3 (e3.bx _ _ (e2.bx _ _ hb1)) h ((e1.trans e2).trans e3)
  cases x with
  | normal =>
    cases e <;> simp only [Left] at hl3
    obtain ⟨⟨g3, e3, i3, _⟩, _⟩ := hl3
    obtain ⟨j, rfl, v, w', k1, k2⟩ := fin rfl ⟨g3, e3, i3⟩
    exact ⟨v, w', k1, k2⟩
  | ret =>
    cases e <;> simp only [Left] at hl3
    obtain ⟨⟨g3, e3, i3, _⟩, _⟩ := hl3
    obtain ⟨j, rfl, v, w', k1, k2⟩ := fin rfl ⟨g3, e3, i3⟩
    exact ⟨v, w', k1, k2⟩
  | exit i =>
    cases e <;> simp only [Left] at hl3
    obtain ⟨rfl, ⟨g3, e3, i3, _⟩, _⟩ := hl3
    obtain ⟨j, rfl, v, w', k1, k2⟩ := fin rfl ⟨g3, e3, i3⟩
    exact ⟨v, w', k1, k2⟩
  | pan v =>
    unfold endRoundA at h
    split at h <;> simp at h

/-- what a call comes to that was made in an empty store, for any world in which it is made. -/
def Known (P : Program) (gl : Tr AVal) (f : Nat) (args : List AVal) (v : AVal) (wr : List (Nat × Obj)) : Prop :=
  ∀ (g : Sg) (w : World) (us : List Value), Inv g St.empty.get w → Glob gl g.imm w → RepAs g St.empty.get w args us →
    HasBody P f ∧ CallsIn Fence.wide 0 P f us.toArray w (Came g St.empty.get w (.ret v (St.empty.did [] wr)))

/-- results that are known, and are so. -/
def MemoOk (P : Program) (gl : Tr AVal) (M : Memo) : Prop :=
  ∀ (f : Nat) (args : List AVal) (r : CR), M f args = some r → ∃ v wr, r = .ret v (St.empty.did [] wr) ∧ Known P gl f args v wr

theorem evCall_ok {gl : Tr AVal} {M : Memo} (hM : MemoOk P gl M) (hP : Fine P) {k : Nat} : ∀ (n : Nat), CallOk2 P gl (evCall M gl imp P k n)
  | 0 => { fn := fun f args S r g w us h => by simp [evCall] at h, iso := fun f args r g w us h => by simp [evCall] at h, yld := fun id args S r g w us h => by simp [evCall] at h, loc := evCall_loc 0 }
  | n + 1 =>
    { fn := fun _ _ _ _ _ _ _ h hi hG hr => evFunc_ok (evCall_ok hM hP n) hP h hi hG hr
      yld := fun _ _ _ _ _ _ _ h hi hG hr => evRound_ok (evCall_ok hM hP n) hP h hi hG hr
      iso := fun f args r g w us h hi hG hr => by
        simp only [evCall] at h
        split at h
        · rename_i r' hm
          simp at h
          subst h
          obtain ⟨v, wr, rfl, hk⟩ := hM f args _ hm
          exact hk g w us hi hG hr
        · exact evFunc_ok (evCall_ok hM hP n) hP h hi hG hr
      loc := evCall_loc (n + 1) }

/-- what is known of a call, once it has been evaluated. -/
theorem known_of {gl : Tr AVal} {M : Memo} (hM : MemoOk P gl M) (hP : Fine P) {k n f : Nat} {args : List AVal} {v : AVal} {rd : List Nat} {wr : List (Nat × Obj)}
    (h : callAt (evCall M gl imp P k n) imp St.empty 0 f args = some (.eff ⟨v, rd, wr⟩)) : Known P gl f args v wr := fun g w us hi hG hr => by
  obtain ⟨h1, h2⟩ := callAt_sound (evCall_ok hM hP n).toCallOk hi hG hr h
  refine ⟨h1, CallsIn.mono h2 fun e w' hc => ?_⟩
  cases e with
  | returned u =>
    obtain ⟨g', e1, e2, e3⟩ := hc
    rw [← did_get (rd := [])] at e1 e2 e3
    exact ⟨g', e1, e2, e3⟩
  | panicked _ => exact hc.elim
  | outgrown => exact hc.elim

/-- A closed call: what the evaluator says comes of it comes of it. -/
theorem evCall_closed {gl : Tr AVal} {M : Memo} (hM : MemoOk P gl M) (hP : Fine P) {k n f : Nat} {v : PVal} {s' : St} (h : evCall M gl imp P k n (.iso f) [] St.empty = some (.ret (.p v) s')) {I : Nat → Nat → Prop}
    (hI : ∀ b o, I b o → b < w.heap.size) (hG : Glob gl I w) :
    Calls P f #[] w (fun e w' => ∃ u, e = .returned u ∧ (∃ I', RepP I' w' v u) ∧ Below w.heap.size w w') := by
  obtain ⟨_, hc⟩ := (evCall_ok hM hP n).iso f [] _ _ w [] h (inv_empty hI) hG rfl
  refine (callsIn_wide (n := 0)).1 (CallsIn.mono hc fun e w' hcm => ?_)
  cases e with
  | returned u =>
    obtain ⟨g', e1, e2, e3⟩ := hcm
    exact ⟨u, rfl, ⟨_, e3⟩, e1.below⟩
  | panicked _ => exact hcm.elim
  | outgrown => exact hcm.elim

end

end Go.Proofs.YtceccojmekpneaaGreatDoor.Sw
