/- Every operation, in the calculus. -/
import Derived.Test.YtceccojmekpneaaGreatDoorSwW
namespace Go.Proofs.YtceccojmekpneaaGreatDoor.Sw
open Go.RowKit

section
variable {P : Program} {g : Sg} {S : St} {w : World}

theorem plain_wp {ro : Option Nat} (hi : Inv g S.get w) {tm : Tr AVal} {a : Act} (hf : Frm g S.get w tm a.tmps) {n b : Nat} {o : Oper} {r : R} (h : (plainOp P tm S b o.op).map .eff = some r)
    {K : Act → World → Prop} {Q : Exit → Act → World → Prop} {Q' : Value → World → Prop} (hK : ThenR g S w r (fun u w' => K (a.put o.dst u) w') Q') : o.wpIn (Fw ro) n P a w K Q := by
  simp only [Option.map_eq_some_iff] at h
  obtain ⟨e, h1, rfl⟩ := h
  obtain ⟨u, g', w', hr, h2, h3, h4⟩ := plainOp_sound (fun _ => rfl) hi hf h1
  refine ⟨fun _ _ => trivial, ?_⟩
  have hno : ∀ c, o.op ≠ .defer c := fun c hc => by rw [hc] at h1; simp [plainOp] at h1
  rw [Oper.semAt_eq _ _ _ hno]
  have := hK u g' w' h2 h3 h4
  rcases hr with hr | ⟨hr, rfl⟩
  · rw [hr]; exact this
  · rw [hr]; exact this

theorem evOp_wp {ro : Option Nat} {C : CallFn} {gl : Tr AVal} (hC : CallOk P gl C) (hN : NoOwn P) (hi : Inv g S.get w) (hG : Glob gl g.imm w) {tm : Tr AVal} {a : Act} (hf : Frm g S.get w tm a.tmps) {imp : Nat → Bool} {n b : Nat} {o : Oper} {r : R}
    (h : evOp C imp P tm S b o.op = some r) {K : Act → World → Prop} {Q : Exit → Act → World → Prop}
    (hK : ThenR g S w r (fun u w' => K (a.put o.dst u) w') (fun u w' => Q (.panic [{ v := u, recovered := false }]) a w')) : o.wpIn (Fw ro) n P a w K Q := by
  unfold evOp at h
  split at h
  · rename_i x ho
    split at h <;> try (simp at h; done)
    rename_i v hv
    split at h <;> simp at h
    rename_i d hd
    subst h
    have hx := operand_rep hf hv
    rcases ifOf_rep hx hd with ⟨h1, _⟩ | ⟨t, y, u, h1, h2, h3⟩
    · simp at h1
    · refine ⟨fun _ _ => trivial, ?_⟩
      rw [Oper.semAt_eq _ _ _ (fun c hc => by rw [hc] at ho; simp at ho)]
      have e1 : (execOp a.eval o).run P w = .halt (.panic (a.eval x)) w := by
        simp [execOp, ho, h2, Instr.panic, goPanic]
      rw [e1, Oper.uponIn_panic]
      exact hK _ _ _ (.refl _ _ _) hi hx
  · rename_i c ho
    split at h
    · exact plain_wp hi hf h hK
    · exact callOp_wp hC hN hi hG hf ho h hK
  · -- what is put off comes to no value
    exfalso
    split at h <;> try (simp at h; done)
    split at h <;> try (simp at h; done)
    split at h <;> simp at h
    subst h
    exact hK.elim
  · exact plain_wp hi hf h hK

/-- a call is put off. -/
theorem defer_wp {C : CallFn} {tm : Tr AVal} {a : Act} (hf : Frm g S.get w tm a.tmps) {imp : Nat → Bool} {n b : Nat} {o : Oper} {f : Nat} {cap : List AVal}
    (h : evOp C imp P tm S b o.op = some (.dfr f cap)) {K : Act → World → Prop} {Q : Exit → Act → World → Prop}
    (hK : ∀ vs : List Value, RepAs g S.get w cap vs → K ({ a with defers := { target := .fn (.func f) vs.toArray, args := #[] } :: a.defers }.put o.dst undef) w) : o.wpIn (Fw none) n P a w K Q := by
  have hp : ∀ {op}, (plainOp P tm S b op).map R.eff = some (.dfr f cap) → False := by
    intro op h
    simp at h
  unfold evOp at h
  split at h
  · split at h <;> try (simp at h; done)
    split at h <;> simp at h
  · split at h
    · exact (hp h).elim
    · exfalso
      unfold callOp callAt at h
      repeat' split at h
      all_goals simp at h
  · rename_i c ho
    split at h <;> try (simp at h; done)
    rename_i x hcal hargs
    split at h <;> try (simp at h; done)
    rename_i fv hfv
    split at h <;> simp at h
    rename_i f' cap' hfn
    obtain ⟨rfl, rfl⟩ := h
    obtain ⟨vs, h1, h2⟩ := fnOf_rep (operand_rep hf hfv) hfn
    have e1 : c.args = #[] := by simpa using hargs
    refine ⟨fun _ _ => trivial, ?_⟩
    rw [show (Fw none).round = none from rfl, Oper.semAt_none]
    have : (execOp a.eval o).run P w = .ok (.defer { target := .fn (.func f') vs.toArray, args := #[] }) w := by
      simp [execOp, ho, resolve, hcal, h1, Deferred.ofValue, e1]
    rw [this, Oper.uponIn_defer]
    exact hK vs h2
  · exact (hp h).elim

end
end Go.Proofs.YtceccojmekpneaaGreatDoor.Sw
