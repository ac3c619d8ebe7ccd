/- What an operation does rests on its operands alone. -/
import Derived.Test.YtceccojmekpneaaGreatDoorSwY
namespace Go.Proofs.YtceccojmekpneaaGreatDoor.Sw

section
variable {P : Program} {S S' : St} {tm tm' : Tr AVal}

def Agree (tm tm' : Tr AVal) (l : List Operand) : Prop := ∀ x ∈ l, operand tm' x = operand tm x

theorem agree_of {l : List Operand} (h : ∀ t, Operand.tmp t ∈ l → tm'.get t = tm.get t) (hg : ∀ k, tm'.get (glBase + k) = tm.get (glBase + k)) : Agree tm tm' l := fun x hx => by
  cases x with
  | tmp t => simp only [operand]; rw [h t hx]
  | global k => exact hg k
  | _ => rfl

theorem operands_agree : ∀ {l : List Operand}, Agree tm tm' l → operands tm' l = operands tm l
  | [], _ => rfl
  | x :: l, h => by
    simp only [operands]
    rw [h x (by simp), operands_agree (l := l) (fun y hy => h y (by simp [hy]))]

theorem operandParts_agree : ∀ {l : List (Nat × Operand)}, Agree tm tm' (l.map (·.2)) → operandParts tm' l = operandParts tm l
  | [], _ => rfl
  | (i, x) :: l, h => by
    simp only [operandParts]
    rw [h x (by simp), operandParts_agree (l := l) (fun y hy => h y (by simp only [List.map_cons, List.mem_cons]; exact .inr hy))]

theorem operand?_agree {o : Option Operand} (h : Agree tm tm' o.toList) : operand? tm' o = operand? tm o := by
  cases o with
  | none => rfl
  | some x => simp only [operand?]; rw [h x (by simp)]

theorem plainOp_tm {b : Nat} {op : Op} (h : Agree tm tm' op.operands.toList) : plainOp P tm' S b op = plainOp P tm S b op := by
  have h1 := h
  unfold Agree at h1
  unfold plainOp
  split
  all_goals try rfl
  all_goals simp only [Op.operands, Call.operands] at h1
  · rw [h1 _ (by simp)]
  · rw [h1 _ (by simp)]
  · rename_i c x y
    rw [h1 c (by simp), h1 x (by simp), h1 y (by simp)]
  · rw [h1 _ (by simp)]
  · rw [operandParts_agree (fun x hx => h1 x (by simpa using hx))]
  · rw [operandParts_agree (fun x hx => h1 x (by simpa using hx))]
  · rw [h1 _ (by simp)]
  · rename_i t x y
    rw [h1 x (by simp), h1 y (by simp)]
  · rw [h1 _ (by simp)]
  · rename_i op t x y ty
    rw [h1 x (by simp), h1 y (by simp)]
  · rw [h1 _ (by simp)]
  · rw [h1 _ (by simp)]
  · rename_i t x y ok
    rw [h1 x (by simp), h1 y (by simp)]
  · rename_i t x y z
    rw [h1 x (by simp), h1 y (by simp), h1 z (by simp)]
  · rw [h1 _ (by simp)]
  · rw [h1 _ (by simp)]
  · rw [h1 _ (by simp)]
  · rename_i f first cap
    rw [operands_agree (l := cap.toList) (fun x hx => h1 x (by simp at hx ⊢; exact .inr hx))]
  · rename_i t x y
    rw [h1 x (by simp), h1 y (by simp)]
  · rename_i t x lo hi mx
    rw [h1 x (by simp), operand?_agree (o := lo) (fun y hy => h1 y (by simp at hy ⊢; simp [hy])), operand?_agree (o := hi) (fun y hy => h1 y (by simp at hy ⊢; simp [hy])),
      operand?_agree (o := mx) (fun y hy => h1 y (by simp at hy ⊢; simp [hy]))]
  · rw [h1 _ (by simp)]
  · rw [h1 _ (by simp)]
  · rename_i t x y
    rw [h1 x (by simp), h1 y (by simp)]
  · rename_i t x y
    rw [h1 x (by simp), h1 y (by simp)]
  · rw [h1 _ (by simp)]
  · rw [h1 _ (by simp)]
  · rename_i args ats
    split
    · rename_i x t hx ht
      have : x ∈ args.toList := by rw [hx]; simp
      rw [h1 x (by simpa using this)]
    · rfl
  · rename_i args ats
    split
    · rename_i x y t t2 hx ht
      have e1 : x ∈ args.toList := by rw [hx]; simp
      have e2 : y ∈ args.toList := by rw [hx]; simp
      rw [h1 x (by simpa using e1), h1 y (by simpa using e2)]
    · rfl
  · rename_i args ats
    split
    · rename_i x y t t2 hx ht
      have e1 : x ∈ args.toList := by rw [hx]; simp
      have e2 : y ∈ args.toList := by rw [hx]; simp
      rw [h1 x (by simpa using e1), h1 y (by simpa using e2)]
    · rfl
  · rename_i args ats
    split
    · rename_i x t hx ht
      have : x ∈ args.toList := by rw [hx]; simp
      rw [h1 x (by simpa using this)]
    · rfl
  · rename_i args _
    rw [operands_agree (l := args.toList) (fun x hx => h1 x (by simpa using hx))]
  · rename_i args _
    rw [operands_agree (l := args.toList) (fun x hx => h1 x (by simpa using hx))]

theorem callOp_tm {C : CallFn} {imp : Nat → Bool} {b : Nat} {c : Call} (h : Agree tm tm' c.operands.toList) : callOp C imp P tm' S b c = callOp C imp P tm S b c := by
  have h1 := h
  unfold Agree at h1
  have h2 : operands tm' c.args.toList = operands tm c.args.toList := operands_agree (fun x hx => h1 x (by simp [Call.operands] at hx ⊢; exact .inr hx))
  unfold callOp
  rw [h2]
  split
  · rename_i o ho
    rw [h1 o (by simp [Call.operands, ho])]
  · rename_i o name ho
    rw [h1 o (by simp [Call.operands, ho])]
  · rfl

theorem evOp_tm {C : CallFn} {imp : Nat → Bool} {b : Nat} {op : Op} (h : Agree tm tm' op.operands.toList) : evOp C imp P tm' S b op = evOp C imp P tm S b op := by
  unfold evOp
  split
  · rw [h _ (by simp [Op.operands])]
  · rename_i c
    rw [plainOp_tm h, callOp_tm (c := c) h]
  · rename_i c
    split
    · rename_i o hc ha
      rw [h o (by simp [Op.operands, Call.operands, hc])]
    · rfl
  · rw [plainOp_tm h]

theorem purs_same {f f' : AVal → Option (PVal × List Nat)} (hf : ∀ v x ids, f v = some (x, ids) → Same S S' ids → f' v = some (x, ids)) :
    ∀ {vs : List AVal} {xs : List PVal} {ids : List Nat}, purs f vs = some (xs, ids) → Same S S' ids → purs f' vs = some (xs, ids)
  | [], xs, ids, h, _ => by simpa [purs] using h
  | v :: vs, xs, ids, h, hs => by
    simp only [purs] at h ⊢
    split at h <;> simp at h
    rename_i x a xs' b h1 h2
    obtain ⟨rfl, rfl⟩ := h
    rw [hf _ _ _ h1 (hs.mono fun i hi => by simp [hi]), purs_same hf h2 (hs.mono fun i hi => by simp [hi])]

theorem pur_same : ∀ (d : Nat) (v : AVal) (x : PVal) (ids : List Nat), pur S d v = some (x, ids) → Same S S' ids → pur S' d v = some (x, ids) := by
  intro d
  induction d with
  | zero => intro v x ids h; simp [pur] at h
  | succ d ih =>
    intro v x ids h hs
    simp only [pur] at h ⊢
    split at h
    · exact h
    · exact h
    · simp only [Option.map_eq_some_iff] at h ⊢
      obtain ⟨⟨xs, a⟩, h1, h2⟩ := h
      simp only [Prod.mk.injEq] at h2
      obtain ⟨rfl, rfl⟩ := h2
      exact ⟨_, purs_same ih h1 hs, rfl⟩
    · simp only [Option.map_eq_some_iff] at h ⊢
      obtain ⟨⟨xs, a⟩, h1, h2⟩ := h
      simp only [Prod.mk.injEq] at h2
      obtain ⟨rfl, rfl⟩ := h2
      exact ⟨_, purs_same ih h1 hs, rfl⟩
    · simp only [Option.map_eq_some_iff] at h ⊢
      obtain ⟨⟨y, a⟩, h1, h2⟩ := h
      simp only [Prod.mk.injEq] at h2
      obtain ⟨rfl, rfl⟩ := h2
      exact ⟨_, ih _ _ _ h1 hs, rfl⟩
    · simp only [Option.map_eq_some_iff] at h ⊢
      obtain ⟨⟨xs, a⟩, h1, h2⟩ := h
      simp only [Prod.mk.injEq] at h2
      obtain ⟨rfl, rfl⟩ := h2
      exact ⟨_, purs_same ih h1 hs, rfl⟩
    · rename_i id ep off len c
      split at h <;> try (simp at h; done)
      rename_i xs hv
      simp only [Option.map_eq_some_iff] at h
      obtain ⟨⟨ys, a⟩, h1, h2⟩ := h
      simp only [Prod.mk.injEq] at h2
      obtain ⟨rfl, rfl⟩ := h2
      rw [viewed_same hv (hs id (by simp))]
      simp only [Option.map_eq_some_iff]
      exact ⟨_, purs_same ih h1 (hs.mono fun i hi => by simp [hi]), rfl⟩
    · simp at h

theorem freeze_same : ∀ {ids : List Nat}, Same S S' ids → freeze S' ids = freeze S ids
  | [], _ => rfl
  | id :: ids, h => by
    simp only [freeze]
    rw [h id (by simp), freeze_same (ids := ids) (h.mono fun i hi => by simp [hi])]

theorem allFree_same : ∀ {l : List (Nat × Obj)}, Same S S' (l.map (·.1)) → allFree S' l = allFree S l
  | [], _ => rfl
  | (i, o) :: l, h => by
    simp only [allFree]
    rw [h i (by simp), allFree_same (l := l) (h.mono fun i hi => by simp at hi ⊢; exact .inr hi)]

theorem callAt_same {C : CallFn} {imp : Nat → Bool} {b f : Nat} {args : List AVal} {e : Eff} (h : callAt C imp S b f args = some (.eff e)) (hs : Same S S' e.rd) : callAt C imp S' b f args = some (.eff e) := by
  unfold callAt at h ⊢
  split at h
  · split at h <;> try (simp at h; done)
    rename_i ps ids hp
    split at h
    · rename_i v s' hc
      split at h <;> try (simp at h; done)
      rename_i v1 ho
      obtain ⟨v', wr, ha⟩ : ∃ v' wr, adopt b v1 = (v', wr) := ⟨_, _, rfl⟩
      rw [ha] at h
      simp only at h
      have hrd : e.rd = ids ++ wr.map (·.1) := by
        split at h <;> simp at h
        subst h
        rfl
      have h1 : Same S S' ids := hs.mono fun i hi => by rw [hrd]; simp [hi]
      have h2 : Same S S' (wr.map (·.1)) := hs.mono fun i hi => by rw [hrd]; exact List.mem_append_right _ hi
      have hp' := purs_same (pur_same depth) hp h1
      rw [hp']
      simp only [hc, ho, ha]
      rw [allFree_same h2, freeze_same h1]
      exact h
    · split at h <;> try (simp at h; done)
      split at h <;> simp at h
    · simp at h
  · split at h <;> simp at h

theorem callOp_same {C : CallFn} {imp : Nat → Bool} {b : Nat} {c : Call} {e : Eff} (h : callOp C imp P tm S b c = some (.eff e)) (hs : Same S S' e.rd) : callOp C imp P tm S' b c = some (.eff e) := by
  unfold callOp at h ⊢
  split at h
  · split at h <;> try (simp at h; done)
    split at h <;> try (simp at h; done)
    · exact callAt_same h hs
    · exfalso
      split at h <;> try (simp at h; done)
      split at h <;> simp at h
  · split at h <;> try (simp at h; done)
    split at h <;> try (simp at h; done)
    split at h <;> try (simp at h; done)
    exact callAt_same h hs
  · simp at h

theorem evOp_same {C : CallFn} {imp : Nat → Bool} {b : Nat} {op : Op} {e : Eff} (h : evOp C imp P tm S b op = some (.eff e)) (hs : Same S S' e.rd) : evOp C imp P tm S' b op = some (.eff e) := by
  have pl : ∀ {op}, (plainOp P tm S b op).map R.eff = some (.eff e) → (plainOp P tm S' b op).map R.eff = some (.eff e) := by
    intro op h
    simp only [Option.map_eq_some_iff, R.eff.injEq] at h ⊢
    obtain ⟨x, h1, rfl⟩ := h
    exact ⟨x, plainOp_same h1 hs, rfl⟩
  unfold evOp at h ⊢
  split at h
  · split at h <;> try (simp at h; done)
    split at h <;> simp at h
  · split at h
    · exact pl h
    · exact callOp_same h hs
  · split at h <;> try (simp at h; done)
    split at h <;> try (simp at h; done)
    split at h <;> simp at h
  · exact pl h

end
end Go.Proofs.YtceccojmekpneaaGreatDoor.Sw
