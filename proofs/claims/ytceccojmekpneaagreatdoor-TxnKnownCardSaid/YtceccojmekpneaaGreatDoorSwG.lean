/- Operations that touch no memory, continued. -/
import Derived.Test.YtceccojmekpneaaGreatDoorSwF
import Derived.Laws.StructEq
import Derived.ChangeKeysEq
namespace Go.Proofs.YtceccojmekpneaaGreatDoor.Sw

section
variable {P : Program} {g : Sg} {s : Sto} {w : World}

theorem eqGuard_run {op : BinOp} {t : Nat} {x y : Operand} {a b : Value} (h1 : ¬ (a = .nilIface ∧ b = .nilIface) ∨ (isConst x || isConst y) = true) (h2 : ∀ c, a ≠ .agg c) :
    (eqGuard op t x y a b).run P w = .ok () w := by
  unfold eqGuard
  by_cases hn : a = .nilIface ∧ b = .nilIface
  · obtain ⟨rfl, rfl⟩ := hn
    have hc := h1.resolve_left (fun h => h ⟨rfl, rfl⟩)
    cases op <;> first | rfl | (cases x <;> cases y <;> first | rfl | (simp [isConst] at hc))
  · cases op <;> first | rfl | (cases a <;> first | rfl | exact absurd rfl (h2 _) | (cases b <;> first | rfl | exact absurd ⟨rfl, rfl⟩ hn))

theorem basicSame_run {t : Nat} {x y : PVal} {vx vy : Value} {b : Bool} {d : Nat} (hx : RepP g.imm w x vx) (hy : RepP g.imm w y vy) (h : basicSame (P.underlying t) x y = some b) : (Op.equalIn (d + 1) t vx vy).run P w = .ok b w := by
  unfold basicSame at h
  split at h
  · rename_i hd
    split at h <;> simp at h
    rename_i hk
    simp at hk
    subst h; subst hk
    have e1 : vx = .int _ _ := hx
    have e2 : vy = .int _ _ := hy
    subst e1 e2
    simp [Op.equalIn, run_underlying' hd]
  · rename_i hd
    simp at h
    subst h
    obtain ⟨u, rfl, h1⟩ := hx
    obtain ⟨r, rfl, h2⟩ := hy
    simp only [Op.equalIn, Sem.run_bind, run_underlying' hd, Result.andThen_ok, Sem.run_pure]
    rw [beq_toListBytes, toList_data, toList_data, sameBytes_eq, ← h1, ← h2, map_toNat_beq]
  · rename_i hd
    simp at h
    subst h
    have e1 : vx = .bool _ := hx
    have e2 : vy = .bool _ := hy
    subst e1 e2
    simp [Op.equalIn, run_underlying' hd]
  · simp at h

theorem sameFields_run {d : Nat} {a b : List PVal} {va vb : List Value} (ha : RepPs g.imm w a va) (hb : RepPs g.imm w b vb) : ∀ {fs : List Field} {r : Bool}, sameFields P fs a b = some r →
    (Op.eqFields (d + 1) va.toArray vb.toArray fs).run P w = .ok r w
  | [], r, h => by
    simp [sameFields] at h
    subst h
    rfl
  | f :: fs, r, h => by
    simp only [sameFields] at h
    split at h <;> try (simp at h; done)
    rename_i x y h1 h2 h3 h4
    rw [nth_eq] at h3 h4
    obtain ⟨vx, q1, q2⟩ := RepPs.get ha h3
    obtain ⟨vy, q3, q4⟩ := RepPs.get hb h4
    have hne : f.name ≠ "_" := by simpa using h1
    have p1 : (Go.part f.type va.toArray f.offset).run P w = .ok vx w := by simp [Go.part, run_isAgg' h2, q1]
    have p2 : (Go.part f.type vb.toArray f.offset).run P w = .ok vy w := by simp [Go.part, run_isAgg' h2, q3]
    simp only [Op.eqFields, hne, ne_eq, not_false_eq_true, if_true, Sem.run_bind, p1, p2, Result.andThen_ok]
    split at h
    · rename_i hs
      simp only [basicSame_run q2 q4 hs, Result.andThen_ok, Bool.not_true, Bool.false_eq_true, if_false]
      exact sameFields_run ha hb h
    · rename_i hno
      cases r with
      | true => exact absurd h hno
      | false => simp only [basicSame_run q2 q4 h, Result.andThen_ok, Bool.not_false, if_true, Sem.run_pure]

theorem sameRow_run {d e c : Nat} {a b : List PVal} {va vb : List Value} (hg : aggT P e = some false) (ha : RepPs g.imm w a va) (hb : RepPs g.imm w b vb) : ∀ {i k : Nat} {r : Bool}, sameRow P e c a b i k = some r →
    (Op.eqItems (d + 1) e c va.toArray vb.toArray (List.range' i k)).run P w = .ok r w
  | i, 0, r, h => by
    simp [sameRow] at h
    subst h
    rfl
  | i, k + 1, r, h => by
    simp only [sameRow] at h
    split at h <;> try (simp at h; done)
    rename_i x y h3 h4
    rw [nth_eq] at h3 h4
    obtain ⟨vx, q1, q2⟩ := RepPs.get ha h3
    obtain ⟨vy, q3, q4⟩ := RepPs.get hb h4
    have p1 : (Go.part e va.toArray (i * c)).run P w = .ok vx w := by simp [Go.part, run_isAgg' hg, q1]
    have p2 : (Go.part e vb.toArray (i * c)).run P w = .ok vy w := by simp [Go.part, run_isAgg' hg, q3]
    rw [List.range'_succ]
    simp only [Op.eqItems, Sem.run_bind, p1, p2, Result.andThen_ok]
    split at h
    · rename_i hs
      simp only [basicSame_run q2 q4 hs, Result.andThen_ok, Bool.not_true, Bool.false_eq_true, if_false]
      exact sameRow_run hg ha hb h
    · rename_i hno
      cases r with
      | true => exact absurd h hno
      | false => simp only [basicSame_run q2 q4 h, Result.andThen_ok, Bool.not_false, if_true, Sem.run_pure]

theorem structEq_run {t : Nat} {a b : List PVal} {vx vy : Value} {r : Bool} (hx : RepP g.imm w (.agg a) vx) (hy : RepP g.imm w (.agg b) vy) (h : structEq P t a b = some r) : (Op.equal t vx vy).run P w = .ok r w := by
  obtain ⟨va, rfl, h1, _⟩ := hx
  obtain ⟨vb, rfl, h2, _⟩ := hy
  unfold structEq at h
  split at h
  · rename_i n e hu
    split at h <;> try (simp at h; done)
    rename_i c hg hsz
    have hi : ∃ i, P.info? e = some i ∧ P.cellsOf e = c := by
      simp only [szT, Option.map_eq_some_iff] at hsz
      obtain ⟨i, h3, h4⟩ := hsz
      exact ⟨i, h3, by simp [Program.cellsOf, h3, h4]⟩
    obtain ⟨i, h3, h4⟩ := hi
    rw [show Op.equal t (.agg va.toArray) (.agg vb.toArray) = Op.equalIn (9999 + 1) t (.agg va.toArray) (.agg vb.toArray) from rfl, run_equalIn_array w 9999 _ _ hu h3, h4, List.range_eq_range']
    exact sameRow_run (d := 9998) hg h1 h2 h
  rotate_left
  · simp at h
  rename_i fs hu
  split at h <;> try (simp at h; done)
  rename_i hst
  have hf : P.fieldsOf t = fs := by simp [Program.fieldsOf, hu]
  rw [show Op.equal t (.agg va.toArray) (.agg vb.toArray) = Op.equalIn (9999 + 1) t (.agg va.toArray) (.agg vb.toArray) from rfl, run_equalIn_struct w 9999 t _ _ (by rw [hf]; exact hu) hst, hf]
  exact sameFields_run h1 h2 h

theorem binary_run {a : Act} {o : Oper} {op : BinOp} {t ty : Nat} {ox oy : Operand} {x y z : AVal} (ho : o.op = .binOp op t ox oy ty)
    (hx : RepA g s w x (a.eval ox)) (hy : RepA g s w y (a.eval oy)) (h : binary P op t ox oy x y = some z) :
    ∃ v, (execOp a.eval o).run P w = .ok (.value v) w ∧ RepA g s w z v := by
  have fin : ∀ {u v : Value}, u = a.eval ox → v = a.eval oy → (¬ (u = .nilIface ∧ v = .nilIface) ∨ (isConst ox || isConst oy) = true) → (∀ c, u ≠ .agg c) →
      (∃ r, (binOp op t u v).run P w = .ok r w ∧ RepA g s w z r) → ∃ v, (execOp a.eval o).run P w = .ok (.value v) w ∧ RepA g s w z v := by
    intro u v hu hv h1 h2 ⟨r, hr, hz⟩
    subst hu; subst hv
    refine ⟨r, ?_, hz⟩
    simp only [execOp, ho, Sem.run_bind, eqGuard_run h1 h2, Result.andThen_ok, hr]
    rfl
  unfold binary at h
  split at h
  · rename_i k c k' d
    have e1 : a.eval ox = .int k c := hx
    have e2 : a.eval oy = .int k' d := hy
    have nn : ¬ ((Value.int k c) = .nilIface ∧ (Value.int k' d) = .nilIface) ∨ (isConst ox || isConst oy) = true := .inl (by simp)
    split at h
    · simp only [Option.map_eq_some_iff] at h
      obtain ⟨p, h1, rfl⟩ := h
      exact fin e1.symm e2.symm nn (by simp) (shiftBin_run h1 (.inl rfl))
    · simp only [Option.map_eq_some_iff] at h
      obtain ⟨p, h1, rfl⟩ := h
      exact fin e1.symm e2.symm nn (by simp) (shiftBin_run h1 (.inr rfl))
    · rename_i hs hs'
      split at h
      · rename_i hk
        subst hk
        simp only [Option.map_eq_some_iff] at h
        obtain ⟨p, h1, rfl⟩ := h
        exact fin e1.symm e2.symm nn (by simp) (intBin_run hs hs' h1)
      · simp at h
  · rename_i c d
    simp only [Option.map_eq_some_iff] at h
    obtain ⟨p, h1, rfl⟩ := h
    have hx' := hx
    obtain ⟨u, e1, _⟩ := hx'
    exact fin rfl rfl (.inl (by rw [e1]; simp)) (by rw [e1]; simp) (strBin_run hx hy h1)
  · rename_i c d
    have hx' := hx
    have hy' := hy
    obtain ⟨vc, e1, _⟩ := hx'
    obtain ⟨vd, e2, _⟩ := hy'
    split at h <;> try (simp at h; done)
    · rename_i hm
      simp only [Option.map_eq_some_iff] at h
      obtain ⟨b, h1, rfl⟩ := h
      have hq := structEq_run (P := P) hx hy h1
      refine ⟨.bool b, ?_, rfl⟩
      rw [e1, e2] at hq
      simp only [execOp, ho, Sem.run_bind, e1, e2, run_eqGuard_agg w _ _ _ _ _ _ hm, Result.andThen_ok, run_eql_struct]
      rw [show Op.equalIn 10000 t (.agg vc.toArray) (.agg vd.toArray) = Op.equal t (.agg vc.toArray) (.agg vd.toArray) from rfl, hq]
      rfl
    · rename_i hm
      simp only [Option.map_eq_some_iff] at h
      obtain ⟨b, h1, rfl⟩ := h
      have hq := structEq_run (P := P) hx hy h1
      refine ⟨.bool (!b), ?_, rfl⟩
      rw [e1, e2] at hq
      simp only [execOp, ho, Sem.run_bind, e1, e2, run_eqGuard_agg w _ _ _ _ _ _ hm, Result.andThen_ok, run_neq_struct]
      rw [show Op.equalIn 10000 t (.agg vc.toArray) (.agg vd.toArray) = Op.equal t (.agg vc.toArray) (.agg vd.toArray) from rfl, hq]
      rfl
  · split at h
    · split at h
      · simp at h
      · rename_i hb
        simp only [Option.map_eq_some_iff] at h
        obtain ⟨b, h1, rfl⟩ := h
        obtain ⟨hr, n1, n2, n3, n4, n5⟩ := eqv_run hx hy h1
        refine fin rfl rfl ?_ n5 ⟨.bool b, ?_, rfl⟩
        · by_cases hc : (isConst ox || isConst oy) = true
          · exact .inr hc
          · refine .inl (fun ⟨h2, h3⟩ => ?_)
            have hbn : bothNili x y = true := by
              cases x with
              | p x' => cases x' <;> first | (have := hx; rw [h2] at this; simp [RepA, RepP] at this; done) | skip
                        cases y with
                        | p y' => cases y' <;> first | rfl | (have := hy; rw [h3] at this; simp [RepA, RepP] at this; done)
                        | junk => unfold eqv at h1; split at h1 <;> simp [nilIf, nilSl, nilPt, nilMp, nilFn, nilEq] at h1
                        | rf k _ => have := hy; rw [h3] at this; obtain ⟨_, _, e⟩ := this; cases k <;> simp [refVal] at e
                        | _ => have := hy; rw [h3] at this; simp [RepA] at this
              | junk => unfold eqv at h1; split at h1 <;> simp [nilIf, nilSl, nilPt, nilMp, nilFn, nilEq] at h1
              | rf k _ => have := hx; rw [h2] at this; obtain ⟨_, _, e⟩ := this; cases k <;> simp [refVal] at e
              | _ => have := hx; rw [h2] at this; simp [RepA] at this
            rw [hbn] at hb
            simp at hb hc
            simp [hc] at hb
        · generalize a.eval ox = u at *
          cases u <;> first
            | exact absurd rfl (n1 _ _) | exact absurd rfl (n2 _) | exact absurd rfl (n3 _ _) | exact absurd rfl (n4 _ _ _)
            | (simp only [binOp, Sem.run_bind, hr, Result.andThen_ok]; rfl)
    · split at h
      · simp at h
      · rename_i hb
        simp only [Option.map_eq_some_iff] at h
        obtain ⟨b, h1, rfl⟩ := h
        obtain ⟨hr, n1, n2, n3, n4, n5⟩ := eqv_run hx hy h1
        refine fin rfl rfl ?_ n5 ⟨.bool (!b), ?_, rfl⟩
        · by_cases hc : (isConst ox || isConst oy) = true
          · exact .inr hc
          · refine .inl (fun ⟨h2, h3⟩ => ?_)
            have hbn : bothNili x y = true := by
              cases x with
              | p x' => cases x' <;> first | (have := hx; rw [h2] at this; simp [RepA, RepP] at this; done) | skip
                        cases y with
                        | p y' => cases y' <;> first | rfl | (have := hy; rw [h3] at this; simp [RepA, RepP] at this; done)
                        | junk => unfold eqv at h1; split at h1 <;> simp [nilIf, nilSl, nilPt, nilMp, nilFn, nilEq] at h1
                        | rf k _ => have := hy; rw [h3] at this; obtain ⟨_, _, e⟩ := this; cases k <;> simp [refVal] at e
                        | _ => have := hy; rw [h3] at this; simp [RepA] at this
              | junk => unfold eqv at h1; split at h1 <;> simp [nilIf, nilSl, nilPt, nilMp, nilFn, nilEq] at h1
              | rf k _ => have := hx; rw [h2] at this; obtain ⟨_, _, e⟩ := this; cases k <;> simp [refVal] at e
              | _ => have := hx; rw [h2] at this; simp [RepA] at this
            rw [hbn] at hb
            simp at hb hc
            simp [hc] at hb
        · generalize a.eval ox = u at *
          cases u <;> first
            | exact absurd rfl (n1 _ _) | exact absurd rfl (n2 _) | exact absurd rfl (n3 _ _) | exact absurd rfl (n4 _ _ _)
            | (simp only [binOp, Sem.run_bind, hr, Result.andThen_ok]; rfl)
    · simp at h

theorem unary_run {op : UnOp} {x z : AVal} {v : Value} (hx : RepA g s w x v) (h : unary op x = some z) : ∃ u, (Op.unary op v).run P w = .ok u w ∧ RepA g s w z u := by
  unfold unary at h
  split at h
  · simp at h
    subst h
    have e : v = .int _ _ := hx
    subst e
    exact ⟨_, by simp [Op.unary, Op.intArith]; rfl, by simp [RepA, RepP]⟩
  · simp at h
    subst h
    have e : v = .bool _ := hx
    subst e
    exact ⟨_, by simp [Op.unary], rfl⟩
  · rename_i k n
    simp only [Option.map_eq_some_iff] at h
    obtain ⟨q, h1, rfl⟩ := h
    have e : v = .int k n := hx
    subst e
    obtain ⟨u, h2, h3⟩ := intBin_run (P := P) (w := w) (g := g) (t := 0) (by simp) (by simp) h1
    exact ⟨u, by simpa [Op.unary, binOp] using h2, h3⟩
  · simp at h

theorem conv_run {src dst : Nat} {x z : AVal} {v : Value} (hx : RepA g s w x v) (h : conv P src dst x = some z) : ∃ u, (convert src dst v).run P w = .ok u w ∧ RepA g s w z u := by
  unfold conv at h
  split at h
  · rename_i k k' n hd
    split at h <;> simp at h
    rename_i k2 hs
    subst h
    have e : v = .int _ _ := hx
    subst e
    exact ⟨_, by simp [convert, run_underlying' hs, run_underlying' hd, Conv.intToInt], rfl⟩
  · rename_i bs hd
    split at h <;> simp at h
    rename_i hs
    subst h
    obtain ⟨t, rfl, ht⟩ := hx
    exact ⟨_, by simp [convert, run_underlying' hs, run_underlying' hd], ⟨t, rfl, ht⟩⟩
  · simp at h


/-! ### Parts of values -/
theorem run_part {t : Nat} {gg : Bool} {n off : Nat} {cs : List Value} {v : Value} (hg : aggT P t = some gg) (hn : szT P t = some n)
    (h1 : gg = true → off + n ≤ cs.length ∧ v = .agg ((cs.drop off).take n).toArray) (h2 : gg = false → cs[off]? = some v) :
    (Go.part t cs.toArray off).run P w = .ok v w := by
  unfold Go.part
  simp only [Sem.run_bind, run_isAgg' hg, Result.andThen_ok]
  cases gg with
  | true =>
    obtain ⟨hl, rfl⟩ := h1 rfl
    simp only [if_true, Sem.run_bind, run_sizeOf' hn, Result.andThen_ok, Sem.run_pure]
    congr 2
    simp [List.extract_toArray]
  | false =>
    have := h2 rfl
    simp [this]

theorem partV_run {t : Nat} {gg : Bool} {n off : Nat} {x z : AVal} {v : Value} (hg : aggT P t = some gg) (hn : szT P t = some n) (hx : RepA g s w x v) (h : partV gg x off n = some z) :
    ∃ cs u, v = .agg cs ∧ (Go.part t cs off).run P w = .ok u w ∧ RepA g s w z u := by
  unfold partV at h
  split at h
  · simp only [Option.map_eq_some_iff] at h
    obtain ⟨y, h1, rfl⟩ := h
    obtain ⟨vs, rfl, hr, hc⟩ := hx
    obtain ⟨u, a, b, c⟩ := partP_rep hr hc h1
    exact ⟨_, u, rfl, run_part hg hn b c, a⟩
  · obtain ⟨vs, rfl, hr, hc⟩ := hx
    obtain ⟨u, a, b, c⟩ := part_rep hr hc h
    exact ⟨_, u, rfl, run_part hg hn b c, a⟩
  · simp at h

theorem field_run {t f : Nat} {x z : AVal} {v : Value} (hx : RepA g s w x v) (h : fieldOp P t f x = some z) : ∃ u, (Instr.field t v f).run P w = .ok u w ∧ RepA g s w z u := by
  unfold fieldOp at h
  split at h
  · rename_i fd hf
    split at h
    · rename_i n gg hn hg
      obtain ⟨cs, u, rfl, h1, h2⟩ := partV_run hg hn hx h
      unfold fieldT at hf
      split at hf
      · rename_i fs hu
        refine ⟨u, ?_, h2⟩
        simp only [Instr.field, Sem.run_bind, run_underlying' hu, Result.andThen_ok, hf, asAgg, Sem.run_pure, h1]
      · simp at hf
    · simp at h
  · simp at h

theorem natOf_rep {x : AVal} {v : Value} {n : Nat} (hx : RepA g s w x v) (h : natOf x = some n) : ∃ k, v = .int k (n : Int) := by
  unfold natOf at h
  split at h <;> simp at h
  subst h
  exact ⟨_, hx⟩

theorem index_run {t : Nat} {x i z : AVal} {v vi : Value} (hx : RepA g s w x v) (hi : RepA g s w i vi) (h : indexOp P t x i = some z) :
    ∃ u, (Instr.index t v vi).run P w = .ok u w ∧ RepA g s w z u := by
  unfold indexOp at h
  split at h
  · rename_i n hn
    obtain ⟨k, rfl⟩ := natOf_rep hi hn
    split at h
    · rename_i hu
      split at h
      · rename_i bs
        simp only [nth_eq, Option.map_eq_some_iff] at h
        obtain ⟨b, h1, rfl⟩ := h
        obtain ⟨r, rfl, rfl⟩ := hx
        simp only [List.getElem?_map, Option.map_eq_some_iff] at h1
        obtain ⟨c, h1, rfl⟩ := h1
        have hlt : n < r.size := by
          have := (List.getElem?_eq_some_iff.1 h1).1
          simpa using this
        have hc : r[n]? = some c := by
          rw [ByteArray.getElem?_lt' r n hlt]
          have := (List.getElem?_eq_some_iff.1 h1).2
          simp at this
          exact congrArg some this
        refine ⟨.int .u8 c.toNat, ?_, rfl⟩
        simp [Instr.index, asIntOf, run_underlying' hu, hc]
      · simp at h
    · rename_i len e hu
      split at h
      · rename_i sz gg hsz hgg
        split at h
        · rename_i hb
          have hlt : n < len := by
            have : Nat.ble (n + 1) len = true := hb
            exact Nat.le_of_ble_eq_true this
          obtain ⟨cs, u, rfl, h1, h2⟩ := partV_run hgg hsz hx h
          refine ⟨u, ?_, h2⟩
          have hc : (0 : Int) ≤ (n : Int) ∧ (n : Int) < (len : Int) := by omega
          simp only [Instr.index, asIntOf, Sem.run_bind, Sem.run_pure, Result.andThen_ok, run_underlying' hu]
          rw [if_pos hc]
          simp only [Sem.run_bind, run_sizeOf' hsz, Result.andThen_ok, Int.toNat_natCast, h1]
        · simp at h
      · simp at h
    · simp at h
  · simp at h

theorem extract_run {x z : AVal} {v : Value} {i : Nat} (hx : RepA g s w x v) (h : extractOp x i = some z) : ∃ u, (Instr.extract v i).run P w = .ok u w ∧ RepA g s w z u := by
  unfold extractOp at h
  split at h
  · simp only [nth_eq, Option.map_eq_some_iff] at h
    obtain ⟨y, h1, rfl⟩ := h
    obtain ⟨vs, rfl, hr⟩ := hx
    obtain ⟨u, a, b⟩ := hr.get h1
    exact ⟨u, by simp [Instr.extract, a], b⟩
  · simp only [nth_eq] at h
    obtain ⟨vs, rfl, hr⟩ := hx
    obtain ⟨u, a, b⟩ := hr.get h
    exact ⟨u, by simp [Instr.extract, a], b⟩
  · simp at h

theorem len_run {t ty : Nat} {x z : AVal} {v : Value} (hx : RepA g s w x v) (h : lenOp P t x = some z) : ∃ u, (Builtin.len_ #[t] ty #[v]).run P w = .ok u w ∧ RepA g s w z u := by
  unfold lenOp at h
  split at h
  · rename_i hu
    split at h <;> simp at h
    subst h
    obtain ⟨r, rfl, rfl⟩ := hx
    exact ⟨.int .i64 r.size, by simp [Builtin.len_, run_underlying' hu, goInt], by simp [RepA, RepP]⟩
  · rename_i n e hu
    simp at h
    subst h
    exact ⟨.int .i64 n, by simp [Builtin.len_, run_underlying' hu, goInt], by simp [RepA, RepP]⟩
  · rename_i e hu
    split at h <;> simp at h <;> subst h
    · have e : v = .slice none 0 0 := hx
      subst e
      exact ⟨.int .i64 0, by simp [Builtin.len_, run_underlying' hu, goInt], rfl⟩
    · rename_i xs
      obtain ⟨b, o, cap, sz, vs, rfl, _⟩ := hx
      exact ⟨.int .i64 xs.length, by simp [Builtin.len_, run_underlying' hu, goInt], rfl⟩
    · rename_i xs
      obtain ⟨b, o, sz, vs, rfl, _⟩ := hx
      exact ⟨.int .i64 xs.length, by simp [Builtin.len_, run_underlying' hu, goInt], rfl⟩
    · rename_i id ep off len c
      obtain ⟨b, o, cap, rfl, _⟩ := hx
      exact ⟨.int .i64 len, by simp [Builtin.len_, run_underlying' hu, goInt], rfl⟩
  · simp at h

end
end Go.Proofs.YtceccojmekpneaaGreatDoor.Sw
