/- Regions whose order is drawn. -/
import Derived.Test.YtceccojmekpneaaGreatDoorSxC
namespace Go.Proofs.YtceccojmekpneaaGreatDoor.Sw
open Go.RowKit

section
variable {C : CallFn} {imp : Nat → Bool} {P : Program} {n : Nat} {ops : Array Oper}

/-- which of two stands first is settled. -/
def Ord (B : Array Nat) (i j : Nat) : Prop := (i < j ∧ (B.getD j 0).testBit i = true) ∨ (j < i ∧ (B.getD i 0).testBit j = true)

def Down (B : Array Nat) (L : Nat → Bool) : Prop := ∀ j i, L j = true → (B.getD j 0).testBit i = true → L i = true

theorem ord_iff {B : Array Nat} {L : Nat → Bool} {i j : Nat} (hd : Down B L) (hj : L j = false) (hr : ∀ i, (B.getD j 0).testBit i = true → L i = true) (ho : Ord B i j) : L i = decide (i < j) := by
  rcases ho with ⟨h1, h2⟩ | ⟨h1, h2⟩
  · rw [hr i h2]; simp [h1]
  · cases hL : L i with
    | false => simp; omega
    | true =>
      have := hd i j hL h2
      rw [hj] at this
      simp at this

def Out.looks (x : Out) (id : Nat) : Prop := match x with
  | .skip => False
  | .eff e => id ∈ e.rd

theorem meets_of {x : Nat} {l m : List Nat} (h1 : x ∈ l) (h2 : x ∈ m) : meets l m = true := by
  induction l with
  | nil => simp at h1
  | cons y l ih =>
    simp only [meets]
    split
    · rfl
    · rename_i hc
      cases h1 with
      | head => simp [h2] at hc
      | tail _ h => exact ih h

theorem clash_of {x y : Out} {id : Nat} (hx : x.writes id) (hy : y.looks id ∨ y.writes id) : clash x.rec' y.rec' = true ∧ clash y.rec' x.rec' = true ∧ x.rec'.touch ∧ y.rec'.touch := by
  cases x with
  | skip => exact hx.elim
  | eff e =>
    have tx : (Out.eff e).rec'.touch := .inr (List.ne_nil_of_mem hx)
    cases y with
    | skip => rcases hy with h | h <;> exact h.elim
    | eff e2 =>
      rcases hy with h | h
      · have := meets_of hx h
        exact ⟨by simp [clash, Out.rec', recOf, this], by simp [clash, Out.rec', recOf, this], tx, .inl (List.ne_nil_of_mem h)⟩
      · have h1 := meets_of hx h
        have h2 := meets_of h hx
        exact ⟨by simp [clash, Out.rec', recOf, h1], by simp [clash, Out.rec', recOf, h2], tx, .inr (List.ne_nil_of_mem h)⟩

theorem hit_ord {B : Array Nat} {items : Items} (hp : pairsFree B (recsOf 0 items []) = true) {i j : Nat} (hne : i ≠ j) {oi oj : Oper} {xi xj : Out} (hi : items[i]? = some (oi, xi)) (hj : items[j]? = some (oj, xj))
    {id : Nat} (hx : xi.writes id) (hy : xj.looks id ∨ xj.writes id) : Ord B i j := by
  obtain ⟨c1, c2, t1, t2⟩ := clash_of hx hy
  rcases Nat.lt_or_gt_of_ne hne with h | h
  · exact .inl ⟨h, clash_ordered hp h hi hj t1 t2 c2⟩
  · exact .inr ⟨h, clash_ordered hp h hj hi t2 t1 c1⟩

theorem name_ord {B : Array Nat} (hs : namesApart ops B = true) {i j : Nat} (hne : i ≠ j) {oi oj : Oper} (hi : ops[i]? = some oi) (hj : ops[j]? = some oj) {d : Tmp} (hd : oi.dst = some d)
    (hl : d ∈ oj.looksAt ops ∨ oj.dst = some d) : Ord B i j := by
  rcases Nat.lt_or_gt_of_ne hne with h | h
  · cases hb : (B.getD j 0).testBit i with
    | true => exact .inl ⟨h, hb⟩
    | false =>
      obtain ⟨h1, h2, _⟩ := Oper.apart_spec (namesApart_spec hs hi hj h hb)
      rcases hl with hl | hl
      · exact absurd hl (h1 d hd)
      · exact absurd hl (h2 d hd)
  · cases hb : (B.getD i 0).testBit j with
    | true => exact .inr ⟨h, hb⟩
    | false =>
      obtain ⟨_, h2, h3⟩ := Oper.apart_spec (namesApart_spec hs hj hi h hb)
      rcases hl with hl | hl
      · exact absurd hl (h3 d hd)
      · exact absurd hd (h2 d hl)

theorem wantedA_agree {tm tm' : Tr AVal} {o : Oper} (h : ∀ d ∈ o.looksAt ops, tm'.get d = tm.get d) : wantedA ops tm' o = wantedA ops tm o := by
  have h : ∀ d ∈ o.looksAt ops, operand tm' (.tmp d) = operand tm (.tmp d) := fun d hd => by simp only [operand]; rw [h d hd]
  unfold wantedA
  split
  · rfl
  · rename_i j want hg
    split
    · rename_i oj hoj
      split
      · rename_i d hd
        rw [h d (by simp [Oper.looksAt, hg, hoj, hd])]
      · rfl
    · rfl

theorem operands_look {o : Oper} {t : Tmp} (h : Operand.tmp t ∈ o.op.operands.toList) : t ∈ o.looksAt ops :=
  List.mem_append_left _ (List.mem_filterMap.2 ⟨.tmp t, h, rfl⟩)

/-! ### Taking one more -/
section step
variable {B : Array Nat} {items : Items} {L : Nat → Bool} {j : Nat} {o : Oper} {x : Out} {tm : Tr AVal} {S : Sto}

theorem step_tm (hs : namesApart ops B = true) (hit : items.map (·.1) = ops.toList) (hd : Down B L) (hj : L j = false) (hr : ∀ i, (B.getD j 0).testBit i = true → L i = true) (ho : ops[j]? = some o) :
    ∀ d ∈ o.looksAt ops, (runTm L 0 items tm).get d = (runTm (fun m => decide (m < 0 + j)) 0 items tm).get d := by
  intro d hd'
  refine runTm_same rfl fun k o' x' hk hdst => ?_
  simp only [Nat.zero_add]
  by_cases hkj : k = j
  · subst hkj; rw [hj]; simp
  · have hk' : ops[k]? = some o' := by
      have : (items.map (·.1))[k]? = some o' := by simp [hk]
      rw [hit] at this
      simpa using this
    exact ord_iff hd hj hr (name_ord hs hkj hk' ho hdst (.inl hd'))

theorem step_st (hp : pairsFree B (recsOf 0 items []) = true) (hd : Down B L) (hj : L j = false) (hr : ∀ i, (B.getD j 0).testBit i = true → L i = true) (hx : items[j]? = some (o, x)) {id : Nat} (hl : x.looks id) :
    runSt L 0 items S id = runSt (fun m => decide (m < 0 + j)) 0 items S id := by
  refine runSt_same rfl fun k o' x' hk hw => ?_
  simp only [Nat.zero_add]
  by_cases hkj : k = j
  · subst hkj; rw [hj]; simp
  · exact ord_iff hd hj hr (hit_ord hp hkj hk hx hw (.inl hl))

theorem take_tm (hs : namesApart ops B = true) (hit : items.map (·.1) = ops.toList) (hd : Down B L) (hj : L j = false) (hr : ∀ i, (B.getD j 0).testBit i = true → L i = true) (hx : items[j]? = some (o, x)) (t : Nat) :
    (runTm (fun m => m == j || L m) 0 items tm).get t = (putD (runTm L 0 items tm) o.dst x.val).get t := by
  have op_of : ∀ {k : Nat} {o' : Oper} {x' : Out}, items[k]? = some (o', x') → ops[k]? = some o' := fun {k o' x'} hk => by
    have : (items.map (·.1))[k]? = some o' := by simp [hk]
    rw [hit] at this
    simpa using this
  rw [putD_get]
  by_cases hdt : o.dst = some t
  · rw [if_pos hdt]
    refine runTm_last (k := j) hx hdt (by simp) fun k o' x' hk hlt hd' => ?_
    simp only [Nat.zero_add]
    have hkj : k ≠ j := by omega
    have := ord_iff hd hj hr (name_ord hs hkj (op_of hk) (op_of hx) hd' (.inr hdt))
    rw [this]
    simp; omega
  · rw [if_neg hdt]
    refine runTm_same rfl fun k o' x' hk hd' => ?_
    simp only [Nat.zero_add]
    have : k ≠ j := fun e => by
      subst e
      rw [hk] at hx
      simp at hx
      exact hdt (hx.1 ▸ hd')
    simp [this]

theorem take_st (hp : pairsFree B (recsOf 0 items []) = true) (hd : Down B L) (hj : L j = false) (hr : ∀ i, (B.getD j 0).testBit i = true → L i = true) (hx : items[j]? = some (o, x)) (id : Nat) :
    runSt (fun m => m == j || L m) 0 items S id = x.st (runSt L 0 items S) id := by
  by_cases hw : x.writes id
  · refine runSt_last (k := j) hx hw (by simp) fun k o' x' hk hlt hw' => ?_
    simp only [Nat.zero_add]
    have hkj : k ≠ j := by omega
    have := ord_iff hd hj hr (hit_ord hp hkj hk hx hw' (.inr hw))
    rw [this]
    simp; omega
  · rw [Out.st_get hw]
    refine runSt_same rfl fun k o' x' hk hw' => ?_
    simp only [Nat.zero_add]
    have : k ≠ j := fun e => by
      subst e
      rw [hk] at hx
      simp at hx
      exact hw (hx.2 ▸ hw')
    simp [this]

end step

theorem any_wp {ro : Option Nat} {gl : Tr AVal} (hC : CallOk2 P gl C) (hN : NoOwn P) (hnb : n ≤ glBase) {dfs : List Dfr} {N : Nat} {Q : Exit → Act → World → Prop} (hst : statOk ops = true) {items : Items} (hit : items.map (·.1) = ops.toList)
    (hp : pairsFree (Region.before ops) (recsOf 0 items []) = true) {tm : Tr AVal} {S : St}
    (hok : ∀ (k : Nat) (o : Oper) (x : Out), items[k]? = some (o, x) → OutOk C imp P n ops (runTm (fun m => decide (m < 0 + k)) 0 items tm) (runSt (fun m => decide (m < 0 + k)) 0 items S.get) o x)
    {g₀ : Sg} {s₀ : Sto} {w₀ : World} {a₀ : Act} (hG : Glob gl g₀.imm w₀) (hQ : ∀ a' w', Here g₀ s₀ w₀ a₀ (runTm (fun _ => true) 0 items tm) dfs (runSt (fun _ => true) 0 items S.get) a' w' → Q .normal a' w') (hn : n ≤ a₀.tmps.size) :
    ∀ (fuel : Nat) (listed : Array Bool) (a : Act) (w : World), listed.size = ops.size → listed.toList.count false ≤ fuel → Down (Region.before ops) (fun m => listed.getD m false) →
      Here g₀ s₀ w₀ a₀ (runTm (fun m => listed.getD m false) 0 items tm) dfs (runSt (fun m => listed.getD m false) 0 items S.get) a w → wpAnyIn (Fw ro) N P .any ops Q fuel listed a w := by
  have hst1 : edgesBack ops = true := by simp [statOk] at hst; exact hst.1
  have hst2 : namesApart ops (Region.before ops) = true := by simp [statOk] at hst; exact hst.2
  have hil : items.length = ops.size := by have := congrArg List.length hit; simpa using this
  have fin : ∀ (listed : Array Bool) (a : Act) (w : World), listed.size = ops.size → (∀ i, i < ops.size → listed.getD i false = true) →
      Here g₀ s₀ w₀ a₀ (runTm (fun m => listed.getD m false) 0 items tm) dfs (runSt (fun m => listed.getD m false) 0 items S.get) a w → Q .normal a w := by
    intro listed a w hsz hall h
    have e1 : ∀ t, (runTm (fun _ => true) 0 items tm).get t = (runTm (fun m => listed.getD m false) 0 items tm).get t := fun t =>
      runTm_same rfl fun k o x hk _ => by
        have : k < items.length := (List.getElem?_eq_some_iff.1 hk).1
        simp only [Nat.zero_add]; exact (hall k (by omega)).symm
    have e2 : runSt (fun _ => true) 0 items S.get = runSt (fun m => listed.getD m false) 0 items S.get := funext fun id =>
      runSt_same rfl fun k o x hk _ => by
        have : k < items.length := (List.getElem?_eq_some_iff.1 hk).1
        simp only [Nat.zero_add]; exact (hall k (by omega)).symm
    obtain ⟨⟨g', f1, f2, f3, f4⟩, f5⟩ := h
    exact hQ a w ⟨⟨g', by rw [e2]; exact f1, by rw [e2]; exact f2, by rw [e2]; exact f3.congr e1, by rw [e2]; exact f4⟩, f5⟩
  -- one that is not listed, and before which all are, is ready
  have least : ∀ (listed : Array Bool), listed.size = ops.size → Region.ready .any ops listed = [] → ∀ i, i < ops.size → listed.getD i false = true := by
    intro listed hsz hr i
    induction i using Nat.strongRecOn with
    | _ i ih =>
      intro hi
      cases hL : listed.getD i false with
      | true => rfl
      | false =>
        exfalso
        obtain ⟨o, ho⟩ : ∃ o, ops[i]? = some o := ⟨ops[i], by simp [hi]⟩
        have : i ∈ Region.ready .any ops listed := mem_ready.2 ⟨by
            have hi' : i < listed.size := by omega
            simp only [Array.getD_eq_getD_getElem?, Array.getElem?_eq_getElem hi', Option.getD_some] at hL ⊢
            exact hL, o, ho, fun e he hb => ih e.on (edgesBack_spec hst1 ho e he hb) (Nat.lt_trans (edgesBack_spec hst1 ho e he hb) hi)⟩
        rw [hr] at this
        simp at this
  intro fuel
  induction fuel with
  | zero =>
    intro listed a w hsz hcount hd hh
    have h0 : listed.toList.count false = 0 := by omega
    have hall : ∀ i, i < ops.size → listed.getD i false = true := by
      intro i hi
      have hi' : i < listed.size := by omega
      have hnot := List.count_eq_zero.1 h0
      cases hL : listed.getD i false with
      | true => rfl
      | false =>
        exfalso
        simp only [Array.getD_eq_getD_getElem?, Array.getElem?_eq_getElem hi', Option.getD_some] at hL
        exact hnot (by rw [← hL]; simp)
    refine ⟨?_, fin listed a w hsz hall hh⟩
    cases hr : Region.ready .any ops listed with
    | nil => rfl
    | cons j r =>
      exfalso
      have hj : j ∈ Region.ready .any ops listed := by rw [hr]; simp
      obtain ⟨h1, o, ho, _⟩ := mem_ready.1 hj
      have hjs := (Array.getElem?_eq_some_iff.1 ho).1
      have := hall j hjs
      have hj' : j < listed.size := by omega
      simp only [Array.getD_eq_getD_getElem?, Array.getElem?_eq_getElem hj', Option.getD_some] at this h1
      rw [this] at h1
      simp at h1
  | succ fuel ih =>
    intro listed a w hsz hcount hd hh
    refine ⟨fun hr => fin listed a w hsz (least listed hsz hr) hh, fun j hj => ?_⟩
    obtain ⟨h1, o, ho, hedges⟩ := mem_ready.1 hj
    have hjs := (Array.getElem?_eq_some_iff.1 ho).1
    have hj' : j < listed.size := by omega
    have hLj : listed.getD j false = false := by
      simp only [Array.getD_eq_getD_getElem?, Array.getElem?_eq_getElem hj', Option.getD_some] at h1 ⊢
      exact h1
    have hready : ∀ i, ((Region.before ops).getD j 0).testBit i = true → listed.getD i false = true := by
      intro i hb
      obtain ⟨e, e1, e2, e3⟩ := before_spec hst1 ho hb
      rcases e3 with rfl | e3
      · exact hedges e e1 e2
      · exact hd e.on i (hedges e e1 e2) e3
    obtain ⟨x, hx⟩ : ∃ x, items[j]? = some (o, x) := by
      have hjl : j < items.length := by omega
      have : (items.map (·.1))[j]? = some o := by rw [hit]; simpa using ho
      simp only [List.getElem?_map, Option.map_eq_some_iff] at this
      obtain ⟨⟨o', x⟩, q1, q2⟩ := this
      simp at q2
      subst q2
      exact ⟨x, q1⟩
    -- what is listed then
    have hL1 : (fun m => (listed.setIfInBounds j true).getD m false) = fun m => m == j || listed.getD m false := by
      funext m
      simp only [Array.getD_eq_getD_getElem?, Array.getElem?_setIfInBounds]
      by_cases hm : m = j
      · subst hm; simp [hj']
      · have : ¬ j = m := fun e => hm e.symm
        simp [hm, this]
    have hdown : Down (Region.before ops) (fun m => (listed.setIfInBounds j true).getD m false) := by
      rw [hL1]
      intro k i hk hb
      simp only [Bool.or_eq_true, beq_iff_eq] at hk ⊢
      rcases hk with rfl | hk
      · exact .inr (hready i hb)
      · exact .inr (hd k i hk hb)
    have hcnt : (listed.setIfInBounds j true).toList.count false ≤ fuel := by
      rw [Array.toList_setIfInBounds, List.count_set (by simpa using hj')]
      have e1 : listed.toList[j] = false := by
        simp only [Array.getD_eq_getD_getElem?, Array.getElem?_eq_getElem hj', Option.getD_some] at hLj
        simpa using hLj
      simp only [e1, beq_self_eq_true, if_true]
      have : 0 < listed.toList.count false := List.count_pos_iff.2 (by rw [← e1]; simp)
      simp
      simp at this hcount
      omega
    obtain ⟨⟨g1, q1, q2, q3, q4⟩, q5⟩ := hh
    have hG1 := hG.ext q1
    have hna : n ≤ a.tmps.size := by omega
    have ok := hok j o x hx
    have hlook := step_tm (tm := tm) hst2 hit hd hLj hready ho
    have htk := take_tm (tm := tm) hst2 hit hd hLj hready hx
    have hsk : runSt (fun m => (listed.setIfInBounds j true).getD m false) 0 items S.get = x.st (runSt (fun m => listed.getD m false) 0 items S.get) := by
      rw [hL1]
      exact funext fun id => take_st hp hd hLj hready hx id
    -- what comes after
    have next : ∀ {u : Value} {g2 : Sg} {w2 : World}, Ext g1 (runSt (fun m => listed.getD m false) 0 items S.get) w g2 (x.st (runSt (fun m => listed.getD m false) 0 items S.get)) w2 →
        Inv g2 (x.st (runSt (fun m => listed.getD m false) 0 items S.get)) w2 → RepA g2 (x.st (runSt (fun m => listed.getD m false) 0 items S.get)) w2 x.val u →
        wpAnyIn (Fw ro) N P .any ops Q fuel (listed.setIfInBounds j true) (a.put o.dst u) w2 := by
      intro u g2 w2 f1 f2 f3
      refine ih _ _ _ (by simpa using hsz) hcnt hdown ?_
      refine ⟨⟨g2, ?_, ?_, ?_, ?_⟩, by simpa using q5⟩
      · rw [hsk]; exact q1.trans f1
      · rw [hsk]; exact f2
      · rw [hsk]
        refine (Frm.put (q3.ext f1) f3 (fun d hd' => ⟨Nat.lt_of_lt_of_le (ok.1 d hd') hna, Nat.lt_of_lt_of_le (ok.1 d hd') hnb⟩)).congr fun t => ?_
        rw [hL1]
        exact htk t
      · rw [hsk, put_defers]; exact q4.ext f1
    have hagree : Agree (runTm (fun m => decide (m < 0 + j)) 0 items tm) (runTm (fun m => listed.getD m false) 0 items tm) o.op.operands.toList :=
      agree_of (fun t ht => hlook t (operands_look ht)) fun k => runTm_same rfl fun m o' x' hm hd' => by
        have := (hok m o' x' hm).1 _ hd'
        exact absurd (Nat.lt_of_lt_of_le this hnb) (Nat.not_lt.2 (Nat.le_add_right glBase k))
    have hwant := wantedA_agree hlook
    unfold wpOpIn
    rw [ho]
    simp only
    obtain ⟨_, ok⟩ := ok
    cases x with
    | skip =>
      rw [← hwant] at ok
      rw [wantedA_rep q3 ok]
      simp only [Bool.false_eq_true, if_false]
      exact ⟨fun _ _ => trivial, next (.refl _ _ _) q2 rep_undef⟩
    | eff e =>
      obtain ⟨ok1, S1, b, hS1, ok2⟩ := ok
      rw [← hwant] at ok1
      rw [wantedA_rep q3 ok1]
      simp only [if_true]
      rw [← evOp_tm hagree] at ok2
      obtain ⟨N0, hN0⟩ := runSt_bounded (L := fun m => listed.getD m false) (items := items) (i := 0) (S.bounded)
      obtain ⟨S2, hS2⟩ := St.of_fun N0 _ hN0
      have hsame : ∀ id ∈ e.rd, S2.get id = S1.get id := fun id hid => by
        rw [hS1, hS2]
        exact step_st hp hd hLj hready hx (x := .eff e) hid
      rcases ok2 with ok2 | ⟨s', ok2, he⟩
      · have ok3 := evOp_same (S' := S2) ok2 hsame
        rw [← hS2] at q2 q3 next
        refine evOp_wp hC.toCallOk hN q2 hG1 q3 ok3 ?_
        intro u g' w' e1 e2 e3
        exact next e1 e2 e3
      · obtain ⟨T', k1, k2, k3, k4⟩ := (evOp_again hC.loc ok2).2 { S2 with next := S1.next } rfl (fun id hid => hsame id (by rw [he]; exact hid))
        have hT : T'.get = (Out.eff e).st S2.get := by
          rw [k3, app_flat]
          show upds S2.get s'.log.flat = upds S2.get e.wr
          rw [he]
        have hS2' : ({ S2 with next := S1.next } : St).get = S2.get := rfl
        rw [← hS2, ← hS2'] at q2 q3
        rw [← hS2] at next
        refine evOp_wp hC.toCallOk hN q2 hG1 q3 k1 ?_
        intro u g' w' e1 e2 e3
        rw [hT, hS2'] at e1
        rw [hT] at e2 e3
        exact next e1 e2 e3

end
end Go.Proofs.YtceccojmekpneaaGreatDoor.Sw
