/- Results of calls that were made in a store of their own. -/
import Derived.Test.YtceccojmekpneaaGreatDoorSwT
namespace Go.Proofs.YtceccojmekpneaaGreatDoor.Sw
open Go.RowKit

/-- entries of a map, without names. -/
def RepEP (I : Nat → Nat → Prop) (w : World) : List (PVal × PVal) → List MapEntry → Prop
  | [], l => l = []
  | (k, x) :: es, l => ∃ e r, l = e :: r ∧ RepP I w k e.key ∧ RepP I w x e.val ∧ RepEP I w es r

theorem RepEP.mono {I I' : Nat → Nat → Prop} {w : World} (hI : ∀ b o, I b o → I' b o) : ∀ {es : List (PVal × PVal)} {l : List MapEntry}, RepEP I w es l → RepEP I' w es l
  | [], _, h => h
  | (k, x) :: es, _, h => by
    obtain ⟨e, r, rfl, h1, h2, h3⟩ := h
    exact ⟨e, r, rfl, RepP.keeps (.mono hI) _ _ h1, RepP.keeps (.mono hI) _ _ h2, RepEP.mono hI h3⟩

theorem RepEP.es {g : Sg} {s : Sto} {w : World} : ∀ {es : List (PVal × PVal)} {l : List MapEntry}, RepEP g.imm w es l → RepEs g s w (es.map fun q => (q.1, .p q.2)) l
  | [], _, h => h
  | (k, x) :: es, _, h => by
    obtain ⟨e, r, rfl, h1, h2, h3⟩ := h
    exact ⟨e, r, rfl, h1, h2, RepEP.es h3⟩

/-- a part of a result, as it lies in the memory of the call. -/
def PartOk (I : Nat → Nat → Prop) (g : Sg) (w : World) : AVal → List Nat → Value → Prop
  | .p p, ow, u => ow = [] ∧ RepP I w p u
  | .own sz ys, ow, u => ∃ id st cap c t vs, ow = [id] ∧ u = .slice (some ⟨g.cb id, st, none⟩) ys.length cap ∧ ys.length ≤ cap ∧ g.rg (g.cb id) = some (id, st, ys.length) ∧
      w.heap[g.cb id]? = some (.cells c t (0, 0)) ∧ RepPs I w ys vs ∧ (∀ v ∈ vs, v.cells.size = sz ∧ ∀ x ∈ v.cells.toList, isCell x = true) ∧
      (∀ (i : Nat) (x : Value), (vs.flatMap (·.cells.toList))[i]? = some x → c[st + i]? = some x) ∧ st + cap * sz ≤ c.size ∧ (∀ o, g.imm (g.cb id) o → o < st)
  | .ownm es, ow, u => ∃ id b ents clock, ow = [id] ∧ u = .map (some b) ∧ g.bx id = some b ∧ w.heap[b]? = some (.map ents clock) ∧ RepEP I w es ents.toList
  | _, _, _ => False

def PartsOk (I : Nat → Nat → Prop) (g : Sg) (w : World) : List AVal → List Nat → List Value → Prop
  | [], ow, us => ow = [] ∧ us = []
  | x :: xs, ow, us => ∃ ow1 ow2 u us', ow = ow1 ++ ow2 ∧ us = u :: us' ∧ PartOk I g w x ow1 u ∧ PartsOk I g w xs ow2 us'

section
variable {P : Program} {g g' : Sg} {s s' : Sto} {w w' : World}

theorem PartOk.mono {I I' : Nat → Nat → Prop} (hI : ∀ b o, I b o → I' b o) {x : AVal} {ow : List Nat} {u : Value} (h : PartOk I g w x ow u) : PartOk I' g w x ow u := by
  cases x with
  | p x => exact ⟨h.1, RepP.keeps (.mono hI) _ _ h.2⟩
  | own sz ys =>
    obtain ⟨id, st, cap, c, t, vs, h1, h2, h3, h4, h5, h6, h7⟩ := h
    exact ⟨id, st, cap, c, t, vs, h1, h2, h3, h4, h5, RepPs.keeps (.mono hI) _ _ h6, h7⟩
  | ownm es =>
    obtain ⟨id, b, ents, clock, h1, h2, h3, h4, h5⟩ := h
    exact ⟨id, b, ents, clock, h1, h2, h3, h4, h5.mono hI⟩
  | _ => exact h.elim

theorem purEs_rep {f : AVal → Option (PVal × List Nat)} (hf : ∀ v x ids u, f v = some (x, ids) → RepA g s w v u → RepP (immOf g s ids) w x u) :
    ∀ {es : List (PVal × AVal)} {xs : List (PVal × PVal)} {ids : List Nat} {l : List MapEntry}, purEs f es = some (xs, ids) → RepEs g s w es l → RepEP (immOf g s ids) w xs l
  | [], _, _, _, h, hr => by
    simp [purEs] at h
    obtain ⟨rfl, rfl⟩ := h
    exact hr
  | (k, v) :: es, _, _, _, h, hr => by
    obtain ⟨e, r, rfl, h1, h2, h3⟩ := hr
    simp only [purEs] at h
    split at h <;> simp at h
    rename_i x a xs b hx hxs
    obtain ⟨rfl, rfl⟩ := h
    exact ⟨e, r, rfl, RepP.keeps (.mono fun b o h => .inl h) _ _ h1, RepP.keeps (.mono fun b o => immOf.mono (by simp; exact fun i hi => .inl hi)) _ _ (hf _ _ _ _ hx h2),
      (purEs_rep hf hxs h3).mono fun b o => immOf.mono (by simp; exact fun i hi => .inr hi)⟩

theorem outv_rep {S : St} (hs : ∀ id, s id = S.get id) (hi : Inv g s w) {v x : AVal} {rd ow : List Nat} {u : Value} (h : outv S v = some (x, rd, ow)) (hr : RepA g s w v u) :
    PartOk (immOf g s rd) g w x ow u := by
  have gen : ∀ {v x : AVal} {rd ow : List Nat}, ((pur S depth v).map fun x => (AVal.p x.1, x.2, ([] : List Nat))) = some (x, rd, ow) → RepA g s w v u → PartOk (immOf g s rd) g w x ow u := by
    intro v x rd ow h hr
    simp only [Option.map_eq_some_iff] at h
    obtain ⟨⟨y, a⟩, h1, h2⟩ := h
    simp at h2
    obtain ⟨rfl, rfl, rfl⟩ := h2
    exact ⟨rfl, pur_rep hs hi _ _ _ _ _ h1 hr⟩
  unfold outv at h
  split at h
  · rename_i id ep off len c
    split at h
    · rename_i sz n xs cur lost fz hid
      split at h
      · rename_i t1 t2 t3 t4 t6
        have t1 := Nat.eq_of_beq_eq_true t1
        have t2 := Nat.eq_of_beq_eq_true t2
        have t3 := Nat.eq_of_beq_eq_true t3
        have t4 := Nat.eq_of_beq_eq_true t4
        have t6 := Nat.le_of_ble_eq_true t6
        subst t1 t2 t3 t4
        split at h <;> simp at h
        rename_i ys rd' hys
        obtain ⟨rfl, rfl, rfl⟩ := h
        obtain ⟨b, o, cap, rfl, h3, h4, sz2, n2, xs2, cur2, lost2, fz2, k1, k2⟩ := hr
        have k1' := k1
        rw [hs id, hid] at k1
        simp at k1
        obtain ⟨rfl, rfl, rfl, rfl, rfl, rfl⟩ := k1
        obtain ⟨_, st, m, k3, k4, k5, k6, k7⟩ := k2 t6
        obtain ⟨q1, q2, q3, q4⟩ := hi.arr id _ _ _ _ _ _ k1'
        obtain ⟨q5, c', t', vs, q6, q7, q8, q9, q10, q11⟩ := q4 b st m k3
        have hm : m = xs.length := by omega
        subst hm
        have hcb := k7 rfl
        rw [List.take_length] at q7
        have hp := purs_rep (pur_rep hs hi depth) hys q7
        have hl := RepPs.length hp
        have hl2 := RepAs.length q7
        have hlen : ys.length = xs.length := by omega
        refine ⟨id, st, cap, c', t', vs, rfl, by rw [hcb, hlen, k4, q1]; simp, by omega, by rw [hcb, hlen]; exact k3, by rw [hcb]; exact q6, hp, q8, q9, ?_, fun o ho => ?_⟩
        · have := k6 rfl
          unfold World.bsize at this
          rw [q6] at this
          rw [k4] at this
          simpa using this
        · have := q10 o (by rw [← hcb]; exact ho); omega
      · exact gen h hr
    · simp at h
  · rename_i id
    split at h <;> try (simp at h; done)
    rename_i es hid
    split at h <;> simp at h
    rename_i ys rd' hys
    obtain ⟨rfl, rfl, rfl⟩ := h
    obtain ⟨b, hb, rfl⟩ := hr
    obtain ⟨b', o, h1, h2, ents, clock, rfl, h3⟩ := hi.ho id _ ((hs id).trans hid)
    rw [hb] at h1
    simp at h1
    subst h1
    exact ⟨id, b, ents, clock, rfl, rfl, hb, h2, purEs_rep (pur_rep hs hi depth) hys h3⟩
  · exact gen h hr

theorem outvs_rep {S : St} (hs : ∀ id, s id = S.get id) (hi : Inv g s w) {I : Nat → Nat → Prop} : ∀ {vs xs : List AVal} {rd ow : List Nat} {us : List Value}, outvs S vs = some (xs, rd, ow) →
    (∀ b o, immOf g s rd b o → I b o) → RepAs g s w vs us → PartsOk I g w xs ow us
  | [], xs, rd, ow, us, h, _, hr => by
    simp [outvs] at h
    obtain ⟨rfl, rfl, rfl⟩ := h
    exact ⟨rfl, hr⟩
  | v :: vs, xs, rd, ow, us, h, hI, hr => by
    obtain ⟨u, us, rfl, h1, h2⟩ := hr
    simp only [outvs] at h
    split at h <;> simp at h
    rename_i x a b xs' c d e1 e2
    obtain ⟨rfl, rfl, rfl⟩ := h
    exact ⟨b, d, u, us, rfl, rfl, (outv_rep hs hi e1 h1).mono fun b o h => hI b o (h.mono (by simp; exact fun i hi => .inl hi)),
      outvs_rep hs hi e2 (fun b o h => hI b o (h.mono (by simp; exact fun i hi => .inr hi))) h2⟩

theorem PartsOk.unP {I : Nat → Nat → Prop} : ∀ {xs : List AVal} {ow : List Nat} {us : List Value} {ps : List PVal}, PartsOk I g w xs ow us → Sw.unP xs = some ps → RepPs I w ps us
  | [], _, _, _, h, hu => by
    simp [Sw.unP] at hu; subst hu; exact h.2
  | x :: xs, _, _, _, h, hu => by
    obtain ⟨ow1, ow2, u, us, rfl, rfl, h1, h2⟩ := h
    cases x <;> simp only [Sw.unP] at hu <;> try (simp at hu; done)
    split at hu <;> simp at hu
    rename_i ps hps
    subst hu
    exact ⟨u, us, rfl, h1.2, PartsOk.unP h2 hps⟩

theorem hasDup_cons {x : Nat} {l : List Nat} (h : hasDup (x :: l) = false) : x ∉ l ∧ hasDup l = false := by
  simp only [hasDup] at h
  split at h
  · simp at h
  · rename_i hc; exact ⟨by simpa using hc, h⟩

theorem meets_not {l m : List Nat} (h : meets l m = false) : ∀ x ∈ l, x ∉ m := by
  induction l with
  | nil => simp
  | cons y l ih =>
    simp only [meets] at h
    split at h
    · simp at h
    · rename_i hc
      intro x hx
      cases hx with
      | head => simpa using hc
      | tail _ hx => exact ih h x hx

theorem adopts_names : ∀ (b : Nat) (xs : List AVal), ∀ q ∈ (adopts b xs).2, b ≤ q.1
  | b, [] => by simp [adopts]
  | b, x :: xs => by
    intro q hq
    simp only [adopts, List.mem_append] at hq
    rcases hq with hq | hq
    · cases x <;> simp [adopt1] at hq <;> subst hq <;> exact Nat.le_refl _
    · have := adopts_names (b + 1) xs q hq; omega

theorem adopts_rep {I : Nat → Nat → Prop} {g2 : Sg} : ∀ {xs : List AVal} {ow : List Nat} {us : List Value} {g : Sg} {s : Sto} (b : Nat), PartsOk I g2 w xs ow us → Inv g s w →
    (∀ b o, I b o → g.imm b o) →
    (∀ id ∈ ow, ∀ blk st m, g2.rg blk = some (id, st, m) → g.base ≤ blk ∧ g.rg blk = none ∧ (∀ i, g.bx i ≠ some blk)) →
    (∀ id ∈ ow, ∀ blk, g2.bx id = some blk → g.base ≤ blk ∧ g.rg blk = none ∧ (∀ i, g.bx i ≠ some blk) ∧ (∀ o, ¬ g.imm blk o)) →
    (∀ id id' b, g2.bx id = some b → g2.bx id' = some b → id = id') → (∀ id b, g2.bx id = some b → g2.rg b = none) →
    (∀ id ∈ ow, (∃ st m, g2.rg (g2.cb id) = some (id, st, m)) → ∀ o st, (∀ o, g2.imm (g2.cb id) o → o < st) → g.imm (g2.cb id) o → o < st) → hasDup ow = false →
    (∀ q ∈ (adopts b xs).2, s q.1 = none) →
    ∃ g', Ext g s w g' (upds s (adopts b xs).2) w ∧ Inv g' (upds s (adopts b xs).2) w ∧ RepAs g' (upds s (adopts b xs).2) w (adopts b xs).1 us
  | [], ow, us, g, s, b, hp, hi, _, _, _, _, _, _, _, _ => ⟨g, .refl _ _ _, hi, hp.2⟩
  | x :: xs, ow, us, g, s, b, hp, hi, hI, hrg, hmp, hinj, hbr, himm, hd, hn => by
    obtain ⟨ow1, ow2, u, us, rfl, rfl, h1, h2⟩ := hp
    simp only [adopts] at hn ⊢
    cases x with
    | p x =>
      obtain ⟨rfl, h1⟩ := h1
      simp only [adopt1, List.nil_append] at hn ⊢
      obtain ⟨g', e1, e2, e3⟩ := adopts_rep (b + 1) h2 hi hI (fun id h => hrg id h) (fun id h => hmp id h) hinj hbr (fun id h => himm id h) hd hn
      refine ⟨g', e1, e2, u, us, rfl, ?_, e3⟩
      exact RepA.ext e1 (.p x) u (RepP.keeps (.mono hI) _ _ h1)
    | own sz ys =>
      obtain ⟨id, st, cap, c, t, vs, rfl, rfl, k3, k4, k5, k6, k7, k8, k9, k10⟩ := h1
      obtain ⟨d1, d2⟩ := hasDup_cons (by simpa using hd)
      obtain ⟨r1, r2, r3⟩ := hrg id (by simp) _ _ _ k4
      simp only [adopt1, List.cons_append, List.nil_append] at hn ⊢
      have hb := hn (b, .arr sz ys.length (ys.map .p) 0 0 0) (by simp)
      have hlen : (ys.map AVal.p).length = ys.length := by simp
      obtain ⟨g1, e1, e2, e3, e4, e5, e6, e7⟩ := take_over hi (id := b) hb (xs := ys.map .p) k5 r1 r2 r3 (fun o ho => himm id (by simp) ⟨_, _, k4⟩ o st k10 ho)
        (mapP_rep (RepPs.keeps (.mono hI) _ _ k6)) k7 k8 (by simpa using k3) k9
      rw [hlen] at e1 e2 e3
      have hn' : ∀ q ∈ (adopts (b + 1) xs).2, upd s b (.arr sz ys.length (ys.map .p) 0 0 0) q.1 = none := fun q hq => by
        have := adopts_names _ _ q hq
        rw [upd_other _ _ (by omega)]
        exact hn q (by simp [hq])
      obtain ⟨g', f1, f2, f3⟩ := adopts_rep (b + 1) h2 e2 (fun b o h => by rw [e4]; exact hI b o h) (fun id' h blk' st' m' hr => by
          have hne : blk' ≠ g2.cb id := fun e => by
            subst e
            rw [k4] at hr
            simp at hr
            exact d1 (hr.1 ▸ h)
          obtain ⟨q1, q2, q3⟩ := hrg id' (by simp [h]) _ _ _ hr
          exact ⟨by rw [e6]; exact q1, by rw [e7 _ hne]; exact q2, by rw [e5]; exact q3⟩)
        (fun id' h blk' hb' => by
          obtain ⟨q1, q2, q3, q4⟩ := hmp id' (by simp [h]) _ hb'
          have hne : blk' ≠ g2.cb id := fun e => by
            subst e
            rw [hbr _ _ hb'] at k4
            simp at k4
          exact ⟨by rw [e6]; exact q1, by rw [e7 _ hne]; exact q2, by rw [e5]; exact q3, by rw [e4]; exact q4⟩) hinj hbr
        (fun id' h => by rw [e4]; exact himm id' (by simp [h])) d2 hn'
      exact ⟨g', e1.trans f1, f2, _, us, rfl, RepA.ext f1 _ _ e3, f3⟩
    | ownm es =>
      obtain ⟨id, bl, ents, clock, rfl, rfl, k3, k4, k5⟩ := h1
      obtain ⟨d1, d2⟩ := hasDup_cons (by simpa using hd)
      obtain ⟨r1, r2, r3, r4⟩ := hmp id (by simp) _ k3
      simp only [adopt1, List.cons_append, List.nil_append] at hn ⊢
      have hb := hn (b, .ho (.mp (es.map fun q => (q.1, .p q.2)))) (by simp)
      obtain ⟨g1, e1, e2, e3, e4, e5, e6, e7⟩ := take_ho hi (id := b) hb (h := .mp (es.map fun q => (q.1, .p q.2))) k4 r1 r2 r3 r4 ⟨ents, clock, rfl, (k5.mono hI).es⟩
      have hn' : ∀ q ∈ (adopts (b + 1) xs).2, upd s b (.ho (.mp (es.map fun q => (q.1, .p q.2)))) q.1 = none := fun q hq => by
        have := adopts_names _ _ q hq
        rw [upd_other _ _ (by omega)]
        exact hn q (by simp [hq])
      have hbx : ∀ blk', blk' ≠ bl → (∀ i, g.bx i ≠ some blk') → ∀ i, g1.bx i ≠ some blk' := fun blk' hne q3 i => by
        by_cases hib : i = b
        · subst hib; rw [e3]; simp; exact fun e => hne e.symm
        · rw [e7 _ hib]; exact q3 i
      obtain ⟨g', f1, f2, f3⟩ := adopts_rep (b + 1) h2 e2 (fun b o h => by rw [e4]; exact hI b o h) (fun id' h blk' st' m' hr => by
          obtain ⟨q1, q2, q3⟩ := hrg id' (by simp [h]) _ _ _ hr
          have hne : blk' ≠ bl := fun e => by
            subst e
            rw [hbr _ _ k3] at hr
            simp at hr
          exact ⟨by rw [e6]; exact q1, by rw [e5]; exact q2, hbx _ hne q3⟩)
        (fun id' h blk' hb' => by
          obtain ⟨q1, q2, q3, q4⟩ := hmp id' (by simp [h]) _ hb'
          have hne : blk' ≠ bl := fun e => by
            subst e
            exact d1 (hinj _ _ _ k3 hb' ▸ h)
          exact ⟨by rw [e6]; exact q1, by rw [e5]; exact q2, hbx _ hne q3, by rw [e4]; exact q4⟩) hinj hbr
        (fun id' h => by rw [e4]; exact himm id' (by simp [h])) d2 hn'
      exact ⟨g', e1.trans f1, f2, _, us, rfl, RepA.ext f1 _ _ ⟨bl, e3, rfl⟩, f3⟩
    | _ => exact h1.elim

mutual
theorem flat_rep {I I' : Nat → Nat → Prop} {w w' : World} : ∀ (x : PVal) (v : Value), flatP x = true → RepP I w x v → RepP I' w' x v
  | .bool _, _, _, h => h
  | .int _ _, _, _, h => h
  | .str _, _, _, h => h
  | .nilp, _, _, h => h
  | .nils, _, _, h => h
  | .nilm, _, _, h => h
  | .nilf, _, _, h => h
  | .nili, _, _, h => h
  | .agg cs, _, hf, h => by
    obtain ⟨vs, e, h1, h2⟩ := h
    exact ⟨vs, e, flats_rep cs vs (by simpa [flatP] using hf) h1, h2⟩
  | .tup cs, _, hf, h => by
    obtain ⟨vs, e, h1⟩ := h
    exact ⟨vs, e, flats_rep cs vs (by simpa [flatP] using hf) h1⟩
  | .iface _ _, _, hf, _ => by simp [flatP] at hf
  | .sl _, _, hf, _ => by simp [flatP] at hf
  | .ip _, _, hf, _ => by simp [flatP] at hf
  | .fn _ _, _, hf, _ => by simp [flatP] at hf
theorem flats_rep {I I' : Nat → Nat → Prop} {w w' : World} : ∀ (xs : List PVal) (vs : List Value), flatP.flats xs = true → RepPs I w xs vs → RepPs I' w' xs vs
  | [], _, _, h => h
  | x :: xs, _, hf, h => by
    obtain ⟨y, ys, e, h1, h2⟩ := h
    simp only [flatP.flats] at hf
    split at hf
    · rename_i hx
      exact ⟨y, ys, e, flat_rep x y hx h1, flats_rep xs ys hf h2⟩
    · simp at hf
end

theorem allFree_spec {S : St} : ∀ {l : List (Nat × Obj)}, allFree S l = true → ∀ q ∈ l, S.get q.1 = none
  | [], _ => by simp
  | (i, o) :: l, h => by
    simp only [allFree] at h
    split at h
    · rename_i hn
      intro q hq
      cases hq with
      | head => exact hn
      | tail _ hq => exact allFree_spec h q hq
    · simp at h

theorem outR_cases {S : St} (hs : ∀ id, s id = S.get id) (hi : Inv g s w) {v v1 : AVal} {u : Value} (h : outR S v = some v1) (hr : RepA g s w v u) :
    (∃ x rd, v1 = .p x ∧ RepP (immOf g s rd) w x u) ∨
    (∃ xs rd ow us, PartsOk (immOf g s rd) g w xs ow us ∧ hasDup ow = false ∧ meets ow rd = false ∧
      ((v1 = .tup xs ∧ u = .tuple us.toArray) ∨ (v1 = .agg xs ∧ u = .agg us.toArray ∧ ∀ x ∈ us, isCell x = true) ∨ (((∃ sz ys, v1 = .own sz ys) ∨ ∃ es, v1 = .ownm es) ∧ xs = [v1] ∧ us = [u]))) := by
  have outL_spec : ∀ {vs xs : List AVal} {us : List Value}, outL S vs = some xs → RepAs g s w vs us → ∃ rd ow, PartsOk (immOf g s rd) g w xs ow us ∧ hasDup ow = false ∧ meets ow rd = false := by
    intro vs xs us h hr
    unfold outL at h
    split at h
    · rename_i xs' rd ow ho
      split at h <;> simp at h
      rename_i hb
      subst h
      simp at hb
      exact ⟨rd, ow, outvs_rep hs hi ho (fun _ _ h => h) hr, hb.1, hb.2⟩
    · simp at h
  unfold outR at h
  split at h
  · rename_i y hy
    simp at h
    subst h
    split at hy
    · rename_i vs
      simp only [Option.map_eq_some_iff] at hy
      obtain ⟨xs, h1, rfl⟩ := hy
      obtain ⟨us, rfl, hr⟩ := hr
      obtain ⟨rd, ow, h2, h3, h4⟩ := outL_spec h1 hr
      unfold mkTup
      split
      · rename_i ps hps
        exact .inl ⟨_, rd, rfl, us, rfl, h2.unP hps⟩
      · exact .inr ⟨xs, rd, ow, us, h2, h3, h4, .inl ⟨rfl, rfl⟩⟩
    · rename_i vs
      simp only [Option.map_eq_some_iff] at hy
      obtain ⟨xs, h1, rfl⟩ := hy
      obtain ⟨us, rfl, hr, hc⟩ := hr
      obtain ⟨rd, ow, h2, h3, h4⟩ := outL_spec h1 hr
      unfold mkAgg
      split
      · rename_i ps hps
        exact .inl ⟨_, rd, rfl, us, rfl, h2.unP hps, hc⟩
      · exact .inr ⟨xs, rd, ow, us, h2, h3, h4, .inr (.inl ⟨rfl, rfl, hc⟩)⟩
    · split at hy <;> simp at hy
      rename_i z hz
      subst hy
      obtain ⟨rd, ow, h2, h3, h4⟩ := outL_spec hz (⟨u, [], rfl, hr, rfl⟩ : RepAs g s w [v] [u])
      obtain ⟨ow1, ow2, u', us', e1, e2, h5, h6⟩ := id h2
      simp at e2
      obtain ⟨rfl, rfl⟩ := e2
      cases z with
      | p x => exact .inl ⟨x, rd, rfl, h5.2⟩
      | own sz ys => exact .inr ⟨_, rd, ow, _, h2, h3, h4, .inr (.inr ⟨.inl ⟨sz, ys, rfl⟩, rfl, rfl⟩)⟩
      | ownm es => exact .inr ⟨_, rd, ow, _, h2, h3, h4, .inr (.inr ⟨.inr ⟨es, rfl⟩, rfl, rfl⟩)⟩
      | _ => exact h5.elim
  · simp only [Option.map_eq_some_iff] at h
    obtain ⟨⟨x, a⟩, h1, rfl⟩ := h
    exact .inl ⟨x, a, rfl, pur_rep hs hi _ _ _ _ _ h1 hr⟩

end
end Go.Proofs.YtceccojmekpneaaGreatDoor.Sw
