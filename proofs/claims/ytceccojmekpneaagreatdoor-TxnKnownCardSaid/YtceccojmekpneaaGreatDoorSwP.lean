/- Appending: the operation. -/
import Derived.Test.YtceccojmekpneaaGreatDoorSwO
namespace Go.Proofs.YtceccojmekpneaaGreatDoor.Sw
open Go.RowKit

section
variable {P : Program} {g : Sg} {s : Sto} {w : World}

/-- what an operation that yields a value does. -/
def Yields (g : Sg) (s : Sto) (w : World) (e : Eff) (r : Result Value) : Prop :=
  ∃ u g' w', r = .ok u w' ∧ Ext g s w g' (e.wr.foldl (fun s x => upd s x.1 x.2) s) w' ∧
    Inv g' (e.wr.foldl (fun s x => upd s x.1 x.2) s) w' ∧ RepA g' (e.wr.foldl (fun s x => upd s x.1 x.2) s) w' e.v u

theorem Yields.same (hi : Inv g s w) {x : AVal} {v : Value} {rd : List Nat} (hx : RepA g s w x v) {r : Result Value} (hr : r = .ok v w) : Yields g s w ⟨x, rd, []⟩ r :=
  ⟨v, g, w, hr, .refl _ _ _, hi, hx⟩

/-- nothing is appended. -/
theorem append_zero {t t2 ty e sz sLen cap : Nat} {base : Option Addr} {v : Value} (ht : P.underlying t = some (.slice e)) (ht2 : notInt P t2 = true) (hsz : szT P e = some sz)
    (h1 : (Builtin.lenOf v).run P w = .ok 0 w) (h2 : (Builtin.firstCells sz 0 v).run P w = .ok #[] w) (hle : sLen ≤ cap) :
    (Builtin.append_ #[t, t2] ty #[.slice base sLen cap, v]).run P w = .ok (.slice base sLen cap) w := by
  obtain ⟨d, hd, hni⟩ := notInt_spec ht2
  cases base <;> simp [Builtin.append_, run_underlying' ht, run_sizeOf' hsz, run_underlying' hd, h1, h2, hle, storeCells]

/-- into new memory, under a new name. -/
theorem append_fresh (hi : Inv g s w) {t t2 ty e sz cap by_ b : Nat} {base : Option Addr} {gg : Bool} {v : Value} {zs ys : List AVal} {vs us : List Value} {rd : List Nat}
    (ht : P.underlying t = some (.slice e)) (ht2 : notInt P t2 = true) (hsz : szT P e = some sz)
    (hby : bytesT P e = some by_) (hzo : zeroOk P e gg sz = true) (hb0 : 0 < by_) (hz : RepAs g s w zs vs) (hr : RepAs g s w ys us)
    (hall : ∀ v ∈ vs ++ us, v.cells.size = sz ∧ ∀ x ∈ v.cells.toList, isCell x = true)
    (h1 : (Builtin.lenOf v).run P w = .ok ys.length w) (h2 : (Builtin.firstCells sz ys.length v).run P w.drew = .ok (us.flatMap (·.cells.toList)).toArray w.drew)
    (h3 : (Builtin.firstCells sz zs.length (.slice base zs.length cap)).run P w.drew = .ok (vs.flatMap (·.cells.toList)).toArray w.drew)
    (hcap : cap = zs.length) (hne : 0 < ys.length) (hbound : (zs.length + ys.length) * by_ ≤ 1099511627776) (hb : s b = none) :
    Yields g s w ⟨.arr b 0 0 (zs.length + ys.length) false, rd, [(b, .arr sz (zs.length + ys.length) (zs ++ ys) 0 0 0)]⟩
      ((Builtin.append_ #[t, t2] ty #[.slice base zs.length cap, v]).run P w) := by
  have hn : zs.length + ys.length ≤ 1099511627776 := Nat.le_trans (Nat.le_mul_of_pos_right _ hb0) hbound
  obtain ⟨cap', rest, k1, k2, k3⟩ := append_new (ty := ty) (base := base) (cap := cap) ht ht2 hsz hby hzo h1 h2 h3 (by omega) hbound (by omega)
  have hR : RepAs g s w.drew (zs ++ ys) (vs ++ us) := RepAs.ext (Ext.drew g s w) _ _ (RepAs.append hz hr)
  have hF := flat_length (fun v hv => (hall v hv).1)
  have hL : (vs ++ us).length = zs.length + ys.length := by rw [RepAs.length hR]; simp
  obtain ⟨g', e1, e2, e3⟩ := new_arr (Inv.drew hi) (id := b) hb (xs := zs ++ ys) (vs := vs ++ us) (rest := rest) (t := e) (cap := cap') (capd := false) hR hall (by simpa using k1) (by simp) (fun _ => by
    rw [List.length_append, hF, hL, k2, ← Nat.add_mul, Nat.add_sub_cancel' k1]; exact Nat.le_refl _)
  rw [List.flatMap_append] at e1 e2 e3
  rw [List.length_append] at e1 e2 e3
  exact ⟨_, g', _, k3, (Ext.drew g s w).trans e1, e2, e3⟩

theorem mapP_cells {gg : Bool} {sz : Nat} {xs : List PVal} {vs : List Value} (h : RepPs g.imm w xs vs) (ha : allCells gg sz (xs.map .p) = true) :
    ∀ v ∈ vs, v.cells.size = sz ∧ ∀ x ∈ v.cells.toList, isCell x = true := allCells_rep (mapP_rep (s := fun _ => none) h) ha

theorem run_first_in {b o n cap sz : Nat} {vs : List Value} (hc : CellsIn w b o (vs.flatMap (·.cells.toList))) (hl : (vs.flatMap (·.cells.toList)).length = n * sz) :
    (Builtin.firstCells sz n (.slice (some ⟨b, o, none⟩) n cap)).run P w.drew = .ok (vs.flatMap (·.cells.toList)).toArray w.drew :=
  run_firstCells_some w.drew sz _ _ _ _ _ hl (fun j c hj => by rw [Addr.add_lit]; exact hc j c hj)

theorem appendOp_run {S : St} (hs : ∀ id, s id = S.get id) (hi : Inv g s w) {t t2 ty b : Nat} {x y : AVal} {vx vy : Value} {e : Eff} (hx : RepA g s w x vx) (hy : RepA g s w y vy)
    (ht2 : notInt P t2 = true) (h : appendOp P b t x y S = some e) : Yields g s w e ((Builtin.append_ #[t, t2] ty #[vx, vy]).run P w) := by
  unfold appendOp at h
  split at h
  · rename_i et hel
    have ht : P.underlying t = some (.slice et) := by
      unfold elemT at hel
      split at hel <;> simp at hel
      subst hel; assumption
    split at h
    · rename_i sz by_ gg ys rd hsz hby hg hsrc
      split at h
      · simp at h
      · rename_i hck
        simp only [Bool.and_eq_true] at hck
        obtain ⟨⟨hac, hzo⟩, hb0⟩ := hck
        have hb0 : 0 < by_ := by
          have : Nat.ble (0 + 1) by_ = true := hb0
          exact Nat.le_of_ble_eq_true this
        obtain ⟨us, hr, r1, r2, r3⟩ := source_run (P := P) (sz := sz) hs hi hy hsrc hac
        have hu := allCells_rep hr hac
        have nothing : ys = [] → (Builtin.lenOf vy).run P w = .ok 0 w ∧ (Builtin.firstCells sz 0 vy).run P w = .ok #[] w := by
          intro hys; subst hys
          have : us = [] := hr
          subst this
          exact ⟨r1, r2⟩
        split at h
        · -- nil
          have e0 : vx = .slice none 0 0 := hx
          subst e0
          split at h
          · obtain ⟨n1, n2⟩ := nothing rfl
            simp at h; subst h
            exact .same (x := .p .nils) hi (show RepA g s w (.p .nils) _ from rfl) (append_zero ht ht2 hsz n1 n2 (Nat.le_refl _))
          · rename_i hne
            split at h <;> simp at h
            rename_i hbd hfree
            subst h
            have := append_fresh (ty := ty) (base := none) (zs := []) (vs := []) (cap := 0) (rd := b :: rd) (gg := gg) hi ht ht2 hsz hby hzo hb0 rfl hr (by simpa using hu) r1 r3 (by simp [Builtin.firstCells]) rfl
              (List.length_pos_iff.2 (fun e => hne e)) (by simpa using Nat.le_of_ble_eq_true hbd) ((hs b).trans hfree)
            simpa using this
        · -- a pure one
          rename_i xs
          split at h
          · obtain ⟨n1, n2⟩ := nothing rfl
            simp at h; subst h
            obtain ⟨b1, o1, c1, z1, v1, rfl, hle, _⟩ := id hx
            exact .same hi hx (append_zero ht ht2 hsz n1 n2 hle)
          · simp at h
        · -- a closed one
          rename_i xs
          obtain ⟨b1, o1, z1, v1, e1, hr1, hz1, hc1⟩ := id hx
          subst e1
          split at h
          · obtain ⟨n1, n2⟩ := nothing rfl
            simp at h; subst h
            exact .same hi hx (append_zero ht ht2 hsz n1 n2 (Nat.le_refl _))
          · rename_i hne
            split at h <;> simp at h
            rename_i hbd hfree hax
            subst h
            have hv1 := mapP_cells hr1 hax
            have hl1 : (v1.flatMap (·.cells.toList)).length = xs.length * sz := by rw [flat_length (fun v hv => (hv1 v hv).1), RepPs.length hr1]
            have := append_fresh (P := P) (ty := ty) (base := some ⟨b1, o1, none⟩) (zs := xs.map .p) (vs := v1) (cap := xs.length) (rd := b :: rd) (gg := gg) hi ht ht2 hsz hby hzo hb0 (mapP_rep hr1) hr
              (fun v hv => (List.mem_append.1 hv).elim (hv1 v) (hu v)) r1 r3 (by rw [List.length_map]; exact run_first_in hc1.in hl1) (by simp)
              (List.length_pos_iff.2 (fun e => hne e)) (by simpa using Nat.le_of_ble_eq_true hbd) ((hs b).trans hfree)
            simpa using this
        · -- an array's
          rename_i id ep off len c
          obtain ⟨b1, o1, cap, e1, hlc, hcd, hview⟩ := _root_.id hx
          subst e1
          split at h
          · rename_i sz' n xs cur lost fz hid
            split at h
            · rename_i q1 q2 q3 q4
              have q1 := Nat.eq_of_beq_eq_true q1
              subst q1
              have q2' := Nat.le_of_ble_eq_true q2
              have q3 := Nat.le_of_ble_eq_true q3
              have q4' := Nat.le_of_ble_eq_true q4
              have hvw : viewed S id ep off len = some ((xs.drop off).take len) := by simp [viewed, hid, q2, q4]
              split at h
              · obtain ⟨n1, n2⟩ := nothing rfl
                simp at h; subst h
                exact .same hi hx (append_zero ht ht2 hsz n1 n2 hlc)
              · rename_i hne
                have hne' : 0 < ys.length := List.length_pos_iff.2 (fun e => hne e)
                obtain ⟨vs, w1, w2, w3, w4⟩ := viewed_rep hs hi hview hvw
                have hid' : s id = some (.arr sz n xs cur lost fz) := (hs id).trans hid
                have hvs := w4 _ _ _ _ _ _ hid
                have hl1 : (vs.flatMap (·.cells.toList)).length = len * sz := by rw [flat_length (fun v hv => (hvs v hv).1), w2]
                split at h
                · split at h <;> simp at h
                  rename_i hfree
                  subst h
                  have hzl : ((xs.drop off).take len).length = len := by rw [← RepAs.length w1, w2]
                  have := append_fresh (P := P) (ty := ty) (base := some ⟨b1, o1, none⟩) (zs := (xs.drop off).take len) (vs := vs) (cap := cap) (rd := b :: id :: rd) (gg := gg) hi ht ht2 hsz hby hzo hb0 w1 hr
                    (fun v hv => (List.mem_append.1 hv).elim (hvs v) (hu v)) r1 r3 (by rw [hzl, run_firstCells_some w.drew sz _ _ _ _ _ hl1 (fun j c hj => by rw [Addr.add_lit]; exact w3 j c hj)]) (by rw [hzl]; exact hcd rfl)
                    hne' (by rw [hzl]; exact q3) ((hs b).trans hfree)
                  rw [hzl] at this
                  exact this
                · split at h
                  · -- its beginning
                    have hlc' : len ≤ n := by omega
                    have hfl : xs.length = n := (hi.arr id _ _ _ _ _ _ hid').1.symm
                    have both : ∀ lost', fz ≤ len → ((len = n ∧ lost' = lost) ∨ lost' = cur + 1) →
                        Yields g s w ⟨.arr id (cur + 1) 0 (len + ys.length) false, id :: rd, [(id, .arr sz (len + ys.length) (xs.take len ++ ys) (cur + 1) lost' fz)]⟩
                          ((Builtin.append_ #[t, t2] ty #[.slice (some ⟨b1, o1, none⟩) len cap, vy]).run P w) := by
                      intro lost' hfz hlost
                      by_cases hroom : len + ys.length ≤ cap
                      · obtain ⟨c2, ty2, g', z1, z2, z3, z4, z5⟩ := append_at hi hid' hview q2' hr hu hlc' hfz hroom hne' hlost
                        exact ⟨_, g', _, append_in ht ht2 hsz r1 r2 (fun x hx => by
                          obtain ⟨v, hv1, hv2⟩ := List.mem_flatMap.1 hx
                          exact (hu v hv1).2 x hv2) hroom z1 z2, z3, z4, z5⟩
                      · obtain ⟨cap', rest, k1, k2, k3⟩ := append_new (ty := ty) (base := some ⟨b1, o1, none⟩) (cap := cap) ht ht2 hsz hby hzo r1 r3
                          (run_firstCells_some w.drew sz _ _ _ _ _ hl1 (fun j c hj => by rw [Addr.add_lit]; exact w3 j c hj)) (by omega) q3
                          (by have := Nat.le_trans (Nat.le_mul_of_pos_right _ hb0) q3; omega)
                        have hx0 : RepAs g s w.drew (xs.take len) vs := by
                          have := RepAs.ext (Ext.drew g s w) _ _ w1
                          simpa using this
                        have hF := flat_length (vs := vs ++ us) (fun v hv => ((List.mem_append.1 hv).elim (hvs v) (hu v)).1)
                        have hL : (vs ++ us).length = len + ys.length := by rw [List.length_append, w2, RepAs.length hr]
                        obtain ⟨g', z1, z2, z3⟩ := append_move (Inv.drew hi) (rest := rest) (t := et) (cap := cap') hid' hx0 (RepAs.ext (Ext.drew g s w) _ _ hr) hvs hu hlc' hfz hne' k1
                          (by rw [List.length_append, hF, hL, k2, ← Nat.add_mul, Nat.add_sub_cancel' k1]; exact Nat.le_refl _) hlost
                        rw [List.flatMap_append] at z1 z2 z3
                        exact ⟨_, g', _, k3, (Ext.drew g s w).trans z1, z2, z3⟩
                    split at h
                    · rename_i hbn
                      have hbn := Nat.eq_of_beq_eq_true hbn
                      simp at h; subst h
                      have := both lost (by have := (hi.arr id _ _ _ _ _ _ hid').2.2.1; omega) (.inl ⟨hbn, rfl⟩)
                      rw [List.take_of_length_le (by omega)] at this
                      exact this
                    · split at h <;> simp at h
                      rename_i hbf
                      subst h
                      exact both (cur + 1) (Nat.le_of_ble_eq_true hbf) (.inr rfl)
                  · simp at h
            · simp at h
          · simp at h
        · simp at h
    · simp at h
  · simp at h

end
end Go.Proofs.YtceccojmekpneaaGreatDoor.Sw
