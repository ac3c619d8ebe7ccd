/- Operations that touch no memory are run by the model as the evaluator says. -/
import Derived.Test.YtceccojmekpneaaGreatDoorSwE
import Derived.Laws.Strings
namespace Go.Proofs.YtceccojmekpneaaGreatDoor.Sw

section
variable {P : Program} {g : Sg} {s : Sto} {w : World}

theorem intBin_run {op : BinOp} {k : IntKind} {a b : Int} {t : Nat} {z : PVal} (hs : op ≠ .shl) (hs' : op ≠ .shr) (h : intBin op k a b = some z) :
    ∃ v, (binOp op t (.int k a) (.int k b)).run P w = .ok v w ∧ RepP g.imm w z v := by
  cases op with
  | shl => exact absurd rfl hs
  | shr => exact absurd rfl hs'
  | add => simp only [intBin, Option.some.injEq] at h; subst h; exact ⟨_, by simp [binOp, Op.intArith], rfl⟩
  | sub => simp only [intBin, Option.some.injEq] at h; subst h; exact ⟨_, by simp [binOp, Op.intArith], rfl⟩
  | mul => simp only [intBin, Option.some.injEq] at h; subst h; exact ⟨_, by simp [binOp, Op.intArith], rfl⟩
  | quo =>
    simp only [intBin] at h
    split at h
    · simp at h
    · rename_i hb; simp only [Option.some.injEq] at h; subst h; exact ⟨_, by simp [binOp, Op.intDiv, hb], rfl⟩
  | rem =>
    simp only [intBin] at h
    split at h
    · simp at h
    · rename_i hb; simp only [Option.some.injEq] at h; subst h; exact ⟨_, by simp [binOp, Op.intDiv, hb], rfl⟩
  | and => simp only [intBin, Option.some.injEq] at h; subst h; exact ⟨_, by simp [binOp, Op.intBits], rfl⟩
  | or => simp only [intBin, Option.some.injEq] at h; subst h; exact ⟨_, by simp [binOp, Op.intBits], rfl⟩
  | xor => simp only [intBin, Option.some.injEq] at h; subst h; exact ⟨_, by simp [binOp, Op.intBits], rfl⟩
  | andNot => simp only [intBin, Option.some.injEq] at h; subst h; exact ⟨_, by simp [binOp, Op.intBits], rfl⟩
  | eql => simp only [intBin, Option.some.injEq] at h; subst h; exact ⟨_, by simp [binOp, Op.intCmp], rfl⟩
  | neq => simp only [intBin, Option.some.injEq] at h; subst h; exact ⟨_, by simp [binOp, Op.intCmp], rfl⟩
  | lss => simp only [intBin, Option.some.injEq] at h; subst h; exact ⟨_, by simp [binOp, Op.intCmp], rfl⟩
  | leq => simp only [intBin, Option.some.injEq] at h; subst h; exact ⟨_, by simp [binOp, Op.intCmp], rfl⟩
  | gtr => simp only [intBin, Option.some.injEq] at h; subst h; exact ⟨_, by simp [binOp, Op.intCmp], rfl⟩
  | geq => simp only [intBin, Option.some.injEq] at h; subst h; exact ⟨_, by simp [binOp, Op.intCmp], rfl⟩

theorem shiftBin_run {op : BinOp} {k yk : IntKind} {a b : Int} {t : Nat} {z : PVal} (h : shiftBin op k a b = some z) (hop : op = .shl ∨ op = .shr) :
    ∃ v, (binOp op t (.int k a) (.int yk b)).run P w = .ok v w ∧ RepP g.imm w z v := by
  unfold shiftBin at h
  split at h
  · simp at h
  · rename_i hb
    rcases hop with rfl | rfl <;> simp at h <;> subst h <;> exact ⟨_, by simp [binOp, Op.shift, hb], rfl⟩

theorem sameBytes_eq : ∀ (a b : List Nat), sameBytes a b = (a == b)
  | [], [] => rfl
  | [], _ :: _ => rfl
  | _ :: _, [] => rfl
  | x :: a, y :: b => by
    simp only [sameBytes]
    split
    · rename_i h
      have : x = y := Nat.eq_of_beq_eq_true h
      subst this
      simp [sameBytes_eq a b]
    · rename_i h
      have : x ≠ y := Nat.ne_of_beq_eq_false h
      simp [this]

theorem bytesLess_eq : ∀ (a b : List UInt8), Op.bytesLess a b = bytesLess (a.map UInt8.toNat) (b.map UInt8.toNat)
  | _, [] => by simp [Op.bytesLess, bytesLess]
  | [], _ :: _ => by simp [Op.bytesLess, bytesLess]
  | x :: a, y :: b => by
    simp only [Op.bytesLess, bytesLess, List.map_cons]
    have e1 : decide (x < y) = Nat.blt x.toNat y.toNat := by
      rw [Bool.eq_iff_iff]
      simp [UInt8.lt_iff_toNat_lt, Nat.blt]; omega
    have e2 : (x == y) = Nat.beq x.toNat y.toNat := by
      rw [Bool.eq_iff_iff]
      simp [← UInt8.toNat_inj]
    rw [e1, e2, bytesLess_eq a b]
    cases Nat.blt x.toNat y.toNat <;> cases Nat.beq x.toNat y.toNat <;> simp

theorem map_toNat_beq (a b : List UInt8) : (a.map UInt8.toNat == b.map UInt8.toNat) = (a == b) := by
  rw [Bool.eq_iff_iff]
  simp only [beq_iff_eq]
  constructor
  · intro h
    exact (List.map_inj_right (fun x y h => UInt8.toNat_inj.1 h)).1 h
  · rintro rfl; rfl

theorem toList_data (t : ByteArray) : t.toList = t.data.toList := ByteArray.toList_eq t

theorem strBin_run {op : BinOp} {a b : List Nat} {t : Nat} {z : PVal} {x y : Value} (hx : RepP g.imm w (.str a) x) (hy : RepP g.imm w (.str b) y) (h : strBin op a b = some z) :
    ∃ v, (binOp op t x y).run P w = .ok v w ∧ RepP g.imm w z v := by
  obtain ⟨u, rfl, rfl⟩ := hx
  obtain ⟨r, rfl, rfl⟩ := hy
  have el : bytesLess (u.data.toList.map UInt8.toNat) (r.data.toList.map UInt8.toNat) = Op.bytesLess u.toList r.toList := by
    rw [toList_data, toList_data, bytesLess_eq]
  have ee : sameBytes (u.data.toList.map UInt8.toNat) (r.data.toList.map UInt8.toNat) = (u.toList == r.toList) := by
    rw [toList_data, toList_data, sameBytes_eq, map_toNat_beq]
  cases op <;> simp only [strBin, el, ee] at h
  case add =>
    split at h <;> simp at h
    rename_i hb
    have hle := Nat.le_of_ble_eq_true hb
    simp at hle
    subst h
    refine ⟨.string (u ++ r), ?_, u ++ r, rfl, by simp [ByteArray.data_append]⟩
    have : ¬ (((u.size + r.size : Nat) : Int) > IntKind.i64.max) := by
      have : u.size + r.size ≤ 1099511627776 := by
        have e1 : u.size = u.data.size := rfl
        have e2 : r.size = r.data.size := rfl
        omega
      simp [IntKind.max, IntKind.signed, IntKind.bits]
      omega
    simp only [binOp, Op.stringOp]
    rw [if_neg this]
    rfl
  all_goals try (simp at h; done)
  all_goals
    simp at h
    subst h
    exact ⟨_, by simp only [binOp, Op.stringOp]; rfl, by simp [RepP]⟩


/-- two values that are compared at once. -/
def eqNow : TypeDesc → Value → Value → Option Bool
  | .bool, .bool a, .bool b => some (a == b)
  | .slice _, .slice none _ _, .slice b _ _ => some b.isNone
  | .slice _, .slice (some _) _ _, .slice none _ _ => some false
  | .pointer _, .pointer none, .pointer b => some b.isNone
  | .pointer _, .pointer (some _), .pointer none => some false
  | .map _ _, .map none, .map b => some b.isNone
  | .map _ _, .map (some _), .map none => some false
  | .func _ _ _, .nilFunc, .nilFunc => some true
  | .func _ _ _, .nilFunc, .func _ _ _ => some false
  | .func _ _ _, .func _ _ _, .nilFunc => some false
  | .interface _, .nilIface, .nilIface => some true
  | .interface _, .nilIface, .iface _ _ => some false
  | .interface _, .iface _ _, .nilIface => some false
  | _, _, _ => none

theorem run_equal {t : Nat} {d : TypeDesc} {x y : Value} {b : Bool} (hu : P.underlying t = some d) (h : eqNow d x y = some b) : (Op.equal t x y).run P w = .ok b w := by
  show (Op.equalIn (9999 + 1) t x y).run P w = _
  rw [Op.equalIn]
  simp only [Sem.run_bind, run_underlying' hu, Result.andThen_ok]
  unfold eqNow at h
  split at h <;> simp at h <;> subst h <;> rfl

theorem eqv_run {t : Nat} {x y : AVal} {vx vy : Value} {b : Bool} (hx : RepA g s w x vx) (hy : RepA g s w y vy) (h : eqv P t x y = some b) :
    (Op.equal t vx vy).run P w = .ok b w ∧ (∀ k n, vx ≠ .int k n) ∧ (∀ u, vx ≠ .string u) ∧ (∀ k n, vx ≠ .float k n) ∧ (∀ k n m, vx ≠ .complex k n m) ∧ (∀ c, vx ≠ .agg c) := by
  have nS : ∀ {z : AVal} {v : Value} {c : Bool}, RepA g s w z v → nilSl z = some c → (c = true ∧ v = .slice none 0 0) ∨ (c = false ∧ ∃ a n m, v = .slice (some a) n m) := by
    intro z v c hr hn
    cases z with
    | p x =>
      cases x <;> simp [nilSl] at hn
      · subst hn; exact .inl ⟨rfl, hr⟩
      · subst hn; obtain ⟨b, o, cap, sz, vs, rfl, _⟩ := hr; exact .inr ⟨rfl, _, _, _, rfl⟩
    | cl xs => simp [nilSl] at hn; subst hn; obtain ⟨b, o, sz, vs, rfl, _⟩ := hr; exact .inr ⟨rfl, _, _, _, rfl⟩
    | arr id ep off len capd => simp [nilSl] at hn; subst hn; obtain ⟨b, o, cap, rfl, _⟩ := hr; exact .inr ⟨rfl, _, _, _, rfl⟩
    | _ => simp [nilSl] at hn
  have nP : ∀ {z : AVal} {v : Value} {c : Bool}, RepA g s w z v → nilPt z = some c → (c = true ∧ v = .pointer none) ∨ (c = false ∧ ∃ a, v = .pointer (some a)) := by
    intro z v c hr hn
    cases z with
    | p x =>
      cases x <;> simp [nilPt] at hn
      · subst hn; exact .inl ⟨rfl, hr⟩
      · subst hn; obtain ⟨b, o, y, rfl, _⟩ := hr; exact .inr ⟨rfl, _, rfl⟩
    | box id off => simp [nilPt] at hn; subst hn; obtain ⟨b, _, rfl⟩ := hr; exact .inr ⟨rfl, _, rfl⟩
    | el id ep i off => simp [nilPt] at hn; subst hn; obtain ⟨b, o, rfl, _⟩ := hr; exact .inr ⟨rfl, _, rfl⟩
    | _ => simp [nilPt] at hn
  have nM : ∀ {z : AVal} {v : Value} {c : Bool}, RepA g s w z v → nilMp z = some c → (c = true ∧ v = .map none) ∨ (c = false ∧ ∃ a, v = .map (some a)) := by
    intro z v c hr hn
    cases z with
    | p x =>
      cases x <;> simp [nilMp] at hn
      · subst hn; exact .inl ⟨rfl, hr⟩
    | rf k id => cases k <;> simp [nilMp] at hn; subst hn; obtain ⟨b, _, rfl⟩ := hr; exact .inr ⟨rfl, _, rfl⟩
    | _ => simp [nilMp] at hn
  have nF : ∀ {z : AVal} {v : Value} {c : Bool}, RepA g s w z v → nilFn z = some c → (c = true ∧ v = .nilFunc) ∨ (c = false ∧ ∃ f a b, v = .func f a b) := by
    intro z v c hr hn
    cases z with
    | p x =>
      cases x <;> simp [nilFn] at hn
      · subst hn; exact .inl ⟨rfl, hr⟩
      · subst hn; obtain ⟨vs, rfl, _⟩ := hr; exact .inr ⟨rfl, _, _, _, rfl⟩
    | fn f cap => simp [nilFn] at hn; subst hn; obtain ⟨vs, rfl, _⟩ := hr; exact .inr ⟨rfl, _, _, _, rfl⟩
    | rf k id => cases k <;> simp [nilFn] at hn; subst hn; obtain ⟨b, _, rfl⟩ := hr; exact .inr ⟨rfl, _, _, _, rfl⟩
    | _ => simp [nilFn] at hn
  have nI : ∀ {z : AVal} {v : Value} {c : Bool}, RepA g s w z v → nilIf z = some c → (c = true ∧ v = .nilIface) ∨ (c = false ∧ ∃ t u, v = .iface t u) := by
    intro z v c hr hn
    cases z with
    | p x =>
      cases x <;> simp [nilIf] at hn
      · subst hn; exact .inl ⟨rfl, hr⟩
      · subst hn; obtain ⟨y, rfl, _⟩ := hr; exact .inr ⟨rfl, _, _, rfl⟩
    | iface t u => simp [nilIf] at hn; subst hn; obtain ⟨y, rfl, _⟩ := hr; exact .inr ⟨rfl, _, _, rfl⟩
    | _ => simp [nilIf] at hn
  have nq : ∀ {p q : Option Bool}, nilEq p q = some b → (p = some true ∧ q = some b) ∨ (p = some false ∧ q = some true ∧ b = false) := by
    intro p q hn
    unfold nilEq at hn
    split at hn <;> simp at hn
    · subst hn; exact .inl ⟨rfl, rfl⟩
    · subst hn; exact .inr ⟨rfl, rfl, rfl⟩
  unfold eqv at h
  split at h
  · rename_i hu
    split at h <;> simp at h
    rename_i c d
    subst h
    have e1 : vx = .bool c := hx
    have e2 : vy = .bool d := hy
    subst e1; subst e2
    exact ⟨run_equal hu rfl, by simp, by simp, by simp, by simp, by simp⟩
  · rename_i e hu
    rcases nq h with ⟨h1, h2⟩ | ⟨h1, h2, rfl⟩
    · rcases nS hx h1 with ⟨_, rfl⟩ | ⟨h0, _⟩
      · rcases nS hy h2 with ⟨rfl, rfl⟩ | ⟨rfl, a, n, m, rfl⟩ <;> exact ⟨run_equal hu rfl, by simp, by simp, by simp, by simp, by simp⟩
      · simp at h0
    · rcases nS hx h1 with ⟨h0, _⟩ | ⟨_, a, n, m, rfl⟩
      · simp at h0
      · rcases nS hy h2 with ⟨_, rfl⟩ | ⟨h0, _⟩
        · exact ⟨run_equal hu rfl, by simp, by simp, by simp, by simp, by simp⟩
        · simp at h0
  · rename_i e hu
    rcases nq h with ⟨h1, h2⟩ | ⟨h1, h2, rfl⟩
    · rcases nP hx h1 with ⟨_, rfl⟩ | ⟨h0, _⟩
      · rcases nP hy h2 with ⟨rfl, rfl⟩ | ⟨rfl, a, rfl⟩ <;> exact ⟨run_equal hu rfl, by simp, by simp, by simp, by simp, by simp⟩
      · simp at h0
    · rcases nP hx h1 with ⟨h0, _⟩ | ⟨_, a, rfl⟩
      · simp at h0
      · rcases nP hy h2 with ⟨_, rfl⟩ | ⟨h0, _⟩
        · exact ⟨run_equal hu rfl, by simp, by simp, by simp, by simp, by simp⟩
        · simp at h0
  · rename_i e1 e2 hu
    rcases nq h with ⟨h1, h2⟩ | ⟨h1, h2, rfl⟩
    · rcases nM hx h1 with ⟨_, rfl⟩ | ⟨h0, _⟩
      · rcases nM hy h2 with ⟨rfl, rfl⟩ | ⟨rfl, a, rfl⟩ <;> exact ⟨run_equal hu rfl, by simp, by simp, by simp, by simp, by simp⟩
      · simp at h0
    · rcases nM hx h1 with ⟨h0, _⟩ | ⟨_, a, rfl⟩
      · simp at h0
      · rcases nM hy h2 with ⟨_, rfl⟩ | ⟨h0, _⟩
        · exact ⟨run_equal hu rfl, by simp, by simp, by simp, by simp, by simp⟩
        · simp at h0
  · rename_i e1 e2 e3 hu
    rcases nq h with ⟨h1, h2⟩ | ⟨h1, h2, rfl⟩
    · rcases nF hx h1 with ⟨_, rfl⟩ | ⟨h0, _⟩
      · rcases nF hy h2 with ⟨rfl, rfl⟩ | ⟨rfl, a, c, d, rfl⟩ <;> exact ⟨run_equal hu rfl, by simp, by simp, by simp, by simp, by simp⟩
      · simp at h0
    · rcases nF hx h1 with ⟨h0, _⟩ | ⟨_, a, c, d, rfl⟩
      · simp at h0
      · rcases nF hy h2 with ⟨_, rfl⟩ | ⟨h0, _⟩
        · exact ⟨run_equal hu rfl, by simp, by simp, by simp, by simp, by simp⟩
        · simp at h0
  · rename_i e1 hu
    rcases nq h with ⟨h1, h2⟩ | ⟨h1, h2, rfl⟩
    · rcases nI hx h1 with ⟨_, rfl⟩ | ⟨h0, _⟩
      · rcases nI hy h2 with ⟨rfl, rfl⟩ | ⟨rfl, a, c, rfl⟩ <;> exact ⟨run_equal hu rfl, by simp, by simp, by simp, by simp, by simp⟩
      · simp at h0
    · rcases nI hx h1 with ⟨h0, _⟩ | ⟨_, a, c, rfl⟩
      · simp at h0
      · rcases nI hy h2 with ⟨_, rfl⟩ | ⟨h0, _⟩
        · exact ⟨run_equal hu rfl, by simp, by simp, by simp, by simp, by simp⟩
        · simp at h0
  · simp at h

end
end Go.Proofs.YtceccojmekpneaaGreatDoor.Sw
