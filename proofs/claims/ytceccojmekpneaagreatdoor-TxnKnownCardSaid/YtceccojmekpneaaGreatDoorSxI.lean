/- Results that are known: tables of them. -/
import Derived.Test.YtceccojmekpneaaGreatDoorSxH
import Derived.KernelRfl
namespace Go.Proofs.YtceccojmekpneaaGreatDoor.Sw

def sameI : Int → Int → Bool
  | .ofNat a, .ofNat b => Nat.beq a b
  | .negSucc a, .negSucc b => Nat.beq a b
  | _, _ => false

def kNum : IntKind → Nat
  | .i8 => 0 | .i16 => 1 | .i32 => 2 | .i64 => 3 | .u8 => 4 | .u16 => 5 | .u32 => 6 | .u64 => 7

def sameB : Bool → Bool → Bool
  | true, b => b
  | false, true => false
  | false, false => true

def sameFn : Fn → Fn → Bool
  | .func f, .func g => Nat.beq f g
  | _, _ => false

def sameP : PVal → PVal → Bool
  | .bool a, .bool b => sameB a b
  | .int k a, .int l b => match sameI a b with
    | true => Nat.beq (kNum k) (kNum l)
    | false => false
  | .str a, .str b => sameBytes a b
  | .nilp, .nilp => true
  | .nils, .nils => true
  | .nilm, .nilm => true
  | .nilf, .nilf => true
  | .nili, .nili => true
  | .agg a, .agg b => samePs a b
  | .tup a, .tup b => samePs a b
  | .iface t x, .iface u y => match Nat.beq t u with
    | true => sameP x y
    | false => false
  | .sl a, .sl b => samePs a b
  | .ip x, .ip y => sameP x y
  | .fn f a, .fn g b => match sameFn f g with
    | true => samePs a b
    | false => false
  | _, _ => false
where
  samePs : List PVal → List PVal → Bool
    | [], [] => true
    | x :: xs, y :: ys => match sameP x y with
      | true => samePs xs ys
      | false => false
    | _, _ => false

def sameArgs : List PVal → List AVal → Bool
  | [], [] => true
  | x :: xs, .p y :: ys => match sameP x y with
    | true => sameArgs xs ys
    | false => false
  | _, _ => false

theorem sameI_eq : ∀ {a b : Int}, sameI a b = true → a = b
  | .ofNat a, .ofNat b, h => by rw [Nat.eq_of_beq_eq_true h]
  | .negSucc a, .negSucc b, h => by rw [Nat.eq_of_beq_eq_true h]
  | .ofNat _, .negSucc _, h => by simp [sameI] at h
  | .negSucc _, .ofNat _, h => by simp [sameI] at h

theorem kNum_eq {k l : IntKind} (h : Nat.beq (kNum k) (kNum l) = true) : k = l := by
  have h := Nat.eq_of_beq_eq_true h
  cases k <;> cases l <;> first | rfl | (simp [kNum] at h)

theorem sameB_eq {a b : Bool} (h : sameB a b = true) : a = b := by cases a <;> cases b <;> simp_all [sameB]

theorem sameBytes_eq' : ∀ {a b : List Nat}, sameBytes a b = true → a = b
  | [], [], _ => rfl
  | x :: a, y :: b, h => by
    simp only [sameBytes] at h
    split at h <;> try (simp at h; done)
    rename_i e
    rw [Nat.eq_of_beq_eq_true e, sameBytes_eq' h]
  | [], _ :: _, h => by simp [sameBytes] at h
  | _ :: _, [], h => by simp [sameBytes] at h

theorem sameFn_eq {f g : Fn} (h : sameFn f g = true) : f = g := by
  unfold sameFn at h
  split at h
  · rw [Nat.eq_of_beq_eq_true h]
  · simp at h

mutual
theorem sameP_eq : ∀ (x y : PVal), sameP x y = true → x = y
  | .bool a, y, h => by cases y <;> simp only [sameP] at h <;> first | (rw [sameB_eq h]) | simp at h
  | .int k a, y, h => by
    cases y <;> simp only [sameP] at h <;> try (simp at h; done)
    split at h <;> try (simp at h; done)
    rename_i e
    rw [sameI_eq e, kNum_eq h]
  | .str a, y, h => by cases y <;> simp only [sameP] at h <;> first | (rw [sameBytes_eq' h]) | simp at h
  | .nilp, y, h => by cases y <;> simp only [sameP] at h <;> first | rfl | simp at h
  | .nils, y, h => by cases y <;> simp only [sameP] at h <;> first | rfl | simp at h
  | .nilm, y, h => by cases y <;> simp only [sameP] at h <;> first | rfl | simp at h
  | .nilf, y, h => by cases y <;> simp only [sameP] at h <;> first | rfl | simp at h
  | .nili, y, h => by cases y <;> simp only [sameP] at h <;> first | rfl | simp at h
  | .agg a, y, h => by cases y <;> simp only [sameP] at h <;> first | (rw [samePs_eq _ _ h]) | simp at h
  | .tup a, y, h => by cases y <;> simp only [sameP] at h <;> first | (rw [samePs_eq _ _ h]) | simp at h
  | .iface t a, y, h => by
    cases y <;> simp only [sameP] at h <;> try (simp at h; done)
    split at h <;> try (simp at h; done)
    rename_i e
    rw [Nat.eq_of_beq_eq_true e, sameP_eq _ _ h]
  | .sl a, y, h => by cases y <;> simp only [sameP] at h <;> first | (rw [samePs_eq _ _ h]) | simp at h
  | .ip a, y, h => by cases y <;> simp only [sameP] at h <;> first | (rw [sameP_eq _ _ h]) | simp at h
  | .fn f a, y, h => by
    cases y <;> simp only [sameP] at h <;> try (simp at h; done)
    split at h <;> try (simp at h; done)
    rename_i e
    rw [sameFn_eq e, samePs_eq _ _ h]
theorem samePs_eq : ∀ (x y : List PVal), sameP.samePs x y = true → x = y
  | [], [], _ => rfl
  | x :: xs, y :: ys, h => by
    simp only [sameP.samePs] at h
    split at h <;> try (simp at h; done)
    rename_i e
    rw [sameP_eq _ _ e, samePs_eq _ _ h]
  | [], _ :: _, h => by simp [sameP.samePs] at h
  | _ :: _, [], h => by simp [sameP.samePs] at h
end

theorem sameArgs_eq : ∀ {x : List PVal} {y : List AVal}, sameArgs x y = true → x.map .p = y
  | [], [], _ => rfl
  | x :: xs, .p y :: ys, h => by
    simp only [sameArgs] at h
    split at h <;> try (simp at h; done)
    rename_i e
    rw [List.map_cons, sameP_eq _ _ e, sameArgs_eq h]
  | [], _ :: _, h => by simp [sameArgs] at h
  | _ :: _, [], h => by simp [sameArgs] at h
  | _ :: _, .agg _ :: _, h => by simp [sameArgs] at h
  | _ :: _, .tup _ :: _, h => by simp [sameArgs] at h
  | _ :: _, .iface _ _ :: _, h => by simp [sameArgs] at h
  | _ :: _, .cl _ :: _, h => by simp [sameArgs] at h
  | _ :: _, .own _ _ :: _, h => by simp [sameArgs] at h
  | _ :: _, .ownm _ :: _, h => by simp [sameArgs] at h
  | _ :: _, .box _ _ :: _, h => by simp [sameArgs] at h
  | _ :: _, .arr _ _ _ _ _ :: _, h => by simp [sameArgs] at h
  | _ :: _, .el _ _ _ _ :: _, h => by simp [sameArgs] at h
  | _ :: _, .fn _ _ :: _, h => by simp [sameArgs] at h
  | _ :: _, .rf _ _ :: _, h => by simp [sameArgs] at h
  | _ :: _, .junk :: _, h => by simp [sameArgs] at h

/-- A call that is known: its arguments; what it comes to. -/
structure Ent where
  f : Nat
  args : List PVal
  v : AVal
  wr : List (Nat × Obj)

/-- Tables of calls, by functions. -/
inductive BT where
  | lf
  | nd (f : Nat) (es : List Ent) (l r : BT)

def BT.at : BT → Nat → List Ent
  | .lf, _ => []
  | .nd g es l r, f => match Nat.beq f g with
    | true => es
    | false => match Nat.ble f g with
      | true => l.at f
      | false => r.at f

def entOf (args : List AVal) : List Ent → Option CR
  | [] => none
  | e :: r => match sameArgs e.args args with
    | true => some (.ret e.v (St.empty.did [] e.wr))
    | false => entOf args r

def BT.memo (t : BT) : Memo := fun f args => entOf args (t.at f)

/-- what an entry says is so. -/
def Ent.Ok (P : Program) (gl : Tr AVal) (e : Ent) : Prop := Known P gl e.f (e.args.map .p) e.v e.wr

def allEnt (P : Program) (gl : Tr AVal) (f : Nat) : List Ent → Prop
  | [] => True
  | e :: r => (e.f = f ∧ e.Ok P gl) ∧ allEnt P gl f r

def BT.Ok (P : Program) (gl : Tr AVal) : BT → Prop
  | .lf => True
  | .nd f es l r => allEnt P gl f es ∧ l.Ok P gl ∧ r.Ok P gl

theorem BT.at_ok {P : Program} {gl : Tr AVal} : ∀ {t : BT} {f : Nat}, t.Ok P gl → allEnt P gl f (t.at f)
  | .lf, _, _ => trivial
  | .nd g es l r, f, h => by
    obtain ⟨h1, h2, h3⟩ := h
    unfold BT.at
    split
    · rename_i e; rw [Nat.eq_of_beq_eq_true e]; exact h1
    · split
      · exact BT.at_ok h2
      · exact BT.at_ok h3

theorem entOf_ok {P : Program} {gl : Tr AVal} {f : Nat} {args : List AVal} {r : CR} : ∀ {es : List Ent}, allEnt P gl f es → entOf args es = some r → ∃ v wr, r = .ret v (St.empty.did [] wr) ∧ Known P gl f args v wr
  | [], _, h => by simp [entOf] at h
  | e :: es, ho, h => by
    obtain ⟨⟨h1, h2⟩, h3⟩ := ho
    simp only [entOf] at h
    split at h
    · rename_i hs
      simp at h
      refine ⟨e.v, e.wr, h.symm, ?_⟩
      have h2 : Known P gl e.f (e.args.map .p) e.v e.wr := h2
      rw [sameArgs_eq hs, h1] at h2
      exact h2
    · exact entOf_ok h3 h

theorem BT.memo_ok {P : Program} {gl : Tr AVal} {t : BT} (h : t.Ok P gl) : MemoOk P gl t.memo := fun _ _ _ hm => entOf_ok (BT.at_ok h) hm

/-- an entry by evaluation. -/
theorem ent_ok {P : Program} {gl : Tr AVal} {imp : Nat → Bool} {t : BT} (ht : t.Ok P gl) (hP : Fine P) {k n : Nat} {e : Ent} {rd : List Nat}
    (h : callAt (evCall t.memo gl imp P k n) imp St.empty 0 e.f (e.args.map .p) = some (.eff ⟨e.v, rd, e.wr⟩)) : e.Ok P gl := known_of (BT.memo_ok ht) hP h

/-- functions by a mask. -/
def inMask (m f : Nat) : Bool := Nat.beq (Nat.land (Nat.shiftRight m f) 1) 1
end Go.Proofs.YtceccojmekpneaaGreatDoor.Sw
