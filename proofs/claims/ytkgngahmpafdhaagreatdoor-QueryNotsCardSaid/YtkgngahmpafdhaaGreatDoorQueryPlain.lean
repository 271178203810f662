/- Plain definitions and laws about queries (layer 20; no program): what is read of words, and when it holds. No conditions but those stated. -/
import Derived.Test.YtkgngahmpafdhaaGreatDoorSpanPlain
import Derived.Test.YtkgngahmpafdhaaGreatDoorPartPlain
import Derived.Test.YtkgngahmpafdhaaGreatDoorPartFields
namespace Mailsack

/-- a message as it is searched -/
structure QV where
  seq : Int
  uid : Int
  flags : Int
  size : Int
  text : Bs
  seqs : Int
  uids : Int
inductive QKey where
  | flags (there missing : Int)
  | size (more : Bool) (n : Int)
  | field (name word : Bs)
  | text (body : Bool) (word : Bs)
  | set (uid : Bool) (R : List (Int × Int))
  | not (k : QKey)
  | or (a b : QKey)
inductive QKind where
  | flags (there missing : Int)
  | size (more : Bool)
  | field (name : Bs)
  | header
  | text (body : Bool)
  | uid
  | not
  | or

def wALL : Bs := [65, 76, 76]
def wSEEN : Bs := [83, 69, 69, 78]
def wUNSEEN : Bs := [85, 78, 83, 69, 69, 78]
def wANSWERED : Bs := [65, 78, 83, 87, 69, 82, 69, 68]
def wUNANSWERED : Bs := [85, 78, 65, 78, 83, 87, 69, 82, 69, 68]
def wFLAGGED : Bs := [70, 76, 65, 71, 71, 69, 68]
def wUNFLAGGED : Bs := [85, 78, 70, 76, 65, 71, 71, 69, 68]
def wDELETED : Bs := [68, 69, 76, 69, 84, 69, 68]
def wUNDELETED : Bs := [85, 78, 68, 69, 76, 69, 84, 69, 68]
def wDRAFT : Bs := [68, 82, 65, 70, 84]
def wUNDRAFT : Bs := [85, 78, 68, 82, 65, 70, 84]
def wRECENT : Bs := [82, 69, 67, 69, 78, 84]
def wOLD : Bs := [79, 76, 68]
def wNEW : Bs := [78, 69, 87]
def wLARGER : Bs := [76, 65, 82, 71, 69, 82]
def wSMALLER : Bs := [83, 77, 65, 76, 76, 69, 82]
def wFROM : Bs := [70, 82, 79, 77]
def wTO : Bs := [84, 79]
def wSUBJECT : Bs := [83, 85, 66, 74, 69, 67, 84]
def wHEADER : Bs := [72, 69, 65, 68, 69, 82]
def wBODY : Bs := [66, 79, 68, 89]
def wTEXT : Bs := [84, 69, 88, 84]
def wUID : Bs := [85, 73, 68]
def wNOT : Bs := [78, 79, 84]
def wOR : Bs := [79, 82]

/-- the keys that start with a name -/
def kinds : List (Bs × QKind) := [
  (wALL, .flags 0 0), (wSEEN, .flags 1 0), (wUNSEEN, .flags 0 1), (wANSWERED, .flags 2 0), (wUNANSWERED, .flags 0 2), (wFLAGGED, .flags 4 0), (wUNFLAGGED, .flags 0 4),
  (wDELETED, .flags 8 0), (wUNDELETED, .flags 0 8), (wDRAFT, .flags 16 0), (wUNDRAFT, .flags 0 16), (wRECENT, .flags 32 0), (wOLD, .flags 0 32), (wNEW, .flags 32 1),
  (wLARGER, .size true), (wSMALLER, .size false), (wFROM, .field wFROM), (wTO, .field wTO), (wSUBJECT, .field wSUBJECT), (wHEADER, .header), (wBODY, .text true), (wTEXT, .text false), (wUID, .uid), (wNOT, .not), (wOR, .or)]
def kindOf (w : Bs) : Option QKind := (kinds.find? fun p => decide (p.1 = w)).map (·.2)

/-- 1 to 9 digits -/
def numQ (s : Bs) : Option Int := if s.length = 0 ∨ 9 < s.length ∨ (1 < s.length ∧ s.head? = some 48) ∨ s.all isDig = false then none else some (numP s)

def one1 {α : Type} (f : Bs → Option α) : List Bs → Option (α × List Bs)
  | [] => none
  | x :: r => (f x).map fun a => (a, r)
/-- what is read at a level (n: how many levels are left) -/
def keyP : Nat → List Bs → Option (QKey × List Bs)
  | 0, _ => none
  | _ + 1, [] => none
  | n + 1, w :: r => match kindOf (upP w) with
    | none => (parseS w).map fun R => (.set false R, r)
    | some (.flags t m) => some (.flags t m, r)
    | some (.size g) => one1 (fun x => (numQ x).map (.size g)) r
    | some (.field nm) => one1 (fun x => some (.field nm x)) r
    | some .header => match r with
      | x :: y :: r => some (.field x y, r)
      | _ => none
    | some (.text b) => one1 (fun x => some (.text b x)) r
    | some .uid => one1 (fun x => (parseS x).map (.set true)) r
    | some .not => (keyP n r).map fun p => (.not p.1, p.2)
    | some .or => match keyP n r with
      | none => none
      | some (a, r1) => (keyP n r1).map fun p => (.or a p.1, p.2)

theorem keyP_zero (l : List Bs) : keyP 0 l = none := by unfold keyP; rfl
theorem keyP_nil (n : Nat) : keyP n [] = none := by cases n <;> (unfold keyP; rfl)
theorem one1_more {α : Type} {f : Bs → Option α} {l : List Bs} {a : α} {r : List Bs} (h : one1 f l = some (a, r)) (x : List Bs) : one1 f (l ++ x) = some (a, r ++ x) := by
  cases l with
  | nil => cases h
  | cons y l =>
    have h' : (f y).map (fun a => (a, l)) = some (a, r) := h
    show (f y).map (fun a => (a, l ++ x)) = some (a, r ++ x)
    simp only [Option.map_eq_some_iff, Prod.mk.injEq] at h' ⊢
    obtain ⟨b, h1, rfl, rfl⟩ := h'
    exact ⟨b, h1, rfl, rfl⟩
/-- more words behind turn nothing -/
theorem keyP_more : ∀ (n : Nat) (l : List Bs) (k : QKey) (r x : List Bs), keyP n l = some (k, r) → keyP n (l ++ x) = some (k, r ++ x)
  | 0, l, k, r, x, h => by rw [keyP_zero] at h; cases h
  | n + 1, [], k, r, x, h => by rw [keyP_nil] at h; cases h
  | n + 1, w :: l, k, r, x, h => by
    rw [List.cons_append]
    unfold keyP at h ⊢
    cases hk : kindOf (upP w) with
    | none =>
      rw [hk] at h
      simp only [Option.map_eq_some_iff, Prod.mk.injEq] at h ⊢
      obtain ⟨R, h1, rfl, rfl⟩ := h
      exact ⟨R, h1, rfl, rfl⟩
    | some kd =>
      rw [hk] at h
      cases kd with
      | flags t m => simp only [Option.some.injEq, Prod.mk.injEq] at h ⊢; obtain ⟨rfl, rfl⟩ := h; exact ⟨rfl, rfl⟩
      | size g => exact one1_more h x
      | field nm => exact one1_more h x
      | header =>
        match l, h with
        | y :: z :: l, h => simp only [Option.some.injEq, Prod.mk.injEq] at h; obtain ⟨rfl, rfl⟩ := h; rfl
      | text b => exact one1_more h x
      | uid => exact one1_more h x
      | not =>
        simp only [Option.map_eq_some_iff, Prod.mk.injEq] at h ⊢
        obtain ⟨⟨k1, r1⟩, h1, rfl, rfl⟩ := h
        exact ⟨(k1, r1 ++ x), keyP_more n l k1 r1 x h1, rfl, rfl⟩
      | or =>
        simp only at h ⊢
        cases h1 : keyP n l with
        | none => rw [h1] at h; cases h
        | some p =>
          obtain ⟨a, r1⟩ := p
          rw [h1] at h
          rw [keyP_more n l a r1 x h1]
          simp only [Option.map_eq_some_iff, Prod.mk.injEq] at h ⊢
          obtain ⟨⟨b, r2⟩, h2, rfl, rfl⟩ := h
          exact ⟨(b, r2 ++ x), keyP_more n r1 b r2 x h2, rfl, rfl⟩
/-- more levels turn nothing -/
theorem keyP_level : ∀ (n : Nat) (l : List Bs) (p : QKey × List Bs), keyP n l = some p → keyP (n + 1) l = some p
  | 0, l, p, h => by rw [keyP_zero] at h; cases h
  | n + 1, [], p, h => by rw [keyP_nil] at h; cases h
  | n + 1, w :: l, p, h => by
    unfold keyP at h ⊢
    cases hk : kindOf (upP w) with
    | none => rw [hk] at h; exact h
    | some kd =>
      rw [hk] at h
      cases kd with
      | flags t m => exact h
      | size g => exact h
      | field nm => exact h
      | header => exact h
      | text b => exact h
      | uid => exact h
      | not =>
        simp only [Option.map_eq_some_iff] at h ⊢
        obtain ⟨q, h1, h2⟩ := h
        exact ⟨q, keyP_level n l q h1, h2⟩
      | or =>
        simp only at h ⊢
        cases h1 : keyP n l with
        | none => rw [h1] at h; cases h
        | some q =>
          obtain ⟨a, r1⟩ := q
          rw [h1] at h
          rw [keyP_level n l (a, r1) h1]
          simp only [Option.map_eq_some_iff] at h ⊢
          obtain ⟨q2, h2, h3⟩ := h
          exact ⟨q2, keyP_level n r1 q2 h2, h3⟩
theorem one1_less {α : Type} {f : Bs → Option α} {l : List Bs} {a : α} {r : List Bs} (h : one1 f l = some (a, r)) : r.length < l.length := by
  cases l with
  | nil => cases h
  | cons y l =>
    have h' : (f y).map (fun a => (a, l)) = some (a, r) := h
    simp only [Option.map_eq_some_iff, Prod.mk.injEq] at h'
    obtain ⟨_, _, _, rfl⟩ := h'
    simp
theorem keyP_less : ∀ (n : Nat) (l : List Bs) (k : QKey) (r : List Bs), keyP n l = some (k, r) → r.length < l.length
  | 0, l, k, r, h => by rw [keyP_zero] at h; cases h
  | n + 1, [], k, r, h => by rw [keyP_nil] at h; cases h
  | n + 1, w :: l, k, r, h => by
    rw [List.length_cons]
    unfold keyP at h
    cases hk : kindOf (upP w) with
    | none => rw [hk] at h; simp only [Option.map_eq_some_iff, Prod.mk.injEq] at h; obtain ⟨R, h1, _, rfl⟩ := h; omega
    | some kd =>
      rw [hk] at h
      cases kd with
      | flags t m => simp only [Option.some.injEq, Prod.mk.injEq] at h; obtain ⟨_, rfl⟩ := h; omega
      | size g => have := one1_less h; omega
      | field nm => have := one1_less h; omega
      | header =>
        match l, h with
        | y :: z :: l, h => simp only [Option.some.injEq, Prod.mk.injEq] at h; obtain ⟨_, rfl⟩ := h; simp only [List.length_cons]; omega
      | text b => have := one1_less h; omega
      | uid => have := one1_less h; omega
      | not =>
        simp only [Option.map_eq_some_iff, Prod.mk.injEq] at h
        obtain ⟨⟨k1, r1⟩, h1, _, rfl⟩ := h
        have := keyP_less n l k1 r1 h1
        simp only; omega
      | or =>
        simp only at h
        cases h1 : keyP n l with
        | none => rw [h1] at h; cases h
        | some p =>
          obtain ⟨a, r1⟩ := p
          rw [h1] at h
          simp only [Option.map_eq_some_iff, Prod.mk.injEq] at h
          obtain ⟨⟨b, r2⟩, h2, _, rfl⟩ := h
          have := keyP_less n l a r1 h1
          have := keyP_less n r1 b r2 h2
          simp only; omega

theorem one1_suffix {α : Type} {f : Bs → Option α} {l : List Bs} {a : α} {r : List Bs} (h : one1 f l = some (a, r)) : ∃ x, l = x ++ r := by
  cases l with
  | nil => cases h
  | cons y l =>
    have h' : (f y).map (fun a => (a, l)) = some (a, r) := h
    simp only [Option.map_eq_some_iff, Prod.mk.injEq] at h'
    obtain ⟨_, _, _, rfl⟩ := h'
    exact ⟨[y], rfl⟩
theorem keyP_suffix : ∀ (n : Nat) (l : List Bs) (k : QKey) (r : List Bs), keyP n l = some (k, r) → ∃ x, l = x ++ r
  | 0, l, k, r, h => by rw [keyP_zero] at h; cases h
  | n + 1, [], k, r, h => by rw [keyP_nil] at h; cases h
  | n + 1, w :: l, k, r, h => by
    have fin : (∃ x, l = x ++ r) → ∃ x, w :: l = x ++ r := fun ⟨x, hx⟩ => ⟨w :: x, by rw [hx]; rfl⟩
    apply fin
    unfold keyP at h
    cases hk : kindOf (upP w) with
    | none => rw [hk] at h; simp only [Option.map_eq_some_iff, Prod.mk.injEq] at h; obtain ⟨R, h1, _, rfl⟩ := h; exact ⟨[], rfl⟩
    | some kd =>
      rw [hk] at h
      cases kd with
      | flags t m => simp only [Option.some.injEq, Prod.mk.injEq] at h; obtain ⟨_, rfl⟩ := h; exact ⟨[], rfl⟩
      | size g => exact one1_suffix h
      | field nm => exact one1_suffix h
      | header =>
        match l, h with
        | y :: z :: l, h => simp only [Option.some.injEq, Prod.mk.injEq] at h; obtain ⟨_, rfl⟩ := h; exact ⟨[y, z], rfl⟩
      | text b => exact one1_suffix h
      | uid => exact one1_suffix h
      | not =>
        simp only [Option.map_eq_some_iff, Prod.mk.injEq] at h
        obtain ⟨⟨k1, r1⟩, h1, _, rfl⟩ := h
        exact keyP_suffix n l k1 r1 h1
      | or =>
        simp only at h
        cases h1 : keyP n l with
        | none => rw [h1] at h; cases h
        | some p =>
          obtain ⟨a, r1⟩ := p
          rw [h1] at h
          simp only [Option.map_eq_some_iff, Prod.mk.injEq] at h
          obtain ⟨⟨b, r2⟩, h2, _, rfl⟩ := h
          obtain ⟨x, hx⟩ := keyP_suffix n l a r1 h1
          obtain ⟨y, hy⟩ := keyP_suffix n r1 b r2 h2
          exact ⟨x ++ y, by rw [hx, hy]; simp⟩

/-- the keys that words are (m: at most so many) -/
def keysP : Nat → List Bs → Option (List QKey)
  | _, [] => some []
  | 0, _ :: _ => none
  | m + 1, w :: l => match keyP 16 (w :: l) with
    | none => none
    | some (k, r) => (keysP m r).map (k :: ·)
def queryP (l : List Bs) : Option (List QKey) := if l = [] then none else keysP l.length l
theorem keysP_fuel : ∀ (m m' : Nat) (l : List Bs), l.length ≤ m → l.length ≤ m' → keysP m l = keysP m' l
  | m, m', [], _, _ => by cases m <;> cases m' <;> rfl
  | 0, m', w :: l, h, _ => by simp at h
  | m + 1, 0, w :: l, _, h => by simp at h
  | m + 1, m' + 1, w :: l, h1, h2 => by
    unfold keysP
    cases hk : keyP 16 (w :: l) with
    | none => rfl
    | some p =>
      obtain ⟨k, r⟩ := p
      have := keyP_less 16 (w :: l) k r hk
      simp only
      rw [keysP_fuel m m' r (by simp at this h1; omega) (by simp at this h2; omega)]
theorem keysP_step {l : List Bs} {k : QKey} {r : List Bs} (h : keyP 16 l = some (k, r)) : keysP l.length l = (keysP r.length r).map (k :: ·) := by
  cases l with
  | nil => rw [keyP_nil] at h; cases h
  | cons w l =>
    have := keyP_less 16 (w :: l) k r h
    rw [List.length_cons]
    conv => lhs; unfold keysP
    rw [h]
    simp only
    rw [keysP_fuel l.length r.length r (by simp at this; omega) (Nat.le_refl _)]
theorem keysP_none {l : List Bs} (hl : l ≠ []) (h : keyP 16 l = none) : keysP l.length l = none := by
  cases l with
  | nil => exact absurd rfl hl
  | cons w l => rw [List.length_cons]; unfold keysP; rw [h]
theorem keysP_app : ∀ (m : Nat) (a b : List Bs) (A B : List QKey), a.length ≤ m → keysP a.length a = some A → keysP b.length b = some B → keysP (a ++ b).length (a ++ b) = some (A ++ B)
  | m, [], b, A, B, _, h1, h2 => by
    have : A = [] := by simpa [keysP] using h1.symm
    subst this; simpa using h2
  | 0, w :: a, b, A, B, h, _, _ => by simp at h
  | m + 1, w :: a, b, A, B, h, h1, h2 => by
    cases hk : keyP 16 (w :: a) with
    | none => rw [keysP_none (by simp) hk] at h1; cases h1
    | some p =>
      obtain ⟨k, r⟩ := p
      have hl := keyP_less 16 (w :: a) k r hk
      rw [keysP_step hk] at h1
      rw [keysP_step (keyP_more 16 (w :: a) k r b hk)]
      obtain ⟨A', h3, rfl⟩ := Option.map_eq_some_iff.1 h1
      rw [keysP_app m r b A' B (by simp at h hl; omega) h3 h2]
      rfl
theorem query_app {a b : List Bs} {A B : List QKey} (h1 : queryP a = some A) (h2 : queryP b = some B) : queryP (a ++ b) = some (A ++ B) := by
  unfold queryP at *
  split at h1
  · cases h1
  · rename_i ha
    split at h2
    · cases h2
    · rw [if_neg (by simp [ha]), keysP_app _ a b A B (Nat.le_refl _) h1 h2]
theorem query_one {a : List Bs} {k : QKey} (h : keyP 16 a = some (k, [])) : queryP a = some [k] := by
  have hne : a ≠ [] := fun e => by rw [e, keyP_nil] at h; cases h
  unfold queryP
  rw [if_neg hne, keysP_step h]
  rfl
theorem query_not {a : List Bs} {w : Bs} {k : QKey} (hw : kindOf (upP w) = some .not) (h : keyP 15 a = some (k, [])) : queryP (w :: a) = some [.not k] := by
  refine query_one ?_
  unfold keyP
  rw [hw, h]
  rfl
theorem query_or {a b : List Bs} {w : Bs} {k j : QKey} (hw : kindOf (upP w) = some .or) (h : keyP 15 a = some (k, [])) (h2 : keyP 15 b = some (j, [])) : queryP (w :: (a ++ b)) = some [.or k j] := by
  refine query_one ?_
  unfold keyP
  rw [hw, keyP_more 15 a k [] b h]
  simp only [List.nil_append]
  rw [h2]
  rfl
end Mailsack
