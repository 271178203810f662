/- Plain laws: the place behind a key (layer 20; no program). No conditions but those stated. -/
import Derived.Test.YtkgngahmpafdhaaGreatDoorQueryPlain
import Derived.Test.YtkgngahmpafdhaaGreatDoorSpanRefPlain
import Derived.Test.YtkgngahmpafdhaaGreatDoorUpPlain
namespace Mailsack

/-- the place behind the key at p; -1: there is none (n: how many levels are left) -/
def posP (n : Nat) (L : List Bs) (p : Nat) : Int := match keyP n (L.drop p) with
  | none => -1
  | some (_, r) => ((L.length - r.length : Nat) : Int)
theorem posP_zero (L : List Bs) (p : Nat) : posP 0 L p = -1 := by unfold posP; rw [keyP_zero]
theorem posP_end {n : Nat} {L : List Bs} {p : Nat} (h : L.length ≤ p) : posP n L p = -1 := by unfold posP; rw [List.drop_of_length_le h, keyP_nil]
theorem posP_of {n : Nat} {L : List Bs} {p q : Nat} {k : QKey} (h : keyP n (L.drop p) = some (k, L.drop q)) (hq : q ≤ L.length) : posP n L p = (q : Int) := by
  unfold posP; rw [h]; simp only [List.length_drop]; omega
theorem posP_none {n : Nat} {L : List Bs} {p : Nat} (h : keyP n (L.drop p) = none) : posP n L p = -1 := by unfold posP; rw [h]
theorem drop_get {L : List Bs} {p : Nat} {s : Bs} (h : L[p]? = some s) : L.drop p = s :: L.drop (p + 1) := by
  have := (List.getElem?_eq_some_iff.1 h)
  obtain ⟨hl, e⟩ := this
  rw [List.drop_eq_getElem_cons hl, e]
theorem posP_back {n : Nat} {L : List Bs} {p : Nat} {q : Int} (h : posP n L p = q) (h0 : 0 ≤ q) : ∃ k j, q = ((j : Nat) : Int) ∧ j ≤ L.length ∧ p < j ∧ keyP n (L.drop p) = some (k, L.drop j) := by
  unfold posP at h
  cases hk : keyP n (L.drop p) with
  | none => rw [hk] at h; simp only at h; omega
  | some a =>
    obtain ⟨k, r⟩ := a
    rw [hk] at h
    simp only at h
    obtain ⟨x, hx⟩ := keyP_suffix n _ k r hk
    have hless := keyP_less n _ k r hk
    have hlen := congrArg List.length hx
    rw [List.length_append, List.length_drop] at hlen
    rw [List.length_drop] at hless
    have hp : p ≤ L.length := by omega
    have hr : r = L.drop (L.length - r.length) := by
      have e : L = (L.take p ++ x) ++ r := by rw [List.append_assoc, ← hx, List.take_append_drop]
      have hl2 : (L.take p ++ x).length = L.length - r.length := by
        have := congrArg List.length e
        rw [List.length_append] at this
        omega
      rw [← hl2]
      conv => rhs; arg 2; rw [e]
      rw [List.drop_left]
    exact ⟨k, L.length - r.length, h.symm, by omega, by omega, by rw [← hr]⟩
section
variable {n : Nat} {L : List Bs} {p : Nat} {s : Bs}
theorem pos_flags {t m : Int} (h : L[p]? = some s) (hk : kindOf (upP s) = some (.flags t m)) : posP (n + 1) L p = (p : Int) + 1 := by
  have hl := (List.getElem?_eq_some_iff.1 h).1
  rw [posP_of (q := p + 1) (k := .flags t m) (by rw [drop_get h]; unfold keyP; rw [hk]) (by omega)]
  omega
theorem pos_set {R : List (Int × Int)} (h : L[p]? = some s) (hk : kindOf (upP s) = none) (hp : parseS s = some R) : posP (n + 1) L p = (p : Int) + 1 := by
  have hl := (List.getElem?_eq_some_iff.1 h).1
  rw [posP_of (q := p + 1) (k := .set false R) (by rw [drop_get h]; unfold keyP; rw [hk, hp]; rfl) (by omega)]
  omega
theorem pos_not (h : L[p]? = some s) (hk : kindOf (upP s) = some .not) : posP (n + 1) L p = posP n L (p + 1) := by
  unfold posP
  rw [drop_get h]
  conv => lhs; unfold keyP
  rw [hk]
  simp only
  cases keyP n (L.drop (p + 1)) <;> rfl
theorem pos_or_none (h : L[p]? = some s) (hk : kindOf (upP s) = some .or) (h1 : posP n L (p + 1) < 0) : posP (n + 1) L p = -1 := by
  refine posP_none ?_
  rw [drop_get h]
  unfold keyP
  rw [hk]
  simp only
  cases hkp : keyP n (L.drop (p + 1)) with
  | none => rfl
  | some a =>
    unfold posP at h1
    rw [hkp] at h1
    simp only at h1
    omega
theorem pos_or {q : Nat} (h : L[p]? = some s) (hk : kindOf (upP s) = some .or) (h1 : posP n L (p + 1) = (q : Int)) : posP (n + 1) L p = posP n L q ∧ q ≤ L.length := by
  obtain ⟨k, j, e, hj, _, hkey⟩ := posP_back h1 (by omega)
  have e : q = j := by omega
  subst e
  refine ⟨?_, hj⟩
  unfold posP
  rw [drop_get h]
  conv => lhs; unfold keyP
  rw [hk]
  simp only
  rw [hkey]
  simp only
  cases keyP n (L.drop q) <;> rfl
theorem pos_one {α : Type} {f : Bs → Option QKey} {t : Bs} {k : QKey} (h : L[p]? = some s) (h2 : L[p + 1]? = some t) (hk : ∀ r, keyP (n + 1) (s :: r) = one1 f r) (ht : f t = some k) (_ : α) : posP (n + 1) L p = (p : Int) + 2 := by
  have hl := (List.getElem?_eq_some_iff.1 h2).1
  rw [posP_of (q := p + 2) (k := k) (by rw [drop_get h, hk, drop_get h2]; show (f t).map _ = _; rw [ht]; rfl) (by omega)]
  omega
theorem key_size {g : Bool} (hk : kindOf (upP s) = some (.size g)) (r : List Bs) : keyP (n + 1) (s :: r) = one1 (fun x => (numQ x).map (.size g)) r := by unfold keyP; rw [hk]
theorem key_field {nm : Bs} (hk : kindOf (upP s) = some (.field nm)) (r : List Bs) : keyP (n + 1) (s :: r) = one1 (fun x => some (.field nm x)) r := by unfold keyP; rw [hk]
theorem key_text {b : Bool} (hk : kindOf (upP s) = some (.text b)) (r : List Bs) : keyP (n + 1) (s :: r) = one1 (fun x => some (.text b x)) r := by unfold keyP; rw [hk]
theorem key_uid (hk : kindOf (upP s) = some .uid) (r : List Bs) : keyP (n + 1) (s :: r) = one1 (fun x => (parseS x).map (.set true)) r := by unfold keyP; rw [hk]
theorem pos_size {g : Bool} {t : Bs} {x : Int} (h : L[p]? = some s) (h2 : L[p + 1]? = some t) (hk : kindOf (upP s) = some (.size g)) (ht : numQ t = some x) : posP (n + 1) L p = (p : Int) + 2 :=
  pos_one h h2 (key_size hk) (by rw [ht]; rfl) ()
theorem pos_field {nm t : Bs} (h : L[p]? = some s) (h2 : L[p + 1]? = some t) (hk : kindOf (upP s) = some (.field nm)) : posP (n + 1) L p = (p : Int) + 2 := pos_one h h2 (key_field hk) rfl ()
theorem pos_text {b : Bool} {t : Bs} (h : L[p]? = some s) (h2 : L[p + 1]? = some t) (hk : kindOf (upP s) = some (.text b)) : posP (n + 1) L p = (p : Int) + 2 := pos_one h h2 (key_text hk) rfl ()
theorem pos_uid {t : Bs} {R : List (Int × Int)} (h : L[p]? = some s) (h2 : L[p + 1]? = some t) (hk : kindOf (upP s) = some .uid) (ht : parseS t = some R) : posP (n + 1) L p = (p : Int) + 2 := pos_one h h2 (key_uid hk) (by rw [ht]; rfl) ()
theorem pos_header (h : L[p]? = some s) (hk : kindOf (upP s) = some .header) (hl : p + 3 ≤ L.length) : posP (n + 1) L p = (p : Int) + 3 := by
  obtain ⟨x, hx⟩ : ∃ x, L[p + 1]? = some x := ⟨_, List.getElem?_eq_getElem (by omega)⟩
  obtain ⟨y, hy⟩ : ∃ y, L[p + 1 + 1]? = some y := ⟨_, List.getElem?_eq_getElem (by omega)⟩
  rw [posP_of (q := p + 3) (k := .field x y) (by rw [drop_get h, drop_get hx, drop_get hy]; unfold keyP; rw [hk]) (by omega)]
  omega
theorem pos_header_no (h : L[p]? = some s) (hk : kindOf (upP s) = some .header) (hl : L.length < p + 3) : posP (n + 1) L p = -1 := by
  refine posP_none ?_
  rw [drop_get h]
  unfold keyP
  rw [hk]
  have : (L.drop (p + 1)).length < 2 := by rw [List.length_drop]; have := (List.getElem?_eq_some_iff.1 h).1; omega
  match hd : L.drop (p + 1), this with
  | [], _ => rfl
  | [_], _ => rfl
end

theorem no_letter {s : Bs} {c : UInt8} (h : s.head? = some c) (h1 : isDig c = false) (h2 : c ≠ 42) : parseS s = none := by
  cases s with
  | nil => cases h
  | cons x r =>
    simp only [List.head?_cons, Option.some.injEq] at h
    subst h
    refine (parse_step (x :: r)).1 ?_
    have hw : (((x :: r).take 11).takeWhile isDig).length = 0 := by
      rw [List.take_succ_cons, List.takeWhile_cons, h1]; rfl
    unfold refN
    rw [if_neg (by simpa using h2), if_pos (.inl hw)]
/-- what a name begins with -/
theorem kinds_head : ∀ q ∈ kinds, ∃ c, q.1.head? = some c ∧ 65 ≤ c.toNat := by
  have : ∀ q ∈ kinds, (q.1.head?.any fun c => decide (65 ≤ c.toNat)) = true := by decide
  intro q hq
  have := this q hq
  cases hh : q.1.head? with
  | none => rw [hh] at this; cases this
  | some c => rw [hh] at this; exact ⟨c, rfl, by simpa using this⟩
theorem kind_mem {u : Bs} {kd : QKind} (h : kindOf u = some kd) : (u, kd) ∈ kinds := by
  unfold kindOf at h
  simp only [Option.map_eq_some_iff] at h
  obtain ⟨q, h1, h2⟩ := h
  have h3 := List.find?_some h1
  have h4 := List.mem_of_find?_eq_some h1
  simp only [decide_eq_true_eq] at h3
  subst h3 h2
  exact h4
theorem name_no_set {s : Bs} {kd : QKind} (h : kindOf (upP s) = some kd) : parseS s = none := by
  obtain ⟨c, h1, h2⟩ := kinds_head _ (kind_mem h)
  simp only at h1
  cases s with
  | nil => cases h1
  | cons x r =>
    simp only [upP, List.map_cons, List.head?_cons, Option.some.injEq] at h1
    have hx : 65 ≤ x.toNat := by
      by_cases hc : 97 ≤ x.toNat ∧ x.toNat ≤ 122
      · omega
      · rw [up_other hc] at h1; rw [h1]; exact h2
    refine no_letter (c := x) rfl ?_ ?_
    · unfold isDig; rw [decide_eq_false_iff_not]; omega
    · intro e; subst e; exact absurd hx (by decide)
end Mailsack
