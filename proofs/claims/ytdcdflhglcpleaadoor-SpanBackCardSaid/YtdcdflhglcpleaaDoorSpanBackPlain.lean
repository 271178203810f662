/- Plain laws (no program) of layer 14: the text of numbers is parsed to ranges that have just these. No conditions but those stated. -/
import Derived.Test.YtdcdflhglcpleaaDoorSpanTextPlain
import Derived.Test.YtdcdflhglcpleaaDoorSpanRefPlain
namespace Mailsack

/-- the ranges of numbers -/
def runsR : Nat → List Int → List (Int × Int)
  | 0, _ => []
  | _ + 1, [] => []
  | n + 1, x :: r => (x, x + runLen x r) :: runsR n (r.drop (runLen x r))

theorem numStep_le {n : Int} (h : 0 ≤ n) (c : UInt8) (hc : isDig c = true) : 0 ≤ numStep n c := by
  have := dig_iff.1 hc
  unfold numStep; omega
theorem dec_dig (k : Nat) (h : k < 10) : isDig (UInt8.ofNat (48 + k)) = true ∧ ((UInt8.ofNat (48 + k)).toNat : Int) = 48 + k := by
  have e : (UInt8.ofNat (48 + k)).toNat = 48 + k := by simp; omega
  refine ⟨?_, by rw [e]; simp⟩
  rw [dig_iff, e]; omega
theorem dec_all : ∀ u : Nat, (∀ c ∈ Go.Lib.decDigits u, isDig c = true) ∧ numP (Go.Lib.decDigits u) = u := by
  intro u
  induction u using Nat.strongRecOn with
  | _ u ih =>
    by_cases h : u < 10
    · rw [Go.Lib.decDigits_one h]
      have := dec_dig u h
      refine ⟨fun c hc => by rw [List.mem_singleton.1 hc]; exact this.1, ?_⟩
      have h2 := numP_snoc [] (UInt8.ofNat (48 + u))
      rw [List.nil_append] at h2
      rw [h2, this.2, show numP [] = 0 from rfl]; omega
    · rw [Go.Lib.decDigits, dif_neg h]
      obtain ⟨i1, i2⟩ := ih (u / 10) (by omega)
      have := dec_dig (u % 10) (by omega)
      refine ⟨fun c hc => ?_, ?_⟩
      · rcases List.mem_append.1 hc with hc | hc
        · exact i1 c hc
        · rw [List.mem_singleton.1 hc]; exact this.1
      · rw [numP_snoc, i2, this.2]; omega
theorem dec_head : ∀ u : Nat, 1 ≤ u → (Go.Lib.decDigits u).head? ≠ some 48 := by
  intro u
  induction u using Nat.strongRecOn with
  | _ u ih =>
    intro hu
    by_cases h : u < 10
    · rw [Go.Lib.decDigits_one h]
      intro e
      have e2 : UInt8.ofNat (48 + u) = 48 := by simpa using e
      have := (dec_dig u h).2
      rw [e2] at this
      have h48 : ((48 : UInt8).toNat : Int) = 48 := by decide
      omega
    · rw [Go.Lib.decDigits, dif_neg h]
      intro e
      refine ih (u / 10) (by omega) (by omega) ?_
      cases hd : Go.Lib.decDigits (u / 10) with
      | nil =>
        have := Go.Lib.decDigits_length (u / 10)
        rw [hd] at this
        have h1 := Go.Lib.nDigits_pos (u / 10)
        simp at this
        omega
      | cons a b => rw [hd] at e; exact e
theorem dec_len {u : Nat} (h : u ≤ 1000000) : (Go.Lib.decDigits u).length ≤ 10 ∧ (Go.Lib.decDigits u).length ≠ 0 := by
  rw [Go.Lib.decDigits_length]
  refine ⟨?_, by have := Go.Lib.nDigits_pos u; omega⟩
  rcases Nat.lt_or_ge (Go.Lib.nDigits u) 11 with h1 | h1
  · omega
  · exfalso
    have key : ∀ k u : Nat, k < Go.Lib.nDigits u → 0 < k → 10 ^ k ≤ u := by
      intro k
      induction k with
      | zero => intro u _ h; omega
      | succ k ih =>
        intro u hu _
        by_cases h10 : u < 10
        · rw [Go.Lib.nDigits_small h10] at hu; omega
        · rw [Go.Lib.nDigits_big h10] at hu
          by_cases hk : k = 0
          · subst hk; simp; omega
          · have := ih (u / 10) (by omega) (by omega)
            rw [Nat.pow_succ]; omega
    have := key 10 u (by omega) (by decide)
    have h7 : 10 ^ 10 = 10000000000 := by decide
    omega
theorem itoa_pos {x : Int} (h : 1 ≤ x) : Go.Lib.itoa x = Go.Lib.decDigits x.toNat := by unfold Go.Lib.itoa; rw [if_neg (by omega)]
theorem itoa_dig_all {x : Int} (h : 1 ≤ x) : ∀ c ∈ Go.Lib.itoa x, isDig c = true := by rw [itoa_pos h]; exact (dec_all _).1
theorem itoa_num {x : Int} (h : 1 ≤ x) (h2 : x ≤ 1000000) : numS (Go.Lib.itoa x) = (x, true) := by
  rw [itoa_pos h]
  obtain ⟨h3, h4⟩ := dec_all x.toNat
  obtain ⟨h5, h6⟩ := dec_len (u := x.toNat) (by omega)
  have e : numP (Go.Lib.decDigits x.toNat) = x := by rw [h4]; omega
  rw [numS_yes (fun e => absurd (h3 42 (by rw [e]; simp)) (by decide)) h6 h5 (by rw [get0_head]; exact dec_head _ (by omega)) (List.all_eq_true.2 h3) (by rw [e]; omega), e]
theorem not_dig {c : UInt8} (h : isDig c = false) {x : Int} (hx : 1 ≤ x) : c ∉ Go.Lib.itoa x := fun hm => by rw [itoa_dig_all hx c hm] at h; cases h
theorem part_good {x : Int} {k : Nat} (hx : 1 ≤ x) (h : x + k ≤ 1000000) : 44 ∉ partT x k ∧ partOK (partT x k) = true ∧ partV (partT x k) = (x, x + k) := by
  have n44 := fun y (hy : 1 ≤ y) => not_dig (c := 44) (by decide) (x := y) hy
  have n58 := not_dig (c := 58) (by decide) hx
  by_cases hk : k = 0
  · subst hk
    have e : partT x 0 = Go.Lib.itoa x := by simp [partT]
    have he : ends (Go.Lib.itoa x) = (Go.Lib.itoa x, Go.Lib.itoa x) := by
      unfold ends
      rw [index_58]
      rcases idx_cases (Go.Lib.itoa x) 58 with ⟨h1, _⟩ | ⟨i, _, h2, _, h3⟩
      · rw [h1, if_neg (by decide)]
      · exact absurd (by rw [h3]; simp) n58
    rw [e]
    refine ⟨n44 x hx, ?_, ?_⟩
    · unfold partOK; rw [he]; simp [itoa_num hx (by omega)]
    · unfold partV; rw [he]; simp [itoa_num hx (by omega)]
  · have e : partT x k = Go.Lib.itoa x ++ 58 :: Go.Lib.itoa (x + k) := by unfold partT; rw [if_neg hk]
    have he : ends (partT x k) = (Go.Lib.itoa x, Go.Lib.itoa (x + k)) := by
      unfold ends
      rw [index_58, e]
      rcases idx_cases (Go.Lib.itoa x ++ 58 :: Go.Lib.itoa (x + k)) 58 with ⟨_, h2⟩ | ⟨i, h1, h2, h3, h4⟩
      · exact absurd (by simp) h2
      · have hi : i = (Go.Lib.itoa x).length := by
          rcases Nat.lt_trichotomy i (Go.Lib.itoa x).length with hlt | heq | hgt
          · exfalso
            have hg : (Go.Lib.itoa x ++ 58 :: Go.Lib.itoa (x + k))[i]? = some 58 := by
              obtain ⟨g1, _⟩ := Go.Lib.indexByte_some h1
              exact g1
            rw [List.getElem?_append_left hlt] at hg
            exact n58 (List.mem_of_getElem? hg)
          · exact heq
          · exfalso
            apply h3
            refine List.mem_of_getElem? (i := (Go.Lib.itoa x).length) ?_
            rw [List.getElem?_take, if_pos hgt, List.getElem?_append_right (Nat.le_refl _)]
            simp
        rw [h1, if_pos (by omega), hi]
        simp
    refine ⟨?_, ?_, ?_⟩
    · rw [e]; intro hm
      rcases List.mem_append.1 hm with hm | hm
      · exact n44 x hx hm
      · rcases List.mem_cons.1 hm with hm | hm
        · exact absurd hm (by decide)
        · exact n44 (x + k) (by omega) hm
    · unfold partOK; rw [he]; simp [itoa_num hx (by omega), itoa_num (x := x + k) (by omega) h]
    · unfold partV; rw [he]; simp [itoa_num hx (by omega), itoa_num (x := x + k) (by omega) h]
theorem runs_last {x : Int} {r : List Int} (h : ∀ n ∈ x :: r, 1 ≤ n ∧ n ≤ 1000000) : x + runLen x r ≤ 1000000 := (h _ (List.mem_of_getElem? (run_last x r))).2

theorem textR_parse : ∀ (n : Nat) (l : List Int), l.length ≤ n → l ≠ [] → (∀ y ∈ l, 1 ≤ y ∧ y ≤ 1000000) → parseS (textR n true l) = some (runsR n l)
  | 0, l, h, hne, _ => by simp at h; exact absurd h hne
  | n + 1, [], _, hne, _ => absurd rfl hne
  | n + 1, x :: r, h, _, hin => by
    have hx := hin x (by simp)
    have hr := runLen_le x r
    obtain ⟨p1, p2, p3⟩ := part_good (k := runLen x r) hx.1 (runs_last hin)
    rw [textR, runsR, ← p3]
    simp only [if_true, List.nil_append]
    cases hd : r.drop (runLen x r) with
    | nil =>
      have e : textR n false [] = [] := by cases n <;> rfl
      have e2 : runsR n [] = [] := by cases n <;> rfl
      rw [e, e2, List.append_nil, parse_one p1 p2]
    | cons y t =>
      have hlt : (y :: t).length ≤ n := by rw [← hd]; simp at h ⊢; omega
      have ih := textR_parse n (y :: t) hlt (by simp) (fun z hz => hin z (List.mem_cons_of_mem _ (List.mem_of_mem_drop (by rw [hd]; exact hz))))
      cases n with
      | zero => simp at hlt
      | succ n =>
        rw [textR] at ih ⊢
        simp only [if_true, List.nil_append] at ih
        have e : (if false = true then [] else [44]) ++ partT y (runLen y t) ++ textR n false (t.drop (runLen y t)) = 44 :: (partT y (runLen y t) ++ textR n false (t.drop (runLen y t))) := by simp
        rw [e, parse_cons p1 p2, ih]
        rfl
theorem text_parse {l : List Int} (hne : l ≠ []) (hin : ∀ y ∈ l, 1 ≤ y ∧ y ≤ 1000000) : parseS (textS l) = some (runsR l.length l) := textR_parse _ _ (Nat.le_refl _) hne hin

theorem run_mem : ∀ (x : Int) (r : List Int) (n : Int), 1 ≤ x → ((x ≤ n ∧ n ≤ x + runLen x r) ↔ n ∈ (x :: r).take (runLen x r + 1))
  | x, [], n, _ => by simp [runLen]; omega
  | x, y :: r, n, hx => by
    unfold runLen
    split
    · rename_i h
      have h2 := fol_iff.1 h
      have ih := run_mem y r n (by omega)
      rw [List.take_succ_cons, List.mem_cons, ← ih, h2.2]
      push_cast
      omega
    · simp; omega
theorem hasS_runs : ∀ (k : Nat) (l : List Int), l.length ≤ k → (∀ y ∈ l, 1 ≤ y ∧ y ≤ 1000000) → ∀ n g : Int, hasS (runsR k l) n g = decide (n ∈ l)
  | 0, l, h, _, n, g => by simp at h; subst h; rfl
  | k + 1, [], _, _, n, g => by simp [runsR, hasS]
  | k + 1, x :: r, h, hin, n, g => by
    have hx := hin x (by simp)
    have ih := hasS_runs k (r.drop (runLen x r)) (by simp at h ⊢; omega) (fun z hz => hin z (List.mem_cons_of_mem _ (List.mem_of_mem_drop hz))) n g
    rw [runsR]
    unfold hasS at ih ⊢
    rw [List.any_cons, ih]
    have e1 : hasR n g (x, x + runLen x r) = decide (n ∈ (x :: r).take (runLen x r + 1)) := by
      unfold hasR
      rw [decide_eq_decide, ← run_mem x r n hx.1]
      show min (endG g x) (endG g (x + runLen x r)) ≤ n ∧ n ≤ max (endG g x) (endG g (x + runLen x r)) ↔ _
      have h1 : endG g x = x := by unfold endG; rw [if_neg (by omega)]
      have h2 : endG g (x + runLen x r) = x + runLen x r := by unfold endG; rw [if_neg (by omega)]
      rw [h1, h2]; omega
    rw [e1, ← Bool.decide_or, decide_eq_decide]
    have e2 : x :: r = (x :: r).take (runLen x r + 1) ++ r.drop (runLen x r) := by
      conv => lhs; rw [← List.take_append_drop (runLen x r + 1) (x :: r)]
      rfl
    conv => rhs; rw [e2]
    rw [List.mem_append]
theorem pick_runs {l : List Int} (hin : ∀ y ∈ l, 1 ≤ y ∧ y ≤ 1000000) : pickS (runsR l.length l) l = l := by
  unfold pickS
  rw [List.filter_eq_self]
  intro n hn
  rw [hasS_runs _ _ (Nat.le_refl _) hin]
  exact decide_eq_true hn

/-- the numbers that steps come to -/
def atK (zs : List Int) (k : Nat) : Int := (zs.take k).foldl (fun a z => a + (1 + z % 4)) 0
def lK (zs : List Int) (k : Nat) : List Int := (List.range k).map fun j => atK zs (j + 1)
theorem atK_succ {zs : List Int} {k : Nat} {z : Int} (h : zs[k]? = some z) : atK zs (k + 1) = atK zs k + (1 + z % 4) := by
  unfold atK; rw [List.take_add_one, h]; simp
theorem lK_succ (zs : List Int) (k : Nat) : lK zs (k + 1) = lK zs k ++ [atK zs (k + 1)] := by unfold lK; rw [List.range_succ, List.map_append]; rfl
theorem lK_len (zs : List Int) (k : Nat) : (lK zs k).length = k := by simp [lK]
theorem atK_le (zs : List Int) : ∀ k : Nat, k ≤ zs.length → (k : Int) ≤ atK zs k ∧ atK zs k ≤ 4 * k
  | 0, _ => by simp [atK]
  | k + 1, h => by
    have ih := atK_le zs k (by omega)
    obtain ⟨z, hz⟩ : ∃ z, zs[k]? = some z := ⟨_, List.getElem?_eq_getElem (by omega)⟩
    rw [atK_succ hz]
    push_cast
    omega
theorem lK_in {zs : List Int} {k : Nat} (h : k ≤ zs.length) (hk : k ≤ 100) : ∀ y ∈ lK zs k, 1 ≤ y ∧ y ≤ 1000000 := by
  intro y hy
  unfold lK at hy
  obtain ⟨j, hj, rfl⟩ := List.mem_map.1 hy
  have hj := List.mem_range.1 hj
  have := atK_le zs (j + 1) (by omega)
  push_cast at this
  omega
theorem in_succ (zs : List Int) (k : Nat) (n : Int) : decide (n ∈ lK zs (k + 1)) = (decide (n ∈ lK zs k) || atK zs (k + 1) == n) := by
  rw [lK_succ, Bool.eq_iff_iff, decide_eq_true_iff, List.mem_append, Bool.or_eq_true, decide_eq_true_iff, beq_iff_eq, List.mem_singleton]
  exact or_congr Iff.rfl eq_comm
theorem partT_len {x : Int} {k : Nat} (hx : 1 ≤ x) (h : x + k ≤ 1000000) : (partT x k).length ≤ 21 := by
  have h1 := (dec_len (u := x.toNat) (by omega)).1
  have h2 := (dec_len (u := (x + k).toNat) (by omega)).1
  unfold partT
  rw [itoa_pos hx, itoa_pos (x := x + k) (by omega)]
  split
  · simp; omega
  · simp; omega
theorem textR_len : ∀ (n : Nat) (f : Bool) (l : List Int), (∀ y ∈ l, 1 ≤ y ∧ y ≤ 1000000) → (textR n f l).length ≤ 22 * n
  | 0, f, l, _ => by simp [textR]
  | n + 1, f, [], _ => by simp [textR]
  | n + 1, f, x :: r, hin => by
    have ih := textR_len n false (r.drop (runLen x r)) (fun z hz => hin z (List.mem_cons_of_mem _ (List.mem_of_mem_drop hz)))
    have h1 := partT_len (k := runLen x r) (hin x (by simp)).1 (runs_last hin)
    rw [textR]
    cases f <;> simp <;> omega
theorem runsR_len : ∀ (n : Nat) (l : List Int), l.length ≤ n → (runsR n l).length ≤ l.length
  | 0, l, _ => by simp [runsR]
  | n + 1, [], _ => by simp [runsR]
  | n + 1, x :: r, h => by
    have ih := runsR_len n (r.drop (runLen x r)) (by simp at h ⊢; omega)
    rw [runsR]
    simp at ih ⊢
    omega
end Mailsack
