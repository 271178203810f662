/- Plain laws (no program): what is quoted, as a line, is one command whose one token is it. No conditions but those stated. -/
import Derived.Test.YtclbhcoajljeeaaDoorTakeMore
import Derived.Test.YtclbhcoajljeeaaDoorVerbTokPlain
namespace Mailsack

theorem isDig_ofNat {k : Nat} (h : k < 10) : isDig (UInt8.ofNat (48 + k)) = true := by
  have h2 : (UInt8.ofNat (48 + k)).toNat = 48 + k := by rw [UInt8.toNat_ofNat']; omega
  rw [dig_iff, h2]; omega
theorem dig_val {k : Nat} (h : k < 10) : ((UInt8.ofNat (48 + k)).toNat : Int) = 48 + k := by
  have h2 : (UInt8.ofNat (48 + k)).toNat = 48 + k := by rw [UInt8.toNat_ofNat']; omega
  rw [h2]; omega
theorem dec_dig : ∀ (n : Nat), ∀ c ∈ Go.Lib.decDigits n, isDig c = true := by
  intro n
  induction n using Nat.strongRecOn with
  | _ n ih =>
    intro c hc
    rw [Go.Lib.decDigits] at hc
    split at hc
    · rw [List.mem_singleton.1 hc]; exact isDig_ofNat (by assumption)
    · rcases List.mem_append.1 hc with h | h
      · exact ih (n / 10) (by omega) c h
      · rw [List.mem_singleton.1 h]; exact isDig_ofNat (Nat.mod_lt _ (by decide))
theorem dec_num : ∀ (n : Nat), numP (Go.Lib.decDigits n) = n := by
  intro n
  induction n using Nat.strongRecOn with
  | _ n ih =>
    rw [Go.Lib.decDigits]
    split
    · rename_i h
      show numStep 0 _ = _
      unfold numStep
      rw [dig_val h]; omega
    · rw [numP_snoc, ih (n / 10) (by omega), dig_val (Nat.mod_lt _ (by decide))]
      omega
theorem dec_len {n : Nat} (h : n < 10000) : 1 ≤ (Go.Lib.decDigits n).length ∧ (Go.Lib.decDigits n).length ≤ 4 := by
  have e1 : ∀ m, m < 10 → (Go.Lib.decDigits m).length = 1 := fun m hm => by rw [Go.Lib.decDigits, dif_pos hm]; rfl
  have step : ∀ m k, (∀ j, j < 10 ^ k → 1 ≤ (Go.Lib.decDigits j).length ∧ (Go.Lib.decDigits j).length ≤ k) → m < 10 ^ (k + 1) → 1 ≤ (Go.Lib.decDigits m).length ∧ (Go.Lib.decDigits m).length ≤ k + 1 := by
    intro m k hk hm
    rw [Go.Lib.decDigits]
    split
    · simp
    · have := hk (m / 10) (by rw [Nat.pow_succ] at hm; omega)
      simp; omega
  have s1 : ∀ j, j < 10 ^ 1 → 1 ≤ (Go.Lib.decDigits j).length ∧ (Go.Lib.decDigits j).length ≤ 1 := fun j hj => by rw [e1 j (by simpa using hj)]; decide
  exact step n 3 (fun j hj => step j 2 (fun j hj => step j 1 s1 hj) hj) h
theorem dec_lead : ∀ (n : Nat), 0 < n → (Go.Lib.decDigits n)[0]? ≠ some 48 := by
  intro n
  induction n using Nat.strongRecOn with
  | _ n ih =>
    intro hn
    rw [Go.Lib.decDigits]
    split
    · rename_i h
      simp only [List.getElem?_cons_zero, ne_eq, Option.some.injEq]
      intro e
      have := dig_val h
      rw [e] at this
      simp at this; omega
    · have h1 := ih (n / 10) (by omega) (by omega)
      cases hd : Go.Lib.decDigits (n / 10) with
      | nil => rw [Go.Lib.decDigits] at hd; split at hd <;> simp at hd
      | cons c r => rw [hd] at h1; simpa using h1
theorem dec_good {n : Nat} (h : n < 10000) (h0 : 0 < n) : goodNum (Go.Lib.decDigits n) = true := by
  have hl := dec_len h
  unfold goodNum
  have h1 : ((Go.Lib.decDigits n)[0]? == some 48) = false := by
    cases e : ((Go.Lib.decDigits n)[0]? == some 48) with
    | false => rfl
    | true => exact absurd (by simpa using e) (dec_lead n h0)
  rw [h1, decide_eq_true hl.1, decide_eq_true hl.2, Bool.and_false]
  simp only [Bool.not_false, Bool.true_and, Bool.and_true]
  exact List.all_eq_true.2 (dec_dig n)

theorem lit_ann {n : Nat} (h : n < 10000) (h0 : 0 < n) : litP (123 :: Go.Lib.decDigits n ++ [125]) = some ((n : Int), 0) := by
  have e : ((123 :: Go.Lib.decDigits n ++ [125]).drop (0 + 1)).dropLast = Go.Lib.decDigits n := by simp
  rw [litP_some (a := 0), e, dec_num]
  unfold litOk
  rw [e, dec_good h h0, List.getLast?_append]
  rfl

theorem plain_no13 {s : Bs} (h : plainP s = true) : ∀ c ∈ s, c ≠ 13 := fun c hc e => by
  have := List.all_eq_true.1 h c hc
  rw [e] at this
  exact absurd this (by decide)
theorem plain_app {a b : Bs} : plainP (a ++ b) = (plainP a && plainP b) := List.all_append
theorem plain_esc {s : Bs} (h : plainP s = true) : plainP (escP s) = true := by
  unfold plainP escP
  rw [List.all_flatMap]
  refine List.all_eq_true.2 fun c hc => ?_
  have h1 := List.all_eq_true.1 h c hc
  unfold escB
  split
  · simp [h1]; decide
  · simp [h1]

theorem unq_esc : ∀ (s acc : Bs) (r : Bs), unqA acc (escP s ++ 34 :: r) = some (acc ++ s, r.length)
  | [], acc, r => by
    show unqA acc (34 :: r) = _
    rw [unqA.eq_def]
    simp
  | c :: s, acc, r => by
    have ih := unq_esc s (acc ++ [c]) r
    have e : escP (c :: s) = escB c ++ escP s := by simp [escP]
    rw [e, List.append_assoc]
    unfold escB
    by_cases h : c = 92 ∨ c = 34
    · rw [if_pos h]
      show unqA acc (92 :: c :: (escP s ++ 34 :: r)) = _
      rw [unqA.eq_def]
      simp only [if_neg (show ¬ (92 : UInt8) = 34 by decide), if_true, if_pos h]
      rw [ih]; simp
    · rw [if_neg h]
      show unqA acc (c :: (escP s ++ 34 :: r)) = _
      rw [unqA.eq_def]
      simp only [if_neg (show ¬ c = 34 from fun e => h (.inr e)), if_neg (show ¬ c = 92 from fun e => h (.inl e))]
      rw [ih]; simp

theorem tok_word {s : Bs} (hp : plainP s = true) (hw : isWord s = true) : tokensP [s] [] = some [(0, s)] := by
  unfold isWord at hw
  rw [Bool.and_eq_true, decide_eq_true_eq] at hw
  cases s with
  | nil => exact absurd hw.1 (by simp)
  | cons c r =>
    have hwl := (wordLen_all (c :: r)).2 hw.2
    have hc : specialB c = false := by
      have := (List.all_eq_true.1 hw.2) c (by simp)
      simpa using this
    unfold specialB at hc
    simp only [Bool.or_eq_false_iff, beq_eq_false_iff_ne, ne_eq] at hc
    have hs : scanF (c :: r).length (c :: r) [] 0 = some ([(0, c :: r)], 0) := by
      show scanF (r.length + 1) (c :: r) [] 0 = _
      rw [scanF, if_neg hc.1.1.1, if_neg hc.1.1.2, if_neg hc.1.2, if_neg hc.2, hwl, List.drop_length, List.take_length]
      cases r.length <;> rfl
    unfold tokensP
    rw [if_pos (by rfl)]
    unfold tokRun
    rw [if_pos hp]
    simp only [Nat.lt_irrefl, if_false, hs]
    unfold tokRun
    rfl
theorem tok_quoted {s : Bs} (hp : plainP s = true) : tokensP [34 :: (escP s ++ [34])] [] = some [(1, s)] := by
  have hpl : plainP (34 :: (escP s ++ [34])) = true := by
    show (plainB 34 && plainP (escP s ++ [34])) = true
    rw [plain_app, plain_esc hp]; decide
  have hs : scanF (34 :: (escP s ++ [34])).length (34 :: (escP s ++ [34])) [] 0 = some ([(1, s)], 0) := by
    show scanF ((escP s ++ [34]).length + 1) (34 :: (escP s ++ [34])) [] 0 = _
    rw [scanF, if_neg (by decide), if_neg (by decide), if_neg (by decide), if_pos rfl, unq_esc s [] []]
    simp only [List.nil_append, List.length_nil, Nat.sub_zero, List.drop_length]
    cases (escP s ++ [34]).length <;> rfl
  unfold tokensP
  rw [if_pos (by rfl)]
  unfold tokRun
  rw [if_pos hpl]
  simp only [Nat.lt_irrefl, if_false, hs]
  unfold tokRun
  rfl
theorem tok_lit (s : Bs) : tokensP [[], []] [s] = some [(1, s)] := rfl

/-- what VerbBack looks at -/
structure BackP (R : TakeR) (s : Bs) : Prop where
  state : R.state = 1
  rest : R.rest = []
  short : ∀ x ∈ R.texts, x.length ≤ 1000000
  tok : ∃ k : Nat, k ≤ 1 ∧ tokensP R.texts R.lits = some [(k, s)]

theorem back_plain {s : Bs} (hl : litP s = none) (hs : s.length ≤ 250) : BackP (takeP (quoteP s ++ [13, 10])) s := by
  unfold quoteP
  by_cases hp : plainP s = false
  · rw [if_pos hp]
    have h0 : 0 < s.length := by
      cases s with
      | nil => exact absurd hp (by decide)
      | cons c r => simp
    have e : [123] ++ Go.Lib.decDigits s.length ++ [125, 13, 10] ++ s ++ [13, 10] = (123 :: Go.Lib.decDigits s.length ++ [125]) ++ 13 :: 10 :: (s ++ [13, 10]) := by simp
    rw [e]
    have hn : nextP ((123 :: Go.Lib.decDigits s.length ++ [125]) ++ 13 :: 10 :: (s ++ [13, 10])) = (123 :: Go.Lib.decDigits s.length ++ [125], s ++ [13, 10], 1) := nextP_app (fun j hj => by
      rw [occ_crlf, List.getElem?_append_left hj, List.getElem?_eq_getElem hj]
      have hm := List.getElem_mem hj
      have hne : (123 :: Go.Lib.decDigits s.length ++ [125])[j] ≠ 13 := by
        intro e13
        rw [e13] at hm
        rcases List.mem_append.1 hm with h | h
        · rcases List.mem_cons.1 h with h | h
          · exact absurd h (by decide)
          · exact absurd (dec_dig _ _ h) (by decide)
        · exact absurd (List.mem_singleton.1 h) (by decide)
      rw [show (some (123 :: Go.Lib.decDigits s.length ++ [125])[j] == some (13 : UInt8)) = false by rw [beq_eq_false_iff_ne]; intro e; exact hne (Option.some.inj e)]
      rfl) (by have := (dec_len (n := s.length) (by omega)).2; simp; omega)
    have hg := takeGo_go (f := 4) (T := []) (L := []) hn (lit_ann (n := s.length) (by omega) h0) (by simp; omega) (by simp; omega)
    have hn2 : nextP [13, 10] = ([], [], 1) := nextP_app (ln := []) (x := []) (fun j hj => absurd hj (by simp)) (by simp)
    have hd : (s ++ [13, 10]).drop ((s.length : Int).toNat) = [13, 10] := by simp
    have ht : (s ++ [13, 10]).take ((s.length : Int).toNat) = s := by simp
    have hfin : takeP ((123 :: Go.Lib.decDigits s.length ++ [125]) ++ 13 :: 10 :: (s ++ [13, 10])) = ⟨[[], []], [s], [], 1, 1⟩ := by
      unfold takeP
      rw [hg, hd, ht]
      exact takeGo_plain (f := 3) hn2 (litP_none fun a => by simp [litOk])
    rw [hfin]
    exact ⟨rfl, rfl, by intro x hx; simp at hx; subst hx; simp, 1, Nat.le_refl _, tok_lit s⟩
  · rw [if_neg hp]
    have hp : plainP s = true := by simpa using hp
    by_cases hw : isWord s = true
    · rw [if_pos hw, takeP_line (x := []) (plain_no13 hp) (by omega) hl]
      exact ⟨rfl, rfl, by intro x hx; simp at hx; subst hx; omega, 0, by omega, tok_word hp hw⟩
    · rw [if_neg hw]
      have hpl : plainP ([34] ++ escP s ++ [34]) = true := by
        rw [plain_app, plain_app, plain_esc hp]; decide
      have hle := escP_len s
      have hlen : ([34] ++ escP s ++ [34]).length ≤ 512 := by simp; omega
      rw [takeP_line (x := []) (plain_no13 hpl) hlen (litP_none fun a => by unfold litOk; rw [List.getLast?_append]; simp)]
      exact ⟨rfl, rfl, by intro x hx; simp at hx; subst hx; simp; omega, 1, Nat.le_refl _, tok_quoted hp⟩
end Mailsack
