/- A region that draws its order, walked in the order of the text: one fact for each operation, at every world of a family of worlds. No program; no conditions but those stated. -/
import Derived.Orders
import Derived.Tactics
namespace Go.Proofs.YtomnljigoljldaaGreatDoor.RG

section
variable {P : Program} {ops : Array Oper} {Q : Exit → Act → World → Prop} {md : Region.Mode} {I : World → Prop}

def Only (I : World → Prop) (A : Act) : Exit → Act → World → Prop := fun e a w => e = .normal ∧ a = A ∧ I w

/-- the operations, one after the other: each comes to one act, in every world of the family, and stays in the family -/
def wpDet (P : Program) (ops : Array Oper) (I : World → Prop) (K : Act → Prop) : List Oper → Act → Prop
  | [], a => K a
  | o :: os, a => ∃ A : Act, A.defers = a.defers ∧ (∀ w, I w → wpList P ops (Only I A) [o] a w) ∧ wpDet P ops I K os A

theorem only_mk {A : Act} {w : World} (h : I w) : Only I A .normal A w := ⟨rfl, rfl, h⟩
theorem wpDet_nil {K : Act → Prop} {a : Act} (h : K a) : wpDet P ops I K [] a := h
theorem wpDet_cons {K : Act → Prop} {a : Act} {o : Oper} {os : List Oper} {A : Act} (h : ∀ w, I w → wpList P ops (Only I A) [o] a w) (hd : A.defers = a.defers) (h2 : wpDet P ops I K os A) : wpDet P ops I K (o :: os) a := ⟨A, hd, h, h2⟩

def deps (md : Region.Mode) (o : Oper) : List Nat := (o.after.toList.filter (Region.binds md ·)).map (·.on)
/-- the region's operations wait for what they look at; no two have one temporary -/
def fits (md : Region.Mode) (ops : Array Oper) : Bool :=
  Region.noSelect ops && (List.range ops.size).all fun i => match ops[i]? with
    | none => true
    | some o => (deps md o).all (· < i) && (List.range ops.size).all fun j => i == j || match ops[j]? with
      | none => true
      | some p => match p.dst with
        | none => true
        | some d => o.dst != some d && (!(o.looksAt ops).contains d || (deps md o).contains j)

theorem mem_deps {o : Oper} {j : Nat} : j ∈ deps md o ↔ ∃ e ∈ o.after, Region.binds md e = true ∧ e.on = j := by
  unfold deps
  simp only [List.mem_map, List.mem_filter, Array.mem_toList_iff]
  constructor
  · rintro ⟨e, ⟨h1, h2⟩, h3⟩; exact ⟨e, h1, h2, h3⟩
  · rintro ⟨e, h1, h2, h3⟩; exact ⟨e, ⟨h1, h2⟩, h3⟩
theorem fits_lt (h : fits md ops = true) {i : Nat} {o : Oper} (ho : ops[i]? = some o) {j : Nat} (hj : j ∈ deps md o) : j < i := by
  unfold fits at h
  rw [Bool.and_eq_true] at h
  have h1 := List.all_eq_true.1 h.2 i (List.mem_range.2 (Array.getElem?_eq_some_iff.1 ho).1)
  simp only [ho, Bool.and_eq_true] at h1
  simpa using List.all_eq_true.1 h1.1 j hj
theorem fits_dst (h : fits md ops = true) {i j : Nat} {o p : Oper} (ho : ops[i]? = some o) (hp : ops[j]? = some p) (hne : i ≠ j) {d : Tmp} (hd : p.dst = some d) :
    o.dst ≠ some d ∧ (d ∈ o.looksAt ops → j ∈ deps md o) := by
  unfold fits at h
  rw [Bool.and_eq_true] at h
  have h1 := List.all_eq_true.1 h.2 i (List.mem_range.2 (Array.getElem?_eq_some_iff.1 ho).1)
  simp only [ho, Bool.and_eq_true] at h1
  have h2 := List.all_eq_true.1 h1.2 j (List.mem_range.2 (Array.getElem?_eq_some_iff.1 hp).1)
  simp only [hp, hd, Bool.or_eq_true, beq_iff_eq, hne, false_or, Bool.and_eq_true, bne_iff_ne, Bool.not_eq_true', List.contains_eq_mem, decide_eq_false_iff_not, decide_eq_true_eq] at h2
  exact ⟨h2.1, fun hl => h2.2.resolve_left (fun hn => hn hl)⟩

/-- the act with the temporaries of the operations of L filled -/
def fill (L : Nat → Bool) (V : Nat → Value) : List Oper → Nat → Act → Act
  | [], _, a => a
  | o :: os, i, a => fill L V os (i + 1) (if L i = true then a.put o.dst (V i) else a)

theorem put_size (a : Act) (d : Option Tmp) (v : Value) : (a.put d v).tmps.size = a.tmps.size := by cases d <;> simp [Act.put]
theorem put_defers (a : Act) (d : Option Tmp) (v : Value) : (a.put d v).defers = a.defers := by cases d <;> rfl
theorem fill_size {L : Nat → Bool} {V : Nat → Value} : ∀ (os : List Oper) (i : Nat) (a : Act), (fill L V os i a).tmps.size = a.tmps.size
  | [], _, _ => rfl
  | o :: os, i, a => by
    unfold fill
    rw [fill_size os]
    split
    · exact put_size _ _ _
    · rfl
theorem put_at (a : Act) (d : Option Tmp) (v : Value) {t : Tmp} (h : d ≠ some t) : (a.put d v).tmps[t]? = a.tmps[t]? := by
  cases d with
  | none => rfl
  | some e =>
    have : e ≠ t := fun he => h (he ▸ rfl)
    simp [Act.put, Array.getElem?_setIfInBounds_ne this]
theorem put_here (a b : Act) (v : Value) {t : Tmp} (h : a.tmps.size = b.tmps.size) : (a.put (some t) v).tmps[t]? = (b.put (some t) v).tmps[t]? := by
  simp [Act.put, Array.getElem?_setIfInBounds, h]
theorem fill_agree {L L' : Nat → Bool} {V : Nat → Value} {t : Tmp} : ∀ (os : List Oper) (i : Nat) (a b : Act), a.tmps[t]? = b.tmps[t]? → a.tmps.size = b.tmps.size →
    (∀ n o, os[n]? = some o → o.dst = some t → L (i + n) = L' (i + n)) → (fill L V os i a).tmps[t]? = (fill L' V os i b).tmps[t]?
  | [], _, _, _, h, _, _ => h
  | o :: os, i, a, b, h, hs, hL => by
    unfold fill
    refine fill_agree os (i + 1) _ _ ?_ ?_ (fun n p hp hd => by have := hL (n + 1) p (by simpa using hp) hd; rwa [show i + (n + 1) = i + 1 + n by omega] at this)
    · by_cases hd : o.dst = some t
      · have h0 := hL 0 o rfl hd
        rw [Nat.add_zero] at h0
        rw [h0]
        split
        · rw [hd]; exact put_here a b _ hs
        · exact h
      · have e1 : ∀ (c : Bool) (x : Act), (if c = true then x.put o.dst (V i) else x).tmps[t]? = x.tmps[t]? := fun c x => by
          split
          · exact put_at _ _ _ hd
          · rfl
        rw [e1, e1]; exact h
    · have e1 : ∀ (c : Bool) (x : Act), (if c = true then x.put o.dst (V i) else x).tmps.size = x.tmps.size := fun c x => by
        split
        · exact put_size _ _ _
        · rfl
      rw [e1, e1]; exact hs
theorem fill_congr {L L' : Nat → Bool} {V V' : Nat → Value} : ∀ (os : List Oper) (i : Nat) (a : Act), (∀ n, n < os.length → L (i + n) = L' (i + n)) → (∀ n, n < os.length → L (i + n) = true → V (i + n) = V' (i + n)) →
    fill L V os i a = fill L' V' os i a
  | [], _, _, _, _ => rfl
  | o :: os, i, a, hL, hV => by
    unfold fill
    have h0 := hL 0 (by simp)
    rw [Nat.add_zero] at h0
    have hv0 := hV 0 (by simp)
    rw [Nat.add_zero] at hv0
    have ih : ∀ b, fill L V os (i + 1) b = fill L' V' os (i + 1) b := fun b => fill_congr os (i + 1) b (fun n hn => by have := hL (n + 1) (by simpa using hn); rwa [show i + (n + 1) = i + 1 + n by omega] at this)
      (fun n hn => by have := hV (n + 1) (by simpa using hn); rwa [show i + (n + 1) = i + 1 + n by omega] at this)
    rw [ih]
    by_cases hc : L i = true
    · rw [if_pos hc, if_pos (h0 ▸ hc), hv0 hc]
    · rw [if_neg hc, if_neg (h0 ▸ hc)]
theorem fill_put_out {L : Nat → Bool} {V : Nat → Value} {d : Option Tmp} {v : Value} : ∀ (os : List Oper) (i : Nat) (a : Act), (∀ (n : Nat) (o : Oper) (e : Tmp), os[n]? = some o → d = some e → o.dst ≠ some e) →
    fill L V os i (a.put d v) = (fill L V os i a).put d v
  | [], _, _, _ => rfl
  | o :: os, i, a, h => by
    unfold fill
    rw [← fill_put_out os (i + 1) _ (fun n p e hp he => h (n + 1) p e (by simpa using hp) he)]
    split
    · congr 1
      rw [Act.put_comm]
      intro e he
      exact h 0 o e rfl he
    · rfl
theorem fill_put {L : Nat → Bool} {V : Nat → Value} {v : Value} : ∀ (os : List Oper) (i n : Nat) (o : Oper) (a : Act), os[n]? = some o → L (i + n) = false →
    (∀ m p e, os[m]? = some p → m ≠ n → o.dst = some e → p.dst ≠ some e) →
    (fill L V os i a).put o.dst v = fill (fun j => j == i + n || L j) (fun j => if j = i + n then v else V j) os i a
  | [], _, _, _, _, h, _, _ => by simp at h
  | q :: os, i, 0, o, a, h, hL, hd => by
    obtain rfl : q = o := by simpa using h
    unfold fill
    rw [Nat.add_zero] at hL
    rw [hL]
    simp only [Bool.false_eq_true, if_false, Nat.add_zero, BEq.rfl, Bool.true_or, if_true]
    rw [← fill_put_out os (i + 1) a (fun n p e hp he => hd (n + 1) p e (by simpa using hp) (by omega) he)]
    refine fill_congr os (i + 1) _ (fun n hn => ?_) (fun n hn _ => ?_)
    · have : (i + 1 + n == i) = false := by simp; omega
      rw [this, Bool.false_or]
    · rw [if_neg (by omega)]
  | q :: os, i, n + 1, o, a, h, hL, hd => by
    unfold fill
    have e0 : (i == i + (n + 1)) = false := by simp
    have e1 : ¬ i = i + (n + 1) := by omega
    rw [e0, Bool.false_or, if_neg e1]
    have := fill_put (L := L) (V := V) (v := v) os (i + 1) n o (if L i = true then a.put q.dst (V i) else a) (by simpa using h) (by rwa [show i + 1 + n = i + (n + 1) by omega])
      (fun m p e hp hne he => hd (m + 1) p e (by simpa using hp) (by omega) he)
    rw [this, show i + 1 + n = i + (n + 1) by omega]
theorem fill_none {L : Nat → Bool} {V : Nat → Value} : ∀ (os : List Oper) (i : Nat) (a : Act), (∀ n, n < os.length → L (i + n) = false) → fill L V os i a = a
  | [], _, _, _ => rfl
  | o :: os, i, a, h => by
    unfold fill
    have h0 := h 0 (by simp)
    rw [Nat.add_zero] at h0
    rw [h0]
    exact fill_none os (i + 1) a fun n hn => by have := h (n + 1) (by simpa using hn); rwa [show i + (n + 1) = i + 1 + n by omega] at this

/-- two values that are the same in a temporary -/
def EqAt (d : Option Tmp) (n : Nat) (u v : Value) : Prop := ∀ a : Act, a.tmps.size = n → a.put d u = a.put d v
theorem eqAt_of {d : Option Tmp} {a : Act} {u v : Value} (h : a.put d u = a.put d v) : EqAt d a.tmps.size u v := by
  intro b hb
  cases d with
  | none => rfl
  | some t =>
    have h1 : (a.put (some t) u).tmps[t]? = (a.put (some t) v).tmps[t]? := by rw [h]
    by_cases ht : t < a.tmps.size
    · simp [Act.put, ht] at h1
      rw [h1]
    · have e : ∀ x : Value, b.put (some t) x = b := fun x => by
        unfold Act.put
        simp only
        rw [Array.setIfInBounds_eq_of_size_le (by have hle := Nat.le_of_not_lt ht; rw [hb]; exact hle)]
      rw [e, e]

/-- the operation's outcome at an act -/
def One (P : Program) (ops : Array Oper) (I : World → Prop) (o : Oper) (v : Value) (n : Nat) (a : Act) (w : World) : Prop :=
  if Region.wanted o (yielded ops a.tmps) = true then
    match (execOp a.eval o).run P w with
    | .ok (.value u) w' => EqAt o.dst n u v ∧ I w'
    | .ok .skip w' => EqAt o.dst n undef v ∧ I w'
    | .ok (.enter f args) w' => Calls P f args w' fun e w'' => ∃ u, e = .returned u ∧ EqAt o.dst n u v ∧ I w''
    | .ok (.row row args) w' => Rows P row args w' fun u w'' => EqAt o.dst n u v ∧ I w''
    | _ => False
  else EqAt o.dst n undef v ∧ I w

theorem calls_some {f : FuncId} {args : Array Value} {w : World} {R : Ending → World → Prop} (h : Calls P f args w R) : ∃ e w', R e w' := by
  obtain ⟨e, w', _, h1, _⟩ := h []
  exact ⟨e, w', h1⟩
theorem rows_some {row : String} {args : Array Value} {w : World} {R : Value → World → Prop} (h : Rows P row args w R) : ∃ e w', R e w' := by
  obtain ⟨e, w', h1, _⟩ := h default []
  exact ⟨e, w', h1⟩

theorem only_val {o : Oper} {a A : Act} {w : World} (hd : A.defers = a.defers) (h : wpList P ops (Only I A) [o] a w) : ∃ u, A = a.put o.dst u := by
  unfold wpList at h
  split at h
  · rcases h with h | ⟨_, a', w', h, _⟩
    · unfold Oper.wp at h
      generalize (execOp a.eval o).run P w = r at h
      cases r with
      | ok n w' =>
        cases n <;> simp only [Oper.upon] at h
        case value u => exact ⟨u, h.2.1.symm⟩
        case skip => exact ⟨_, h.2.1.symm⟩
        case defer d =>
          have := congrArg Act.defers h.2.1
          rw [put_defers, hd] at this
          simp at this
        case enter f args =>
          obtain ⟨e, w'', h1⟩ := calls_some h
          cases e with
          | returned u => exact ⟨u, h1.2.1.symm⟩
          | panicked c => exact absurd h1.1 (by simp)
          | outgrown => obtain ⟨_, _, h2, _⟩ := h1; exact absurd h2 (by simp)
        case row row args =>
          obtain ⟨u, w'', h1⟩ := rows_some h
          exact ⟨u, h1.2.1.symm⟩
      | halt x w' =>
        cases x <;> simp only [Oper.upon] at h
        exact absurd h.1 (by simp)
    · exact absurd h (by simp)
  · exact ⟨_, h.2.1.symm⟩
theorem only_one {o : Oper} {a : Act} {w : World} {v : Value} (h : wpList P ops (Only I (a.put o.dst v)) [o] a w) : One P ops I o v a.tmps.size a w := by
  unfold wpList at h
  unfold One
  split at h
  · rename_i hw
    rw [if_pos hw]
    rcases h with h | ⟨_, a', w', h, _⟩
    · unfold Oper.wp at h
      generalize (execOp a.eval o).run P w = r at h ⊢
      cases r with
      | ok n w' =>
        cases n <;> simp only [Oper.upon] at h
        case value u => exact ⟨eqAt_of h.2.1, h.2.2⟩
        case skip => exact ⟨eqAt_of h.2.1, h.2.2⟩
        case defer d =>
          have := congrArg Act.defers h.2.1
          rw [put_defers, put_defers] at this
          simp at this
        case enter f args =>
          refine Calls.mono h fun e w'' h1 => ?_
          cases e with
          | returned u => exact ⟨u, rfl, eqAt_of h1.2.1, h1.2.2⟩
          | panicked c => exact absurd h1.1 (by simp)
          | outgrown => obtain ⟨_, _, h2, _⟩ := h1; exact absurd h2 (by simp)
        case row row args =>
          exact Rows.mono h fun u w'' h1 => ⟨eqAt_of h1.2.1, h1.2.2⟩
      | halt x w' =>
        cases x <;> simp only [Oper.upon] at h
        exact absurd h.1 (by simp)
    · exact absurd h (by simp)
  · rename_i hw
    rw [if_neg hw]
    exact ⟨eqAt_of h.2.1, h.2.2⟩
theorem One.move {o : Oper} {v : Value} {n : Nat} {a b : Act} {w : World} (h : One P ops I o v n a w) (hs : ∀ cs d, o.op ≠ .select cs d) (hab : ∀ t, t ∈ o.looksAt ops → a.tmps[t]? = b.tmps[t]?) : One P ops I o v n b w := by
  have he : execOp b.eval o = execOp a.eval o := execOp_congr o hs fun x hx => by
    cases x with
    | tmp t =>
      have : t ∈ o.looksAt ops := List.mem_append_left _ (List.mem_filterMap.2 ⟨.tmp t, by simpa using hx, rfl⟩)
      simp only [Act.eval, Array.getD_eq_getD_getElem?]
      rw [hab t this]
    | _ => rfl
  have hw : Region.wanted o (yielded ops b.tmps) = Region.wanted o (yielded ops a.tmps) := by
    unfold Region.wanted
    cases hg : o.guard with
    | none => rfl
    | some gw =>
      obtain ⟨g, want⟩ := gw
      have hy : yielded ops b.tmps g = yielded ops a.tmps g := by
        unfold yielded
        cases ht : (ops[g]?).bind (·.dst) with
        | none => rfl
        | some t =>
          have : t ∈ o.looksAt ops := by simp [Oper.looksAt, hg, ht]
          simp only [Option.bind_some]
          rw [hab t this]
      simp only [hy]
  unfold One at *
  rw [he, hw]
  exact h
theorem One.wpOp {o : Oper} {v : Value} {a : Act} {w : World} {i : Nat} {K : Act → World → Prop} (hi : ops[i]? = some o) (h : One P ops I o v a.tmps.size a w) (hK : ∀ w', I w' → K (a.put o.dst v) w') : wpOp P ops Q i K a w := by
  unfold Go.wpOp One at *
  simp only [hi]
  split at h
  · rename_i hw
    rw [if_pos hw]
    refine .inl ?_
    unfold Oper.wp
    generalize (execOp a.eval o).run P w = r at h ⊢
    cases r with
    | ok n w' =>
      cases n <;> simp only at h <;> simp only [Oper.upon]
      case value u => rw [h.1 a rfl]; exact hK _ h.2
      case skip => rw [h.1 a rfl]; exact hK _ h.2
      case enter f args =>
        refine Calls.mono h fun e w'' h1 => ?_
        obtain ⟨u, rfl, h2, h3⟩ := h1
        simp only
        rw [h2 a rfl]; exact hK _ h3
      case row row args =>
        refine Rows.mono h fun u w'' h1 => ?_
        rw [h1.1 a rfl]; exact hK _ h1.2
    | halt x w' => exact h.elim
  · rename_i hw
    rw [if_neg hw, h.1 a rfl]; exact hK _ h.2

/-- the values, out of the walk in the text's order -/
theorem det_values {K : Act → Prop} {w0 : World} (hI : I w0) : ∀ (os : List Oper) (i : Nat) (a : Act), wpDet P ops I K os a →
    ∃ V : Nat → Value, (∀ n o, os[n]? = some o → ∀ w, I w → One P ops I o (V (i + n)) a.tmps.size (fill (fun j => decide (j < i + n)) V os i a) w) ∧ K (fill (fun _ => true) V os i a)
  | [], _, a, h => ⟨fun _ => undef, fun n o ho => by simp at ho, h⟩
  | o :: os, i, a, h => by
    obtain ⟨A, hd, h1, h2⟩ := h
    obtain ⟨u, rfl⟩ := only_val hd (h1 w0 hI)
    obtain ⟨V, hV, hK⟩ := det_values hI os (i + 1) (a.put o.dst u) h2
    have hc : ∀ (L : Nat → Bool) (b : Act), fill L (fun j => if j = i then u else V j) os (i + 1) b = fill L V os (i + 1) b := fun L b =>
      fill_congr os (i + 1) b (fun _ _ => rfl) (fun n _ _ => by rw [if_neg (by omega)])
    refine ⟨fun j => if j = i then u else V j, fun n p hp w hw => ?_, ?_⟩
    · cases n with
      | zero =>
        obtain rfl : o = p := by simpa using hp
        simp only [Nat.add_zero, if_true]
        rw [fill_none _ _ _ (fun n _ => by simp)]
        exact only_one (h1 w hw)
      | succ n =>
        have := hV n p (by simpa using hp) w hw
        have e1 : ¬ i + (n + 1) = i := by omega
        simp only [e1, if_false]
        unfold fill
        rw [if_pos (by simp), if_pos rfl, hc, show i + (n + 1) = i + 1 + n by omega]
        rw [put_size] at this
        exact this
    · unfold fill
      rw [if_pos rfl, if_pos rfl, hc]
      exact hK

def unlisted (listed : Array Bool) : Nat := listed.toList.count false

theorem unlisted_set {listed : Array Bool} {i : Nat} (h : listed.getD i true = false) : unlisted listed = unlisted (listed.setIfInBounds i true) + 1 := by
  have hlt : i < listed.size := by
    rcases Nat.lt_or_ge i listed.size with h' | h'
    · exact h'
    · simp [Array.getElem?_eq_none h'] at h
  have hg : listed.toList[i]? = some false := by
    simp only [Array.getD_eq_getD_getElem?, Array.getElem?_eq_getElem hlt, Option.getD_some] at h
    simp [h, hlt]
  unfold unlisted
  rw [Array.toList_setIfInBounds]
  generalize listed.toList = l at hg
  clear h hlt
  induction l generalizing i with
  | nil => simp at hg
  | cons b l ih =>
    cases i with
    | zero =>
      obtain rfl : b = false := by simpa using hg
      simp
    | succ i =>
      have := ih (i := i) (by simpa using hg)
      simp only [List.set_cons_succ, List.count_cons]
      omega

/-- the walk in the text's order is one for every order -/
theorem wpAny_det {a0 : Act} {w0 : World} (hf : fits md ops = true) (hI : I w0)
    (h : wpDet P ops I (fun a => ∀ w, I w → Q .normal a w) ops.toList a0) : wpAny P md ops Q ops.size (Array.replicate ops.size false) a0 w0 := by
  obtain ⟨V, hV, hK⟩ := det_values hI ops.toList 0 a0 h
  have hs : Region.noSelect ops = true := by unfold fits at hf; rw [Bool.and_eq_true] at hf; exact hf.1
  have main : ∀ (fuel : Nat) (listed : Array Bool) (w : World), listed.size = ops.size → unlisted listed = fuel → I w →
      wpAny P md ops Q fuel listed (fill (fun j => listed.getD j false) V ops.toList 0 a0) w := by
    intro fuel
    have hfin : ∀ (listed : Array Bool) (w : World), listed.size = ops.size → I w → Region.ready md ops listed = [] → Q .normal (fill (fun j => listed.getD j false) V ops.toList 0 a0) w := by
      intro listed w hsz hw hr
      have hall : ∀ j, j < ops.size → listed.getD j true = true := by
        intro j
        induction j using Nat.strongRecOn with
        | _ j ih =>
          intro hj
          cases hc : listed.getD j true with
          | true => rfl
          | false =>
            have : j ∈ Region.ready md ops listed := mem_ready.2 ⟨hc, ops[j], Array.getElem?_eq_getElem hj, fun e he hb => by
              have hlt := fits_lt hf (Array.getElem?_eq_getElem hj) (mem_deps.2 ⟨e, he, hb, rfl⟩)
              have := ih e.on hlt (by omega)
              simp only [Array.getD_eq_getD_getElem?] at this ⊢
              rw [Array.getElem?_eq_getElem (by omega)] at this ⊢
              simpa using this⟩
            rw [hr] at this
            cases this
      have e : fill (fun j => listed.getD j false) V ops.toList 0 a0 = fill (fun _ => true) V ops.toList 0 a0 := fill_congr _ _ _ (fun n hn => by
        have hn' : n < ops.size := by simpa using hn
        have := hall n hn'
        simp only [Array.getD_eq_getD_getElem?, Nat.zero_add] at this ⊢
        rw [Array.getElem?_eq_getElem (by omega)] at this ⊢
        simpa using this) (fun _ _ _ => rfl)
      rw [e]
      exact hK w hw
    induction fuel with
    | zero =>
      intro listed w hsz hu hw
      have hr : Region.ready md ops listed = [] := by
        cases hc : Region.ready md ops listed with
        | nil => rfl
        | cons j _ =>
          have hm : j ∈ Region.ready md ops listed := by rw [hc]; simp
          have := unlisted_set (mem_ready.1 hm).1
          omega
      exact ⟨hr, hfin listed w hsz hw hr⟩
    | succ fuel ih =>
      intro listed w hsz hu hw
      refine ⟨hfin listed w hsz hw, fun i hi => ?_⟩
      obtain ⟨hun, o, ho, hdeps⟩ := mem_ready.1 hi
      have hilt : i < ops.size := (Array.getElem?_eq_some_iff.1 ho).1
      have hlf : listed.getD i false = false := by
        simp only [Array.getD_eq_getD_getElem?] at hun ⊢
        rw [Array.getElem?_eq_getElem (by omega)] at hun ⊢
        simpa using hun
      have hol : ops.toList[i]? = some o := by simpa using ho
      have h1 := hV i o hol w hw
      simp only [Nat.zero_add] at h1
      have h2 : One P ops I o (V i) a0.tmps.size (fill (fun j => listed.getD j false) V ops.toList 0 a0) w := by
        refine h1.move (fun cs d => Region.noSelect_spec hs i o cs d ho) fun t ht => ?_
        refine fill_agree _ _ _ _ rfl rfl fun n p hp hd => ?_
        have hp' : ops[n]? = some p := by simpa using hp
        simp only [Nat.zero_add]
        by_cases hni : i = n
        · subst hni
          rw [hlf]; simp
        · have hn := (fits_dst hf ho hp' hni hd).2 ht
          have hlt := fits_lt hf ho hn
          obtain ⟨e, he, hb, rfl⟩ := mem_deps.1 hn
          rw [hdeps e he hb]
          simpa using hlt
      have hsz2 : (fill (fun j => listed.getD j false) V ops.toList 0 a0).tmps.size = a0.tmps.size := fill_size _ _ _
      rw [← hsz2] at h2
      refine h2.wpOp ho fun w' hw' => ?_
      have e := fill_put (L := fun j => listed.getD j false) (V := V) (v := V i) ops.toList 0 i o a0 hol (by rw [Nat.zero_add]; exact hlf) (fun m p e hp hne he => by
        have hp' : ops[m]? = some p := by simpa using hp
        exact (fits_dst hf hp' ho hne he).1)
      rw [e]
      have e2 : fill (fun j => j == 0 + i || listed.getD j false) (fun j => if j = 0 + i then V i else V j) ops.toList 0 a0 = fill (fun j => (listed.setIfInBounds i true).getD j false) V ops.toList 0 a0 := by
        refine fill_congr _ _ _ (fun n hn => ?_) (fun n hn _ => ?_)
        · simp only [Nat.zero_add]
          by_cases hni : i = n
          · subst hni
            simp only [BEq.rfl, Bool.true_or, Array.getD_eq_getD_getElem?]
            rw [Array.getElem?_setIfInBounds_self_of_lt (by omega)]
            rfl
          · rw [getD_set_ne false hni]
            have : (n == i) = false := by simp; omega
            rw [this, Bool.false_or]
        · simp only [Nat.zero_add]
          split
          · rename_i h; rw [h]
          · rfl
      rw [e2]
      exact ih _ w' (by simpa using hsz) (by have := unlisted_set hun; omega) hw'
  have := main ops.size (Array.replicate ops.size false) w0 (by simp) (by unfold unlisted; simp) hI
  rw [fill_none _ _ _ (fun n hn => by
    have hn' : n < ops.size := by simpa using hn
    simp [hn'])] at this
  exact this

/-- THE LAW: a region that draws its order, walked in the text's order over a family of worlds -/
theorem wp_region_det {id : Nat} {l : List Oper} {a : Act} {w : World} (I : World → Prop) (hm : P.follows .mixedOrders = true) (hf : fits .any l.toArray = true) (hI : I w.drew)
    (h : wpDet P l.toArray I (fun a => ∀ w, I w → Q .normal a w) l a) : (Code.region id l.toArray true).wp P Q a w :=
  wp_region_any hm (wpAny_det hf (w0 := w.drew) hI (by simpa using h))
end
end Go.Proofs.YtomnljigoljldaaGreatDoor.RG
