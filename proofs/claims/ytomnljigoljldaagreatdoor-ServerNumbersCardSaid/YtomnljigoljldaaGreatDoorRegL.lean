/- A region that draws its order, walked in the order of the text, with effects: what holds of the world may hang on which of the region's operations have been done. No program; no conditions but those stated. -/
import Derived.Test.YtomnljigoljldaaGreatDoorReg
import Derived.Tactics2
namespace Go.Proofs.YtomnljigoljldaaGreatDoor.RG

section
variable {P : Program} {ops : Array Oper} {Q : Exit → Act → World → Prop} {md : Region.Mode} {E : List Nat} {I : (Nat → Bool) → World → Prop}

/-- the operation i has been done, if it is one of those that turn the world -/
def upd (E : List Nat) (L : Nat → Bool) (i : Nat) : Nat → Bool := if E.contains i then fun j => j == i || L j else L

/-- the operations, one after the other: each comes to one act, in every world in which it may be done -/
def wpDetL (P : Program) (ops : Array Oper) (md : Region.Mode) (E : List Nat) (I : (Nat → Bool) → World → Prop) (K : Act → Prop) : List Oper → Nat → Act → Prop
  | [], _, a => K a
  | o :: os, i, a => ∃ A : Act, A.defers = a.defers ∧ (∀ L w, L i = false → (∀ j, j ∈ deps md o → L j = true) → I L w → wpList P ops (Only (I (upd E L i)) A) [o] a w) ∧ wpDetL P ops md E I K os (i + 1) A

theorem wpDetL_nil {K : Act → Prop} {a : Act} {i : Nat} (h : K a) : wpDetL P ops md E I K [] i a := h
/-- an operation that turns nothing of what is said of the world -/
theorem wpDetL_still {K : Act → Prop} {a : Act} {o : Oper} {os : List Oper} {i : Nat} {A : Act} (hi : E.contains i = false) (h : ∀ L w, I L w → wpList P ops (Only (I L) A) [o] a w) (hd : A.defers = a.defers) (h2 : wpDetL P ops md E I K os (i + 1) A) :
    wpDetL P ops md E I K (o :: os) i a := ⟨A, hd, fun L w _ _ hw => by unfold upd; rw [hi]; exact h L w hw, h2⟩
/-- one that turns it -/
theorem wpDetL_turn {K : Act → Prop} {a : Act} {o : Oper} {os : List Oper} {i : Nat} {A : Act} (hi : E.contains i = true) (h : ∀ L w, L i = false → (∀ j, j ∈ deps md o → L j = true) → I L w → wpList P ops (Only (I (fun j => j == i || L j)) A) [o] a w) (hd : A.defers = a.defers) (h2 : wpDetL P ops md E I K os (i + 1) A) :
    wpDetL P ops md E I K (o :: os) i a := ⟨A, hd, fun L w h0 hdp hw => by unfold upd; rw [hi]; exact h L w h0 hdp hw, h2⟩

theorem only_world {J : World → Prop} {o : Oper} {a A : Act} {w : World} (h : wpList P ops (Only J A) [o] a w) : ∃ w', J w' := by
  unfold wpList at h
  split at h
  · rcases h with h | ⟨_, a', w', h, _⟩
    · unfold Oper.wp at h
      generalize (execOp a.eval o).run P w = r at h
      cases r with
      | ok n w' =>
        cases n <;> simp only [Oper.upon] at h
        case value u => exact ⟨_, h.2.2⟩
        case skip => exact ⟨_, h.2.2⟩
        case defer d => exact ⟨_, h.2.2⟩
        case enter f args =>
          obtain ⟨e, w'', h1⟩ := calls_some h
          cases e with
          | returned u => exact ⟨_, h1.2.2⟩
          | panicked c => exact absurd h1.1 (by simp)
          | outgrown => obtain ⟨_, _, h2, _⟩ := h1; exact absurd h2 (by simp)
        case row row args =>
          obtain ⟨u, w'', h1⟩ := rows_some h
          exact ⟨_, h1.2.2⟩
      | halt x w' =>
        cases x <;> simp only [Oper.upon] at h
        exact absurd h.1 (by simp)
    · exact absurd h (by simp)
  · exact ⟨_, h.2.2⟩

def below (i : Nat) : Nat → Bool := fun j => decide (j < i)
theorem upd_below {L L' : Nat → Bool} {i : Nat} (hL : ∀ e ∈ E, L e = L' e) : ∀ e ∈ E, upd E L i e = (fun j => j == i || L' j) e := by
  intro e he
  unfold upd
  split
  · simp only [hL e he]
  · rename_i hc
    have hne : e ≠ i := fun h => hc (by rw [← h]; simpa using he)
    have : (e == i) = false := by simpa using hne
    simp only [this, Bool.false_or, hL e he]
theorem below_succ (i j : Nat) : (j == i || below i j) = below (i + 1) j := by
  unfold below
  by_cases h : j = i
  · subst h; simp
  · have : (j == i) = false := by simpa using h
    rw [this, Bool.false_or]
    exact decide_eq_decide.2 (by omega)

/-- the values, out of the walk in the text's order -/
theorem detL_values {K : Act → Prop} (hE : ∀ L L' w, (∀ e ∈ E, L e = L' e) → I L w → I L' w) : ∀ (os : List Oper) (i : Nat) (a : Act) (w0 : World), I (below i) w0 → (∀ n o, os[n]? = some o → ∀ j ∈ deps md o, j < i + n) → wpDetL P ops md E I K os i a →
    ∃ V : Nat → Value, (∀ n o, os[n]? = some o → ∀ L w, L (i + n) = false → (∀ j, j ∈ deps md o → L j = true) → I L w → One P ops (I (upd E L (i + n))) o (V (i + n)) a.tmps.size (fill (fun j => decide (j < i + n)) V os i a) w) ∧ K (fill (fun _ => true) V os i a)
  | [], _, a, _, _, _, h => ⟨fun _ => undef, fun n o ho => by simp at ho, h⟩
  | o :: os, i, a, w0, hI, hdp, h => by
    obtain ⟨A, hd, h1, h2⟩ := h
    have h10 := h1 (below i) w0 (by simp [below]) (fun j hj => by have := hdp 0 o rfl j hj; simpa [below] using this) hI
    obtain ⟨u, rfl⟩ := only_val hd h10
    obtain ⟨w1, hI1⟩ := only_world h10
    have hI2 : I (below (i + 1)) w1 := hE _ _ _ (fun e he => by rw [upd_below (L' := below i) (fun _ _ => rfl) e he]; exact below_succ i e) hI1
    obtain ⟨V, hV, hK⟩ := detL_values hE os (i + 1) (a.put o.dst u) w1 hI2 (fun n p hp j hj => by have := hdp (n + 1) p (by simpa using hp) j hj; omega) h2
    have hc : ∀ (L : Nat → Bool) (b : Act), fill L (fun j => if j = i then u else V j) os (i + 1) b = fill L V os (i + 1) b := fun L b =>
      fill_congr os (i + 1) b (fun _ _ => rfl) (fun n _ _ => by rw [if_neg (by omega)])
    refine ⟨fun j => if j = i then u else V j, fun n p hp L w hL hdl hw => ?_, ?_⟩
    · cases n with
      | zero =>
        obtain rfl : o = p := by simpa using hp
        simp only [Nat.add_zero, if_true]
        rw [fill_none _ _ _ (fun n _ => by simp)]
        exact only_one (h1 L w (by simpa using hL) hdl hw)
      | succ n =>
        have := hV n p (by simpa using hp) L w (by rw [show i + 1 + n = i + (n + 1) by omega]; exact hL) hdl hw
        have e1 : ¬ i + (n + 1) = i := by omega
        simp only [e1, if_false]
        unfold fill
        rw [if_pos (by simp), if_pos rfl, hc, show i + (n + 1) = i + 1 + n by omega]
        rw [put_size] at this
        exact this
    · unfold fill
      rw [if_pos rfl, if_pos rfl, hc]
      exact hK

/-- the walk in the text's order is one for every order -/
theorem wpAny_detL {a0 : Act} {w0 : World} (hf : fits md ops = true) (hE : ∀ L L' w, (∀ e ∈ E, L e = L' e) → I L w → I L' w) (hEl : ∀ e ∈ E, e < ops.size) (hI : I (fun _ => false) w0)
    (h : wpDetL P ops md E I (fun a => ∀ w, I (fun _ => true) w → Q .normal a w) ops.toList 0 a0) : wpAny P md ops Q ops.size (Array.replicate ops.size false) a0 w0 := by
  have hdeps0 : ∀ n o, ops.toList[n]? = some o → ∀ j ∈ deps md o, j < 0 + n := fun n o ho j hj => by
    rw [Nat.zero_add]; exact fits_lt hf (by simpa using ho) hj
  obtain ⟨V, hV, hK⟩ := detL_values hE ops.toList 0 a0 w0 (hE _ _ _ (fun e _ => by simp [below]) hI) hdeps0 h
  have hs : Region.noSelect ops = true := by unfold fits at hf; rw [Bool.and_eq_true] at hf; exact hf.1
  have main : ∀ (fuel : Nat) (listed : Array Bool) (w : World), listed.size = ops.size → unlisted listed = fuel → I (fun j => listed.getD j false) w →
      wpAny P md ops Q fuel listed (fill (fun j => listed.getD j false) V ops.toList 0 a0) w := by
    intro fuel
    have hfin : ∀ (listed : Array Bool) (w : World), listed.size = ops.size → I (fun j => listed.getD j false) w → Region.ready md ops listed = [] → Q .normal (fill (fun j => listed.getD j false) V ops.toList 0 a0) w := by
      intro listed w hsz hw hr
      have hall : ∀ j, j < ops.size → listed.getD j true = true := by
        intro j
        induction j using Nat.strongRecOn with
        | _ j ih =>
          intro hj
          cases hc : listed.getD j true with
          | true => rfl
          | false =>
            have : j ∈ Region.ready md ops listed := mem_ready.2 ⟨hc, ops[j], Array.getElem?_eq_getElem hj, fun e he hb => by
              have hlt := fits_lt hf (Array.getElem?_eq_getElem hj) (mem_deps.2 ⟨e, he, hb, rfl⟩)
              have := ih e.on hlt (by omega)
              simp only [Array.getD_eq_getD_getElem?] at this ⊢
              rw [Array.getElem?_eq_getElem (by omega)] at this ⊢
              simpa using this⟩
            rw [hr] at this
            cases this
      have hall2 : ∀ j, j < ops.size → listed.getD j false = true := fun j hj => by
        have := hall j hj
        simp only [Array.getD_eq_getD_getElem?] at this ⊢
        rw [Array.getElem?_eq_getElem (by omega)] at this ⊢
        simpa using this
      have e : fill (fun j => listed.getD j false) V ops.toList 0 a0 = fill (fun _ => true) V ops.toList 0 a0 := fill_congr _ _ _ (fun n hn => by
        have hn' : n < ops.size := by simpa using hn
        rw [Nat.zero_add]
        exact hall2 n hn') (fun _ _ _ => rfl)
      rw [e]
      exact hK w (hE _ _ _ (fun e he => hall2 e (hEl e he)) hw)
    induction fuel with
    | zero =>
      intro listed w hsz hu hw
      have hr : Region.ready md ops listed = [] := by
        cases hc : Region.ready md ops listed with
        | nil => rfl
        | cons j _ =>
          have hm : j ∈ Region.ready md ops listed := by rw [hc]; simp
          have := unlisted_set (mem_ready.1 hm).1
          omega
      exact ⟨hr, hfin listed w hsz hw hr⟩
    | succ fuel ih =>
      intro listed w hsz hu hw
      refine ⟨hfin listed w hsz hw, fun i hi => ?_⟩
      obtain ⟨hun, o, ho, hdeps⟩ := mem_ready.1 hi
      have hilt : i < ops.size := (Array.getElem?_eq_some_iff.1 ho).1
      have hlf : listed.getD i false = false := by
        simp only [Array.getD_eq_getD_getElem?] at hun ⊢
        rw [Array.getElem?_eq_getElem (by omega)] at hun ⊢
        simpa using hun
      have hol : ops.toList[i]? = some o := by simpa using ho
      have hdone : ∀ j, j ∈ deps md o → listed.getD j false = true := fun j hj => by
        obtain ⟨e, he, hb, rfl⟩ := mem_deps.1 hj
        have hlt := fits_lt hf ho hj
        have := hdeps e he hb
        simp only [Array.getD_eq_getD_getElem?] at this ⊢
        rw [Array.getElem?_eq_getElem (by omega)] at this ⊢
        simpa using this
      have h1 := hV i o hol (fun j => listed.getD j false) w (by rw [Nat.zero_add]; exact hlf) hdone hw
      simp only [Nat.zero_add] at h1
      have h2 : One P ops (I (upd E (fun j => listed.getD j false) i)) o (V i) a0.tmps.size (fill (fun j => listed.getD j false) V ops.toList 0 a0) w := by
        refine h1.move (fun cs d => Region.noSelect_spec hs i o cs d ho) fun t ht => ?_
        refine fill_agree _ _ _ _ rfl rfl fun n p hp hd => ?_
        have hp' : ops[n]? = some p := by simpa using hp
        simp only [Nat.zero_add]
        by_cases hni : i = n
        · subst hni
          rw [hlf]; simp
        · have hn := (fits_dst hf ho hp' hni hd).2 ht
          have hlt := fits_lt hf ho hn
          rw [hdone n hn]
          simpa using hlt
      have hsz2 : (fill (fun j => listed.getD j false) V ops.toList 0 a0).tmps.size = a0.tmps.size := fill_size _ _ _
      rw [← hsz2] at h2
      refine h2.wpOp ho fun w' hw' => ?_
      have e := fill_put (L := fun j => listed.getD j false) (V := V) (v := V i) ops.toList 0 i o a0 hol (by rw [Nat.zero_add]; exact hlf) (fun m p e hp hne he => by
        have hp' : ops[m]? = some p := by simpa using hp
        exact (fits_dst hf hp' ho hne he).1)
      rw [e]
      have e3 : ∀ n, n < ops.size → (n == i || listed.getD n false) = (listed.setIfInBounds i true).getD n false := fun n hn => by
        by_cases hni : i = n
        · subst hni
          simp only [BEq.rfl, Bool.true_or, Array.getD_eq_getD_getElem?]
          rw [Array.getElem?_setIfInBounds_self_of_lt (by omega)]
          rfl
        · rw [getD_set_ne false hni]
          have : (n == i) = false := by simp; omega
          rw [this, Bool.false_or]
      have e2 : fill (fun j => j == 0 + i || listed.getD j false) (fun j => if j = 0 + i then V i else V j) ops.toList 0 a0 = fill (fun j => (listed.setIfInBounds i true).getD j false) V ops.toList 0 a0 := by
        refine fill_congr _ _ _ (fun n hn => ?_) (fun n hn _ => ?_)
        · simp only [Nat.zero_add]
          exact e3 n (by simpa using hn)
        · simp only [Nat.zero_add]
          split
          · rename_i h; rw [h]
          · rfl
      rw [e2]
      exact ih _ w' (by simpa using hsz) (by have := unlisted_set hun; omega) (hE _ _ _ (fun e he => by
        rw [upd_below (L' := fun j => listed.getD j false) (fun _ _ => rfl) e he]
        exact e3 e (hEl e he)) hw')
  have := main ops.size (Array.replicate ops.size false) w0 (by simp) (by unfold unlisted; simp) (hE _ _ _ (fun e he => by
    have := hEl e he
    simp [this]) hI)
  rw [fill_none _ _ _ (fun n hn => by
    have hn' : n < ops.size := by simpa using hn
    simp [hn'])] at this
  exact this

/-- THE LAW: a region that draws its order, walked in the text's order, with effects at the operations of E -/
theorem wp_region_detL {id : Nat} {l : List Oper} {a : Act} {w : World} (E : List Nat) (I : (Nat → Bool) → World → Prop) (hE : ∀ L L' w, (∀ e ∈ E, L e = L' e) → I L w → I L' w) (hm : P.follows .mixedOrders = true) (hf : fits .any l.toArray = true) (hEl : (E.all fun e => decide (e < l.length)) = true) (hI : I (fun _ => false) w.drew)
    (h : wpDetL P l.toArray .any E I (fun a => ∀ w, I (fun _ => true) w → Q .normal a w) l 0 a) : (Code.region id l.toArray true).wp P Q a w :=
  wp_region_any hm (wpAny_detL hf hE (fun e he => by have := List.all_eq_true.1 hEl e he; simpa using this) hI (by simpa using h))
end
end Go.Proofs.YtomnljigoljldaaGreatDoor.RG
namespace Go.Proofs.YtomnljigoljldaaGreatDoor.RG

theorem wpOps_det {P : Program} {ops : Array Oper} {Q : Exit → Act → World → Prop} {I : World → Prop} {K : Act → Prop} (hK : ∀ A w, K A → I w → Q .normal A w) :
    ∀ (os : List Oper) (i : Nat) (a : Act) (w : World), (∀ n, n < os.length → ops[i + n]? = os[n]?) → wpDet P ops I K os a → I w → wpOps P ops Q (List.range' i os.length) a w
  | [], i, a, w, _, h, hI => by
    rw [List.length_nil, List.range'_zero]
    exact hK _ _ h hI
  | o :: os, i, a, w, ho, h, hI => by
    obtain ⟨A, hd, h1, h2⟩ := h
    obtain ⟨u, rfl⟩ := only_val hd (h1 w hI)
    rw [List.length_cons, List.range'_succ, wpOps_cons]
    refine One.wpOp (i := i) (by have := ho 0 (by simp); simpa using this) (only_one (h1 w hI)) (fun w' hI' => ?_)
    exact wpOps_det hK os (i + 1) _ w' (fun n hn => by have := ho (n + 1) (by simpa using hn); simpa [Nat.add_assoc, Nat.add_comm 1 n] using this) h2 hI'
theorem wp_region_plain {P : Program} {Q : Exit → Act → World → Prop} {id : Nat} {l : List Oper} {a : Act} {w : World} (I : World → Prop) (hI : I w) (h : wpDet P l.toArray I (fun A => ∀ w, I w → Q .normal A w) l a) : (Code.region id l.toArray false).wp P Q a w :=
  wp_region (by
    rw [List.range_eq_range', show l.toArray.size = l.length by simp]
    exact wpOps_det (fun A w hk hi => hk w hi) l 0 a w (fun n _ => by simp) h hI)
theorem only_skip {P : Program} {ops : Array Oper} {I : World → Prop} {a A : Act} {w : World} {o : Oper} (hw : Region.wanted o (yielded ops a.tmps) = false) (hA : a.put o.dst undef = A) (hI : I w) : wpList P ops (Only I A) [o] a w :=
  wpList_skip hw (by rw [hA]; exact only_mk hI)
end Go.Proofs.YtomnljigoljldaaGreatDoor.RG
