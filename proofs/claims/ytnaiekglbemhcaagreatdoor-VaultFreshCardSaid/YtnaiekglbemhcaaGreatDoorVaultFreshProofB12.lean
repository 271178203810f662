/- Contracts of functions of the program. Conditions: those that each theorem states. -/
import Derived.Test.YtnaiekglbemhcaaGreatDoorVaultFreshProofB08
import Derived.Test.YtnaiekglbemhcaaGreatDoorVaultFreshProofB06
import Derived.Test.YtnaiekglbemhcaaGreatDoorVaultFreshProofB07
import Derived.Test.YtnaiekglbemhcaaGreatDoorVaultFreshProofB11
set_option maxHeartbeats 8000000
set_option maxRecDepth 100000
namespace Go.Proofs.RG
abbrev Pv := Nat → Value
def xH0 (α : Pv) (i : Nat) (b : Value) : Pv := fun j => if j = i then b else α j
theorem uM (α : Pv) (i : Nat) (b : Value) : xH0 α i b i = b := by simp [xH0]
theorem xQv (α : Pv) (i : Nat) (b : Value) {j : Nat} (h : j ≠ i) : xH0 α i b j = α j := by simp [xH0,h]
def xLz (P : Program) (ops : Array Oper) (I : Value → World → Prop) (o : Oper) (n : Nat) (a : Act) (w : World) : Prop :=
 if Region.wanted o (yielded ops a.tmps) = true then
  match (execOp a.eval o).run P w with
  | .ok (.value u) w' => ∃ v,EqAt o.dst n u v ∧ I v w'
  | .ok .skip w' => ∃ v,EqAt o.dst n undef v ∧ I v w'
  | .ok (.enter f args) w' => Calls P f args w' fun e w'' => ∃ u v,e = .returned u ∧ EqAt o.dst n u v ∧ I v w''
  | .ok (.row row args) w' => Rows P row args w' fun u w'' => ∃ v,EqAt o.dst n u v ∧ I v w''
  | _ => False
 else ∃ v,EqAt o.dst n undef v ∧ I v w
def OnlyV (I : Value → World → Prop) (d : Option Tmp) (a : Act) : Exit → Act → World → Prop := fun e A w => e = .normal ∧ ∃ v,A = a.put d v ∧ I v w
section
variable {P : Program} {ops : Array Oper} {Q : Exit → Act → World → Prop} {I : Value → World → Prop}
theorem One.val {I : World → Prop} {J : Value → World → Prop} {o : Oper} {v : Value} {n : Nat} {a : Act} {w : World} (h : One P ops I o v n a w) (hJ : ∀ w,I w → J v w) : xLz P ops J o n a w := by
 unfold One at h
 unfold xLz
 split at h
 ·rename_i hw
  rw [if_pos hw]
  generalize (execOp a.eval o).run P w = r at h ⊢
  cases r with
  | ok m w' =>
   cases m <;> simp only at h ⊢
   case value u => exact ⟨v,h.1,hJ _ h.2⟩
   case skip => exact ⟨v,h.1,hJ _ h.2⟩
   case enter f args => exact Calls.mono h fun e w'' h1 => by obtain ⟨u,h2,h3,h4⟩ := h1; exact ⟨u,v,h2,h3,hJ _ h4⟩
   case row row args => exact Rows.mono h fun u w'' h1 => ⟨v,h1.1,hJ _ h1.2⟩
  | halt x w' => exact h.elim
 ·rename_i hw
  rw [if_neg hw]
  exact ⟨v,h.1,hJ _ h.2⟩
theorem xU2 {o : Oper} {a : Act} {w : World} (h : wpList P ops (OnlyV I o.dst a) [o] a w) : xLz P ops I o a.tmps.size a w := by
 unfold wpList at h
 unfold xLz
 split at h
 ·rename_i hw
  rw [if_pos hw]
  rcases h with h | ⟨_,a',w',h,_⟩
  ·unfold Oper.wp at h
   generalize (execOp a.eval o).run P w = r at h ⊢
   cases r with
   | ok n w' =>
    cases n <;> simp only [Oper.upon] at h
    case value u => obtain ⟨_,v,h2,h3⟩ := h; exact ⟨v,rD h2,h3⟩
    case skip => obtain ⟨_,v,h2,h3⟩ := h; exact ⟨v,rD h2,h3⟩
    case defer d =>
     obtain ⟨_,v,h2,h3⟩ := h
     have := congrArg Act.defers h2
     rw [put_defers,put_defers] at this
     simp at this
    case enter f args =>
     refine Calls.mono h fun e w'' h1 => ?_
     cases e with
     | returned u => obtain ⟨_,v,h2,h3⟩ := h1; exact ⟨u,v,rfl,rD h2,h3⟩
     | panicked c => exact absurd h1.1 (by simp)
     | outgrown => obtain ⟨_,_,h2,_⟩ := h1; exact absurd h2 (by simp)
    case row row args =>
     exact Rows.mono h fun u w'' h1 => by obtain ⟨_,v,h2,h3⟩ := h1; exact ⟨v,rD h2,h3⟩
   | halt x w' =>
    cases x <;> simp only [Oper.upon] at h
    exact absurd h.1 (by simp)
  ·exact absurd h (by simp)
 ·rename_i hw
  rw [if_neg hw]
  obtain ⟨_,v,h2,h3⟩ := h
  exact ⟨v,rD h2,h3⟩
theorem xLz.move {o : Oper} {n : Nat} {a b : Act} {w : World} (h : xLz P ops I o n a w) (hs : ∀ cs d,o.op ≠ .select cs d) (hab : ∀ t,t ∈ o.looksAt ops → a.tmps[t]? = b.tmps[t]?) : xLz P ops I o n b w := by
 have he : execOp b.eval o = execOp a.eval o := execOp_congr o hs fun x hx => by
  cases x with
  | tmp t =>
   have : t ∈ o.looksAt ops := List.mem_append_left _ (List.mem_filterMap.2 ⟨.tmp t,by simpa using hx,rfl⟩)
   simp only [Act.eval,Array.getD_eq_getD_getElem?]
   rw [hab t this]
  | _ => rfl
 have hw : Region.wanted o (yielded ops b.tmps) = Region.wanted o (yielded ops a.tmps) := by
  unfold Region.wanted
  cases hg : o.guard with
  | none => rfl
  | some gw =>
   obtain ⟨g,want⟩ := gw
   have hy : yielded ops b.tmps g = yielded ops a.tmps g := by
    unfold yielded
    cases ht : (ops[g]?).bind (·.dst) with
    | none => rfl
    | some t =>
     have : t ∈ o.looksAt ops := by simp [Oper.looksAt,hg,ht]
     simp only [Option.bind_some]
     rw [hab t this]
   simp only [hy]
 unfold xLz at *
 rw [he,hw]
 exact h
theorem xLz.wpOp {o : Oper} {a : Act} {w : World} {i : Nat} {K : Act → World → Prop} (hi : ops[i]? = some o) (h : xLz P ops I o a.tmps.size a w) (hK : ∀ v w',I v w' → K (a.put o.dst v) w') : wpOp P ops Q i K a w := by
 unfold Go.wpOp xLz at *
 simp only [hi]
 split at h
 ·rename_i hw
  rw [if_pos hw]
  refine .inl ?_
  unfold Oper.wp
  generalize (execOp a.eval o).run P w = r at h ⊢
  cases r with
  | ok n w' =>
   cases n <;> simp only at h <;> simp only [Oper.upon]
   case value u => obtain ⟨v,h1,h2⟩ := h; rw [h1 a rfl]; exact hK _ _ h2
   case skip => obtain ⟨v,h1,h2⟩ := h; rw [h1 a rfl]; exact hK _ _ h2
   case enter f args =>
    refine Calls.mono h fun e w'' h1 => ?_
    obtain ⟨u,v,rfl,h2,h3⟩ := h1
    simp only
    rw [h2 a rfl]; exact hK _ _ h3
   case row row args =>
    refine Rows.mono h fun u w'' h1 => ?_
    obtain ⟨v,h1,h2⟩ := h1
    rw [h1 a rfl]; exact hK _ _ h2
  | halt x w' => exact h.elim
 ·rename_i hw
  obtain ⟨v,h1,h2⟩ := h
  rw [if_neg hw,h1 a rfl]; exact hK _ _ h2
end
section
variable {P : Program} {ops : Array Oper} {Q : Exit → Act → World → Prop} {md : Region.Mode} {E N : List Nat} {J : (Nat → Bool) → Pv → World → Prop}
def qG (P : Program) (ops : Array Oper) (md : Region.Mode) (E N : List Nat) (J : (Nat → Bool) → Pv → World → Prop) (K : Pv → Act → Prop) : List Oper → Nat → (Pv → Act) → Prop
 | [],_,a => ∀ α,K α (a α)
 | o :: os,i,a =>
  (N.contains i = true ∧ (∀ α L w,L i = false → closed ops md L → closed ops md (fun j => j == i || L j) → J L α w → xLz P ops (fun b w' => J (fun j => j == i || L j) (xH0 α i b) w') o (a α).tmps.size (a α) w) ∧ qG P ops md E N J K os (i + 1) (fun α => (a α).put o.dst (α i))) ∨
  (N.contains i = false ∧ ∃ (A : Pv → Act) (v : Pv → Value),(∀ α,A α = (a α).put o.dst (v α)) ∧ (late md N o = true ∨ ∀ α α',v α = v α') ∧
   (∀ α L w,L i = false → closed ops md L → closed ops md (fun j => j == i || L j) → J L α w → wpList P ops (Only (J (upd E L i) α) (A α)) [o] (a α) w) ∧ qG P ops md E N J K os (i + 1) A)
theorem rY {K : Pv → Act → Prop} {a : Pv → Act} {i : Nat} (h : ∀ α,K α (a α)) : qG P ops md E N J K [] i a := h
theorem kN {K : Pv → Act → Prop} {a : Pv → Act} {o : Oper} {os : List Oper} {i : Nat} {A : Value → Pv → Act} (hi : N.contains i = true)
  (h : ∀ α L w,L i = false → closed ops md L → closed ops md (fun j => j == i || L j) → J L α w → ∃ v,∀ b,b = v → wpList P ops (Only (J (fun j => j == i || L j) (xH0 α i b)) (A b α)) [o] (a α) w)
  (hd : ∀ b α,A b α = (a α).put o.dst b) (h2 : qG P ops md E N J K os (i + 1) (fun α => A (α i) α)) : qG P ops md E N J K (o :: os) i a := by
 refine .inl ⟨hi,fun α L w h0 hc hc2 hw => ?_,?_⟩
 ·obtain ⟨v,hv⟩ := h α L w h0 hc hc2 hw
  have h9 := hv v rfl
  rw [hd] at h9
  exact (xA6 h9).val fun _ h => h
 ·have e : (fun α => (a α).put o.dst (α i)) = fun α => A (α i) α := funext fun α => (hd _ _).symm
  rw [e]
  exact h2
theorem xFd {K : Pv → Act → Prop} {a : Pv → Act} {o : Oper} {os : List Oper} {i : Nat} {A : Value → Pv → Act} (hi : N.contains i = true)
  (h : ∀ α L w,L i = false → closed ops md L → closed ops md (fun j => j == i || L j) → J L α w → wpList P ops (OnlyV (fun b w' => J (fun j => j == i || L j) (xH0 α i b) w') o.dst (a α)) [o] (a α) w)
  (hd : ∀ b α,A b α = (a α).put o.dst b) (h2 : qG P ops md E N J K os (i + 1) (fun α => A (α i) α)) : qG P ops md E N J K (o :: os) i a := by
 refine .inl ⟨hi,fun α L w h0 hc hc2 hw => xU2 (h α L w h0 hc hc2 hw),?_⟩
 have e : (fun α => (a α).put o.dst (α i)) = fun α => A (α i) α := funext fun α => (hd _ _).symm
 rw [e]
 exact h2
theorem yL {K : Pv → Act → Prop} {a : Pv → Act} {o : Oper} {os : List Oper} {i : Nat} {A : Pv → Act} {v : Value} (hi : N.contains i = false) (he : E.contains i = false)
  (h : ∀ α L w,L i = false → closed ops md L → closed ops md (fun j => j == i || L j) → J L α w → wpList P ops (Only (J L α) (A α)) [o] (a α) w) (hd : ∀ α,A α = (a α).put o.dst v) (h2 : qG P ops md E N J K os (i + 1) A) : qG P ops md E N J K (o :: os) i a :=
 .inr ⟨hi,A,fun _ => v,hd,.inr fun _ _ => rfl,fun α L w h0 hc hc2 hw => by unfold upd; rw [he]; exact h α L w h0 hc hc2 hw,h2⟩
theorem xCj {K : Pv → Act → Prop} {a : Pv → Act} {o : Oper} {os : List Oper} {i : Nat} {A : Pv → Act} {v : Value} (hi : N.contains i = false) (he : E.contains i = true)
  (h : ∀ α L w,L i = false → closed ops md L → closed ops md (fun j => j == i || L j) → J L α w → wpList P ops (Only (J (fun j => j == i || L j) α) (A α)) [o] (a α) w) (hd : ∀ α,A α = (a α).put o.dst v) (h2 : qG P ops md E N J K os (i + 1) A) : qG P ops md E N J K (o :: os) i a :=
 .inr ⟨hi,A,fun _ => v,hd,.inr fun _ _ => rfl,fun α L w h0 hc hc2 hw => by unfold upd; rw [he]; exact h α L w h0 hc hc2 hw,h2⟩
theorem xCk {K : Pv → Act → Prop} {a : Pv → Act} {o : Oper} {os : List Oper} {i : Nat} {A : Pv → Act} {v : Pv → Value} (hi : N.contains i = false) (hl : late md N o = true) (he : E.contains i = true)
  (h : ∀ α L w,L i = false → closed ops md L → closed ops md (fun j => j == i || L j) → J L α w → wpList P ops (Only (J (fun j => j == i || L j) α) (A α)) [o] (a α) w) (hd : ∀ α,A α = (a α).put o.dst (v α)) (h2 : qG P ops md E N J K os (i + 1) A) : qG P ops md E N J K (o :: os) i a :=
 .inr ⟨hi,A,v,hd,.inl hl,fun α L w h0 hc hc2 hw => by unfold upd; rw [he]; exact h α L w h0 hc hc2 hw,h2⟩
theorem xGm {K : Pv → Act → Prop} {n0 : Nat} : ∀ (os : List Oper) (i : Nat) (a : Pv → Act),(∀ α,(a α).tmps.size = n0) → qG P ops md E N J K os i a →
  ∃ V : Pv → Nat → Value,(∀ n o,os[n]? = some o → ∀ α L w,L (i + n) = false → closed ops md L → closed ops md (fun j => j == i + n || L j) → J L α w →
   (N.contains (i + n) = true ∧ xLz P ops (fun b w' => J (fun j => j == i + n || L j) (xH0 α (i + n) b) w') o n0 (fill (fun j => decide (j < i + n)) (V α) os i (a α)) w) ∨
   (N.contains (i + n) = false ∧ One P ops (J (upd E L (i + n)) α) o (V α (i + n)) n0 (fill (fun j => decide (j < i + n)) (V α) os i (a α)) w)) ∧
   (∀ n o,os[n]? = some o → (N.contains (i + n) = true ∧ ∀ α,V α (i + n) = α (i + n)) ∨ (N.contains (i + n) = false ∧ (late md N o = true ∨ ∀ α α',V α (i + n) = V α' (i + n)))) ∧
   ∀ α,K α (fill (fun _ => true) (V α) os i (a α))
 | [],_,a,_,h => ⟨fun _ _ => undef,fun n o ho => by simp at ho,fun n o ho => by simp at ho,h⟩
 | o :: os,i,a,hsz,h => by
  have key : ∀ (A : Pv → Act) (v : Pv → Value),(∀ α,A α = (a α).put o.dst (v α)) → qG P ops md E N J K os (i + 1) A →
    (∀ α L w,L i = false → closed ops md L → closed ops md (fun j => j == i || L j) → J L α w →
     (N.contains i = true ∧ xLz P ops (fun b w' => J (fun j => j == i || L j) (xH0 α i b) w') o n0 (a α) w) ∨ (N.contains i = false ∧ One P ops (J (upd E L i) α) o (v α) n0 (a α) w)) →
    ((N.contains i = true ∧ ∀ α,v α = α i) ∨ (N.contains i = false ∧ (late md N o = true ∨ ∀ α α',v α = v α'))) →
    ∃ V : Pv → Nat → Value,(∀ n p,(o :: os)[n]? = some p → ∀ α L w,L (i + n) = false → closed ops md L → closed ops md (fun j => j == i + n || L j) → J L α w →
     (N.contains (i + n) = true ∧ xLz P ops (fun b w' => J (fun j => j == i + n || L j) (xH0 α (i + n) b) w') p n0 (fill (fun j => decide (j < i + n)) (V α) (o :: os) i (a α)) w) ∨
     (N.contains (i + n) = false ∧ One P ops (J (upd E L (i + n)) α) p (V α (i + n)) n0 (fill (fun j => decide (j < i + n)) (V α) (o :: os) i (a α)) w)) ∧
     (∀ n p,(o :: os)[n]? = some p → (N.contains (i + n) = true ∧ ∀ α,V α (i + n) = α (i + n)) ∨ (N.contains (i + n) = false ∧ (late md N p = true ∨ ∀ α α',V α (i + n) = V α' (i + n)))) ∧
     ∀ α,K α (fill (fun _ => true) (V α) (o :: os) i (a α)) := by
   intro A v hA h2 h1 hv
   obtain ⟨V,hV,hW,hK⟩ := xGm os (i + 1) A (fun α => by rw [hA,xBf]; exact hsz α) h2
   have hc : ∀ (α : Pv) (L : Nat → Bool) (b : Act),fill L (fun j => if j = i then v α else V α j) os (i + 1) b = fill L (V α) os (i + 1) b := fun α L b =>
    uQ os (i + 1) b (fun _ _ => rfl) (fun n _ _ => by rw [if_neg (by omega)])
   refine ⟨fun α j => if j = i then v α else V α j,fun n p hp α L w hL hcl xH hw => ?_,fun n p hp => ?_,fun α => ?_⟩
   ·cases n with
    | zero =>
     obtain rfl : o = p := by simpa using hp
     simp only [Nat.add_zero,if_true]
     rw [kW _ _ _ (fun n _ => by simp)]
     exact h1 α L w (by simpa using hL) hcl (by simpa using xH) hw
    | succ n =>
     have e3 : i + 1 + n = i + (n + 1) := by omega
     have := hV n p (by simpa using hp) α L w (by rw [e3]; exact hL) hcl (by rw [e3]; exact xH) hw
     have e1 : ¬ i + (n + 1) = i := by omega
     simp only [e1,if_false]
     unfold fill
     simp only [if_true]
     rw [if_pos (by simp),hc,← e3,← hA]
     exact this
   ·cases n with
    | zero =>
     obtain rfl : o = p := by simpa using hp
     simpa using hv
    | succ n =>
     have := hW n p (by simpa using hp)
     have e1 : ¬ i + (n + 1) = i := by omega
     simp only [e1,if_false]
     rw [show i + (n + 1) = i + 1 + n by omega]
     exact this
   ·unfold fill
    simp only [if_true]
    rw [hc,← hA]
    exact hK α
  rcases h with ⟨hi,h1,h2⟩ | ⟨hi,A,v,hA,hv,h1,h2⟩
  ·refine key _ (fun α => α i) (fun _ => rfl) h2 (fun α L w h0 hcl xH hw => .inl ⟨hi,?_⟩) (.inl ⟨hi,fun _ => rfl⟩)
   have hb := h1 α L w h0 hcl xH hw
   rwa [hsz α] at hb
  ·refine key A v hA h2 (fun α L w h0 hcl xH hw => .inr ⟨hi,?_⟩) (.inr ⟨hi,hv⟩)
   have := h1 α L w h0 hcl xH hw
   rw [hA α] at this
   have := xA6 this
   rwa [hsz α] at this
def xNj (md : Region.Mode) (ops : Array Oper) : Bool :=
 Region.noSelect ops && (List.range ops.size).all fun i => match ops[i]? with
  | none => true
  | some o => (deps md o).all (· < i) && (List.range ops.size).all fun j => i == j || match ops[j]? with
   | none => true
   | some p => match p.dst with
    | none => true
    | some d => o.dst != some d && (!(o.looksAt ops).contains d || (deps md o).contains j || (decide (i < j) && (xBa ops md 9 j).contains i))
theorem xDc {md : Region.Mode} {ops : Array Oper} (h : xNj md ops = true) {i : Nat} {o : Oper} (ho : ops[i]? = some o) {j : Nat} (hj : j ∈ deps md o) : j < i := by
 unfold xNj at h
 rw [Bool.and_eq_true] at h
 have h1 := List.all_eq_true.1 h.2 i (List.mem_range.2 (Array.getElem?_eq_some_iff.1 ho).1)
 simp only [ho,Bool.and_eq_true] at h1
 simpa using List.all_eq_true.1 h1.1 j hj
theorem xGh {md : Region.Mode} {ops : Array Oper} (h : xNj md ops = true) {i j : Nat} {o p : Oper} (ho : ops[i]? = some o) (hp : ops[j]? = some p) (hne : i ≠ j) {d : Tmp} (hd : p.dst = some d) :
  o.dst ≠ some d ∧ (d ∈ o.looksAt ops → j ∈ deps md o ∨ (i < j ∧ (xBa ops md 9 j).contains i = true)) := by
 unfold xNj at h
 rw [Bool.and_eq_true] at h
 have h1 := List.all_eq_true.1 h.2 i (List.mem_range.2 (Array.getElem?_eq_some_iff.1 ho).1)
 simp only [ho,Bool.and_eq_true] at h1
 have h2 := List.all_eq_true.1 h1.2 j (List.mem_range.2 (Array.getElem?_eq_some_iff.1 hp).1)
 simp only [hp,hd,Bool.or_eq_true,beq_iff_eq,hne,false_or,Bool.and_eq_true,bne_iff_ne,Bool.not_eq_true',List.contains_eq_mem,decide_eq_false_iff_not,decide_eq_true_eq] at h2
 refine ⟨h2.1,fun hl => ?_⟩
 rcases h2.2 with (h3 | h3) | h3
 ·exact absurd hl h3
 ·exact .inl h3
 ·exact .inr ⟨h3.1,by simpa using h3.2⟩
theorem xQa {a0 : Act} {w0 : World} (α0 : Pv) (hf : xNj md ops = true) (hE : ∀ L L' α α' w,(∀ e,e ∈ E ∨ e ∈ N → L e = L' e) → (∀ e ∈ N,L e = true → α e = α' e) → J L α w → J L' α' w) (hEl : ∀ e,e ∈ E ∨ e ∈ N → e < ops.size) (hI : J (fun _ => false) α0 w0)
  (h : qG P ops md E N J (fun α a => ∀ w,J (fun _ => true) α w → Q .normal a w) ops.toList 0 (fun _ => a0)) : wpAny P md ops Q ops.size (Array.replicate ops.size false) a0 w0 := by
 obtain ⟨V,hV,hW,hK⟩ := xGm (n0 := a0.tmps.size) ops.toList 0 (fun _ => a0) (fun _ => rfl) h
 have hs : Region.noSelect ops = true := by unfold xNj at hf; rw [Bool.and_eq_true] at hf; exact hf.1
 have main : ∀ (fuel : Nat) (listed : Array Bool) (α : Pv) (w : World),listed.size = ops.size → jD listed = fuel → closed ops md (fun j => listed.getD j false) → J (fun j => listed.getD j false) α w →
   wpAny P md ops Q fuel listed (fill (fun j => listed.getD j false) (V α) ops.toList 0 a0) w := by
  intro fuel
  have hfin : ∀ (listed : Array Bool) (α : Pv) (w : World),listed.size = ops.size → J (fun j => listed.getD j false) α w → Region.ready md ops listed = [] → Q .normal (fill (fun j => listed.getD j false) (V α) ops.toList 0 a0) w := by
   intro listed α w hsz hw hr
   have hall : ∀ j,j < ops.size → listed.getD j true = true := by
    intro j
    induction j using Nat.strongRecOn with
    | _ j ih =>
     intro hj
     cases hc : listed.getD j true with
     | true => rfl
     | false =>
      have : j ∈ Region.ready md ops listed := mem_ready.2 ⟨hc,ops[j],Array.getElem?_eq_getElem hj,fun e he hb => by
       have hlt := xDc hf (Array.getElem?_eq_getElem hj) (pQ.2 ⟨e,he,hb,rfl⟩)
       have := ih e.on hlt (by omega)
       simp only [Array.getD_eq_getD_getElem?] at this ⊢
       rw [Array.getElem?_eq_getElem (by omega)] at this ⊢
       simpa using this⟩
      rw [hr] at this
      cases this
   have xLd : ∀ j,j < ops.size → listed.getD j false = true := fun j hj => by
    have := hall j hj
    simp only [Array.getD_eq_getD_getElem?] at this ⊢
    rw [Array.getElem?_eq_getElem (by omega)] at this ⊢
    simpa using this
   have e : fill (fun j => listed.getD j false) (V α) ops.toList 0 a0 = fill (fun _ => true) (V α) ops.toList 0 a0 := uQ _ _ _ (fun n hn => by
    have hn' : n < ops.size := by simpa using hn
    rw [Nat.zero_add]
    exact xLd n hn') (fun _ _ _ => rfl)
   rw [e]
   exact hK α w (hE _ _ _ _ _ (fun e he => xLd e (hEl e he)) (fun _ _ _ => rfl) hw)
  induction fuel with
  | zero =>
   intro listed α w hsz hu hcl hw
   have hr : Region.ready md ops listed = [] := by
    cases hc : Region.ready md ops listed with
    | nil => rfl
    | cons j _ =>
     have hm : j ∈ Region.ready md ops listed := by rw [hc]; simp
     have := wE (mem_ready.1 hm).1
     omega
   exact ⟨hr,hfin listed α w hsz hw hr⟩
  | succ fuel ih =>
   intro listed α w hsz hu hcl hw
   refine ⟨hfin listed α w hsz hw,fun i hi => ?_⟩
   obtain ⟨hun,o,ho,xNe⟩ := mem_ready.1 hi
   have hilt : i < ops.size := (Array.getElem?_eq_some_iff.1 ho).1
   have hlf : listed.getD i false = false := by
    simp only [Array.getD_eq_getD_getElem?] at hun ⊢
    rw [Array.getElem?_eq_getElem (by omega)] at hun ⊢
    simpa using hun
   have hol : ops.toList[i]? = some o := by simpa using ho
   have hdone : ∀ j,j ∈ deps md o → listed.getD j false = true := fun j hj => by
    obtain ⟨e,he,hb,rfl⟩ := pQ.1 hj
    have hlt := xDc hf ho hj
    have := xNe e he hb
    simp only [Array.getD_eq_getD_getElem?] at this ⊢
    rw [Array.getElem?_eq_getElem (by omega)] at this ⊢
    simpa using this
   have xH : closed ops md (fun j => j == i || listed.getD j false) := by
    intro j p hp hj m hm
    by_cases e : j = i
    ·subst e
     rw [ho] at hp
     injection hp with hp
     subst hp
     simp [hdone m hm]
    ·have hj' : listed.getD j false = true := by
      have e9 : (j == i) = false := by simpa using e
      simpa [e9] using hj
     have := hcl j p hp hj' m hm
     simp only [this,Bool.or_true]
   have hsz2 : ∀ β : Pv,(fill (fun j => listed.getD j false) (V β) ops.toList 0 a0).tmps.size = a0.tmps.size := fun _ => xB6 _ _ _
   have mv : ∀ {I : World → Prop} {v : Value},One P ops I o v a0.tmps.size (fill (fun j => decide (j < i)) (V α) ops.toList 0 a0) w → One P ops I o v a0.tmps.size (fill (fun j => listed.getD j false) (V α) ops.toList 0 a0) w := by
    intro I v h1
    refine h1.move (fun cs d => Region.noSelect_spec hs i o cs d ho) fun t ht => ?_
    refine tQ _ _ _ _ rfl rfl fun n p hp hd => ?_
    have hp' : ops[n]? = some p := by simpa using hp
    simp only [Nat.zero_add]
    by_cases hni : i = n
    ·subst hni
     rw [hlf]; simp
    ·rcases (xGh hf ho hp' hni hd).2 ht with hn | ⟨hn1,hn2⟩
     ·have hlt := xDc hf ho hn
      rw [hdone n hn]
      simpa using hlt
     ·rw [hcl.not 9 (i := n) hlf hn2]
      simp
      omega
   have mvE : ∀ {I : Value → World → Prop},xLz P ops I o a0.tmps.size (fill (fun j => decide (j < i)) (V α) ops.toList 0 a0) w → xLz P ops I o a0.tmps.size (fill (fun j => listed.getD j false) (V α) ops.toList 0 a0) w := by
    intro I h1
    refine h1.move (fun cs d => Region.noSelect_spec hs i o cs d ho) fun t ht => ?_
    refine tQ _ _ _ _ rfl rfl fun n p hp hd => ?_
    have hp' : ops[n]? = some p := by simpa using hp
    simp only [Nat.zero_add]
    by_cases hni : i = n
    ·subst hni
     rw [hlf]; simp
    ·rcases (xGh hf ho hp' hni hd).2 ht with hn | ⟨hn1,hn2⟩
     ·have hlt := xDc hf ho hn
      rw [hdone n hn]
      simpa using hlt
     ·rw [hcl.not 9 (i := n) hlf hn2]
      simp
      omega
   have e3 : ∀ n,n < ops.size → (n == i || listed.getD n false) = (listed.setIfInBounds i true).getD n false := fun n hn => by
    by_cases hni : i = n
    ·subst hni
     simp only [BEq.rfl,Bool.true_or,Array.getD_eq_getD_getElem?]
     rw [Array.getElem?_setIfInBounds_self_of_lt (by omega)]
     rfl
    ·rw [getD_set_ne false hni]
     have : (n == i) = false := by simp; omega
     rw [this,Bool.false_or]
   have nxt : ∀ (β : Pv) (v : Value),V β i = v → (∀ n,n < ops.size → listed.getD n false = true → V β n = V α n) → (fill (fun j => listed.getD j false) (V α) ops.toList 0 a0).put o.dst v = fill (fun j => (listed.setIfInBounds i true).getD j false) (V β) ops.toList 0 a0 := by
    intro β v hv hsame
    have e0 : fill (fun j => listed.getD j false) (V α) ops.toList 0 a0 = fill (fun j => listed.getD j false) (V β) ops.toList 0 a0 := uQ _ _ _ (fun _ _ => rfl) (fun n hn hl => by
     have hn' : n < ops.size := by simpa using hn
     simp only [Nat.zero_add] at hl ⊢
     exact (hsame n hn' hl).symm)
    rw [e0]
    have e := xDd (L := fun j => listed.getD j false) (V := V β) (v := v) ops.toList 0 i o a0 hol (by rw [Nat.zero_add]; exact hlf) (fun m p e hp hne he => by
     have hp' : ops[m]? = some p := by simpa using hp
     exact (xGh hf hp' ho hne he).1)
    rw [e]
    refine uQ _ _ _ (fun n hn => ?_) (fun n hn _ => ?_)
    ·simp only [Nat.zero_add]
     exact e3 n (by simpa using hn)
    ·simp only [Nat.zero_add]
     split
     ·rename_i h; rw [h,hv]
     ·rfl
   have hun2 : jD (listed.setIfInBounds i true) = fuel := by have := wE hun; omega
   have hcl3 : closed ops md (fun j => (listed.setIfInBounds i true).getD j false) := by
    intro j p hp hj m hm
    have hjl : j < ops.size := (Array.getElem?_eq_some_iff.1 hp).1
    have hml : m < ops.size := Nat.lt_trans (xDc hf hp hm) hjl
    have hj2 : (j == i || listed.getD j false) = true := (e3 j hjl).trans hj
    exact (e3 m hml).symm.trans (xH j p hp hj2 m hm)
   have h1 := hV i o hol α (fun j => listed.getD j false) w (by rw [Nat.zero_add]; exact hlf) hcl (by rw [Nat.zero_add]; exact xH) hw
   simp only [Nat.zero_add] at h1
   rcases h1 with ⟨hNi,h1⟩ | ⟨hNi,h1⟩
   ·have h2 := mvE h1
    rw [← hsz2 α] at h2
    refine h2.wpOp ho fun b w' hw' => ?_
    rw [nxt (xH0 α i b) b (by
     rcases hW i o hol with ⟨_,h⟩ | ⟨h,_⟩
     ·rw [Nat.zero_add] at h
      rw [h,uM]
     ·rw [Nat.zero_add] at h
      rw [hNi] at h; cases h) (fun n hn hl => by
     obtain ⟨p,hp⟩ : ∃ p,ops.toList[n]? = some p := ⟨ops[n],by rw [Array.getElem?_toList,Array.getElem?_eq_getElem hn]⟩
     rcases hW n p hp with ⟨_,h⟩ | ⟨_,h | h⟩
     ·rw [Nat.zero_add] at h
      rw [h,h,xQv _ _ _ (fun e => by rw [e,hlf] at hl; cases hl)]
     ·have hin : i ∈ deps md p := by
       have := List.all_eq_true.1 h i (by simpa using hNi)
       simpa using this
      have hcl9 : listed.getD i false = true := hcl n p (by simpa using hp) hl i hin
      rw [hlf] at hcl9; cases hcl9
     ·rw [Nat.zero_add] at h
      exact h _ _)]
    refine ih _ _ w' (by simpa using hsz) hun2 hcl3 (hE _ _ _ _ _ (fun e he => e3 e (hEl e he)) (fun _ _ _ => rfl) hw')
   ·have h2 := mv h1
    rw [← hsz2 α] at h2
    refine h2.wpOp ho fun w' hw' => ?_
    rw [nxt α _ rfl (fun _ _ _ => rfl)]
    refine ih _ _ w' (by simpa using hsz) hun2 hcl3 (hE _ _ _ _ _ (fun e he => ?_) (fun _ _ _ => rfl) hw')
    rcases he with he | he
    ·rw [xCm (L' := fun j => listed.getD j false) (fun _ _ => rfl) e he]
     exact e3 e (hEl e (.inl he))
    ·have hne : e ≠ i := fun h => by rw [h] at he; have : N.contains i = true := by simpa using he
                                     rw [hNi] at this; cases this
     rw [← e3 e (hEl e (.inr he))]
     have h9 : (e == i) = false := by simpa using hne
     unfold upd
     split <;> simp [h9]
 have := main ops.size (Array.replicate ops.size false) α0 w0 (by simp) (by unfold jD; simp) (fun j p hp hj => by
  have hjl : j < ops.size := (Array.getElem?_eq_some_iff.1 hp).1
  simp [hjl] at hj) (hE _ _ _ _ _ (fun e he => by
  have := hEl e he
  simp [this]) (fun _ _ h => by cases h) hI)
 rw [kW _ _ _ (fun n hn => by
  have hn' : n < ops.size := by simpa using hn
  simp [hn'])] at this
 exact this
theorem uU {id : Nat} {l : List Oper} {a : Act} {w : World} (E N : List Nat) (J : (Nat → Bool) → Pv → World → Prop) (hE : ∀ L L' α α' w,(∀ e,e ∈ E ∨ e ∈ N → L e = L' e) → (∀ e ∈ N,L e = true → α e = α' e) → J L α w → J L' α' w) (hm : P.follows .mixedOrders = true) (hf : xNj .any l.toArray = true) (hEl : ((E ++ N).all fun e => decide (e < l.length)) = true) (hI : J (fun _ => false) (fun _ => undef) w.drew)
  (h : qG P l.toArray .any E N J (fun α a => ∀ w,J (fun _ => true) α w → Q .normal a w) l 0 (fun _ => a)) : (Code.region id l.toArray true).wp P Q a w :=
 wp_region_any hm (xQa (fun _ => undef) hf hE (fun e he => by have := List.all_eq_true.1 hEl e (by simpa using he); simpa using this) hI (by simpa using h))
end
end Go.Proofs.RG
namespace Mailsack
theorem yAk (n : Nat) : Go.Lib.repeatL [(0 : UInt8)] n = xQ n := by
 unfold xQ
 induction n with
 | zero => rfl
 | succ n ih => rw [List.replicate_succ,← ih]; rfl
end Mailsack
namespace Go.Proofs.DS
open Go.RowKit Mailsack MM BB SH SV
theorem xIr (n : Nat) (w : World) (h : n ≤ 1000000) : Calls Tryz.prog 75 #[.string ⟨#[0]⟩,.int .i64 n] w fun e w' => e = .returned (xU (xQ n)) ∧ Below w.heap.size w w' := by
 have := Tryz.strings_Repeat ⟨#[0]⟩ n w (by omega) (by show 1 * n ≤ _; omega)
 rw [show (⟨#[0]⟩ : ByteArray).data.toList = [0] from rfl,yAk] at this
 exact this
theorem xK9 (n : Nat) (w : World) (h : n ≤ 1000000) : Calls Tryz.prog 54 #[.int .i64 n] w fun e w' => e = .returned (xU (xQ n)) ∧ Below w.heap.size w w' := by
 have HZ := hI' (fun W => xIr n W h)
 have h0 : ¬ ((n : Int) < 0) := by omega
 clear h
 go_enter Tryz.func54,Tryz.ntmps54
 go_wp2_with fail
 refine (HZ.out _).mono ?_
 rintro e w1 ⟨rfl,hb1⟩
 have B1 := hI' hb1
 go_wp2
 go_ret
 exact ⟨rfl,B1.out⟩
theorem xN0 (s : ByteArray) (n : Nat) (w : World) (h : n ≤ 1000000) (hs : s.size ≤ 1000000) : Calls Tryz.prog 154 #[.string s,.int .i64 n] w fun e w' => e = .returned (xU (xJ8 s.data.toList n)) ∧ Below w.heap.size w w' := by
 obtain ⟨k,hk⟩ : ∃ k : Nat,n - s.size = k := ⟨_,rfl⟩
 have HZ := hI' (fun W => xIr k W (by omega))
 have HE : Hid (xU (xJ8 s.data.toList n) = .string (s ++ bsA (xQ k))) := hI' (by
  unfold xJ8
  rw [show s.data.toList.length = s.size by simp,hk]
  show Value.string _ = _
  congr 1)
 have hz : (bsA (xQ k)).size = k := by rw [yO,yT]
 rw [show xU (xQ k) = .string (bsA (xQ k)) from rfl] at HZ
 generalize bsA (xQ k) = z at HZ HE hz
 have nb : ¬ (9223372036854775807 < s.size + z.size) := by omega
 by_cases hl : s.size ≤ n
 ·have e1 : (n : Int) - (s.size : Int) = (k : Int) := by omega
  have e4 : max (k : Int) 0 = (k : Int) := by omega
  have e5 : k ≤ 1000000 := by omega
  clear hk hl hz h hs
  go_enter Tryz.func154,Tryz.ntmps154
  go_wp2_with fail
  refine (HZ.out _).mono ?_
  rintro e w1 ⟨rfl,hb1⟩
  have B1 := hI' hb1
  clear hb1 HZ
  go_wp2
  go_ret
  exact ⟨by rw [HE.out]; rfl,B1.out⟩
 ·obtain rfl : k = 0 := by omega
  have e4 : max ((n : Int) - (s.size : Int)) 0 = 0 := by omega
  clear hk hl hz h hs
  go_enter Tryz.func154,Tryz.ntmps154
  go_wp2_with fail
  refine (HZ.out _).mono ?_
  rintro e w1 ⟨rfl,hb1⟩
  have B1 := hI' hb1
  clear hb1 HZ
  go_wp2
  go_ret
  exact ⟨by rw [HE.out]; rfl,B1.out⟩
theorem xCi (a : Int) (s : ByteArray) (w : World) : Calls Tryz.prog 50 #[.int .i64 a,.string s] w fun e w' => e = .returned (.agg #[.bool false,.int .i64 a,.string s]) ∧ Below w.heap.size w w' := by
 have hb := xM w (.cells #[.bool false,.int .i64 a,.string s] 121)
 have HB := hI' ((Below.refl w.heap.size w).alloc (Nat.le_refl _) (.cells #[.bool false,.int .i64 a,.string s] 121))
 obtain ⟨f0,f1,f2⟩ := xO0 hb
 clear hb
 go_enter Tryz.func50,Tryz.ntmps50
 go_wp2
 refine bodyPost_ret (v := .agg #[.bool false,.int .i64 a,.string s]) (by simp [results,Tryz.results50,go_sem,f0,f1,f2]) rfl ?_
 exact ⟨rfl,HB.out⟩
theorem xQf (w : World) : Calls Tryz.prog 51 #[] w fun e w' => e = .returned (.agg #[.bool true,.int .i64 0,.string ⟨#[]⟩]) ∧ Below w.heap.size w w' := by
 have hb := xM w (.cells #[.bool true,.int .i64 0,.string ⟨#[]⟩] 121)
 have HB := hI' ((Below.refl w.heap.size w).alloc (Nat.le_refl _) (.cells #[.bool true,.int .i64 0,.string ⟨#[]⟩] 121))
 obtain ⟨f0,f1,f2⟩ := xO0 hb
 clear hb
 go_enter Tryz.func51,Tryz.ntmps51
 go_wp2
 refine bodyPost_ret (v := .agg #[.bool true,.int .i64 0,.string ⟨#[]⟩]) (by simp [results,Tryz.results51,go_sem,f0,f1,f2]) rfl ?_
 exact ⟨rfl,HB.out⟩
theorem destL (a : Int) : ((((xQ 64).set 0 (oct a)).set 1 (oct (a / 256))).set 2 (oct (a / 65536))).set 3 (oct (a / 16777216)) = xF7 a := rfl
theorem xYm (a : Int) (w : World) : Calls Tryz.prog 48 #[.int .i64 a] w fun e w' => e = .returned (xU (xF7 a)) ∧ Below w.heap.size w w' := by
 have hmk : (Instr.makeSlice 113 (.int .i64 64) (.int .i64 64)).run Tryz.prog w = .ok (.slice (some ⟨w.heap.size,0,none⟩) 64 64) (w.alloc (.cells (yJ (xQ 64)) 5)) := made w 64 64 (by omega) (by omega)
 obtain ⟨z,hz⟩ : ∃ z,xQ 64 = z := ⟨_,rfl⟩
 have HD := hI' (destL a)
 have hzl : z.length = 64 := by rw [← hz]; rfl
 rw [hz] at hmk HD
 have HB0 : Hid (jN (w.alloc (.cells (yJ z) 5)) w.heap.size z ∧ Below w.heap.size w (w.alloc (.cells (yJ z) 5))) := hI' ⟨xM _ _,(Below.refl w.heap.size w).alloc (Nat.le_refl _) _⟩
 clear hz
 go_enter Tryz.func48,Tryz.ntmps48
 go_wp2_with fail
 clear hmk
 go_loopw [6] (fun iv wr => ∃ (k : Nat) (l : Bs),k ≤ 4 ∧ iv = .int .i64 k ∧ l.length = 64 ∧ Hid (jN wr w.heap.size l ∧ Below w.heap.size w wr) ∧ Hid ((k = 0 → l = z) ∧ (k = 1 → l = z.set 0 (oct a)) ∧ (k = 2 → l = (z.set 0 (oct a)).set 1 (oct (a / 256))) ∧ (k = 3 → l = ((z.set 0 (oct a)).set 1 (oct (a / 256))).set 2 (oct (a / 65536))) ∧ (k = 4 → l = xF7 a))) (fun iv _ => 4 - (intOf iv).toNat)
 case atStart => exact ⟨0,z,by omega,rfl,hzl,HB0,hI' ⟨fun _ => rfl,fun h => (by omega),fun h => (by omega),fun h => (by omega),fun h => (by omega)⟩⟩
 case round =>
  obtain ⟨k,l,hk,rfl,hll,HI,HL⟩ := hrel
  clear HB0
  by_cases hlt : k < 4
  ·have hp := fun z => hI' (And.intro (HI.out.1.put k z) (HI.out.2.setCell (p := ⟨w.heap.size,k,none⟩) (Nat.le_refl _) (.int .u8 (z % 256))))
   have q := HI.out.1.cell (i := k) (by omega)
   have f := HI.out.1.free k
   generalize l.getD k 0 = b0 at q
   have HQ := hI' hp
   clear hp HI
   rcases (show k = 0 ∨ k = 1 ∨ k = 2 ∨ k = 3 by omega) with rfl | rfl | rfl | rfl
   ·have HQL := hI' (HL.out.1 rfl)
    have hl2 : (l.set 0 (oct (a))).length = 64 := by simpa using hll
    have HQ2 := hI' (HQ.out (a)).out
    clear hk hlt HL HQ
    go_wp2
    exact ⟨⟨1,_,by omega,rfl,hl2,HQ2,hI' ⟨fun h => (by omega),fun _ => (by rw [HQL.out]),fun h => (by omega),fun h => (by omega),fun h => (by omega)⟩⟩,by simp [intOf]⟩
   ·have HQL := hI' (HL.out.2.1 rfl)
    have hl2 : (l.set 1 (oct (a / 256))).length = 64 := by simpa using hll
    have HQ2 := hI' (HQ.out (a / 256)).out
    clear hk hlt HL HQ
    go_wp2
    exact ⟨⟨2,_,by omega,rfl,hl2,HQ2,hI' ⟨fun h => (by omega),fun h => (by omega),fun _ => (by rw [HQL.out]),fun h => (by omega),fun h => (by omega)⟩⟩,by simp [intOf]⟩
   ·have HQL := hI' (HL.out.2.2.1 rfl)
    have hl2 : (l.set 2 (oct (a / 65536))).length = 64 := by simpa using hll
    have HQ2 := hI' (HQ.out (a / 65536)).out
    clear hk hlt HL HQ
    go_wp2
    exact ⟨⟨3,_,by omega,rfl,hl2,HQ2,hI' ⟨fun h => (by omega),fun h => (by omega),fun h => (by omega),fun _ => (by rw [HQL.out]),fun h => (by omega)⟩⟩,by simp [intOf]⟩
   ·have HQL := hI' (HL.out.2.2.2.1 rfl)
    have hl2 : (l.set 3 (oct (a / 16777216))).length = 64 := by simpa using hll
    have HQ2 := hI' (HQ.out (a / 16777216)).out
    clear hk hlt HL HQ
    go_wp2
    exact ⟨⟨4,_,by omega,rfl,hl2,HQ2,hI' ⟨fun h => (by omega),fun h => (by omega),fun h => (by omega),fun h => (by omega),fun _ => (by rw [HQL.out]; exact HD.out)⟩⟩,by simp [intOf]⟩
  ·obtain rfl : k = 4 := by omega
   have hle := HL.out.2.2.2.2 rfl
   have ht := xMh HI.out.1 64 64 (by omega)
   have HTK : Hid (l.take 64 = l) := hI' (by rw [← hll,List.take_length])
   rw [HTK.out] at ht
   have HLE := hI' hle
   clear hle HL hll HTK
   go_wp2
   go_ret
   exact ⟨by rw [← HLE.out]; rfl,HI.out.2⟩
theorem xYr (c d : Int) (hc : 0 ≤ c) (hc2 : c < 256) (hd : 0 ≤ d) (hd2 : d < 256) (g : Nat) (W : World) (hb : W.heap[g]? = some (.cells #[.int .u8 c,.int .u8 d] 5 (0,0))) : (convert 113 9 (.slice (some ⟨g,0,none⟩) 2 2)).run Tryz.prog W = .ok (.string (bsA [oct c,oct d])) W := by
 refine run_convert_bytes_back (P := Tryz.prog) W _ _ 5 ⟨g,0,none⟩ 2 [oct c,oct d] Tryz.underlying113 Tryz.underlying5 Tryz.underlying9 (fun j hj => ?_)
 have hj2 : j = 0 ∨ j = 1 := by simp at hj; omega
 have ha : (⟨g,0,none⟩ : Addr).add j = ⟨g,j,none⟩ := by unfold Addr.add; split <;> simp_all
 rw [ha,xA hb]
 rcases hj2 with rfl | rfl
 ·simp [kT]; omega
 ·simp [kT]; omega
theorem xRh (n : Nat) (all : ByteArray) (w : World) (hn : n < 256) (ha : all.size ≤ 1000000) (hT : vT w) : Calls Tryz.prog 52 #[.int .i64 n,.string all] w fun e w' => e = .returned (xU (xD8 n all.data.toList)) ∧ Below w.heap.size w w' := by
 have HS := hI' (fun W h => xFv all W (by omega) h)
 have HT := hI' (fun W (h : Below w.heap.size w W) => hT.below h (Nat.le_refl _))
 have HE : Hid (xU (xD8 n all.data.toList) = .string (bsA [oct 74,oct n] ++ bsA (xH8 all) ++ bsA (xQ 30))) := hI' (by
  unfold xD8
  rw [show bsA all.data.toList = all by cases all; simp [bsA]]
  show Value.string _ = Value.string _
  congr 1)
 have hz := xA3 all
 have hb : (bsA (xH8 all)).size = 32 := by rw [yO,hz]
 rw [show xU (xH8 all) = .string (bsA (xH8 all)) from rfl] at HS
 generalize bsA (xH8 all) = sh at HS HE hb
 have HZ := hI' (fun W (x : Int) (hx : x = ((30 : Nat) : Int)) => (show Calls Tryz.prog 54 #[.int .i64 x] W (fun e w' => e = .returned (xU (xQ 30)) ∧ Below W.heap.size W w') by rw [hx]; exact xK9 30 W (by omega)))
 rw [show xU (xQ 30) = .string (bsA (xQ 30)) from rfl] at HZ
 have hb3 : (bsA (xQ 30)).size = 30 := by rw [yO,yT]
 generalize bsA (xQ 30) = zb at HZ HE hb3
 have HCV := hI' (xYr 74 (n : Int) (by omega) (by omega) (by omega) (by omega))
 have hb2 : (bsA [oct 74,oct (n : Int)]).size = 2 := by rw [yO]; rfl
 generalize bsA [oct 74,oct (n : Int)] = h2 at HE HCV hb2
 have nb1 : ¬ (9223372036854775807 < h2.size + sh.size) := by omega
 have nb2 : ¬ (9223372036854775807 < (h2 ++ sh).size + zb.size) := by rw [ByteArray.size_append]; omega
 have hnn : (n : Int) % 256 = n := by omega
 have HSZ := hI' (And.intro hb2 hb)
 clear hz hb hb3 hb2 ha
 go_enter Tryz.func52,Tryz.ntmps52
 go_upto_region 1 with fail
 refine RG.uU [] [2] (fun L α W => Hid (Below w.heap.size w W ∧ (L 2 = true → ∃ g,α 2 = .slice (some ⟨g,0,none⟩) 2 2 ∧ W.heap[g]? = some (.cells #[.int .u8 74,.int .u8 (n : Int)] 5 (0,0))))) (fun L L' α α' W hl ha h => hI' ⟨h.out.1,fun h2 => by rw [← ha 2 (by simp) (by rw [hl 2 (by simp)]; exact h2)]; exact h.out.2 (by rw [hl 2 (by simp)]; exact h2)⟩) (by kernel_rfl) (by kernel_rfl) (by kernel_rfl) (hI' ⟨(Below.refl w.heap.size w).drew,fun h => by cases h⟩) ?_
 iterate 2
  apply RG.yL
  ·rfl
  ·rfl
  ·intro α L w9 h0 hcl xH hw9
   repeat go_step
   with_reducible exact RG.xB hw9
  ·intro α; rfl
 apply RG.kN
 ·rfl
 ·intro α L w9 h0 hcl xH hw9
  refine ⟨.slice (some ⟨w9.heap.size,0,none⟩) 2 2,fun bv hbv => ?_⟩
  repeat go_step
  rw [← hbv]
  with_reducible refine RG.xB ?_
  exact hI' ⟨hw9.out.1.alloc hw9.out.1.size _,fun _ => ⟨w9.heap.size,by rw [RG.uM]; exact hbv,xM _ _⟩⟩
 ·intro b α; rfl
 apply RG.yL
 ·rfl
 ·rfl
 ·intro α L w9 h0 hcl xH hw9
  have e2 : L 2 = true := by
   have := xH.yes 8 (i := 3) (j := 2) (by simp) (by kernel_rfl)
   simpa using this
  obtain ⟨g,hg,hb⟩ := hw9.out.2 e2
  have hcv := HCV.out g w9 hb
  rw [show α (0 + 1 + 1) = _ from hg]
  clear e2 hb
  repeat go_step
  rw [← show α (0 + 1 + 1) = _ from hg]
  with_reducible exact RG.xB hw9
 ·intro α; rfl
 apply RG.yL
 ·rfl
 ·rfl
 ·intro α L w9 h0 hcl xH hw9
  repeat go_step
  with_reducible exact RG.xB hw9
 ·intro α; rfl
 apply RG.yL
 ·rfl
 ·rfl
 ·intro α L w9 h0 hcl xH hw9
  repeat go_step
  refine (HS.out _ (HT.out _ hw9.out.1)).mono ?_
  rintro e w10 ⟨rfl,yA⟩
  simp only []
  repeat go_step
  with_reducible refine RG.xB ?_
  refine hI' ⟨hw9.out.1.trans (yA.mono hw9.out.1.size),fun e2 => ?_⟩
  obtain ⟨g,hg,hb⟩ := hw9.out.2 e2
  exact ⟨g,hg,xE hb yA (xI hb)⟩
 ·intro α; rfl
 iterate 2
  apply RG.yL
  ·rfl
  ·rfl
  ·intro α L w9 h0 hcl xH hw9
   repeat go_step
   with_reducible exact RG.xB hw9
  ·intro α; rfl
 refine RG.rY (fun α w3 hw3 => ?_)
 have B3 := hI' hw3.out.1
 clear hw3 HS HT HCV
 go_wp2_with fail
 refine (HZ.out _ _ (by have := HSZ.out; omega)).mono ?_
 rintro e w4 ⟨rfl,hb4⟩
 have B4 := hI' (B3.out.trans (hb4.mono B3.out.size))
 clear hb4 B3 HZ
 go_wp2
 go_ret
 exact ⟨by rw [HE.out]; rfl,B4.out⟩
end Go.Proofs.DS
