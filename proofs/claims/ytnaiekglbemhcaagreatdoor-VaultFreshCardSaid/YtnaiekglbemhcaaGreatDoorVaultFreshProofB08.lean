/- Contracts of functions of the program. Conditions: those that each theorem states. -/
import Derived.Test.YtnaiekglbemhcaaGreatDoorVaultFreshProofB02
import Derived.Test.YtnaiekglbemhcaaGreatDoorVaultFreshProofB00
import Derived.Deep.QuietTactic
import Derived.Test.YtnaiekglbemhcaaGreatDoorVaultFreshProofB01
set_option maxHeartbeats 8000000
set_option maxRecDepth 100000
namespace Mailsack
structure Q4 where
 a : Int
 b : Int
 c : Int
 d : Int
def jX (q : Q4) : Q4 :=
 let a1 := (q.a + q.b) % 4294967296
 let d1 := xHt (Go.bits .xor .u32 q.d a1) 16
 let c1 := (q.c + d1) % 4294967296
 let b1 := xHt (Go.bits .xor .u32 q.b c1) 12
 let a2 := (a1 + b1) % 4294967296
 let d2 := xHt (Go.bits .xor .u32 d1 a2) 8
 let c2 := (c1 + d2) % 4294967296
 let b2 := xHt (Go.bits .xor .u32 b1 c2) 7
 ⟨a2,b2,c2,d2⟩
theorem xHw (q : Q4) : U32 (jX q).a ∧ U32 (jX q).b ∧ U32 (jX q).c ∧ U32 (jX q).d := ⟨wG _,xCz _ _,wG _,xCz _ _⟩
end Mailsack
namespace Go.Proofs.SH
open Go.RowKit Mailsack MM BB
theorem xMt (a b c d : Int) (w : World) (ha : U32 a) (hb : U32 b) (hc : U32 c) (hd : U32 d) :
  Calls Tryz.prog 219 #[.int .u32 a,.int .u32 b,.int .u32 c,.int .u32 d] w fun e w' =>
   e = .returned (.tuple #[.int .u32 (jX ⟨a,b,c,d⟩).a,.int .u32 (jX ⟨a,b,c,d⟩).b,.int .u32 (jX ⟨a,b,c,d⟩).c,.int .u32 (jX ⟨a,b,c,d⟩).d]) ∧ w' = w := by
 obtain ⟨a1,ha1⟩ : ∃ x,(a + b) % 4294967296 = x := ⟨_,rfl⟩
 have ua1 : U32 a1 := ha1 ▸ wG _
 obtain ⟨d1,hd1⟩ : ∃ x,xHt (bits .xor .u32 d a1) 16 = x := ⟨_,rfl⟩
 have ud1 : U32 d1 := hd1 ▸ xCz _ _
 obtain ⟨c1,hc1⟩ : ∃ x,(c + d1) % 4294967296 = x := ⟨_,rfl⟩
 have uc1 : U32 c1 := hc1 ▸ wG _
 obtain ⟨b1,hb1⟩ : ∃ x,xHt (bits .xor .u32 b c1) 12 = x := ⟨_,rfl⟩
 have ub1 : U32 b1 := hb1 ▸ xCz _ _
 obtain ⟨a2,ha2⟩ : ∃ x,(a1 + b1) % 4294967296 = x := ⟨_,rfl⟩
 have ua2 : U32 a2 := ha2 ▸ wG _
 obtain ⟨d2,hd2⟩ : ∃ x,xHt (bits .xor .u32 d1 a2) 8 = x := ⟨_,rfl⟩
 have ud2 : U32 d2 := hd2 ▸ xCz _ _
 obtain ⟨c2,hc2⟩ : ∃ x,(c1 + d2) % 4294967296 = x := ⟨_,rfl⟩
 have uc2 : U32 c2 := hc2 ▸ wG _
 obtain ⟨b2,hb2⟩ : ∃ x,xHt (bits .xor .u32 b1 c2) 7 = x := ⟨_,rfl⟩
 have hq : jX ⟨a,b,c,d⟩ = ⟨a2,b2,c2,d2⟩ := by
  subst hb2; subst hc2; subst hd2; subst ha2; subst hb1; subst hc1; subst hd1; subst ha1
  rfl
 rw [hq]
 have H := hI' (⟨ha1,hd1,hc1,hb1,ha2,hd2,hc2,hb2⟩ : _ ∧ _ ∧ _ ∧ _ ∧ _ ∧ _ ∧ _ ∧ _)
 have R1 := hI' (fun W => kR (bits .xor .u32 d a1) 16 16 W (xAg _ _ _) (by decide) (by decide))
 have R2 := hI' (fun W => kR (bits .xor .u32 b c1) 12 12 W (xAg _ _ _) (by decide) (by decide))
 have R3 := hI' (fun W => kR (bits .xor .u32 d1 a2) 8 8 W (xAg _ _ _) (by decide) (by decide))
 have R4 := hI' (fun W => kR (bits .xor .u32 b1 c2) 7 7 W (xAg _ _ _) (by decide) (by decide))
 rw [hd1] at R1
 rw [hb1] at R2
 rw [hd2] at R3
 rw [hb2] at R4
 obtain ⟨ha,ha'⟩ := ha
 obtain ⟨hb,hb'⟩ := hb
 obtain ⟨hc,hc'⟩ := hc
 obtain ⟨hd,hd'⟩ := hd
 obtain ⟨ua1,ua1'⟩ := ua1
 obtain ⟨ud1,ud1'⟩ := ud1
 obtain ⟨uc1,uc1'⟩ := uc1
 obtain ⟨ub1,ub1'⟩ := ub1
 obtain ⟨ua2,ua2'⟩ := ua2
 obtain ⟨ud2,ud2'⟩ := ud2
 obtain ⟨uc2,uc2'⟩ := uc2
 clear ha1 hd1 hc1 hb1 ha2 hd2 hc2 hb2 hq
 go_enter Tryz.func219,Tryz.ntmps219
 go_upto_region 2 with fail
 rw [H.out.1]
 refine RG.zK (fun X => Hid (X = w)) (hI' rfl) ?_
 iterate 3
  apply RG.xC
  ·intro w9 hw9
   repeat go_step
   with_reducible exact RG.xB hw9
  ·rfl
 apply RG.xC
 ·intro w9 hw9
  repeat go_step
  refine (R1.out _).mono ?_
  rintro e w10 ⟨rfl,rfl⟩
  simp only []
  repeat go_step
  with_reducible exact RG.xB hw9
 ·rfl
 apply RG.xC
 ·intro w9 hw9
  repeat go_step
  with_reducible exact RG.xB hw9
 ·rfl
 refine RG.xW (fun w5 hw5 => ?_)
 have ehw5 := hw5.out
 subst ehw5
 clear hw5
 go_upto_region 4 with fail
 rw [H.out.2.2.1]
 refine RG.zK (fun X => Hid (X = w5)) (hI' rfl) ?_
 iterate 3
  apply RG.xC
  ·intro w9 hw9
   repeat go_step
   with_reducible exact RG.xB hw9
  ·rfl
 apply RG.xC
 ·intro w9 hw9
  repeat go_step
  refine (R2.out _).mono ?_
  rintro e w10 ⟨rfl,rfl⟩
  simp only []
  repeat go_step
  with_reducible exact RG.xB hw9
 ·rfl
 apply RG.xC
 ·intro w9 hw9
  repeat go_step
  with_reducible exact RG.xB hw9
 ·rfl
 refine RG.xW (fun w6 hw6 => ?_)
 have ehw6 := hw6.out
 subst ehw6
 clear hw6
 go_upto_region 6 with fail
 rw [H.out.2.2.2.2.1]
 refine RG.zK (fun X => Hid (X = w6)) (hI' rfl) ?_
 iterate 3
  apply RG.xC
  ·intro w9 hw9
   repeat go_step
   with_reducible exact RG.xB hw9
  ·rfl
 apply RG.xC
 ·intro w9 hw9
  repeat go_step
  refine (R3.out _).mono ?_
  rintro e w10 ⟨rfl,rfl⟩
  simp only []
  repeat go_step
  with_reducible exact RG.xB hw9
 ·rfl
 apply RG.xC
 ·intro w9 hw9
  repeat go_step
  with_reducible exact RG.xB hw9
 ·rfl
 refine RG.xW (fun w7 hw7 => ?_)
 have ehw7 := hw7.out
 subst ehw7
 clear hw7
 go_upto_region 8 with fail
 rw [H.out.2.2.2.2.2.2.1]
 refine RG.zK (fun X => Hid (X = w7)) (hI' rfl) ?_
 iterate 3
  apply RG.xC
  ·intro w9 hw9
   repeat go_step
   with_reducible exact RG.xB hw9
  ·rfl
 apply RG.xC
 ·intro w9 hw9
  repeat go_step
  refine (R4.out _).mono ?_
  rintro e w10 ⟨rfl,rfl⟩
  simp only []
  repeat go_step
  with_reducible exact RG.xB hw9
 ·rfl
 apply RG.xC
 ·intro w9 hw9
  repeat go_step
  with_reducible exact RG.xB hw9
 ·rfl
 refine RG.xW (fun w8 hw8 => ?_)
 have ehw8 := hw8.out
 subst ehw8
 clear hw8
 go_wp2
 refine bodyPost_ret (xKv rfl _ _ _) rfl ?_
 exact ⟨rfl,rfl⟩
end Go.Proofs.SH
namespace Go.Proofs.RG
def closed (ops : Array Oper) (md : Region.Mode) (L : Nat → Bool) : Prop := ∀ i o,ops[i]? = some o → L i = true → ∀ j,j ∈ deps md o → L j = true
def xBa (ops : Array Oper) (md : Region.Mode) : Nat → Nat → List Nat
 | 0,_ => []
 | n + 1,i => match ops[i]? with
  | none => []
  | some o => deps md o ++ (deps md o).flatMap (xBa ops md n)
theorem closed.reach {ops : Array Oper} {md : Region.Mode} {L : Nat → Bool} (h : closed ops md L) : ∀ (n i : Nat),L i = true → ∀ j,j ∈ xBa ops md n i → L j = true
 | 0,_,_,_,hj => by simp [xBa] at hj
 | n + 1,i,hi,j,hj => by
  unfold xBa at hj
  cases ho : ops[i]? with
  | none => rw [ho] at hj; simp at hj
  | some o =>
   rw [ho] at hj
   simp only [List.mem_append,List.mem_flatMap] at hj
   rcases hj with hj | ⟨m,hm,hj⟩
   ·exact h i o ho hi j hj
   ·exact closed.reach h n m (h i o ho hi m hm) j hj
theorem closed.not {ops : Array Oper} {md : Region.Mode} {L : Nat → Bool} (h : closed ops md L) (n : Nat) {i j : Nat} (hj : L j = false) (hm : (xBa ops md n i).contains j = true) : L i = false := by
 cases hi : L i with
 | false => rfl
 | true =>
  have := h.reach n i hi j (by simpa using hm)
  rw [hj] at this
  cases this
theorem closed.yes {ops : Array Oper} {md : Region.Mode} {L : Nat → Bool} (h : closed ops md L) (n : Nat) {i j : Nat} (hi : L i = true) (hm : (xBa ops md n i).contains j = true) : L j = true := h.reach n i hi j (by simpa using hm)
def CI (ops : Array Oper) (md : Region.Mode) (I : (Nat → Bool) → World → Prop) (L : Nat → Bool) (w : World) : Prop := closed ops md L ∧ I L w
theorem xJ {P : Program} {ops : Array Oper} {md : Region.Mode} {I : (Nat → Bool) → World → Prop} {K : Act → Prop} {n : Nat} {a : Act} {o : Oper} {os : List Oper} {i : Nat} {A : Act} (ho : ops[i]? = some o) (hi : (List.range n).contains i = true)
  (h : ∀ L w,L i = false → closed ops md L → closed ops md (fun j => j == i || L j) → I L w → wpList P ops (Only (CI ops md I (fun j => j == i || L j)) A) [o] a w) (hd : A.defers = a.defers)
  (h2 : pI P ops md (List.range n) (CI ops md I) K os (i + 1) A) : pI P ops md (List.range n) (CI ops md I) K (o :: os) i a := by
 refine uJ hi (fun L w h0 hdp hw => ?_) hd h2
 refine h L w h0 hw.1 (fun j p hp hj m hm => ?_) hw.2
 by_cases e : j = i
 ·subst e
  rw [ho] at hp
  injection hp with hp
  subst hp
  simp [hdp m hm]
 ·have hj' : L j = true := by simpa [e] using hj
  simp [hw.1 j p hp hj' m hm]
theorem xOt {P : Program} {ops : Array Oper} {md : Region.Mode} {E : List Nat} {I : (Nat → Bool) → World → Prop} {K K' : Act → Prop} (hK : ∀ a,K a → K' a) : ∀ (os : List Oper) (i : Nat) (a : Act),pI P ops md E I K os i a → pI P ops md E I K' os i a
 | [],_,a,h => hK a h
 | _ :: os,i,_,⟨A,h1,h2,h3⟩ => ⟨A,h1,h2,xOt hK os (i + 1) A h3⟩
theorem yN {P : Program} {Q : Exit → Act → World → Prop} {id : Nat} {l : List Oper} {a : Act} {w : World} (n : Nat) (I : (Nat → Bool) → World → Prop) (hI2 : ∀ L L' w,(∀ e,e < n → L e = L' e) → I L w → I L' w) (hm : P.follows .mixedOrders = true) (hf : fits .any l.toArray = true) (hn : l.length = n) (hI : I (fun _ => false) w.drew)
  (h : pI P l.toArray .any (List.range n) (CI l.toArray .any I) (fun a => ∀ w,I (fun _ => true) w → Q .normal a w) l 0 a) : (Code.region id l.toArray true).wp P Q a w := by
 refine vE (List.range n) (CI l.toArray .any I) (fun L L' w he h => ⟨fun i o ho hi j hj => ?_,hI2 L L' w (fun e h => he e (by simpa using h)) h.2⟩) hm hf (by simp; omega) ⟨fun i o _ hi => (by cases hi),hI⟩ ?_
 ·have hin : i < l.length := by
   have := (Array.getElem?_eq_some_iff.1 ho).1
   simpa using this
  have hjn : j < l.length := Nat.lt_trans (tX hf ho hj) hin
  rw [← he j (by simp; omega)]
  exact h.1 i o ho (by rw [he i (by simp; omega)]; exact hi) j hj
 ·refine xOt ?_ _ _ _ h
  intro a ha w hw
  exact ha w hw.2
end Go.Proofs.RG
namespace Go.Proofs.RG
abbrev Pl := Nat → Nat
abbrev ptr (b : Nat) : Value := .pointer (some ⟨b,0,none⟩)
def xHb (α : Pl) (i b : Nat) : Pl := fun j => if j = i then b else α j
theorem xAx (α : Pl) (i b : Nat) : xHb α i b i = b := by simp [xHb]
theorem xBg (α : Pl) (i b : Nat) {j : Nat} (h : j ≠ i) : xHb α i b j = α j := by simp [xHb,h]
section
variable {P : Program} {ops : Array Oper} {Q : Exit → Act → World → Prop} {md : Region.Mode} {E N : List Nat} {J : (Nat → Bool) → Pl → World → Prop}
def late (md : Region.Mode) (N : List Nat) (o : Oper) : Bool := N.all fun e => (deps md o).contains e
def rG (P : Program) (ops : Array Oper) (md : Region.Mode) (E N : List Nat) (J : (Nat → Bool) → Pl → World → Prop) (K : Pl → Act → Prop) : List Oper → Nat → (Pl → Act) → Prop
 | [],_,a => ∀ α,K α (a α)
 | o :: os,i,a =>
  (N.contains i = true ∧ (∀ α L w,L i = false → closed ops md L → J L α w → ∃ b,wpList P ops (Only (J (fun j => j == i || L j) (xHb α i b)) ((a α).put o.dst (ptr b))) [o] (a α) w) ∧ rG P ops md E N J K os (i + 1) (fun α => (a α).put o.dst (ptr (α i)))) ∨
  (N.contains i = false ∧ ∃ (A : Pl → Act) (v : Pl → Value),(∀ α,A α = (a α).put o.dst (v α)) ∧ (late md N o = true ∨ ∀ α α',v α = v α') ∧
   (∀ α L w,L i = false → closed ops md L → closed ops md (fun j => j == i || L j) → J L α w → wpList P ops (Only (J (upd E L i) α) (A α)) [o] (a α) w) ∧ rG P ops md E N J K os (i + 1) A)
theorem wT {K : Pl → Act → Prop} {a : Pl → Act} {i : Nat} (h : ∀ α,K α (a α)) : rG P ops md E N J K [] i a := h
theorem vW {K : Pl → Act → Prop} {a : Pl → Act} {o : Oper} {os : List Oper} {i : Nat} {A : Nat → Pl → Act} (hi : N.contains i = true)
  (h : ∀ α L w b,b = w.heap.size → L i = false → closed ops md L → J L α w → wpList P ops (Only (J (fun j => j == i || L j) (xHb α i b)) (A b α)) [o] (a α) w)
  (hd : ∀ b α,A b α = (a α).put o.dst (ptr b)) (h2 : rG P ops md E N J K os (i + 1) (fun α => A (α i) α)) : rG P ops md E N J K (o :: os) i a := by
 refine .inl ⟨hi,fun α L w h0 hc hw => ⟨w.heap.size,?_⟩,?_⟩
 ·rw [← hd]
  exact h α L w _ rfl h0 hc hw
 ·have e : (fun α => (a α).put o.dst (ptr (α i))) = fun α => A (α i) α := funext fun α => (hd _ _).symm
  rw [e]
  exact h2
theorem xL {K : Pl → Act → Prop} {a : Pl → Act} {o : Oper} {os : List Oper} {i : Nat} {A : Pl → Act} {v : Value} (hi : N.contains i = false) (he : E.contains i = false)
  (h : ∀ α L w,L i = false → closed ops md L → closed ops md (fun j => j == i || L j) → J L α w → wpList P ops (Only (J L α) (A α)) [o] (a α) w) (hd : ∀ α,A α = (a α).put o.dst v) (h2 : rG P ops md E N J K os (i + 1) A) : rG P ops md E N J K (o :: os) i a :=
 .inr ⟨hi,A,fun _ => v,hd,.inr fun _ _ => rfl,fun α L w h0 hc hc2 hw => by unfold upd; rw [he]; exact h α L w h0 hc hc2 hw,h2⟩
theorem uZ {K : Pl → Act → Prop} {a : Pl → Act} {o : Oper} {os : List Oper} {i : Nat} {A : Pl → Act} {v : Value} (hi : N.contains i = false) (he : E.contains i = true)
  (h : ∀ α L w,L i = false → closed ops md L → closed ops md (fun j => j == i || L j) → J L α w → wpList P ops (Only (J (fun j => j == i || L j) α) (A α)) [o] (a α) w) (hd : ∀ α,A α = (a α).put o.dst v) (h2 : rG P ops md E N J K os (i + 1) A) : rG P ops md E N J K (o :: os) i a :=
 .inr ⟨hi,A,fun _ => v,hd,.inr fun _ _ => rfl,fun α L w h0 hc hc2 hw => by unfold upd; rw [he]; exact h α L w h0 hc hc2 hw,h2⟩
theorem xGp {K : Pl → Act → Prop} {n0 : Nat} : ∀ (os : List Oper) (i : Nat) (a : Pl → Act),(∀ α,(a α).tmps.size = n0) → rG P ops md E N J K os i a →
  ∃ V : Pl → Nat → Value,(∀ n o,os[n]? = some o → ∀ α L w,L (i + n) = false → closed ops md L → closed ops md (fun j => j == i + n || L j) → J L α w →
   (N.contains (i + n) = true ∧ ∃ b,One P ops (J (fun j => j == i + n || L j) (xHb α (i + n) b)) o (ptr b) n0 (fill (fun j => decide (j < i + n)) (V α) os i (a α)) w) ∨
   (N.contains (i + n) = false ∧ One P ops (J (upd E L (i + n)) α) o (V α (i + n)) n0 (fill (fun j => decide (j < i + n)) (V α) os i (a α)) w)) ∧
   (∀ n o,os[n]? = some o → (N.contains (i + n) = true ∧ ∀ α,V α (i + n) = ptr (α (i + n))) ∨ (N.contains (i + n) = false ∧ (late md N o = true ∨ ∀ α α',V α (i + n) = V α' (i + n)))) ∧
   ∀ α,K α (fill (fun _ => true) (V α) os i (a α))
 | [],_,a,_,h => ⟨fun _ _ => undef,fun n o ho => by simp at ho,fun n o ho => by simp at ho,h⟩
 | o :: os,i,a,hsz,h => by
  have key : ∀ (A : Pl → Act) (v : Pl → Value),(∀ α,A α = (a α).put o.dst (v α)) → rG P ops md E N J K os (i + 1) A →
    (∀ α L w,L i = false → closed ops md L → closed ops md (fun j => j == i || L j) → J L α w →
     (N.contains i = true ∧ ∃ b,One P ops (J (fun j => j == i || L j) (xHb α i b)) o (ptr b) n0 (a α) w) ∨ (N.contains i = false ∧ One P ops (J (upd E L i) α) o (v α) n0 (a α) w)) →
    ((N.contains i = true ∧ ∀ α,v α = ptr (α i)) ∨ (N.contains i = false ∧ (late md N o = true ∨ ∀ α α',v α = v α'))) →
    ∃ V : Pl → Nat → Value,(∀ n p,(o :: os)[n]? = some p → ∀ α L w,L (i + n) = false → closed ops md L → closed ops md (fun j => j == i + n || L j) → J L α w →
     (N.contains (i + n) = true ∧ ∃ b,One P ops (J (fun j => j == i + n || L j) (xHb α (i + n) b)) p (ptr b) n0 (fill (fun j => decide (j < i + n)) (V α) (o :: os) i (a α)) w) ∨
     (N.contains (i + n) = false ∧ One P ops (J (upd E L (i + n)) α) p (V α (i + n)) n0 (fill (fun j => decide (j < i + n)) (V α) (o :: os) i (a α)) w)) ∧
     (∀ n p,(o :: os)[n]? = some p → (N.contains (i + n) = true ∧ ∀ α,V α (i + n) = ptr (α (i + n))) ∨ (N.contains (i + n) = false ∧ (late md N p = true ∨ ∀ α α',V α (i + n) = V α' (i + n)))) ∧
     ∀ α,K α (fill (fun _ => true) (V α) (o :: os) i (a α)) := by
   intro A v hA h2 h1 hv
   obtain ⟨V,hV,hW,hK⟩ := xGp os (i + 1) A (fun α => by rw [hA,xBf]; exact hsz α) h2
   have hc : ∀ (α : Pl) (L : Nat → Bool) (b : Act),fill L (fun j => if j = i then v α else V α j) os (i + 1) b = fill L (V α) os (i + 1) b := fun α L b =>
    uQ os (i + 1) b (fun _ _ => rfl) (fun n _ _ => by rw [if_neg (by omega)])
   refine ⟨fun α j => if j = i then v α else V α j,fun n p hp α L w hL hcl xH hw => ?_,fun n p hp => ?_,fun α => ?_⟩
   ·cases n with
    | zero =>
     obtain rfl : o = p := by simpa using hp
     simp only [Nat.add_zero,if_true]
     rw [kW _ _ _ (fun n _ => by simp)]
     exact h1 α L w (by simpa using hL) hcl (by simpa using xH) hw
    | succ n =>
     have e3 : i + 1 + n = i + (n + 1) := by omega
     have := hV n p (by simpa using hp) α L w (by rw [e3]; exact hL) hcl (by rw [e3]; exact xH) hw
     have e1 : ¬ i + (n + 1) = i := by omega
     simp only [e1,if_false]
     unfold fill
     simp only [if_true]
     rw [if_pos (by simp),hc,← e3,← hA]
     exact this
   ·cases n with
    | zero =>
     obtain rfl : o = p := by simpa using hp
     simpa using hv
    | succ n =>
     have := hW n p (by simpa using hp)
     have e1 : ¬ i + (n + 1) = i := by omega
     simp only [e1,if_false]
     rw [show i + (n + 1) = i + 1 + n by omega]
     exact this
   ·unfold fill
    simp only [if_true]
    rw [hc,← hA]
    exact hK α
  rcases h with ⟨hi,h1,h2⟩ | ⟨hi,A,v,hA,hv,h1,h2⟩
  ·refine key _ (fun α => ptr (α i)) (fun _ => rfl) h2 (fun α L w h0 hcl _ hw => .inl ⟨hi,?_⟩) (.inl ⟨hi,fun _ => rfl⟩)
   obtain ⟨b,hb⟩ := h1 α L w h0 hcl hw
   exact ⟨b,by have := xA6 hb; rwa [hsz α] at this⟩
  ·refine key A v hA h2 (fun α L w h0 hcl xH hw => .inr ⟨hi,?_⟩) (.inr ⟨hi,hv⟩)
   have := h1 α L w h0 hcl xH hw
   rw [hA α] at this
   have := xA6 this
   rwa [hsz α] at this
theorem xQc {a0 : Act} {w0 : World} (α0 : Pl) (hf : fits md ops = true) (hE : ∀ L L' α α' w,(∀ e,e ∈ E ∨ e ∈ N → L e = L' e) → (∀ e ∈ N,L e = true → α e = α' e) → J L α w → J L' α' w) (hEl : ∀ e,e ∈ E ∨ e ∈ N → e < ops.size) (hI : J (fun _ => false) α0 w0)
  (h : rG P ops md E N J (fun α a => ∀ w,J (fun _ => true) α w → Q .normal a w) ops.toList 0 (fun _ => a0)) : wpAny P md ops Q ops.size (Array.replicate ops.size false) a0 w0 := by
 obtain ⟨V,hV,hW,hK⟩ := xGp (n0 := a0.tmps.size) ops.toList 0 (fun _ => a0) (fun _ => rfl) h
 have hs : Region.noSelect ops = true := by unfold fits at hf; rw [Bool.and_eq_true] at hf; exact hf.1
 have main : ∀ (fuel : Nat) (listed : Array Bool) (α : Pl) (w : World),listed.size = ops.size → jD listed = fuel → closed ops md (fun j => listed.getD j false) → J (fun j => listed.getD j false) α w →
   wpAny P md ops Q fuel listed (fill (fun j => listed.getD j false) (V α) ops.toList 0 a0) w := by
  intro fuel
  have hfin : ∀ (listed : Array Bool) (α : Pl) (w : World),listed.size = ops.size → J (fun j => listed.getD j false) α w → Region.ready md ops listed = [] → Q .normal (fill (fun j => listed.getD j false) (V α) ops.toList 0 a0) w := by
   intro listed α w hsz hw hr
   have hall : ∀ j,j < ops.size → listed.getD j true = true := by
    intro j
    induction j using Nat.strongRecOn with
    | _ j ih =>
     intro hj
     cases hc : listed.getD j true with
     | true => rfl
     | false =>
      have : j ∈ Region.ready md ops listed := mem_ready.2 ⟨hc,ops[j],Array.getElem?_eq_getElem hj,fun e he hb => by
       have hlt := tX hf (Array.getElem?_eq_getElem hj) (pQ.2 ⟨e,he,hb,rfl⟩)
       have := ih e.on hlt (by omega)
       simp only [Array.getD_eq_getD_getElem?] at this ⊢
       rw [Array.getElem?_eq_getElem (by omega)] at this ⊢
       simpa using this⟩
      rw [hr] at this
      cases this
   have xLd : ∀ j,j < ops.size → listed.getD j false = true := fun j hj => by
    have := hall j hj
    simp only [Array.getD_eq_getD_getElem?] at this ⊢
    rw [Array.getElem?_eq_getElem (by omega)] at this ⊢
    simpa using this
   have e : fill (fun j => listed.getD j false) (V α) ops.toList 0 a0 = fill (fun _ => true) (V α) ops.toList 0 a0 := uQ _ _ _ (fun n hn => by
    have hn' : n < ops.size := by simpa using hn
    rw [Nat.zero_add]
    exact xLd n hn') (fun _ _ _ => rfl)
   rw [e]
   exact hK α w (hE _ _ _ _ _ (fun e he => xLd e (hEl e he)) (fun _ _ _ => rfl) hw)
  induction fuel with
  | zero =>
   intro listed α w hsz hu hcl hw
   have hr : Region.ready md ops listed = [] := by
    cases hc : Region.ready md ops listed with
    | nil => rfl
    | cons j _ =>
     have hm : j ∈ Region.ready md ops listed := by rw [hc]; simp
     have := wE (mem_ready.1 hm).1
     omega
   exact ⟨hr,hfin listed α w hsz hw hr⟩
  | succ fuel ih =>
   intro listed α w hsz hu hcl hw
   refine ⟨hfin listed α w hsz hw,fun i hi => ?_⟩
   obtain ⟨hun,o,ho,xNe⟩ := mem_ready.1 hi
   have hilt : i < ops.size := (Array.getElem?_eq_some_iff.1 ho).1
   have hlf : listed.getD i false = false := by
    simp only [Array.getD_eq_getD_getElem?] at hun ⊢
    rw [Array.getElem?_eq_getElem (by omega)] at hun ⊢
    simpa using hun
   have hol : ops.toList[i]? = some o := by simpa using ho
   have hdone : ∀ j,j ∈ deps md o → listed.getD j false = true := fun j hj => by
    obtain ⟨e,he,hb,rfl⟩ := pQ.1 hj
    have hlt := tX hf ho hj
    have := xNe e he hb
    simp only [Array.getD_eq_getD_getElem?] at this ⊢
    rw [Array.getElem?_eq_getElem (by omega)] at this ⊢
    simpa using this
   have xH : closed ops md (fun j => j == i || listed.getD j false) := by
    intro j p hp hj m hm
    by_cases e : j = i
    ·subst e
     rw [ho] at hp
     injection hp with hp
     subst hp
     simp [hdone m hm]
    ·have hj' : listed.getD j false = true := by
      have e9 : (j == i) = false := by simpa using e
      simpa [e9] using hj
     have := hcl j p hp hj' m hm
     simp only [this,Bool.or_true]
   have hsz2 : ∀ β : Pl,(fill (fun j => listed.getD j false) (V β) ops.toList 0 a0).tmps.size = a0.tmps.size := fun _ => xB6 _ _ _
   have mv : ∀ {I : World → Prop} {v : Value},One P ops I o v a0.tmps.size (fill (fun j => decide (j < i)) (V α) ops.toList 0 a0) w → One P ops I o v a0.tmps.size (fill (fun j => listed.getD j false) (V α) ops.toList 0 a0) w := by
    intro I v h1
    refine h1.move (fun cs d => Region.noSelect_spec hs i o cs d ho) fun t ht => ?_
    refine tQ _ _ _ _ rfl rfl fun n p hp hd => ?_
    have hp' : ops[n]? = some p := by simpa using hp
    simp only [Nat.zero_add]
    by_cases hni : i = n
    ·subst hni
     rw [hlf]; simp
    ·have hn := (xBk hf ho hp' hni hd).2 ht
     have hlt := tX hf ho hn
     rw [hdone n hn]
     simpa using hlt
   have e3 : ∀ n,n < ops.size → (n == i || listed.getD n false) = (listed.setIfInBounds i true).getD n false := fun n hn => by
    by_cases hni : i = n
    ·subst hni
     simp only [BEq.rfl,Bool.true_or,Array.getD_eq_getD_getElem?]
     rw [Array.getElem?_setIfInBounds_self_of_lt (by omega)]
     rfl
    ·rw [getD_set_ne false hni]
     have : (n == i) = false := by simp; omega
     rw [this,Bool.false_or]
   have nxt : ∀ (β : Pl) (v : Value),V β i = v → (∀ n,n < ops.size → listed.getD n false = true → V β n = V α n) → (fill (fun j => listed.getD j false) (V α) ops.toList 0 a0).put o.dst v = fill (fun j => (listed.setIfInBounds i true).getD j false) (V β) ops.toList 0 a0 := by
    intro β v hv hsame
    have e0 : fill (fun j => listed.getD j false) (V α) ops.toList 0 a0 = fill (fun j => listed.getD j false) (V β) ops.toList 0 a0 := uQ _ _ _ (fun _ _ => rfl) (fun n hn hl => by
     have hn' : n < ops.size := by simpa using hn
     simp only [Nat.zero_add] at hl ⊢
     exact (hsame n hn' hl).symm)
    rw [e0]
    have e := xDd (L := fun j => listed.getD j false) (V := V β) (v := v) ops.toList 0 i o a0 hol (by rw [Nat.zero_add]; exact hlf) (fun m p e hp hne he => by
     have hp' : ops[m]? = some p := by simpa using hp
     exact (xBk hf hp' ho hne he).1)
    rw [e]
    refine uQ _ _ _ (fun n hn => ?_) (fun n hn _ => ?_)
    ·simp only [Nat.zero_add]
     exact e3 n (by simpa using hn)
    ·simp only [Nat.zero_add]
     split
     ·rename_i h; rw [h,hv]
     ·rfl
   have hun2 : jD (listed.setIfInBounds i true) = fuel := by have := wE hun; omega
   have hcl3 : closed ops md (fun j => (listed.setIfInBounds i true).getD j false) := by
    intro j p hp hj m hm
    have hjl : j < ops.size := (Array.getElem?_eq_some_iff.1 hp).1
    have hml : m < ops.size := Nat.lt_trans (tX hf hp hm) hjl
    have hj2 : (j == i || listed.getD j false) = true := (e3 j hjl).trans hj
    exact (e3 m hml).symm.trans (xH j p hp hj2 m hm)
   have h1 := hV i o hol α (fun j => listed.getD j false) w (by rw [Nat.zero_add]; exact hlf) hcl (by rw [Nat.zero_add]; exact xH) hw
   simp only [Nat.zero_add] at h1
   rcases h1 with ⟨hNi,b,h1⟩ | ⟨hNi,h1⟩
   ·have h2 := mv h1
    rw [← hsz2 α] at h2
    refine h2.wpOp ho fun w' hw' => ?_
    rw [nxt (xHb α i b) (ptr b) (by
     rcases hW i o hol with ⟨_,h⟩ | ⟨h,_⟩
     ·rw [Nat.zero_add] at h
      rw [h,xAx]
     ·rw [Nat.zero_add] at h
      rw [hNi] at h; cases h) (fun n hn hl => by
     obtain ⟨p,hp⟩ : ∃ p,ops.toList[n]? = some p := ⟨ops[n],by rw [Array.getElem?_toList,Array.getElem?_eq_getElem hn]⟩
     rcases hW n p hp with ⟨_,h⟩ | ⟨_,h | h⟩
     ·rw [Nat.zero_add] at h
      rw [h,h,xBg _ _ _ (fun e => by rw [e,hlf] at hl; cases hl)]
     ·have hin : i ∈ deps md p := by
       have := List.all_eq_true.1 h i (by simpa using hNi)
       simpa using this
      have hcl9 : listed.getD i false = true := hcl n p (by simpa using hp) hl i hin
      rw [hlf] at hcl9; cases hcl9
     ·rw [Nat.zero_add] at h
      exact h _ _)]
    refine ih _ _ w' (by simpa using hsz) hun2 hcl3 (hE _ _ _ _ _ (fun e he => e3 e (hEl e he)) (fun _ _ _ => rfl) hw')
   ·have h2 := mv h1
    rw [← hsz2 α] at h2
    refine h2.wpOp ho fun w' hw' => ?_
    rw [nxt α _ rfl (fun _ _ _ => rfl)]
    refine ih _ _ w' (by simpa using hsz) hun2 hcl3 (hE _ _ _ _ _ (fun e he => ?_) (fun _ _ _ => rfl) hw')
    rcases he with he | he
    ·rw [xCm (L' := fun j => listed.getD j false) (fun _ _ => rfl) e he]
     exact e3 e (hEl e (.inl he))
    ·have hne : e ≠ i := fun h => by rw [h] at he; have : N.contains i = true := by simpa using he
                                     rw [hNi] at this; cases this
     rw [← e3 e (hEl e (.inr he))]
     have h9 : (e == i) = false := by simpa using hne
     unfold upd
     split <;> simp [h9]
 have := main ops.size (Array.replicate ops.size false) α0 w0 (by simp) (by unfold jD; simp) (fun j p hp hj => by
  have hjl : j < ops.size := (Array.getElem?_eq_some_iff.1 hp).1
  simp [hjl] at hj) (hE _ _ _ _ _ (fun e he => by
  have := hEl e he
  simp [this]) (fun _ _ h => by cases h) hI)
 rw [kW _ _ _ (fun n hn => by
  have hn' : n < ops.size := by simpa using hn
  simp [hn'])] at this
 exact this
theorem zD {id : Nat} {l : List Oper} {a : Act} {w : World} (E N : List Nat) (J : (Nat → Bool) → Pl → World → Prop) (hE : ∀ L L' α α' w,(∀ e,e ∈ E ∨ e ∈ N → L e = L' e) → (∀ e ∈ N,L e = true → α e = α' e) → J L α w → J L' α' w) (hm : P.follows .mixedOrders = true) (hf : fits .any l.toArray = true) (hEl : ((E ++ N).all fun e => decide (e < l.length)) = true) (hI : J (fun _ => false) (fun _ => 0) w.drew)
  (h : rG P l.toArray .any E N J (fun α a => ∀ w,J (fun _ => true) α w → Q .normal a w) l 0 (fun _ => a)) : (Code.region id l.toArray true).wp P Q a w :=
 wp_region_any hm (xQc (fun _ => 0) hf hE (fun e he => by have := List.all_eq_true.1 hEl e (by simpa using he); simpa using this) hI (by simpa using h))
end
end Go.Proofs.RG
namespace Mailsack
def xOu (ws : List Int) (a b c d : Nat) (q : Q4) (f1 f2 f3 f4 : Bool) : List Int :=
 (List.range 16).map fun i => if f1 && i == a then q.a else if f2 && i == b then q.b else if f3 && i == c then q.c else if f4 && i == d then q.d else ws.getD i 0
def rJ (ws : List Int) (a b c d : Nat) : List Int := xOu ws a b c d (jX ⟨ws.getD a 0,ws.getD b 0,ws.getD c 0,ws.getD d 0⟩) true true true true
theorem kU (ws : List Int) (a b c d : Nat) (q : Q4) (f1 f2 f3 f4 : Bool) : (xOu ws a b c d q f1 f2 f3 f4).length = 16 := by simp [xOu]
theorem xFi (ws : List Int) (a b c d : Nat) (q : Q4) (f1 f2 f3 f4 : Bool) {i : Nat} (h : i < 16) : (xOu ws a b c d q f1 f2 f3 f4)[i]? = some (if f1 && i == a then q.a else if f2 && i == b then q.b else if f3 && i == c then q.c else if f4 && i == d then q.d else ws.getD i 0) := by
 unfold xOu
 rw [List.getElem?_map,List.getElem?_range h]
 rfl
theorem xL1 (ws : List Int) (a b c d : Nat) (q : Q4) (h : ws.length = 16) : xOu ws a b c d q false false false false = ws := by
 apply List.ext_getElem?
 intro i
 by_cases hi : i < 16
 ·rw [xFi _ _ _ _ _ _ _ _ _ _ hi]
  simp [List.getD_eq_getElem?_getD,List.getElem?_eq_getElem (show i < ws.length by omega)]
 ·rw [List.getElem?_eq_none (by rw [kU]; omega),List.getElem?_eq_none (by omega)]
theorem mixW_u {ws : List Int} (hw : jO ws) (a b c d : Nat) {q : Q4} (ha : U32 q.a) (hb : U32 q.b) (hc : U32 q.c) (hd : U32 q.d) (f1 f2 f3 f4 : Bool) : jO (xOu ws a b c d q f1 f2 f3 f4) := by
 intro i
 by_cases hi : i < 16
 ·rw [List.getD_eq_getElem?_getD,xFi _ _ _ _ _ _ _ _ _ _ hi]
  simp only [Option.getD_some]
  split
  ·exact ha
  ·split
   ·exact hb
   ·split
    ·exact hc
    ·split
     ·exact hd
     ·exact hw i
 ·rw [List.getD_eq_getElem?_getD,List.getElem?_eq_none (by rw [kU]; omega)]
  exact ⟨by decide,by decide⟩
theorem jM {ws : List Int} (hw : jO ws) (a b c d : Nat) : jO (rJ ws a b c d) := by
 have h := xHw ⟨ws.getD a 0,ws.getD b 0,ws.getD c 0,ws.getD d 0⟩
 exact mixW_u hw a b c d h.1 h.2.1 h.2.2.1 h.2.2.2 _ _ _ _
theorem kP (ws : List Int) (a b c d : Nat) : (rJ ws a b c d).length = 16 := kU _ _ _ _ _ _ _ _ _ _
theorem xJ0 {ws : List Int} {a b c d : Nat} {q : Q4} {f1 f2 f3 f4 g1 g2 g3 g4 : Bool} (p : Nat) (x : Int) (h : ∀ i,i < 16 → (if f1 && i == a then q.a else if f2 && i == b then q.b else if f3 && i == c then q.c else if f4 && i == d then q.d else ws.getD i 0) = if i = p then x else (if g1 && i == a then q.a else if g2 && i == b then q.b else if g3 && i == c then q.c else if g4 && i == d then q.d else ws.getD i 0)) : (xOu ws a b c d q g1 g2 g3 g4).set p x = xOu ws a b c d q f1 f2 f3 f4 := by
 apply List.ext_getElem?
 intro i
 rw [List.getElem?_set]
 by_cases hi : i < 16
 ·rw [xFi ws a b c d q f1 f2 f3 f4 hi,h i hi]
  by_cases e : p = i
  ·subst e
   simp [kU,hi]
  ·rw [if_neg e,if_neg (Ne.symm e),xFi _ _ _ _ _ _ _ _ _ _ hi]
 ·rw [List.getElem?_eq_none (l := xOu ws a b c d q f1 f2 f3 f4) (by rw [kU]; omega)]
  split
  ·rw [if_neg (by rw [kU]; omega)]
  ·rw [List.getElem?_eq_none (by rw [kU]; omega)]
end Mailsack
namespace Go.Proofs.SH
open Go.RowKit Mailsack MM BB
structure xSh (w : World) (g : Nat) (ws : List Int) (a b c d : Nat) (q : Q4) (f1 f2 f3 f4 : Bool) (W : World) : Prop where
 st : W.heap[g]? = some (.cells (yX (xOu ws a b c d q f1 f2 f3 f4)) 232 (0,0))
 grn : w.grownBy W (some g)
theorem xP9 {w W : World} {r : Option Nat} (h : w.grownBy W r) : w.grownBy W.drew r := ⟨h.os,h.tape,h.output,h.size,h.block⟩
theorem xV7 {w W : World} {g : Nat} (h : w.grownBy W (some g)) (i : Nat) (u : Value) : w.grownBy (W.setCell ⟨g,i,none⟩ u) (some g) :=
 ⟨h.os,h.tape,h.output,by simpa [World.setCell] using h.size,fun k hk hne => (Below.heap_setCell W ⟨g,i,none⟩ u k (fun e => hne (by rw [e]))).trans (h.block k hk hne)⟩
theorem xSh.cell {w : World} {g : Nat} {ws : List Int} {a b c d : Nat} {q : Q4} {W : World} (hl : ws.length = 16) (h : xSh w g ws a b c d q false false false false W) {i : Nat} (hi : i < 16) : W.cell? ⟨g,i,none⟩ = some (.int .u32 (ws.getD i 0)) := by
 have := h.st
 rw [xL1 _ _ _ _ _ _ hl] at this
 rw [xA this,uV (by omega)]
theorem xSh.put {w : World} {g : Nat} {ws : List Int} {a b c d : Nat} {q : Q4} {f1 f2 f3 f4 : Bool} {W : World} (h : xSh w g ws a b c d q f1 f2 f3 f4 W) (p : Nat) (x : Int) {g1 g2 g3 g4 : Bool} (he : (xOu ws a b c d q f1 f2 f3 f4).set p x = xOu ws a b c d q g1 g2 g3 g4) : xSh w g ws a b c d q g1 g2 g3 g4 (W.setCell ⟨g,p,none⟩ (.int .u32 x)) := by
 refine ⟨?_,xV7 h.grn _ _⟩
 have := yB h.st p (.int .u32 x)
 rw [xDe,he] at this
 exact this
theorem pJ (ws : List Int) (g a b c d : Nat) (w : World) (hg : w.heap[g]? = some (.cells (yX ws) 232 (0,0))) (hl : ws.length = 16) (hu : jO ws) (ha : a < 16) (hb : b < 16) (hc : c < 16) (hd : d < 16) (hne : a ≠ b ∧ a ≠ c ∧ a ≠ d ∧ b ≠ c ∧ b ≠ d ∧ c ≠ d) :
  Calls Tryz.prog 203 #[.pointer (some ⟨g,0,none⟩),.int .i64 a,.int .i64 b,.int .i64 c,.int .i64 d] w fun e w' => e = .returned (.tuple #[]) ∧ w'.heap[g]? = some (.cells (yX (rJ ws a b c d)) 232 (0,0)) ∧ w.grownBy w' (some g) := by
 have HQ := hI' (fun W => xMt (ws.getD a 0) (ws.getD b 0) (ws.getD c 0) (ws.getD d 0) W (hu a) (hu b) (hu c) (hu d))
 have HU := hI' (xHw ⟨ws.getD a 0,ws.getD b 0,ws.getD c 0,ws.getD d 0⟩)
 have HT : Hid (rJ ws a b c d = xOu ws a b c d (jX ⟨ws.getD a 0,ws.getD b 0,ws.getD c 0,ws.getD d 0⟩) true true true true) := hI' rfl
 generalize jX ⟨ws.getD a 0,ws.getD b 0,ws.getD c 0,ws.getD d 0⟩ = q at HQ HU HT
 obtain ⟨qa,qb,qc,qd⟩ := q
 have H0 : Hid (xSh w g ws a b c d ⟨qa,qb,qc,qd⟩ false false false false w) := hI' ⟨by rw [xL1 _ _ _ _ _ _ hl]; exact hg,⟨rfl,rfl,rfl,Nat.le_refl _,fun _ _ _ => rfl⟩⟩
 have HC : Hid (∀ W,xSh w g ws a b c d ⟨qa,qb,qc,qd⟩ false false false false W → ∀ i,i < 16 → W.cell? ⟨g,i,none⟩ = some (.int .u32 (ws.getD i 0))) := hI' (fun W h i hi => h.cell hl hi)
 obtain ⟨n1,n2,n3,n4,n5,n6⟩ := hne
 have HN := hI' (And.intro n1 (And.intro n2 (And.intro n3 (And.intro n4 (And.intro n5 n6)))))
 clear hg hl hu n1 n2 n3 n4 n5 n6
 go_enter Tryz.func203,Tryz.ntmps203
 go_upto_region 0 with fail
 refine RG.yN 46 (fun L W => Hid (xSh w g ws a b c d ⟨qa,qb,qc,qd⟩ (L 36) (L 39) (L 42) (L 45) W)) (fun L L' W h hI => by rw [← h 36 (by decide),← h 39 (by decide),← h 42 (by decide),← h 45 (by decide)]; exact hI) (by kernel_rfl) (by kernel_rfl) rfl (hI' ⟨H0.out.st,xP9 H0.out.grn⟩) ?_
 iterate 12
  apply RG.xJ
  ·rfl
  ·rfl
  ·intro L w9 h0 hcl xH hw9
   repeat go_step
   with_reducible refine RG.xB ?_
   exact ⟨xH,hw9⟩
  ·rfl
 apply RG.xJ
 ·rfl
 ·rfl
 ·intro L w9 h0 hcl xH hw9
  have e1 := hcl.not 6 (i := 36) h0 (by kernel_rfl)
  have e2 := hcl.not 6 (i := 39) h0 (by kernel_rfl)
  have e3 := hcl.not 6 (i := 42) h0 (by kernel_rfl)
  have e4 := hcl.not 6 (i := 45) h0 (by kernel_rfl)
  have hs := hw9.out
  rw [e1,e2,e3,e4] at hs
  have q := HC.out w9 hs a ha
  clear e1 e2 e3 e4 hs
  repeat go_step
  with_reducible refine RG.xB ?_
  exact ⟨xH,hw9⟩
 ·rfl
 iterate 4
  apply RG.xJ
  ·rfl
  ·rfl
  ·intro L w9 h0 hcl xH hw9
   repeat go_step
   with_reducible refine RG.xB ?_
   exact ⟨xH,hw9⟩
  ·rfl
 apply RG.xJ
 ·rfl
 ·rfl
 ·intro L w9 h0 hcl xH hw9
  have e1 := hcl.not 6 (i := 36) h0 (by kernel_rfl)
  have e2 := hcl.not 6 (i := 39) h0 (by kernel_rfl)
  have e3 := hcl.not 6 (i := 42) h0 (by kernel_rfl)
  have e4 := hcl.not 6 (i := 45) h0 (by kernel_rfl)
  have hs := hw9.out
  rw [e1,e2,e3,e4] at hs
  have q := HC.out w9 hs b hb
  clear e1 e2 e3 e4 hs
  repeat go_step
  with_reducible refine RG.xB ?_
  exact ⟨xH,hw9⟩
 ·rfl
 iterate 4
  apply RG.xJ
  ·rfl
  ·rfl
  ·intro L w9 h0 hcl xH hw9
   repeat go_step
   with_reducible refine RG.xB ?_
   exact ⟨xH,hw9⟩
  ·rfl
 apply RG.xJ
 ·rfl
 ·rfl
 ·intro L w9 h0 hcl xH hw9
  have e1 := hcl.not 6 (i := 36) h0 (by kernel_rfl)
  have e2 := hcl.not 6 (i := 39) h0 (by kernel_rfl)
  have e3 := hcl.not 6 (i := 42) h0 (by kernel_rfl)
  have e4 := hcl.not 6 (i := 45) h0 (by kernel_rfl)
  have hs := hw9.out
  rw [e1,e2,e3,e4] at hs
  have q := HC.out w9 hs c hc
  clear e1 e2 e3 e4 hs
  repeat go_step
  with_reducible refine RG.xB ?_
  exact ⟨xH,hw9⟩
 ·rfl
 iterate 4
  apply RG.xJ
  ·rfl
  ·rfl
  ·intro L w9 h0 hcl xH hw9
   repeat go_step
   with_reducible refine RG.xB ?_
   exact ⟨xH,hw9⟩
  ·rfl
 apply RG.xJ
 ·rfl
 ·rfl
 ·intro L w9 h0 hcl xH hw9
  have e1 := hcl.not 6 (i := 36) h0 (by kernel_rfl)
  have e2 := hcl.not 6 (i := 39) h0 (by kernel_rfl)
  have e3 := hcl.not 6 (i := 42) h0 (by kernel_rfl)
  have e4 := hcl.not 6 (i := 45) h0 (by kernel_rfl)
  have hs := hw9.out
  rw [e1,e2,e3,e4] at hs
  have q := HC.out w9 hs d hd
  clear e1 e2 e3 e4 hs
  repeat go_step
  with_reducible refine RG.xB ?_
  exact ⟨xH,hw9⟩
 ·rfl
 apply RG.xJ
 ·rfl
 ·rfl
 ·intro L w9 h0 hcl xH hw9
  repeat go_step
  refine (HQ.out _).mono ?_
  rintro e w10 ⟨rfl,rfl⟩
  simp only []
  repeat go_step
  with_reducible refine RG.xB ?_
  exact ⟨xH,hw9⟩
 ·rfl
 iterate 7
  apply RG.xJ
  ·rfl
  ·rfl
  ·intro L w9 h0 hcl xH hw9
   repeat go_step
   with_reducible refine RG.xB ?_
   exact ⟨xH,hw9⟩
  ·rfl
 apply RG.xJ
 ·rfl
 ·rfl
 ·intro L w9 h0 hcl xH hw9
  have q1 := xA hw9.out.st a
  rw [uV (by rw [kU]; exact ha)] at q1
  have q2 := xK hw9.out.st a
  have hp := hI' (hw9.out.put a qa (xJ0 a qa (f1 := true) (f2 := (L 39)) (f3 := (L 42)) (f4 := (L 45)) (fun i _ => by
   by_cases e : i = a
   ·subst e
    simp
   ·simp [e])))
  generalize List.getD _ a 0 = old at q1
  repeat go_step
  with_reducible refine RG.xB ?_
  refine ⟨xH,?_⟩
  show Hid (xSh w g ws a b c d ⟨qa,qb,qc,qd⟩ true (L 39) (L 42) (L 45) _)
  with_reducible exact hp
 ·rfl
 iterate 2
  apply RG.xJ
  ·rfl
  ·rfl
  ·intro L w9 h0 hcl xH hw9
   repeat go_step
   with_reducible refine RG.xB ?_
   exact ⟨xH,hw9⟩
  ·rfl
 apply RG.xJ
 ·rfl
 ·rfl
 ·intro L w9 h0 hcl xH hw9
  have q1 := xA hw9.out.st b
  rw [uV (by rw [kU]; exact hb)] at q1
  have q2 := xK hw9.out.st b
  have hp := hI' (hw9.out.put b qb (xJ0 b qb (f1 := (L 36)) (f2 := true) (f3 := (L 42)) (f4 := (L 45)) (fun i _ => by
   obtain ⟨n1,_⟩ := HN.out
   by_cases e : i = b
   ·subst e
    simp [Ne.symm n1]
   ·simp [e])))
  generalize List.getD _ b 0 = old at q1
  repeat go_step
  with_reducible refine RG.xB ?_
  refine ⟨xH,?_⟩
  show Hid (xSh w g ws a b c d ⟨qa,qb,qc,qd⟩ (L 36) true (L 42) (L 45) _)
  with_reducible exact hp
 ·rfl
 iterate 2
  apply RG.xJ
  ·rfl
  ·rfl
  ·intro L w9 h0 hcl xH hw9
   repeat go_step
   with_reducible refine RG.xB ?_
   exact ⟨xH,hw9⟩
  ·rfl
 apply RG.xJ
 ·rfl
 ·rfl
 ·intro L w9 h0 hcl xH hw9
  have q1 := xA hw9.out.st c
  rw [uV (by rw [kU]; exact hc)] at q1
  have q2 := xK hw9.out.st c
  have hp := hI' (hw9.out.put c qc (xJ0 c qc (f1 := (L 36)) (f2 := (L 39)) (f3 := true) (f4 := (L 45)) (fun i _ => by
   obtain ⟨_,n2,_,n4,_⟩ := HN.out
   by_cases e : i = c
   ·subst e
    simp [Ne.symm n2,Ne.symm n4]
   ·simp [e])))
  generalize List.getD _ c 0 = old at q1
  repeat go_step
  with_reducible refine RG.xB ?_
  refine ⟨xH,?_⟩
  show Hid (xSh w g ws a b c d ⟨qa,qb,qc,qd⟩ (L 36) (L 39) true (L 45) _)
  with_reducible exact hp
 ·rfl
 iterate 2
  apply RG.xJ
  ·rfl
  ·rfl
  ·intro L w9 h0 hcl xH hw9
   repeat go_step
   with_reducible refine RG.xB ?_
   exact ⟨xH,hw9⟩
  ·rfl
 apply RG.xJ
 ·rfl
 ·rfl
 ·intro L w9 h0 hcl xH hw9
  have q1 := xA hw9.out.st d
  rw [uV (by rw [kU]; exact hd)] at q1
  have q2 := xK hw9.out.st d
  have hp := hI' (hw9.out.put d qd (xJ0 d qd (f1 := (L 36)) (f2 := (L 39)) (f3 := (L 42)) (f4 := true) (fun i _ => by
   obtain ⟨_,_,n3,_,n5,n6⟩ := HN.out
   by_cases e : i = d
   ·subst e
    simp [Ne.symm n3,Ne.symm n5,Ne.symm n6]
   ·simp [e])))
  generalize List.getD _ d 0 = old at q1
  repeat go_step
  with_reducible refine RG.xB ?_
  refine ⟨xH,?_⟩
  show Hid (xSh w g ws a b c d ⟨qa,qb,qc,qd⟩ (L 36) (L 39) (L 42) true _)
  with_reducible exact hp
 ·rfl
 refine RG.yP (fun w9 hw9 => ?_)
 go_end0
 rw [HT.out]
 exact ⟨rfl,hw9.out.st,hw9.out.grn⟩
end Go.Proofs.SH
