/- Contracts of functions of the program. Conditions: those that each theorem states. -/
import Derived.Test.YtnaiekglbemhcaaGreatDoorVaultFreshProofB14
import Derived.Test.YtnaiekglbemhcaaGreatDoorVaultFreshProofB06
set_option maxHeartbeats 8000000
set_option maxRecDepth 100000
namespace Go.Proofs.DS
open Go.RowKit Mailsack MM BB SH SV RK BU
theorem xMy (va vb lv : Value) (d : Dk) (l : List Wr) (w : World) (h : RdD w w.heap.size va vb d) (hl : RdW w w.heap.size lv l) (hll : l.length ≤ 100000) (hT : vT w) :
  Calls Tryz.prog 15 #[.agg #[va,vb],lv] w fun e w' => ∃ ov,e = .returned (.tuple #[ov,.int .i64 (vI d l)]) ∧ RdR 3 opF w' w'.heap.size ov (if vI d l = 0 then kF l else []) ∧ Below w.heap.size w w' := by
 by_cases hs : rM d = false ∨ l.length = 0
 ·refine (xTz va vb lv d l w h hl hs).mono ?_
  rintro e w' ⟨rfl,hb⟩
  exact ⟨_,by rw [xHy hs],by rw [xHy hs,if_neg (by omega)]; exact RdR.xOp _ _,hb⟩
 ·have h1 : rM d = true := by
   cases e : rM d with
   | true => rfl
   | false => exact absurd (.inl e) hs
  exact xXg va vb lv d l w h hl hll h1 (fun e => hs (.inr e)) hT
theorem xMx {d : Dk} {l : List Wr} (h : vI d l = 0) : (kF l).length ≤ 100 := by
 have : l.length ≤ 30 := by
  unfold vI at h
  split at h
  ·omega
  ·split at h
   ·omega
   ·split at h <;> omega
 unfold kF
 simp [xFm]
 omega
structure CmM (w : World) (va vb : Value) (D : Dk) (W : World) : Prop where
 d : W.heap[w.heap.size]? = some (yD va vb)
 o : W.heap[w.heap.size + 1]? = some (yD (.slice none 0 0) (.slice none 0 0))
 rd : RdD W W.heap.size va vb D
 bel : Below w.heap.size w W
theorem CmM.below {w W W' : World} {va vb : Value} {D : Dk} (h : CmM w va vb D W) (hb : Below W.heap.size W W') : CmM w va vb D W' :=
 ⟨xE h.d hb (xI h.d),xE h.o hb (xI h.o),(h.rd.below hb (Nat.le_refl _)).more hb.size,h.bel.trans (hb.mono h.bel.size)⟩
theorem xRu (va vb lv : Value) (d : Dk) (l : List Wr) (w : World) (h : RdD w w.heap.size va vb d) (hl : RdW w w.heap.size lv l) (hll : l.length ≤ 100000) (hc : d.cache.length ≤ 10000) (hT : vT w) :
  Calls Tryz.prog 61 #[.agg #[va,vb],lv] w fun e w' => ∃ va' vb',e = .returned (.tuple #[.agg #[va',vb'],.int .i64 (vI d l)]) ∧ RdD w' w'.heap.size va' vb' (xBc d l) ∧ Below w.heap.size w w' := by
 obtain ⟨A1,c1,A2,c2,rfl,rfl⟩ := yH h
 obtain ⟨A3,c3,rfl,hc3,hl3⟩ := id hl
 have H0 : Hid (CmM w (.slice A1 d.secs.length c1) (.slice A2 d.cache.length c2) d ((w.alloc (yD (.slice A1 d.secs.length c1) (.slice A2 d.cache.length c2))).alloc (yD (.slice none 0 0) (.slice none 0 0)))) := hI' (by
  have hb := ((Below.refl w.heap.size w).alloc (Nat.le_refl _) (yD (.slice A1 d.secs.length c1) (.slice A2 d.cache.length c2))).alloc (by simp) (yD (.slice none 0 0) (.slice none 0 0))
  exact ⟨zQ _ _ _,zM _ _ _,(h.below hb (Nat.le_refl _)).more hb.size,hb⟩)
 have HP := hI' (xMy _ _ (.slice A3 l.length c3) d l _ H0.out.rd ((hl.below H0.out.bel (Nat.le_refl _)).more H0.out.bel.size) hll (hT.below H0.out.bel (Nat.le_refl _)))
 have HCV : Hid (xBc d l = if vI d l = 0 then vL d (kF l) else ⟨[],[]⟩) := hI' rfl
 have HOL : Hid (vI d l = 0 → (kF l).length ≤ 100) := hI' xMx
 have HC := hI' hc
 obtain ⟨cm,hcm⟩ : ∃ c,xBc d l = c := ⟨_,rfl⟩
 rw [hcm] at HCV ⊢
 clear h hl hl3 hc3 hc hcm hll
 by_cases h0 : vI d l = 0
 ·rw [h0,if_pos rfl] at HP
  rw [h0,if_pos rfl] at HCV
  rw [h0]
  have HOL2 := hI' (HOL.out h0)
  clear h0 HOL
  go_enter Tryz.func61,Tryz.ntmps61
  go_upto_region 1 with fail
  generalize (w.alloc (yD (.slice A1 d.secs.length c1) (.slice A2 d.cache.length c2))).alloc (yD (.slice none 0 0) (.slice none 0 0)) = w1 at H0 HP ⊢
  obtain ⟨d0,d1⟩ := uG H0.out.d
  go_wp2_with fail
  refine HP.out.mono ?_
  rintro e w2 ⟨ov,rfl,hro,hb⟩
  obtain ⟨A4,c4,rfl,hc4,ho4⟩ := id hro
  have H2 := hI' (H0.out.below hb)
  have HRO := hI' hro
  clear hb H0 HP d0 d1 hro ho4 hc4
  have HR := hI' (yAh _ _ (.slice A4 (kF l).length c4) d (kF l) ((kF l).length : Int) w2 H2.out.rd HRO.out (by have := HC.out; have := HOL2.out; omega))
  rw [Int.toNat_natCast,List.take_length] at HR
  rw [← HCV.out] at HR
  obtain ⟨d0,d1⟩ := uG H2.out.d
  go_upto_region 4 with fail
  go_wp2_with fail
  refine HR.out.mono ?_
  rintro e w3 ⟨ua,ub,rfl,hr,hb⟩
  obtain ⟨A5,c5,A6,c6,rfl,rfl⟩ := yH hr
  have H3 := hI' (H2.out.below hb)
  have HRR := hI' hr
  clear hr hb H2 HR HRO d0 d1
  have hRD : RdD ((w3.setCell ⟨w.heap.size + 1,0,none⟩ (.slice A5 cm.secs.length c5)).setCell ⟨w.heap.size + 1,1,none⟩ (.slice A6 cm.cache.length c6)) w3.heap.size (.slice A5 cm.secs.length c5) (.slice A6 cm.cache.length c6) cm := by
   have e0 := yB H3.out.o 0 (.slice A5 cm.secs.length c5)
   simp only [List.setIfInBounds_toArray,List.set_cons_zero] at e0
   exact RdD.far (RdD.far HRR.out (p := ⟨w.heap.size + 1,0,none⟩) (vP H3.out.o) _) (p := ⟨w.heap.size + 1,1,none⟩) (vP e0) _
  have HRD := hI' hRD
  clear hRD
  obtain ⟨o0,y0,f0,o1,y1,f1,HB⟩ := xNv H3.out.o H3.out.bel (by omega) (.slice A5 cm.secs.length c5) (.slice A6 cm.cache.length c6) _ rfl
  clear H3 HRR
  go_wp2
  refine bodyPost_ret (v := .tuple #[.agg #[.slice A5 cm.secs.length c5,.slice A6 cm.cache.length c6],.int .i64 0]) (by simp [results,Tryz.results61,go_sem,f0,f1]) rfl ?_
  exact ⟨_,_,rfl,by simpa [size_set] using HRD.out,HB.out⟩
 ·rw [if_neg h0] at HP HCV
  obtain ⟨pe,hpe⟩ : ∃ pe,vI d l = pe := ⟨_,rfl⟩
  rw [hpe] at HP h0 ⊢
  have h0b : (pe == 0) = false := by simpa using h0
  have h0c : (pe != 0) = true := by simpa using h0
  clear hpe HOL
  go_enter Tryz.func61,Tryz.ntmps61
  go_upto_region 1 with fail
  generalize (w.alloc (yD (.slice A1 d.secs.length c1) (.slice A2 d.cache.length c2))).alloc (yD (.slice none 0 0) (.slice none 0 0)) = w1 at H0 HP ⊢
  obtain ⟨d0,d1⟩ := uG H0.out.d
  go_wp2_with fail
  refine HP.out.mono ?_
  rintro e w2 ⟨ov,rfl,hro,hb⟩
  have H2 := hI' (H0.out.below hb)
  clear hb H0 HP d0 d1 hro
  obtain ⟨o0,y0,f0,o1,y1,f1,HB⟩ := xNv H2.out.o H2.out.bel (by omega) (.slice none 0 0) (.slice none 0 0) _ rfl
  clear H2
  go_wp2
  refine bodyPost_ret (v := .tuple #[.agg #[.slice none 0 0,.slice none 0 0],.int .i64 pe]) (by simp [results,Tryz.results61,go_sem,f0,f1]) rfl ?_
  refine ⟨_,_,rfl,?_,HB.out⟩
  rw [HCV.out]
  exact ⟨⟨_,_,rfl,Nat.le_refl _,fun h => by simp at h⟩,RdW.xOp _ _,by simp,by simp⟩
end Go.Proofs.DS
namespace Mailsack
def vH (S : List Bs) (x : Wr) : List Bs := S.set x.at_.toNat x.data
def zJ (S : List Bs) (C : List Wr) : List Bs := C.foldl vH S
theorem wP : ∀ (C : List Wr) (S : List Bs),(zJ S C).length = S.length
 | [],_ => rfl
 | x :: C,S => by
  show (zJ (vH S x) C).length = _
  rw [wP C,vH,List.length_set]
theorem kY (S : List Bs) (A B : List Wr) : zJ S (A ++ B) = zJ (zJ S A) B := by unfold zJ; rw [List.foldl_append]
theorem xHz (C : List Wr) (S : List Bs) : ∀ k,k ≤ C.length → rP (fun _ => true) C S k = zJ S (C.take k)
 | 0,_ => rfl
 | k + 1,h => by
  unfold rP
  rw [if_pos rfl,xHz C S k (by omega),List.take_add_one,List.getElem?_eq_getElem (by omega),kY]
  show _ = vH _ _
  rw [wrD,List.getD_eq_getElem?_getD,List.getElem?_eq_getElem (by omega)]
  rfl
theorem rR {d : Dk} (h : zC d = true) : xY d = ⟨zJ d.secs d.cache,[]⟩ := by
 unfold xY
 rw [if_pos h,xHz _ _ _ (Nat.le_refl _),List.take_length]
theorem xAw {d : Dk} : zC d = true ↔ 1 ≤ d.secs.length ∧ d.secs.length ≤ 1024 ∧ (∀ s ∈ d.secs,s.length = 64) ∧ ∀ x ∈ d.cache,vU x d.secs.length = true := by
 unfold zC
 simp only [Bool.and_eq_true,decide_eq_true_eq,List.all_eq_true,and_assoc]
theorem xDb {x : Wr} {n : Nat} : vU x n = true ↔ 0 ≤ x.at_ ∧ x.at_ < n ∧ x.data.length = 64 := by
 unfold vU
 simp only [Bool.and_eq_true,decide_eq_true_eq,and_assoc]
theorem xQu {d : Dk} {x : Wr} (h : zC d = true) (hx : vU x d.secs.length = true) : zC (xS8 d x) = true := by
 rw [xAw] at h ⊢
 obtain ⟨h1,h2,h3,h4⟩ := h
 refine ⟨h1,h2,h3,fun y hy => ?_⟩
 rcases List.mem_append.1 hy with hy | hy
 ·exact h4 y hy
 ·rw [List.mem_singleton.1 hy]; exact hx
theorem xLx : ∀ (C : List Wr) (S : List Bs),(∀ s ∈ S,s.length = 64) → (∀ x ∈ C,x.data.length = 64) → ∀ s ∈ zJ S C,s.length = 64
 | [],_,h,_ => h
 | x :: C,S,h,hc => by
  refine xLx C (vH S x) (fun s hs => ?_) (fun y hy => hc y (List.mem_cons_of_mem _ hy))
  rcases List.mem_or_eq_of_mem_set hs with hs | rfl
  ·exact h s hs
  ·exact hc x (List.mem_cons_self ..)
theorem xA5 {d : Dk} (h : zC d = true) : zC (xY d) = true := by
 rw [rR h]
 rw [xAw] at h ⊢
 obtain ⟨h1,h2,h3,h4⟩ := h
 refine ⟨by rw [wP]; exact h1,by rw [wP]; exact h2,xLx _ _ h3 (fun x hx => (xDb.1 (h4 x hx)).2.2),by simp⟩
theorem xBj {d : Dk} (h : zC d = true) : (xY d).secs.length = d.secs.length := by rw [rR h,wP]
theorem xEd {d : Dk} (h : d.cache = []) : xY d = d := by
 unfold xY
 obtain ⟨S,C⟩ := d
 simp only at h
 subst h
 split <;> rfl
def oW (x : Wr) : Op := ⟨false,x⟩
theorem xA4 (d : Dk) (A B : List Op) : vL d (A ++ B) = vL (vL d A) B := by unfold vL; rw [List.foldl_append]
theorem xTj (d : Dk) (A B C D : List Op) : vL d (A ++ B ++ C ++ D) = vL (vL (vL (vL d A) B) C) D := by rw [xA4 d (A ++ B ++ C),xA4 d (A ++ B),xA4 d A]
theorem xG4 : ∀ (l : List Wr) (d : Dk),zC d = true → (∀ x ∈ l,vU x d.secs.length = true) → vL d (l.map oW) = ⟨d.secs,d.cache ++ l⟩ ∧ zC ⟨d.secs,d.cache ++ l⟩ = true
 | [],d,h,_ => by simp [vL]; exact h
 | x :: l,d,h,hl => by
  have hx := hl x (List.mem_cons_self ..)
  have hp := xQu h hx
  have ih := xG4 l (xS8 d x) hp (fun y hy => hl y (List.mem_cons_of_mem _ hy))
  have hs : qH d (oW x) = xS8 d x := by
   unfold qH oW
   rw [if_neg (by simp)]
   simp only
   rw [h,hx]
   rfl
  show vL (qH d (oW x)) (l.map oW) = _ ∧ _
  rw [hs]
  simpa [xS8] using ih
theorem pK (l : List Wr) (d : Dk) (h : zC d = true) (hl : ∀ x ∈ l,vU x d.secs.length = true) :
  vL d (l.map oW ++ [fOp]) = ⟨zJ d.secs (d.cache ++ l),[]⟩ ∧ zC ⟨zJ d.secs (d.cache ++ l),[]⟩ = true := by
 obtain ⟨h1,h2⟩ := xG4 l d h hl
 rw [xA4,h1]
 have h3 : vL ⟨d.secs,d.cache ++ l⟩ [fOp] = xY ⟨d.secs,d.cache ++ l⟩ := rfl
 rw [h3,rR h2]
 refine ⟨rfl,?_⟩
 have := xA5 h2
 rw [rR h2] at this
 exact this
def jW : Nat → List Wr → List Wr
 | _,[] => []
 | i,x :: l => ⟨1 + 2 * (i : Int),xF7 x.at_⟩ :: ⟨2 + 2 * (i : Int),x.data⟩ :: jW (i + 1) l
theorem xUr : ∀ (l : List Wr) (i : Nat),qL i l = (jW i l).map oW
 | [],_ => rfl
 | x :: l,i => by simp [qL,jW,xUr l,wOp,oW]
theorem xZh : ∀ (l : List Wr) (i : Nat) (x : Wr),(∀ y ∈ l,y.data.length = 64) → x ∈ jW i l → 1 ≤ x.at_ ∧ x.at_ ≤ 2 * ((i + l.length : Nat) : Int) ∧ x.data.length = 64
 | [],_,_,_,h => by simp [jW] at h
 | y :: l,i,x,hl,h => by
  simp only [jW,List.mem_cons] at h
  simp only [List.length_cons]
  rcases h with rfl | rfl | h
  ·exact ⟨by simp; omega,by simp; omega,xGq _⟩
  ·exact ⟨by simp; omega,by simp; omega,hl y (List.mem_cons_self ..)⟩
  ·have := xZh l (i + 1) x (fun z hz => hl z (List.mem_cons_of_mem _ hz)) h
   refine ⟨this.1,?_,this.2.2⟩
   have h2 := this.2.1
   omega
theorem xXh {d : Dk} {l : List Wr} (h : vI d l = 0) : 61 < d.secs.length ∧ zC d = true ∧ l.length ≤ 30 ∧ ∀ x ∈ l,61 ≤ x.at_ ∧ x.at_ < d.secs.length ∧ x.data.length = 64 := by
 unfold vI at h
 by_cases h1 : rM d = false ∨ l.length = 0
 ·rw [if_pos h1] at h; omega
 ·rw [if_neg h1] at h
  by_cases h2 : l.all (xCc d.secs.length) = false
  ·rw [if_pos h2] at h; omega
  ·rw [if_neg h2] at h
   by_cases h3 : 30 < l.length
   ·rw [if_pos h3] at h; omega
   ·simp only [not_or,Bool.not_eq_false] at h1
    have hs := h1.1
    unfold rM at hs
    simp only [Bool.and_eq_true,decide_eq_true_eq] at hs
    refine ⟨hs.1,hs.2,by omega,fun x hx => ?_⟩
    have h4 := List.all_eq_true.1 (show l.all (xCc d.secs.length) = true by simpa using h2) x hx
    unfold xCc at h4
    simp only [Bool.and_eq_true,decide_eq_true_eq] at h4
    exact ⟨h4.1.1,h4.1.2,h4.2⟩
theorem kJ : ∀ (C : List Wr) (S : List Bs) (i : Nat),(∀ x ∈ C,x.at_.toNat ≠ i) → (zJ S C)[i]? = S[i]?
 | [],_,_,_ => rfl
 | x :: C,S,i,h => by
  show (zJ (vH S x) C)[i]? = _
  rw [kJ C (vH S x) i (fun y hy => h y (List.mem_cons_of_mem _ hy)),vH,List.getElem?_set_ne (h x (List.mem_cons_self ..))]
theorem xF4 : ∀ (C : List Wr) (S T : List Bs) (i : Nat),S.length = T.length → S[i]? = T[i]? → (zJ S C)[i]? = (zJ T C)[i]?
 | [],_,_,_,_,h => h
 | x :: C,S,T,i,hl,h => by
  refine xF4 C (vH S x) (vH T x) i (by simp [vH,hl]) ?_
  unfold vH
  rw [List.getElem?_set,List.getElem?_set,hl,h]
theorem xRt {d : Dk} {l : List Wr} (h : vI d l = 0) : ∃ S',xBc d l = ⟨S',[]⟩ ∧ zC ⟨S',[]⟩ = true ∧ S'.length = d.secs.length ∧ S'[0]? = some (xQ 64) ∧ ∀ i,61 ≤ i → S'[i]? = (zJ (xY d).secs l)[i]? := by
 obtain ⟨h61,hr,h30,hall⟩ := xXh h
 have hj := xZh l 0
 have hn := (xAw.1 hr).2.1
 have e0 : kF l = (jW 0 l).map oW ++ [fOp] ++ ([(⟨0,xD8 l.length (qN l)⟩ : Wr)].map oW ++ [fOp]) ++ (l.map oW ++ [fOp]) ++ ([(⟨0,xQ 64⟩ : Wr)].map oW ++ [fOp]) := by
  unfold kF
  rw [xUr]
  simp [oW,wOp]
 have f1 : ∀ x ∈ jW 0 l,vU x d.secs.length = true := fun x hx => by
  obtain ⟨a1,a2,a3⟩ := hj x (fun y hy => (hall y hy).2.2) hx
  exact xDb.2 ⟨by omega,by omega,a3⟩
 obtain ⟨r1,r2⟩ := pK (jW 0 l) d hr f1
 have l1 := wP (d.cache ++ jW 0 l) d.secs
 have f2 : ∀ x ∈ [(⟨0,xD8 l.length (qN l)⟩ : Wr)],vU x (zJ d.secs (d.cache ++ jW 0 l)).length = true := fun x hx => by
  rw [List.mem_singleton.1 hx,l1]
  exact xDb.2 ⟨by simp,by simp; omega,xV4 _ _⟩
 obtain ⟨r3,r4⟩ := pK _ ⟨zJ d.secs (d.cache ++ jW 0 l),[]⟩ r2 f2
 simp only [List.nil_append] at r3 r4
 have l2 := wP [(⟨0,xD8 l.length (qN l)⟩ : Wr)] (zJ d.secs (d.cache ++ jW 0 l))
 have f3 : ∀ x ∈ l,vU x (zJ (zJ d.secs (d.cache ++ jW 0 l)) [(⟨0,xD8 l.length (qN l)⟩ : Wr)]).length = true := fun x hx => by
  obtain ⟨a1,a2,a3⟩ := hall x hx
  rw [l2,l1]
  exact xDb.2 ⟨by omega,a2,a3⟩
 obtain ⟨r5,r6⟩ := pK l ⟨_,[]⟩ r4 f3
 simp only [List.nil_append] at r5 r6
 have l3 := wP l (zJ (zJ d.secs (d.cache ++ jW 0 l)) [(⟨0,xD8 l.length (qN l)⟩ : Wr)])
 have f4 : ∀ x ∈ [(⟨0,xQ 64⟩ : Wr)],vU x (zJ (zJ (zJ d.secs (d.cache ++ jW 0 l)) [(⟨0,xD8 l.length (qN l)⟩ : Wr)]) l).length = true := fun x hx => by
  rw [List.mem_singleton.1 hx,l3,l2,l1]
  exact xDb.2 ⟨by simp,by simp; omega,yT _⟩
 obtain ⟨r7,r8⟩ := pK _ ⟨_,[]⟩ r6 f4
 simp only [List.nil_append] at r7 r8
 refine ⟨_,?_,r8,?_,?_,fun i hi => ?_⟩
 ·unfold xBc
  rw [if_pos h,e0,xTj,r1,r3,r5,r7]
 ·rw [wP,l3,l2,l1]
 ·show (vH _ _)[0]? = _
  unfold vH
  exact List.getElem?_set_self (by simp only [Int.toNat_zero]; rw [l3,l2,l1]; omega)
 ·rw [kJ [(⟨0,xQ 64⟩ : Wr)] _ i (fun x hx => by rw [List.mem_singleton.1 hx]; simp; omega)]
  refine xF4 l _ _ i (by rw [l2,l1,xBj hr]) ?_
  rw [kJ [(⟨0,xD8 l.length (qN l)⟩ : Wr)] _ i (fun x hx => by rw [List.mem_singleton.1 hx]; simp; omega),kY,rR hr]
  exact kJ _ _ i (fun x hx => by
   obtain ⟨a1,a2,a3⟩ := hj x (fun y hy => (hall y hy).2.2) hx
   omega)
end Mailsack
namespace Mailsack
theorem qE {α : Type} (p : α → Bool) : ∀ (l : List α),(xP8 p l = -1 ∧ ∀ x ∈ l,p x = false) ∨ ∃ (i : Nat) (x : α),xP8 p l = i ∧ l[i]? = some x ∧ p x = true ∧ ∀ (j : Nat) y,j < i → l[j]? = some y → p y = false
 | [] => .inl ⟨rfl,by simp⟩
 | x :: l => by
  unfold xP8
  cases hx : p x with
  | true => exact .inr ⟨0,x,by simp,rfl,hx,fun j y hj => by omega⟩
  | false =>
   rw [if_neg (by simp)]
   rcases qE p l with ⟨h,ha⟩ | ⟨i,y,h,h1,h2,h3⟩
   ·refine .inl ⟨by rw [h]; rfl,fun z hz => ?_⟩
    rcases List.mem_cons.1 hz with rfl | hz
    ·exact hx
    ·exact ha z hz
   ·refine .inr ⟨i + 1,y,by rw [h,if_neg (by omega)]; rfl,by simpa using h1,h2,fun j z hj hz => ?_⟩
    cases j with
    | zero => simp at hz; subst hz; exact hx
    | succ j => exact h3 j z (by omega) (by simpa using hz)
theorem yBe {α : Type} {p : α → Bool} {l : List α} {i : Nat} {x : α} (h1 : l[i]? = some x) (h2 : p x = true) (h3 : ∀ (j : Nat) y,j < i → l[j]? = some y → p y = false) : xP8 p l = i := by
 rcases qE p l with ⟨_,ha⟩ | ⟨k,y,h,k1,k2,k3⟩
 ·rw [ha x (List.mem_of_getElem? h1)] at h2; cases h2
 ·rw [h]
  rcases Nat.lt_trichotomy k i with hlt | rfl | hlt
  ·rw [h3 k y hlt k1] at k2; cases k2
  ·rfl
  ·rw [k3 i x hlt h1] at h2; cases h2
theorem xV0 {α : Type} {p : α → Bool} {l : List α} (h : ∀ x ∈ l,p x = false) : xP8 p l = -1 := by
 rcases qE p l with ⟨h1,_⟩ | ⟨k,y,_,k1,k2,_⟩
 ·exact h1
 ·rw [h y (List.mem_of_getElem? k1)] at k2; cases k2
structure xF5 (t : Slot) : Prop where
 cls : t.cls ≤ 1
 blk : t.blk < uH t.cls
 size : t.size ≤ qA t.cls
 n1 : 1 ≤ t.name.length
 n2 : t.name.length ≤ 24
theorem xK0 (c : Nat) : qA c ≤ 1024 := by unfold qA; split <;> omega
theorem xEn (c : Nat) : uH c ≤ 24 := by unfold uH; split <;> omega
theorem octN (n : Nat) (h : n < 256) : (oct (n : Int)).toNat = n := by
 have := kT (n : Int)
 omega
theorem octN2 (n : Nat) : (oct (n : Int)).toNat = n % 256 := by
 have := kT (n : Int)
 omega
theorem xVu {t : Slot} (h : t.used = true) : kI t = 1 :: oct t.cls :: oct t.blk :: oct t.size :: oct (t.size / 256 : Nat) :: oct t.name.length :: (t.name ++ xQ (64 - (xQp t).length)) := by
 unfold kI xJ8
 rw [if_pos h]
 simp [xQp]
theorem xPq {t : Slot} (h : t.used = true → t.name.length ≤ 58) : (kI t).length = 64 := by
 unfold kI xJ8
 split
 ·rename_i hu
  have := h hu
  have e : (xQp t).length = 6 + t.name.length := by simp [xQp]; omega
  rw [List.length_append,yT]
  omega
 ·simp [xQ]
theorem yBz {t : Slot} (hu : t.used = true) (h : xF5 t) : decP (kI t) = t := by
 have e := xVu hu
 have hb := xEn t.cls
 have hc := xK0 t.cls
 have h1 := h.blk
 have h2 := h.size
 have h3 := h.n2
 have h4 := h.cls
 have b0 : bN (kI t) 0 = 1 := by rw [e]; rfl
 have b1 : bN (kI t) 1 = t.cls := by rw [e]; exact octN _ (by omega)
 have b2 : bN (kI t) 2 = t.blk := by rw [e]; exact octN _ (by omega)
 have b3 : bN (kI t) 3 = t.size % 256 := by rw [e]; exact octN2 _
 have b4 : bN (kI t) 4 = t.size / 256 := by rw [e]; exact octN _ (by omega)
 have b5 : bN (kI t) 5 = t.name.length := by rw [e]; exact octN _ (by omega)
 have b34 : bN (kI t) 3 + 256 * bN (kI t) 4 = t.size := by rw [b3,b4]; omega
 have hn : ((kI t).drop 6).take (bN (kI t) 5) = t.name := by rw [b5,e]; simp
 have hs : kQ (kI t) = t := by
  unfold kQ
  rw [b1,b2,b34,hn,← hu]
 have hok : xI1 (kI t) = true := by
  unfold xI1
  rw [b34,b0,b1,b2,b5]
  simp only [Bool.and_eq_true,decide_eq_true_eq]
  exact ⟨⟨⟨⟨⟨trivial,h4⟩,h1⟩,h2⟩,h.n1⟩,by omega⟩
 unfold decP
 rw [if_pos hok,hs,if_pos rfl]
theorem xYn : decP (kI noSlot) = noSlot := by
 unfold decP
 rw [if_neg (by decide)]
theorem xGr (s : Bs) : decP s = noSlot ∨ (decP s).used = true ∧ xF5 (decP s) := by
 unfold decP
 split
 ·rename_i h
  split
  ·rename_i h2
   right
   unfold xI1 at h
   simp only [Bool.and_eq_true,decide_eq_true_eq] at h
   obtain ⟨⟨⟨⟨⟨h0,h1⟩,h3⟩,h4⟩,h5⟩,h6⟩ := h
   have hlen : s.length = 64 ∨ (kQ s).name.length > 58 := by
    by_cases hx : (kQ s).name.length ≤ 58
    ·left
     rw [h2]; exact xPq (fun _ => hx)
    ·right; omega
   have hnl : (kQ s).name.length ≤ bN s 5 := by simp [kQ]; omega
   have h64 : s.length = 64 := by rcases hlen with h | h; exact h; omega
   have hn : (kQ s).name.length = bN s 5 := by simp [kQ,h64]; omega
   exact ⟨rfl,⟨h1,h3,h4,by omega,by omega⟩⟩
  ·exact .inl rfl
 ·exact .inl rfl
theorem vX (S : List Bs) (k : Nat) : (yG S)[k]? = if k < 32 then (S[61 + k]?).map decP else none := by
 unfold yG
 rw [List.getElem?_map,List.getElem?_take]
 split
 ·rw [List.getElem?_drop]
 ·rfl
theorem jE {S : List Bs} (h : S.length = 381) : (yG S).length = 32 := by simp [yG,h]
theorem xKm {S T : List Bs} (h : ∀ i,61 ≤ i → S[i]? = T[i]?) : yG S = yG T := by
 apply List.ext_getElem?
 intro k
 rw [vX,vX,h (61 + k) (by omega)]
theorem xC7 {S T : List Bs} {t : Slot} (h : ∀ i,uF t.cls t.blk ≤ i → i < uF t.cls t.blk + countP t.cls → S[i]? = T[i]?) : xBr S t = xBr T t := by
 unfold xBr
 congr 2
 apply List.ext_getElem?
 intro k
 rw [List.getElem?_take,List.getElem?_take]
 split
 ·rw [List.getElem?_drop,List.getElem?_drop]
  exact h _ (by omega) (by omega)
 ·rfl
theorem xFp (c b : Nat) : 93 ≤ uF c b := by unfold uF; split <;> omega
theorem xFn {c b : Nat} (h : b < uH c) : uF c b + countP c ≤ 381 := by
 unfold uF countP
 unfold uH at h
 split <;> simp_all <;> omega
theorem xNk {c b c' b' : Nat} (hc : c ≤ 1) (hc' : c' ≤ 1) (h : b < uH c) (h' : b' < uH c') (hne : c = c' → b ≠ b') (i : Nat) (h1 : uF c b ≤ i) (h2 : i < uF c b + countP c) (h3 : uF c' b' ≤ i) (h4 : i < uF c' b' + countP c') : False := by
 unfold uF at h1 h2 h3 h4
 unfold countP at h2 h4
 unfold uH at h h'
 rcases (show c = 0 ∨ c = 1 by omega) with rfl | rfl <;> rcases (show c' = 0 ∨ c' = 1 by omega) with rfl | rfl <;> simp at * <;> omega
theorem xGi {c b : Nat} {data : Bs} {x : Wr} (h : x ∈ uE c b data) : ∃ i,i < countP c ∧ x = ⟨((uF c b + i : Nat) : Int),((xJ8 data (qA c)).drop (i * 64)).take 64⟩ := by
 unfold uE at h
 obtain ⟨i,hi,rfl⟩ := List.mem_map.1 h
 exact ⟨i,List.mem_range.1 hi,rfl⟩
theorem xIp : ∀ (C : List Wr) (S : List Bs) (j : Nat) (x : Wr),C[j]? = some x → x.at_.toNat < S.length → (∀ (k : Nat) y,j < k → C[k]? = some y → y.at_.toNat ≠ x.at_.toNat) → (zJ S C)[x.at_.toNat]? = some x.data
 | [],_,_,_,h,_,_ => by simp at h
 | y :: C,S,0,x,h,hl,ha => by
  simp at h
  subst h
  show (zJ (vH S y) C)[y.at_.toNat]? = _
  rw [kJ C _ _ (fun z hz => by
   obtain ⟨k,hk⟩ := List.getElem?_of_mem hz
   exact ha (k + 1) z (by omega) (by simpa using hk))]
  unfold vH
  rw [List.getElem?_set_self hl]
 | y :: C,S,j + 1,x,h,hl,ha => by
  refine xIp C (vH S y) j x (by simpa using h) (by simpa [vH] using hl) (fun k z hk hz => ha (k + 1) z (by omega) (by simpa using hz))
theorem xGg {n : Nat} : ∀ (k : Nat) (s : Bs),s.length = k * n → ((List.range k).map fun i => (s.drop (i * n)).take n).flatten = s
 | 0,s,h => by
  have : s = [] := List.eq_nil_of_length_eq_zero (by simpa using h)
  subst this; rfl
 | k + 1,s,h => by
  rw [List.range_succ_eq_map,List.map_cons,List.flatten_cons,List.map_map]
  have hl : (s.drop n).length = k * n := by rw [List.length_drop,h,Nat.succ_mul]; omega
  have ih := xGg k (s.drop n) hl
  have e : ((fun i => (s.drop (i * n)).take n) ∘ Nat.succ) = fun i => ((s.drop n).drop (i * n)).take n := by
   funext i
   simp only [Function.comp,List.drop_drop,Nat.succ_mul,Nat.add_comm]
  rw [e,ih]
  simp
theorem xJ7 {s : Bs} {n : Nat} (h : s.length ≤ n) : (xJ8 s n).length = n := by simp [xJ8,yT]; omega
theorem xK1 {c : Nat} (h : c ≤ 1) : qA c = countP c * 64 := by
 unfold qA countP
 rcases (show c = 0 ∨ c = 1 by omega) with rfl | rfl <;> rfl
theorem xO3 {S : List Bs} {c b : Nat} (hS : S.length = 381) (hb : b < uH c) (data : Bs) {i : Nat} (hi : i < countP c) : (zJ S (uE c b data))[uF c b + i]? = some (((xJ8 data (qA c)).drop (i * 64)).take 64) := by
 have hl := xFn hb
 have := xIp (uE c b data) S i ⟨((uF c b + i : Nat) : Int),((xJ8 data (qA c)).drop (i * 64)).take 64⟩ (by simp [uE,hi]) (by simp; omega) (fun k y hk hy => by
  simp only [uE,List.getElem?_map,Option.map_eq_some_iff] at hy
  obtain ⟨z,hz,rfl⟩ := hy
  rw [List.getElem?_range (by
   have := (List.getElem?_eq_some_iff.1 hz).1
   simpa using this)] at hz
  injection hz with hz
  subst hz
  simp
  omega)
 simp only [Int.toNat_natCast] at this
 exact this
theorem xTr {S : List Bs} (hS : S.length = 381) {t : Slot} {data : Bs} (hc : t.cls ≤ 1) (hb : t.blk < uH t.cls) (hd : data.length ≤ qA t.cls) (hs : t.size = data.length) : xBr (zJ S (uE t.cls t.blk data)) t = data := by
 have hl := xFn hb
 have e : ((zJ S (uE t.cls t.blk data)).drop (uF t.cls t.blk)).take (countP t.cls) = (List.range (countP t.cls)).map fun i => ((xJ8 data (qA t.cls)).drop (i * 64)).take 64 := by
  apply List.ext_getElem?
  intro k
  rw [List.getElem?_take,List.getElem?_map]
  by_cases hk : k < countP t.cls
  ·rw [if_pos hk,List.getElem?_drop,xO3 hS hb data hk,List.getElem?_range hk]
   rfl
  ·rw [if_neg hk,List.getElem?_eq_none (by simp; omega)]
   rfl
 unfold xBr
 rw [e,xGg _ _ (by rw [xJ7 hd,xK1 hc]),hs]
 unfold xJ8
 simp
end Mailsack
namespace Mailsack
theorem swap_perm (h : List Nat) (i j : Nat) (hi : i < h.length) (hj : j < h.length) : ((h.set i (h.getD j 0)).set j (h.getD i 0)).Perm h := by
 rw [List.getD_eq_getElem?_getD,List.getD_eq_getElem?_getD,List.getElem?_eq_getElem hi,List.getElem?_eq_getElem hj]
 simp only [Option.getD_some]
 exact List.set_set_perm hi hj
theorem xEh (n : Nat) : ∀ (f i : Nat) (h : List Nat),n ≤ h.length → i < h.length → (wF h n f i).Perm h
 | 0,_,_,_,_ => List.Perm.refl _
 | f + 1,i,h,hn,hi => by
  unfold wF
  split
  ·exact List.Perm.refl _
  ·rename_i hj
   simp only
   generalize hje : (if 2 * i + 2 < n ∧ h.getD (2 * i + 2) 0 < h.getD (2 * i + 1) 0 then 2 * i + 2 else 2 * i + 1) = j
   have hjl : j < h.length := by
    rw [← hje]
    split <;> omega
   split
   ·refine (xEh n f j _ (by simpa using hn) (by simpa using hjl)).trans (swap_perm h i j hi hjl)
   ·exact List.Perm.refl _
theorem xEi (n : Nat) : ∀ (f i : Nat) (h : List Nat) (k : Nat),n ≤ k → i < n → (wF h n f i)[k]? = h[k]?
 | 0,_,_,_,_,_ => rfl
 | f + 1,i,h,k,hk,hi => by
  unfold wF
  split
  ·rfl
  ·rename_i hj
   simp only
   generalize hje : (if 2 * i + 2 < n ∧ h.getD (2 * i + 2) 0 < h.getD (2 * i + 1) 0 then 2 * i + 2 else 2 * i + 1) = j
   have hjl : j < n := by
    rw [← hje]
    split <;> omega
   split
   ·rw [xEi n f j _ k hk hjl,List.getElem?_set_ne (by omega),List.getElem?_set_ne (by omega)]
   ·rfl
theorem xI6 : ∀ (i : Nat) (h : List Nat),i ≤ h.length → (xLb h i).Perm h
 | 0,_,_ => List.Perm.refl _
 | i + 1,h,hi => by
  unfold xLb
  have hp := xEh h.length h.length i h (Nat.le_refl _) (by omega)
  exact (xI6 i _ (by rw [hp.length_eq]; omega)).trans hp
theorem xE8 (h : List Nat) : (xRg h).Perm h := xI6 _ _ (by omega)
theorem xFf {h : List Nat} (h0 : h.length ≠ 0) : (h.getD 0 0 :: qP h).Perm h := by
 unfold qP
 generalize hg : (h.set 0 (h.getD (h.length - 1) 0)).set (h.length - 1) (h.getD 0 0) = g
 have hgp : g.Perm h := by rw [← hg]; exact swap_perm h 0 (h.length - 1) (by omega) (by omega)
 have hgl : g.length = h.length := hgp.length_eq
 have hd := xEh (h.length - 1) (h.length - 1) 0 g (by omega) (by omega)
 have hlast : (wF g (h.length - 1) (h.length - 1) 0)[h.length - 1]? = some (h.getD 0 0) := by
  by_cases h1 : h.length = 1
  ·have hk : wF g (h.length - 1) (h.length - 1) 0 = g := by rw [h1]; rfl
   rw [hk,← hg,List.getElem?_set_self (by simp; omega)]
  ·rw [xEi _ _ _ _ _ (Nat.le_refl _) (by omega),← hg,List.getElem?_set_self (by simp; omega)]
 generalize wF g (h.length - 1) (h.length - 1) 0 = e at hd hlast
 have hel : e.length = h.length := hd.length_eq.trans hgl
 have hne : e ≠ [] := by intro e0; subst e0; simp at hel; omega
 have hgl2 : e.getLast hne = h.getD 0 0 := by
  rw [← hel,← List.getLast?_eq_getElem?,List.getLast?_eq_some_getLast hne] at hlast
  injection hlast
 have hsplit := List.dropLast_concat_getLast hne
 rw [hgl2] at hsplit
 refine List.Perm.trans ?_ (hd.trans hgp)
 refine List.Perm.trans ?_ (List.Perm.of_eq hsplit)
 exact (List.perm_append_singleton _ _).symm
theorem xTw {h : List Nat} (h0 : h.length ≠ 0) : (qP h).length + 1 = h.length := by
 have := (xFf h0).length_eq
 simpa using this
def xF9 (l : List Slot) : Prop := ∀ (i j : Nat) (t u : Slot),l[i]? = some t → l[j]? = some u → t.used = true → u.used = true → t.name = u.name → i = j
def pG (l : List Slot) (S : List Bs) (n : Bs) : Option Bs := if wC l n < 0 then none else some (xBr S (xCv l (wC l n)))
structure Inv (s : StS) (S : List Bs) : Prop where
 len : S.length = 381
 slots : yG S = s.slots
 ok : ∀ t ∈ s.slots,t.used = true → xF5 t
 nd : ∀ c,c ≤ 1 → (s.free c).Nodup
 low : ∀ c,c ≤ 1 → ∀ b ∈ s.free c,b < uH c
 apart : ∀ c,c ≤ 1 → ∀ b ∈ s.free c,∀ t ∈ s.slots,t.used = true → t.cls = c → t.blk ≠ b
 uniq : xF9 s.slots
theorem Inv.slen {s : StS} {S : List Bs} (h : Inv s S) : s.slots.length = 32 := by rw [← h.slots]; exact jE h.len
theorem xI3 {n : Bs} {t : Slot} : xEv n t = true ↔ t.used = true ∧ t.name = n := by simp [xEv]
theorem jF (l : List Slot) (n : Bs) : (wC l n = -1 ∧ ∀ t ∈ l,t.used = true → t.name ≠ n) ∨ ∃ (i : Nat) (t : Slot),wC l n = i ∧ l[i]? = some t ∧ t.used = true ∧ t.name = n ∧ i < l.length := by
 rcases qE (xEv n) l with ⟨h,ha⟩ | ⟨i,t,h,h1,h2,_⟩
 ·refine .inl ⟨h,fun t ht hu he => ?_⟩
  have := ha t ht
  rw [xI3.2 ⟨hu,he⟩] at this
  cases this
 ·obtain ⟨a,b⟩ := xI3.1 h2
  exact .inr ⟨i,t,h,h1,a,b,(List.getElem?_eq_some_iff.1 h1).1⟩
theorem xHr {l : List Slot} {i : Nat} {t : Slot} (h : l[i]? = some t) : xCv l (i : Int) = t := by
 unfold xCv
 rw [List.getD_eq_getElem?_getD,Int.toNat_natCast,h]
 rfl
theorem xB1 {l : List Slot} {S : List Bs} {n : Bs} : pG l S n = none ↔ ∀ t ∈ l,t.used = true → t.name ≠ n := by
 unfold pG
 rcases jF l n with ⟨h,ha⟩ | ⟨i,t,h,h1,h2,h3,_⟩
 ·rw [h,if_pos (by omega)]
  exact ⟨fun _ => ha,fun _ => rfl⟩
 ·rw [h,if_neg (by omega)]
  exact ⟨fun e => (by cases e),fun e => absurd h3 (e t (List.mem_of_getElem? h1) h2)⟩
theorem xN7 {l : List Slot} {S : List Bs} (hu : xF9 l) {i : Nat} {t : Slot} (h1 : l[i]? = some t) (h2 : t.used = true) : pG l S t.name = some (xBr S t) := by
 unfold pG
 rcases jF l t.name with ⟨h,ha⟩ | ⟨j,u,h,k1,k2,k3,_⟩
 ·exact absurd rfl (ha t (List.mem_of_getElem? h1) h2)
 ·obtain rfl := hu i j t u h1 k1 h2 k2 k3.symm
  rw [k1] at h1
  injection h1 with h1
  subst h1
  rw [h,if_neg (by omega),xHr k1]
theorem xAv {l : List Slot} {i j : Nat} {t u : Slot} (h : (l.set i t)[j]? = some u) : (j = i ∧ u = t) ∨ (j ≠ i ∧ l[j]? = some u) := by
 rw [List.getElem?_set] at h
 by_cases e : i = j
 ·rw [if_pos e] at h
  split at h
  ·injection h with h
   exact .inl ⟨e.symm,h.symm⟩
  ·cases h
 ·rw [if_neg e] at h
  exact .inr ⟨fun x => e x.symm,h⟩
theorem xI4 {l : List Slot} {S S' : List Bs} {i : Nat} {t : Slot} {n : Bs} (hl : xF9 l) (hl' : xF9 (l.set i t)) (ht : t.used = true → t.name ≠ n) (hi : ∀ u,l[i]? = some u → u.used = true → u.name ≠ n)
  (hr : ∀ (j : Nat) (u : Slot),j ≠ i → l[j]? = some u → u.used = true → xBr S' u = xBr S u) : pG (l.set i t) S' n = pG l S n := by
 cases hk : pG l S n with
 | none =>
  rw [xB1] at hk ⊢
  intro u hu hus
  obtain ⟨j,hj⟩ := List.getElem?_of_mem hu
  rcases xAv hj with ⟨_,rfl⟩ | ⟨hne,h2⟩
  ·exact ht hus
  ·exact hk u (List.mem_of_getElem? h2) hus
 | some d =>
  rcases jF l n with ⟨h,ha⟩ | ⟨j,u,h,k1,k2,k3,_⟩
  ·rw [xB1.2 ha] at hk; cases hk
  ·have hne : j ≠ i := fun e => hi u (e ▸ k1) k2 k3
   have e1 := xN7 (S := S) hl k1 k2
   have e2 := xN7 (S := S') hl' (i := j) (t := u) (by rw [List.getElem?_set_ne (Ne.symm hne)]; exact k1) k2
   rw [k3] at e1 e2
   rw [e2,hr j u hne k1 k2,← e1,hk]
theorem xHs {S : List Bs} (hS : S.length = 381) {i : Nat} (hi : i < 32) (t : Slot) : yG (vH S (setW i t)) = (yG S).set i (decP (kI t)) := by
 apply List.ext_getElem?
 intro k
 rw [vX,List.getElem?_set,vX,jE hS]
 unfold vH setW
 simp only [Int.toNat_natCast]
 rw [List.getElem?_set]
 by_cases hk : k < 32
 ·by_cases e : i = k
  ·subst e
   rw [if_pos hk,if_pos rfl,if_pos (by omega),if_pos rfl,if_pos hi]
   rfl
  ·rw [if_pos hk,if_neg (by omega),if_neg e,if_pos hk]
 ·rw [if_neg hk,if_neg (by omega),if_neg hk]
theorem xFz {S : List Bs} {i : Nat} (hi : i < 32) (t u : Slot) : xBr (vH S (setW i t)) u = xBr S u := by
 refine xC7 (fun k h1 _ => ?_)
 have := xFp u.cls u.blk
 unfold vH setW
 simp only [Int.toNat_natCast]
 rw [List.getElem?_set_ne (by omega)]
theorem xNn (S : List Bs) (c b : Nat) (data : Bs) : yG (zJ S (uE c b data)) = yG S := by
 apply List.ext_getElem?
 intro k
 rw [vX,vX]
 split
 ·rw [kJ]
  intro x hx
  obtain ⟨i,hi,rfl⟩ := xGi hx
  have := xFp c b
  simp
  omega
 ·rfl
theorem xRp (S : List Bs) {c b : Nat} (data : Bs) {u : Slot} (hc : c ≤ 1) (hb : b < uH c) (hu : xF5 u) (hne : u.cls = c → u.blk ≠ b) : xBr (zJ S (uE c b data)) u = xBr S u := by
 refine xC7 (fun k h1 h2 => ?_)
 rw [kJ]
 intro x hx
 obtain ⟨i,hi,rfl⟩ := xGi hx
 simp only [Int.toNat_natCast]
 intro e
 exact xNk hu.cls hc hu.blk hb hne k h1 h2 (by omega) (by omega)
theorem xOb {l : List Slot} (hl : xF9 l) {i : Nat} {t : Slot} (h : t.used = true → ∀ (j : Nat) u,j ≠ i → l[j]? = some u → u.used = true → u.name ≠ t.name) : xF9 (l.set i t) := by
 intro a b x y hx hy hxu hyu hn
 rcases xAv hx with ⟨e1,e2⟩ | ⟨hax,hx'⟩ <;> rcases xAv hy with ⟨e3,e4⟩ | ⟨hby,hy'⟩
 ·omega
 ·subst e2; exact absurd hn.symm (h hxu b y hby hy' hyu)
 ·subst e4; exact absurd hn (h hyu a x hax hx' hxu)
 ·exact hl a b x y hx' hy' hxu hyu hn
theorem xY6 {s : StS} {S : List Bs} (h : Inv s S) {i : Nat} (hi : i < 32) : Inv (putAt s i noSlot) (vH S (setW i noSlot)) := by
 have hsl := xHs h.len hi noSlot
 rw [xYn,h.slots] at hsl
 have hu : xF9 (s.slots.set i noSlot) := xOb h.uniq (fun e => by cases e)
 have hm : ∀ t ∈ s.slots.set i noSlot,t.used = true → t ∈ s.slots := fun t ht htu => by
  rcases List.mem_or_eq_of_mem_set ht with ht | rfl
  ·exact ht
  ·cases htu
 exact ⟨by simp [vH,h.len],hsl,fun t ht htu => h.ok t (hm t ht htu) htu,h.nd,h.low,fun c hc b hb t ht htu => h.apart c hc b hb t (hm t ht htu) htu,hu⟩
theorem StS.xPf {s : StS} {c : Nat} (c' : Nat) (hc : c ≤ 1) (hc' : c' ≤ 1) : (vY s c).free c' = if c' = c then qP (s.free c) else s.free c' := by
 unfold vY StS.free
 rcases (show c = 0 ∨ c = 1 by omega) with rfl | rfl <;> rcases (show c' = 0 ∨ c' = 1 by omega) with rfl | rfl <;> rfl
theorem tV (s : StS) (c : Nat) : (vY s c).slots = s.slots := by unfold vY; split <;> rfl
theorem xEs (s : StS) (c : Nat) : (vY s c).writes = s.writes := by unfold vY; split <;> rfl
theorem xPu (d : Bs) : yU d ≤ 1 := by unfold yU; split <;> omega
theorem xLn {d : Bs} (h : d.length ≤ 1024) : d.length ≤ qA (yU d) := by
 unfold yU qA
 split <;> simp <;> omega
theorem yBa {s : StS} {S : List Bs} (h : Inv s S) {i : Nat} (hi : i < 32) {c : Ch} (hn : 1 ≤ c.name.length) (hn2 : c.name.length ≤ 24) (hd : c.data.length ≤ 1024) (hf : (s.free (yU c.data)).length ≠ 0)
  (hw : ∀ (j : Nat) u,j ≠ i → s.slots[j]? = some u → u.used = true → u.name ≠ c.name) :
  Inv (putAt { (vY s (yU c.data)) with writes := (vY s (yU c.data)).writes ++ uE (yU c.data) ((s.free (yU c.data)).getD 0 0) c.data } i (zI c ((s.free (yU c.data)).getD 0 0)))
   (vH (zJ S (uE (yU c.data) ((s.free (yU c.data)).getD 0 0) c.data)) (setW i (zI c ((s.free (yU c.data)).getD 0 0)))) ∧
  (∀ n,n ≠ c.name → (∀ u,s.slots[i]? = some u → u.used = true → u.name ≠ n) → pG (s.slots.set i (zI c ((s.free (yU c.data)).getD 0 0))) (vH (zJ S (uE (yU c.data) ((s.free (yU c.data)).getD 0 0) c.data)) (setW i (zI c ((s.free (yU c.data)).getD 0 0)))) n = pG s.slots S n) ∧
  pG (s.slots.set i (zI c ((s.free (yU c.data)).getD 0 0))) (vH (zJ S (uE (yU c.data) ((s.free (yU c.data)).getD 0 0) c.data)) (setW i (zI c ((s.free (yU c.data)).getD 0 0)))) c.name = some c.data := by
 have hk := xPu c.data
 generalize hke : yU c.data = k at hk hf ⊢
 have hcap : c.data.length ≤ qA k := by rw [← hke]; exact xLn hd
 have hpp := xFf hf
 have hbm : (s.free k).getD 0 0 ∈ s.free k := hpp.mem_iff.1 (List.mem_cons_self ..)
 generalize (s.free k).getD 0 0 = b at hpp hbm ⊢
 have hb : b < uH k := h.low k hk b hbm
 have hse : zI c b = ⟨true,k,b,c.data.length,c.name⟩ := by unfold zI; rw [hke]
 have hok : xF5 (zI c b) := by rw [hse]; exact ⟨hk,hb,hcap,hn,hn2⟩
 have hus : (zI c b).used = true := rfl
 have hnm : (zI c b).name = c.name := rfl
 have hS1 : (zJ S (uE k b c.data)).length = 381 := by rw [wP,h.len]
 have hsl := xHs hS1 hi (zI c b)
 rw [yBz hus hok,xNn,h.slots] at hsl
 have hu : xF9 (s.slots.set i (zI c b)) := xOb h.uniq (fun _ j u hj hju hjs => hw j u hj hju hjs)
 have hil : i < s.slots.length := by rw [h.slen]; exact hi
 have hnd := hpp.nodup_iff.2 (h.nd k hk)
 rw [List.nodup_cons] at hnd
 have hmem : ∀ x ∈ qP (s.free k),x ∈ s.free k := fun x hx => hpp.mem_iff.1 (List.mem_cons_of_mem _ hx)
 have hfree : ∀ c',c' ≤ 1 → ∀ x ∈ (vY s k).free c',x ∈ s.free c' ∧ (c' = k → x ≠ b) := fun c' hc' x hx => by
  rw [StS.xPf c' hk hc'] at hx
  split at hx
  ·rename_i e
   subst e
   exact ⟨hmem x hx,fun _ e2 => hnd.1 (e2 ▸ hx)⟩
  ·rename_i e
   exact ⟨hx,fun e2 => absurd e2 e⟩
 refine ⟨⟨by simp [vH,wP,h.len],?_,?_,?_,?_,?_,?_⟩,?_,?_⟩
 ·show yG _ = (vY s k).slots.set i _
  rw [tV]; exact hsl
 ·show ∀ t ∈ (vY s k).slots.set i _,_
  rw [tV]
  intro t ht htu
  rcases List.mem_or_eq_of_mem_set ht with ht | rfl
  ·exact h.ok t ht htu
  ·exact hok
 ·intro c' hc'
  show ((vY s k).free c').Nodup
  rw [StS.xPf c' hk hc']
  split
  ·exact hnd.2
  ·exact h.nd c' hc'
 ·intro c' hc' x hx
  exact h.low c' hc' x (hfree c' hc' x hx).1
 ·intro c' hc' x hx t ht htu htc
  have ht' : t ∈ (vY s k).slots.set i (zI c b) := ht
  rw [tV] at ht'
  rcases List.mem_or_eq_of_mem_set ht' with ht | rfl
  ·exact h.apart c' hc' x (hfree c' hc' x hx).1 t ht htu htc
  ·rw [hse] at htc ⊢
   exact fun e => (hfree c' hc' x hx).2 htc.symm e.symm
 ·show xF9 ((vY s k).slots.set i _)
  rw [tV]; exact hu
 ·intro n hne hin
  refine xI4 h.uniq hu (fun _ e => hne (hnm ▸ e).symm) hin (fun j u hj hju hjs => ?_)
  have hum := List.mem_of_getElem? hju
  rw [xFz hi,xRp S c.data hk hb (h.ok u hum hjs) (fun e => h.apart k hk b hbm u hum hjs e)]
 ·have := xN7 (S := vH (zJ S (uE k b c.data)) (setW i (zI c b))) hu (i := i) (t := zI c b) (List.getElem?_set_self hil) hus
  rw [hnm] at this
  rw [this,xFz hi]
  congr 1
  have hr := xTr h.len (t := zI c b) (data := c.data) hok.cls hok.blk (by rw [hse]; exact hcap) (by rw [hse])
  rw [show (zI c b).cls = k from hke,show (zI c b).blk = b from rfl] at hr
  exact hr
end Mailsack
