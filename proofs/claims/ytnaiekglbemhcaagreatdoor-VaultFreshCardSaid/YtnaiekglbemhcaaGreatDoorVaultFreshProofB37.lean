/- Contracts of functions of the program. Conditions: those that each theorem states. -/
import Derived.Test.YtnaiekglbemhcaaGreatDoorVaultFreshProofB36
import Derived.Test.YtnaiekglbemhcaaGreatDoorVaultFreshProofB33
set_option maxHeartbeats 8000000
set_option maxRecDepth 100000
namespace Mailsack
theorem xLp : ∀ (l : List Ch) (s : StS) (c : Ch),(zS s l).2 = 0 → zS s (l ++ [c]) = if jH (zS s l).1 c = 0 then (jG (zS s l).1 c,0) else ((zS s l).1,jH (zS s l).1 c)
 | [],s,c,_ => by
  show (if jH s c = 0 then zS (jG s c) [] else (s,jH s c)) = if jH s c = 0 then (jG s c,0) else (s,jH s c)
  rfl
 | x :: l,s,c,h => by
  unfold zS at h
  by_cases hx : jH s x = 0
  ·rw [if_pos hx] at h
   have ih := xLp l (jG s x) c h
   show (if jH s x = 0 then zS (jG s x) (l ++ [c]) else (s,jH s x)) = _
   have e : zS s (x :: l) = zS (jG s x) l := by
    show (if jH s x = 0 then zS (jG s x) l else (s,jH s x)) = _
    rw [if_pos hx]
   rw [if_pos hx,ih,e]
  ·rw [if_neg hx] at h
   exact absurd h hx
theorem xPv : ∀ (l : List Ch) (s : StS) (k : Nat),(zS s (l.take k)).2 ≠ 0 → (zS s l).2 = (zS s (l.take k)).2
 | l,s,0,h => absurd rfl h
 | [],s,k + 1,h => absurd rfl h
 | x :: l,s,k + 1,h => by
  rw [List.take_succ_cons] at h ⊢
  unfold zS at h ⊢
  by_cases hx : jH s x = 0
  ·rw [if_pos hx] at h
   rw [if_pos hx,if_pos hx]
   exact xPv l (jG s x) k h
  ·rw [if_neg hx,if_neg hx]
theorem xXr (s : StS) (c : Ch) : (jG s c).writes.length ≤ s.writes.length + 17 := by
 have h16 : ∀ k,countP k ≤ 16 := fun k => by unfold countP; split <;> omega
 unfold jG
 split
 ·simp [putAt]
 ·have := h16 (yU c.data)
  simp [putAt,xEs,uE]
  omega
theorem xWy {S : List Bs} {c x : Nat} (h : x ∈ uD (yG S) c) : x < uH c := by
 unfold uD at h
 obtain ⟨t,ht,rfl⟩ := List.mem_map.1 h
 obtain ⟨h1,h2⟩ := List.mem_filter.1 ht
 simp only [Bool.and_eq_true,beq_iff_eq] at h2
 obtain ⟨i,hi⟩ := List.mem_iff_getElem?.1 h1
 rw [vX] at hi
 split at hi
 ·obtain ⟨s,_,rfl⟩ := Option.map_eq_some_iff.1 hi
  rcases xGr s with e | ⟨_,h3⟩
  ·rw [e] at h2; cases h2.1
  ·have := h3.blk
   rw [h2.2] at this
   exact this
 ·cases hi
end Mailsack
namespace Go.Proofs.ST
open Go.RowKit Mailsack MM BB SH SV RK DS AL
abbrev chF (c : Ch) : List Value := [xU c.name,xU c.data,.bool c.gone]
structure Ps0 (w : World) (gl gs : Nat) (ts : List Slot) (W : World) : Prop where
 st : W.heap[gs]? = some (.cells #[.slice (some ⟨gl,0,none⟩) 32 32,.pointer none,.pointer none,.slice none 0 0] 104 (0,0))
 sl : qC 140 qI W gl ts
 bel : Below w.heap.size w W
 o0 : w.heap.size ≤ gl
 o1 : gl < gs
structure Ps1 (w : World) (gl gs gp0 lo0 hi0 : Nat) (ts : List Slot) (W : World) : Prop where
 st : W.heap[gs]? = some (.cells #[.slice (some ⟨gl,0,none⟩) 32 32,.pointer (some ⟨gp0,0,none⟩),.pointer none,.slice none 0 0] 104 (0,0))
 sl : qC 140 qI W gl ts
 p0 : rE W lo0 hi0 gp0 24 (xB4 24 (uD ts 0))
 bel : Below w.heap.size w W
 o0 : w.heap.size ≤ gl
 o1 : gl < gs
 o2 : gs < lo0
 o3 : lo0 ≤ hi0
 o4 : hi0 ≤ W.heap.size
def PsM (w : World) (gl gs : Nat) (sl : List Slot) (k : Nat) (W : World) : Prop :=
 (k = 0 ∧ Ps0 w gl gs sl W) ∨ (k = 1 ∧ ∃ gp0 lo0 hi0,Ps1 w gl gs gp0 lo0 hi0 sl W) ∨
 (k = 2 ∧ ∃ K : StL,K.gl = gl ∧ K.gs = gs ∧ StM w K (.slice none 0 0) (.slice none 0 0) ⟨sl,xB4 24 (uD sl 0),xB4 12 (uD sl 1),[]⟩ W)
theorem Ps0.below {w W W' : World} {gl gs : Nat} {sl : List Slot} (h : Ps0 w gl gs sl W) (hb : Below W.heap.size W W') : Ps0 w gl gs sl W' :=
 ⟨xE h.st hb (xI h.st),h.sl.below hb,h.bel.trans (hb.mono h.bel.size),h.o0,h.o1⟩
theorem Ps1.below {w W W' : World} {gl gs gp0 lo0 hi0 : Nat} {sl : List Slot} (h : Ps1 w gl gs gp0 lo0 hi0 sl W) (hb : Below W.heap.size W W') : Ps1 w gl gs gp0 lo0 hi0 sl W' :=
 ⟨xE h.st hb (xI h.st),h.sl.below hb,h.p0.below hb,h.bel.trans (hb.mono h.bel.size),h.o0,h.o1,h.o2,h.o3,Nat.le_trans h.o4 hb.size⟩
theorem Ps0.pool {w W W' : World} {gl gs gp : Nat} {sl : List Slot} (h : Ps0 w gl gs sl W) (hb : Below W.heap.size W W') (hp : rE W' W.heap.size W'.heap.size gp 24 (xB4 24 (uD sl 0))) :
  Ps1 w gl gs gp W.heap.size W'.heap.size sl (W'.setCell ⟨gs,1,none⟩ (.pointer (some ⟨gp,0,none⟩))) := by
 have h' := h.below hb
 have hlt := xI h.st
 have := h.o0; have := h.o1
 have e1 := yB h'.st 1 (.pointer (some ⟨gp,0,none⟩))
 simp only [List.setIfInBounds_toArray,List.set_cons_zero,List.set_cons_succ] at e1
 exact ⟨e1,xZ h'.sl.blk (p := ⟨gs,1,none⟩) (by show gl ≠ gs; omega) _,hp.kept fun q o hq h1 h2 => xZ hq (p := ⟨gs,1,none⟩) (by show q ≠ gs; omega) _,h'.bel.setCell (p := ⟨gs,1,none⟩) (by show w.heap.size ≤ gs; omega) _,h.o0,h.o1,hlt,hb.size,by rw [size_set]; exact Nat.le_refl _⟩
theorem Ps1.pool {w W W' : World} {gl gs gp0 lo0 hi0 gp : Nat} {sl : List Slot} (h : Ps1 w gl gs gp0 lo0 hi0 sl W) (hl : sl.length = 32) (hb : Below W.heap.size W W') (hp : rE W' W.heap.size W'.heap.size gp 12 (xB4 12 (uD sl 1))) :
  StM w ⟨gl,gs,gp0,lo0,hi0,gp,W.heap.size,W'.heap.size⟩ (.slice none 0 0) (.slice none 0 0) ⟨sl,xB4 24 (uD sl 0),xB4 12 (uD sl 1),[]⟩ (W'.setCell ⟨gs,2,none⟩ (.pointer (some ⟨gp,0,none⟩))) := by
 have h' := h.below hb
 have hlt := xI h.st
 have := h.o0; have := h.o1; have := h.o2
 have e1 := yB h'.st 2 (.pointer (some ⟨gp,0,none⟩))
 simp only [List.setIfInBounds_toArray,List.set_cons_zero,List.set_cons_succ] at e1
 exact ⟨e1,xZ h'.sl.blk (p := ⟨gs,2,none⟩) (by show gl ≠ gs; omega) _,h'.p0.kept fun q o hq h1 h2 => xZ hq (p := ⟨gs,2,none⟩) (by show q ≠ gs; omega) _,hp.kept fun q o hq h1 h2 => xZ hq (p := ⟨gs,2,none⟩) (by show q ≠ gs; omega) _,xX.nil _ _,hl,h'.bel.setCell (p := ⟨gs,2,none⟩) (by show w.heap.size ≤ gs; omega) _,h.o0,h.o1,h.o2,h.o3,h.o4,hb.size,by rw [size_set]; exact Nat.le_refl _⟩
theorem xQ9 (va vb lv : Value) (d : Dk) (l : List Ch) (w : World) (h : RdD w w.heap.size va vb d) (hl : RdR 3 chF w w.heap.size lv l) (hll : l.length ≤ 500) :
  Calls Tryz.prog 14 #[.agg #[va,vb],lv] w fun e w' => ∃ v,e = .returned (.tuple #[v,.int .i64 (wQ d l)]) ∧ RdW w' w'.heap.size v (jK d l) ∧ Below w.heap.size w w' := by
 obtain ⟨A1,c1,A2,c2,rfl,rfl⟩ := yH h
 obtain ⟨A3,c3,rfl,hc3,hl3⟩ := hl
 have HL := hI' hl3
 have HA := hI' ((Below.refl w.heap.size w).alloc (Nat.le_refl _) (yD (.slice A1 d.secs.length c1) (.slice A2 d.cache.length c2)))
 have hD0 := xM w (yD (.slice A1 d.secs.length c1) (.slice A2 d.cache.length c2))
 obtain ⟨d0,d1⟩ := uG hD0
 clear hD0 hl3 hc3
 have HCT := hI' (xBb _ _ d _ ((h.below HA.out (Nat.le_refl _)).more HA.out.size))
 have HE : Hid (wQ d l = if vV d = true then (if (zS (stS d) l).2 = 0 then (if 30 < (zS (stS d) l).1.writes.length then 4 else 0) else (zS (stS d) l).2) else 1) := hI' rfl
 have HG : Hid (jK d l = if wQ d l = 0 then (zS (stS d) l).1.writes else []) := hI' rfl
 have HFL : Hid (vV d = true → (xY d).secs.length = 381 ∧ ∀ s ∈ (xY d).secs,s.length = 64) := hI' xJv
 have HCP : Hid (∀ v W,xQ8 d v W → vV d = true → RdS W W.heap.size v (xY d).secs) := hI' (fun v W h => h)
 have HSD : Hid (stS d = ⟨yG (xY d).secs,xB4 24 (uD (yG (xY d).secs) 0),xB4 12 (uD (yG (xY d).secs) 1),[]⟩) := hI' rfl
 have HLL := hI' hll
 obtain ⟨we,hwe⟩ : ∃ we,wQ d l = we := ⟨_,rfl⟩
 obtain ⟨wp,hwp⟩ : ∃ wp,jK d l = wp := ⟨_,rfl⟩
 rw [hwe] at HE HG
 rw [hwp] at HG
 rw [hwe,hwp]
 clear hwe hwp h
 cases hc : vV d with
 | false =>
  rw [hc] at HCT HE
  rw [if_neg (by simp)] at HE
  rw [HE.out,if_neg (by omega)] at HG
  clear hc HFL HCP
  go_enter Tryz.func14,Tryz.ntmps14
  go_wp2_with fail
  refine HCT.out.mono ?_
  rintro e w1 ⟨v,rfl,_,hb⟩
  have HB := hI' (HA.out.trans (hb.mono HA.out.size))
  clear hb HA HCT d0 d1
  go_wp2
  go_ret2
  exact ⟨_,by rw [HE.out]; rfl,by rw [HG.out]; exact RdW.xOp _ _,HB.out⟩
 | true =>
  have qO := hI' (HFL.out hc)
  have xS6 := hI' (fun v W h => HCP.out v W h hc)
  rw [hc] at HCT HE
  rw [if_pos rfl] at HE
  clear hc HFL HCP
  generalize stS d = s0 at HE HG HSD
  generalize (xY d).secs = S at qO xS6 HSD
  go_enter Tryz.func14,Tryz.ntmps14
  go_wp2_with fail
  refine HCT.out.mono ?_
  rintro e w1 ⟨v,rfl,hct,hb⟩
  have HB1 := hI' (HA.out.trans (hb.mono HA.out.size))
  have HSO := hI' (xFx v S w1 (xS6.out v w1 hct) qO.out.1 qO.out.2)
  obtain ⟨A5,c5,rfl,_⟩ := xS6.out v w1 hct
  clear hct hb HCT xS6 d0 d1 HA
  go_wp2_with fail
  refine HSO.out.mono ?_
  rintro e w2 ⟨gl,rfl,hgl,hsl,hb2⟩
  have HS2 := hI' (show qC 140 qI w2 gl (yG S) ∧ Below w.heap.size w w2 ∧ w.heap.size ≤ gl from ⟨hsl,HB1.out.trans (hb2.mono HB1.out.size),Nat.le_trans HB1.out.size hgl⟩)
  have HTL := hI' (fun c x (h : x ∈ uD (yG S) c) => xWy h)
  have HSL := hI' (jE qO.out.1)
  have HTN := hI' (fun c => xKe (yG S) c 32)
  clear hsl hb2 hgl HSO HB1 qO
  generalize yG S = sl at HS2 HSD HTL HSL HTN
  have HP0 : Hid (PsM w gl w2.heap.size sl 0 (w2.alloc (.cells #[.slice (some ⟨gl,0,none⟩) 32 32,.pointer none,.pointer none,.slice none 0 0] 104))) := hI' (.inl ⟨rfl,xM _ _,xP HS2.out.1.blk _,HS2.out.2.1.alloc HS2.out.2.1.size _,HS2.out.2.2,xI HS2.out.1.blk⟩)
  go_upto_region 5 with fail
  generalize w2.alloc (.cells #[.slice (some ⟨gl,0,none⟩) 32 32,.pointer none,.pointer none,.slice none 0 0] 104) = w3 at HP0 ⊢
  obtain ⟨gs,hgs⟩ : ∃ gs,w2.heap.size = gs := ⟨_,rfl⟩
  rw [hgs] at HP0 ⊢
  clear hgs HS2
  have HBK := hI' (fun (c : Nat) W => xBn c W)
  go_wp2_with fail
  go_loopw [23] (fun iv wr => ∃ k : Nat,k ≤ 2 ∧ iv = .int .i64 k ∧ Hid (PsM w gl gs sl k wr)) (fun iv _ => 2 - (intOf iv).toNat)
  case atStart => exact ⟨0,by omega,rfl,HP0⟩
  case round =>
   obtain ⟨k,hk,rfl,HI⟩ := hrel
   clear HP0
   by_cases hlt : k < 2
   ·rcases (show k = 0 ∨ k = 1 by omega) with rfl | rfl
    ·have HI0 : Hid (Ps0 w gl gs sl wr) := hI' (by
      rcases HI.out with ⟨_,h⟩ | ⟨h,_⟩ | ⟨h,_⟩
      ·exact h
      ·omega
      ·omega)
     have HTK := hI' (xKf gs gl 0 sl wr (by have := xA HI0.out.st 0; simpa using this) HI0.out.sl HSL.out (xI HI0.out.st))
     have HB0 := hI' (fun W => xBn 0 W)
     rw [show ((uH 0 : Nat) : Int) = 24 from rfl] at HB0
     clear HI hk hlt
     go_wp2_with fail
     refine (HB0.out _).mono ?_
     rintro e w4 ⟨rfl,hw4⟩
     rw [hw4]
     clear hw4 w4
     go_wp2_with fail
     refine HTK.out.mono ?_
     rintro e w5 ⟨tv,rfl,hrt,hb5⟩
     have HI5 := hI' (HI0.out.below hb5)
     have HNW := hI' (xQ3 24 (uD sl 0) tv w5 (by omega) hrt (fun x hx => HTL.out 0 x hx) (by have := HTN.out 0; rw [List.take_of_length_le (by rw [HSL.out]; omega)] at this; omega))
     rw [show (((24 : Nat)) : Int) = 24 from rfl] at HNW
     obtain ⟨A6,c6,rfl,_⟩ := hrt
     clear hb5 HTK HB0 HI0
     go_wp2_with fail
     refine HNW.out.mono ?_
     rintro e w6 ⟨gp,rfl,hp6,hb6⟩
     have HI6 := hI' (And.intro (HI5.out.pool hb6 hp6) (HI5.out.below hb6).st)
     clear hp6 hb6 HNW HI5
     have s1 := xA HI6.out.2 1
     have y1 := xK HI6.out.2 1
     simp only [gA,gB,gC] at s1
     go_wp2
     exact ⟨⟨1,by omega,by go_num,hI' (.inr (.inl ⟨rfl,_,_,_,HI6.out.1⟩))⟩,by simp [intOf]⟩
    ·obtain ⟨gp0,lo0,hi0,HI0⟩ : ∃ gp0 lo0 hi0,Hid (Ps1 w gl gs gp0 lo0 hi0 sl wr) := by
      rcases HI.out with ⟨h,_⟩ | ⟨_,gp0,lo0,hi0,h⟩ | ⟨h,_⟩
      ·omega
      ·exact ⟨gp0,lo0,hi0,hI' h⟩
      ·omega
     have HTK := hI' (xKf gs gl 1 sl wr (by have := xA HI0.out.st 0; simpa using this) HI0.out.sl HSL.out (xI HI0.out.st))
     rw [show (((1 : Nat)) : Int) = 1 from rfl] at HTK
     have HB0 := hI' (fun W => xBn 1 W)
     rw [show ((uH 1 : Nat) : Int) = 12 from rfl,show (((1 : Nat)) : Int) = 1 from rfl] at HB0
     clear HI hk hlt
     go_wp2_with fail
     refine (HB0.out _).mono ?_
     rintro e w4 ⟨rfl,hw4⟩
     rw [hw4]
     clear hw4 w4
     go_wp2_with fail
     refine HTK.out.mono ?_
     rintro e w5 ⟨tv,rfl,hrt,hb5⟩
     have HI5 := hI' (HI0.out.below hb5)
     have HNW := hI' (xQ3 12 (uD sl 1) tv w5 (by omega) hrt (fun x hx => HTL.out 1 x hx) (by have := HTN.out 1; rw [List.take_of_length_le (by rw [HSL.out]; omega)] at this; omega))
     rw [show (((12 : Nat)) : Int) = 12 from rfl] at HNW
     obtain ⟨A6,c6,rfl,_⟩ := hrt
     clear hb5 HTK HB0 HI0
     go_wp2_with fail
     refine HNW.out.mono ?_
     rintro e w6 ⟨gp,rfl,hp6,hb6⟩
     have HI6 := hI' (And.intro (HI5.out.pool HSL.out hb6 hp6) (HI5.out.below hb6).st)
     clear hp6 hb6 HNW HI5
     have s1 := xA HI6.out.2 2
     have y1 := xK HI6.out.2 2
     simp only [gA,gB,gC] at s1
     go_wp2
     exact ⟨⟨2,by omega,by go_num,hI' (.inr (.inr ⟨rfl,_,rfl,rfl,HI6.out.1⟩))⟩,by simp [intOf]⟩
   ·obtain rfl : k = 2 := by omega
    rw [show (((2 : Nat)) : Int) = 2 from rfl]
    obtain ⟨K,hK,HK⟩ : ∃ K : StL,K.gs = gs ∧ Hid (StM w K (.slice none 0 0) (.slice none 0 0) s0 wr) := by
     rcases HI.out with ⟨h,_⟩ | ⟨h,_⟩ | ⟨_,K,_,h2,h3⟩
     ·omega
     ·omega
     ·exact ⟨K,h2,hI' (by rw [HSD.out]; exact h3)⟩
    subst hK
    clear HI hlt hk HBK HTL HTN HSL
    go_wp2_with fail
    go_loopw [37] (fun iv wr => ∃ (k : Nat) (uv : Value),k ≤ l.length ∧ iv = .int .i64 k ∧ Hid ((zS s0 (l.take k)).2 = 0 ∧ (zS s0 (l.take k)).1.writes.length ≤ 17 * k ∧ StM w K uv uv (zS s0 (l.take k)).1 wr)) (fun iv _ => l.length - (intOf iv).toNat)
    case atStart => exact ⟨0,_,Nat.zero_le _,rfl,hI' ⟨rfl,by show s0.writes.length ≤ _; rw [HSD.out]; exact Nat.le_refl _,HK.out⟩⟩
    case round =>
     obtain ⟨k,uv,hk,rfl,HI⟩ := hrel
     clear HK
     by_cases hlt : k < l.length
     ·obtain ⟨x,hx⟩ : ∃ x,l[k]? = some x := ⟨_,List.getElem?_eq_getElem hlt⟩
      obtain ⟨b,off,rfl,hb,hcell⟩ := HL.out (by omega)
      have q := fun i u hu => (HI.out.2.2.bel.cell (p := ⟨b,off + k * 3 + i,none⟩) hb).trans (hcell k x hx i u hu)
      have q0 : wr.cell? ⟨b,off + k * 3,none⟩ = some (xU x.name) := q 0 _ rfl
      have q1 : wr.cell? ⟨b,off + k * 3 + 1,none⟩ = some (xU x.data) := q 1 _ rfl
      have q2 : wr.cell? ⟨b,off + k * 3 + 2,none⟩ = some (.bool x.gone) := q 2 _ rfl
      have HSN : Hid (zS s0 (l.take (k + 1)) = if jH (zS s0 (l.take k)).1 x = 0 then (jG (zS s0 (l.take k)).1 x,0) else ((zS s0 (l.take k)).1,jH (zS s0 (l.take k)).1 x)) := hI' (by
       rw [List.take_add_one,hx]
       exact xLp _ _ _ HI.out.1)
      have HBD := hI' (xPv l s0 (k + 1))
      have HI2 := hI' (And.intro HI.out.2.1 (HI.out.2.2.below ((Below.refl wr.heap.size wr).alloc (Nat.le_refl _) (chO x))))
      have hbx := xM wr (chO x)
      obtain ⟨x0,x1,x2⟩ := xO0 hbx
      generalize (zS s0 (l.take k)).1 = sk at HSN HI2
      clear q hcell hbx hx HI
      have HCH := hI' (xRw w K uv sk x _ HI2.out.2 (by have := HI2.out.1; have := HLL.out; omega))
      go_wp2_with fail
      refine HCH.out.mono ?_
      rintro e w7 ⟨rfl,hp7⟩
      have HP7 := hI' hp7
      clear hp7 HCH q0 q1 q2 x0 x1 x2
      by_cases hce : jH sk x = 0
      ·obtain ⟨uv',hm⟩ := HP7.out
       rw [if_pos hce] at hm HSN
       rw [hce]
       have HM := hI' (And.intro hm (Nat.le_trans (xXr sk x) (by have := HI2.out.1; exact Nat.add_le_add_right this 17)))
       clear hm hce HP7 HBD
       go_wp2
       exact ⟨⟨k + 1,uv',by omega,by go_num,hI' ⟨by rw [HSN.out],by rw [HSN.out]; have := HM.out.2; show (jG sk x).writes.length ≤ _; omega,by rw [HSN.out]; exact HM.out.1⟩⟩,by simp [intOf]; omega⟩
      ·obtain ⟨uv',hm⟩ := HP7.out
       rw [if_neg hce] at hm HSN
       obtain ⟨ee,hee⟩ : ∃ ee,jH sk x = ee := ⟨_,rfl⟩
       rw [hee] at hce HSN
       rw [hee]
       have HEE : Hid (we = ee) := hI' (by
        have := HBD.out (by rw [HSN.out]; exact hce)
        rw [HSN.out] at this
        rw [HE.out,this,if_neg hce])
       have HGG : Hid (wp = []) := hI' (by rw [HG.out,HEE.out,if_neg hce])
       have HM := hI' hm.bel
       have hc1 : (ee == 0) = false := by simpa using hce
       have hc2 : (ee != 0) = true := by simpa using hce
       clear hm hee HP7 HBD HSN HE HG
       go_wp2
       go_ret2
       exact ⟨_,by rw [HEE.out]; rfl,by rw [HGG.out]; exact RdW.xOp _ _,HM.out⟩
     ·obtain rfl : k = l.length := by omega
      rw [List.take_length] at HI
      rw [if_pos HI.out.1] at HE
      obtain ⟨A8,c8,huv,hle8⟩ := HI.out.2.2.wr.form
      have hb := HI.out.2.2.st
      have s3 := xA hb 3
      simp only [gA,gB,gC] at s3
      have HM := hI' HI.out.2.2
      generalize (zS s0 l).1 = sk at HE HG HM huv hle8
      obtain ⟨n,hn⟩ : ∃ n,sk.writes.length = n := ⟨_,rfl⟩
      rw [hn] at HE huv
      subst huv
      clear hb HI hlt hle8 hn HL
      by_cases h30 : 30 < n
      ·have h30i : 30 < (n : Int) := by omega
       have HEE : Hid (we = 4) := hI' (by rw [HE.out,if_pos h30])
       have HGG : Hid (wp = []) := hI' (by rw [HG.out,HEE.out,if_neg (by omega)])
       clear HE HG
       go_wp2
       go_ret2
       exact ⟨_,by rw [HEE.out]; rfl,by rw [HGG.out]; exact RdW.xOp _ _,HM.out.bel⟩
      ·have h30i : ¬ (30 < (n : Int)) := by omega
       have HEE : Hid (we = 0) := hI' (by rw [HE.out,if_neg h30])
       have HGG : Hid (wp = sk.writes) := hI' (by rw [HG.out,HEE.out,if_pos rfl])
       clear HE HG
       go_wp2
       go_ret2
       exact ⟨_,by rw [HEE.out]; rfl,by rw [HGG.out]; exact xZb (HM.out.wr.rd xDq),HM.out.bel⟩
end Go.Proofs.ST
namespace Mailsack
theorem xMb {d : Dk} {l : List Ch} : (jK d l).length ≤ 30 := by
 unfold jK
 split
 ·rename_i h
  unfold wQ at h
  split at h
  ·split at h
   ·split at h
    ·omega
    ·omega
   ·rename_i h2; exact absurd h h2
  ·omega
 ·simp
end Mailsack
namespace Go.Proofs.ST
open Go.RowKit Mailsack MM BB SH SV RK DS AL
theorem xLw (va vb lv : Value) (d : Dk) (l : List Ch) (w : World) (h : RdD w w.heap.size va vb d) (hl : RdR 3 chF w w.heap.size lv l) (hll : l.length ≤ 500) (hc : d.cache.length ≤ 10000) (hT : vT w) :
  Calls Tryz.prog 19 #[.agg #[va,vb],lv] w fun e w' => ∃ va' vb',e = .returned (.tuple #[.agg #[va',vb'],.int .i64 (xDm d l)]) ∧ RdD w' w'.heap.size va' vb' (tZ d l) ∧ Below w.heap.size w w' := by
 obtain ⟨A1,c1,A2,c2,rfl,rfl⟩ := yH h
 have H0 : Hid (CmM w (.slice A1 d.secs.length c1) (.slice A2 d.cache.length c2) d ((w.alloc (yD (.slice A1 d.secs.length c1) (.slice A2 d.cache.length c2))).alloc (yD (.slice none 0 0) (.slice none 0 0)))) := hI' (by
  have hb := ((Below.refl w.heap.size w).alloc (Nat.le_refl _) (yD (.slice A1 d.secs.length c1) (.slice A2 d.cache.length c2))).alloc (by simp) (yD (.slice none 0 0) (.slice none 0 0))
  exact ⟨zQ _ _ _,zM _ _ _,(h.below hb (Nat.le_refl _)).more hb.size,hb⟩)
 have HW := hI' (xQ9 _ _ lv d l _ H0.out.rd ((hl.below H0.out.bel (Nat.le_refl _)).more H0.out.bel.size) hll)
 have HT := hI' (fun W (hb : Below w.heap.size w W) => hT.below hb (Nat.le_refl _))
 have HC := hI' hc
 have HAE : Hid (xDm d l = if wQ d l = 0 then (if (jK d l).length = 0 then 0 else vI d (jK d l)) else wQ d l) := hI' rfl
 have HAP : Hid (tZ d l = if wQ d l = 0 then (if (jK d l).length = 0 then xY d else xBc d (jK d l)) else ⟨[],[]⟩) := hI' rfl
 have HWL := hI' (xMb (d := d) (l := l))
 obtain ⟨ae,hae⟩ : ∃ ae,xDm d l = ae := ⟨_,rfl⟩
 obtain ⟨ap,hap⟩ : ∃ ap,tZ d l = ap := ⟨_,rfl⟩
 rw [hae] at HAE
 rw [hap] at HAP
 rw [hae,hap]
 generalize jK d l = wp at HW HAE HAP HWL
 generalize wQ d l = we at HW HAE HAP
 obtain ⟨A3,c3,rfl,_⟩ := hl
 clear h hae hap hT hc hll
 go_enter Tryz.func19,Tryz.ntmps19
 go_upto_region 1 with fail
 generalize (w.alloc (yD (.slice A1 d.secs.length c1) (.slice A2 d.cache.length c2))).alloc (yD (.slice none 0 0) (.slice none 0 0)) = w1 at H0 HW ⊢
 obtain ⟨d0,d1⟩ := uG H0.out.d
 go_wp2_with fail
 refine HW.out.mono ?_
 rintro e w2 ⟨ov,rfl,hro,hb⟩
 obtain ⟨A4,c4,rfl,_⟩ := id hro
 have H2 := hI' (H0.out.below hb)
 have HRO := hI' hro
 clear hb H0 HW d0 d1 hro
 obtain ⟨d0,d1⟩ := uG H2.out.d
 by_cases h0 : we = 0
 ·subst h0
  rw [if_pos rfl] at HAE HAP
  obtain ⟨n,hn⟩ : ∃ n,wp.length = n := ⟨_,rfl⟩
  have HN := hI' hn
  rw [hn] at HAE HAP ⊢
  by_cases hz : n = 0
  ·subst hz
   rw [if_pos rfl] at HAE HAP
   have HEE : Hid (ae = 0) := HAE
   have HCC : Hid (ap = xY d) := HAP
   have HF := hI' (xGf _ _ d w2 H2.out.rd)
   clear hn
   go_wp2_with fail
   refine HF.out.mono ?_
   rintro e w3 ⟨ua,ub,rfl,hr,_,hb⟩
   have H3 := hI' (H2.out.below hb)
   have HRR := hI' hr
   generalize xY d = cm at HRR HCC
   obtain ⟨ee,hee⟩ : ∃ ee : Int,ee = 0 := ⟨_,rfl⟩
   clear hr hb H2 HF HRO d0 d1 hee ee
   obtain ⟨A5,c5,A6,c6,rfl,rfl⟩ := yH HRR.out
   have hRD : RdD ((w3.setCell ⟨w.heap.size + 1,0,none⟩ (.slice A5 cm.secs.length c5)).setCell ⟨w.heap.size + 1,1,none⟩ (.slice A6 cm.cache.length c6)) w3.heap.size (.slice A5 cm.secs.length c5) (.slice A6 cm.cache.length c6) cm := by
    have e0 := yB H3.out.o 0 (.slice A5 cm.secs.length c5)
    simp only [List.setIfInBounds_toArray,List.set_cons_zero] at e0
    exact RdD.far (RdD.far HRR.out (p := ⟨w.heap.size + 1,0,none⟩) (vP H3.out.o) _) (p := ⟨w.heap.size + 1,1,none⟩) (vP e0) _
   have HRD := hI' hRD
   clear hRD
   obtain ⟨o0,y0,f0,o1,y1,f1,HB⟩ := xNv H3.out.o H3.out.bel (by omega) (.slice A5 cm.secs.length c5) (.slice A6 cm.cache.length c6) _ rfl
   clear H3 HRR
   go_wp2
   refine bodyPost_ret (v := .tuple #[.agg #[.slice A5 cm.secs.length c5,.slice A6 cm.cache.length c6],.int .i64 0]) (by simp [results,Tryz.results19,go_sem,f0,f1]) rfl ?_
   exact ⟨_,_,by rw [HEE.out],by rw [HCC.out]; simpa [size_set] using HRD.out,HB.out⟩
  ·rw [if_neg hz] at HAE HAP
   have hzi : ¬ ((n : Int) = 0) := by omega
   have hzb : ((n : Int) == 0) = false := by simpa using hzi
   have HCM := hI' (xRu _ _ (.slice A4 wp.length c4) d wp w2 H2.out.rd HRO.out (by have := HWL.out; omega) HC.out (HT.out _ H2.out.bel))
   rw [hn] at HCM
   have HEE := HAE
   have HCC := HAP
   generalize vI d wp = ee at HCM HEE
   generalize xBc d wp = cm at HCM HCC
   clear hz hn
   go_wp2_with fail
   refine HCM.out.mono ?_
   rintro e w3 ⟨ua,ub,rfl,hr,hb⟩
   have H3 := hI' (H2.out.below hb)
   have HRR := hI' hr
   clear hr hb H2 HCM HRO d0 d1 HAE HAP
   obtain ⟨A5,c5,A6,c6,rfl,rfl⟩ := yH HRR.out
   have hRD : RdD ((w3.setCell ⟨w.heap.size + 1,0,none⟩ (.slice A5 cm.secs.length c5)).setCell ⟨w.heap.size + 1,1,none⟩ (.slice A6 cm.cache.length c6)) w3.heap.size (.slice A5 cm.secs.length c5) (.slice A6 cm.cache.length c6) cm := by
    have e0 := yB H3.out.o 0 (.slice A5 cm.secs.length c5)
    simp only [List.setIfInBounds_toArray,List.set_cons_zero] at e0
    exact RdD.far (RdD.far HRR.out (p := ⟨w.heap.size + 1,0,none⟩) (vP H3.out.o) _) (p := ⟨w.heap.size + 1,1,none⟩) (vP e0) _
   have HRD := hI' hRD
   clear hRD
   obtain ⟨o0,y0,f0,o1,y1,f1,HB⟩ := xNv H3.out.o H3.out.bel (by omega) (.slice A5 cm.secs.length c5) (.slice A6 cm.cache.length c6) _ rfl
   clear H3 HRR
   go_wp2
   refine bodyPost_ret (v := .tuple #[.agg #[.slice A5 cm.secs.length c5,.slice A6 cm.cache.length c6],.int .i64 ee]) (by simp [results,Tryz.results19,go_sem,f0,f1]) rfl ?_
   exact ⟨_,_,by rw [HEE.out],by rw [HCC.out]; simpa [size_set] using HRD.out,HB.out⟩
 ·rw [if_neg h0] at HAE HAP
  have h0b : (we == 0) = false := by simpa using h0
  have h0c : (we != 0) = true := by simpa using h0
  obtain ⟨o0,y0,f0,o1,y1,f1,HB⟩ := xNv H2.out.o H2.out.bel (by omega) (.slice none 0 0) (.slice none 0 0) _ rfl
  clear H2 HRO d0 d1
  go_wp2
  refine bodyPost_ret (v := .tuple #[.agg #[.slice none 0 0,.slice none 0 0],.int .i64 we]) (by simp [results,Tryz.results19,go_sem,f0,f1]) rfl ?_
  refine ⟨_,_,by rw [HAE.out],?_,HB.out⟩
  rw [HAP.out]
  exact ⟨⟨_,_,rfl,Nat.le_refl _,fun h => by simp at h⟩,RdW.xOp _ _,by simp,by simp⟩
end Go.Proofs.ST
namespace Mailsack
def qV (d : Dk) (u : ByteArray) : ByteArray := bsA (xPb d (vO [117] u.data.toList))
def xEq (d : Dk) (u : ByteArray) : Bool := xAj (qV d u) && decide ((xA2 (qV d u)).user = u)
def xCh (d : Dk) (u : ByteArray) : Int := if xJu d (vO [117] u.data.toList) = 0 then (if xEq d u = true then 0 else 3) else 6
def xBu (d : Dk) (u : ByteArray) : vR := if xCh d u = 0 then xA2 (qV d u) else zP
theorem xPa (d : Dk) (n : Bs) : (xPb d n).length ≤ 1024 := by
 unfold xPb
 split
 ·unfold xBr
  rw [List.length_take]
  generalize hs : xCv (yG (xY d).secs) (wC (yG (xY d).secs) n) = t
  have : t.size ≤ 1024 := by
   have hok : t = noSlot ∨ xF5 t := by
    rw [← hs]
    unfold xCv
    rw [List.getD_eq_getElem?_getD]
    cases hg : (yG (xY d).secs)[(wC (yG (xY d).secs) n).toNat]? with
    | none => exact .inl rfl
    | some t =>
     rw [vX] at hg
     split at hg
     ·obtain ⟨s,_,rfl⟩ := Option.map_eq_some_iff.1 hg
      rcases xGr s with e | ⟨_,h⟩
      ·exact .inl e
      ·exact .inr h
     ·cases hg
   rcases hok with e | h
   ·rw [e]; exact Nat.zero_le _
   ·exact Nat.le_trans h.size (xK0 _)
  omega
 ·simp
end Mailsack
namespace Go.Proofs.VA
open Go.RowKit Mailsack MM BB SH SV RK DS Go.Proofs.ST
structure AcN (w : World) (va vb : Value) (D : Dk) (W : World) : Prop where
 d : W.heap[w.heap.size]? = some (yD va vb)
 o : W.heap[w.heap.size + 1]? = some (yI zP)
 rd : RdD W W.heap.size va vb D
 bel : Below w.heap.size w W
theorem AcN.below {w W W' : World} {va vb : Value} {D : Dk} (h : AcN w va vb D W) (hb : Below W.heap.size W W') : AcN w va vb D W' :=
 ⟨xE h.d hb (xI h.d),xE h.o hb (xI h.o),(h.rd.below hb (Nat.le_refl _)).more hb.size,h.bel.trans (hb.mono h.bel.size)⟩
theorem AcN.drew {w W : World} {va vb : Value} {D : Dk} (h : AcN w va vb D W) : AcN w va vb D W.drew := h.below (Below.refl _ W).drew
theorem xAh (va vb : Value) (d : Dk) (u : ByteArray) (w : World) (h : RdD w w.heap.size va vb d) (hu : u.size ≤ 1000000) :
  Calls Tryz.prog 9 #[.agg #[va,vb],.string u] w fun e w' => e = .returned (.tuple #[pF (xBu d u),.int .i64 (xCh d u)]) ∧ Below w.heap.size w w' := by
 obtain ⟨A1,c1,A2,c2,rfl,rfl⟩ := yH h
 have H0 : Hid (AcN w (.slice A1 d.secs.length c1) (.slice A2 d.cache.length c2) d ((w.alloc (yD (.slice A1 d.secs.length c1) (.slice A2 d.cache.length c2))).alloc (yI zP))) := hI' (by
  have hb := ((Below.refl w.heap.size w).alloc (Nat.le_refl _) (yD (.slice A1 d.secs.length c1) (.slice A2 d.cache.length c2))).alloc (by simp) (yI zP)
  exact ⟨zQ _ _ _,zM _ _ _,(h.below hb (Nat.le_refl _)).more hb.size,hb⟩)
 have HUO := hI' (fun W => jQ ⟨#[117]⟩ u W (by decide) hu)
 rw [show (⟨#[117]⟩ : ByteArray).data.toList = [117] from rfl] at HUO
 have HGE := hI' (fun W (h : AcN w (.slice A1 d.secs.length c1) (.slice A2 d.cache.length c2) d W) => xNg _ _ d (vO [117] u.data.toList) W h.rd)
 have HAE : Hid (xCh d u = if xJu d (vO [117] u.data.toList) = 0 then (if xEq d u = true then 0 else 3) else 6) := hI' rfl
 have HAR : Hid (xBu d u = if xCh d u = 0 then xA2 (qV d u) else zP) := hI' rfl
 have HAF : Hid (xEq d u = (xAj (qV d u) && decide ((xA2 (qV d u)).user = u))) := hI' rfl
 have HTK := hI' (fun W => xTk (qV d u) W (by unfold qV; rw [yO]; have := xPa d (vO [117] u.data.toList); omega))
 rw [show xU (xPb d (vO [117] u.data.toList)) = .string (qV d u) from rfl] at HGE
 generalize qV d u = ag at HGE HAR HAF HTK
 generalize vO [117] u.data.toList = nm at HUO HGE HAE
 generalize xEq d u = fit at HAE HAF
 generalize xJu d nm = ge at HGE HAE
 obtain ⟨ae,hae⟩ : ∃ ae,xCh d u = ae := ⟨_,rfl⟩
 obtain ⟨ar,har⟩ : ∃ ar,xBu d u = ar := ⟨_,rfl⟩
 rw [hae] at HAE HAR
 rw [har] at HAR
 rw [hae,har]
 clear hae har h hu
 go_enter Tryz.func9,Tryz.ntmps9
 go_upto_region 1 with fail
 obtain ⟨w1,hw1⟩ : ∃ w1,(w.alloc (yD (.slice A1 d.secs.length c1) (.slice A2 d.cache.length c2))).alloc (yI zP) = w1 := ⟨_,rfl⟩
 rw [hw1] at H0
 simp only [yI,zP] at hw1
 rw [hw1]
 clear hw1
 refine RG.xR (fun W => Hid (AcN w (.slice A1 d.secs.length c1) (.slice A2 d.cache.length c2) d W)) (by kernel_rfl) (by kernel_rfl) (hI' H0.out.drew) ?_
 iterate 2
  apply RG.xC
  ·intro w9 hw9
   have hb := hw9.out.d
   obtain ⟨c0,c1⟩ := uG hb
   repeat go_step
   with_reducible exact RG.xB hw9
  ·rfl
 apply RG.xC
 ·intro w9 hw9
  repeat go_step
  refine (HUO.out _).mono ?_
  rintro e w10 ⟨rfl,rfl⟩
  simp only []
  repeat go_step
  with_reducible exact RG.xB hw9
 ·rfl
 apply RG.xC
 ·intro w9 hw9
  repeat go_step
  refine (HGE.out _ hw9.out).mono ?_
  rintro e w10 ⟨rfl,yA⟩
  simp only []
  repeat go_step
  with_reducible refine RG.xB ?_
  exact hI' (hw9.out.below yA)
 ·rfl
 iterate 5
  apply RG.xC
  ·intro w9 hw9
   repeat go_step
   with_reducible exact RG.xB hw9
  ·rfl
 refine RG.xW (fun w2 hw2 => ?_)
 clear H0 HUO HGE
 by_cases hg : ge = 0
 ·subst hg
  rw [if_pos rfl] at HAE
  go_wp2_with fail
  refine (HTK.out _).mono ?_
  rintro e w3 ⟨rfl,hb3⟩
  have H3 := hI' (hw2.out.below hb3)
  clear hb3 hw2 HTK
  cases htk : xAj ag with
  | false =>
   have HZ : Hid (AcN w (.slice A1 d.secs.length c1) (.slice A2 d.cache.length c2) d (w3.alloc (yI zP))) := hI' (H3.out.below ((Below.refl _ _).alloc (Nat.le_refl _) _))
   rw [if_neg (by simp),if_neg (by simp)]
   rw [htk,Bool.false_and] at HAF
   rw [HAF.out,if_neg (by simp)] at HAE
   rw [HAE.out,if_neg (by omega)] at HAR
   simp only [pF,zP]
   have hbz := xM w3 (yI zP)
   have z0 := xA hbz 0
   simp only [yI,zP,gA,gC] at z0
   clear hbz htk H3
   go_upto_region 6 with fail
   clear z0
   obtain ⟨w4,hw4⟩ : ∃ w4,w3.alloc (yI zP) = w4 := ⟨_,rfl⟩
   rw [hw4] at HZ
   simp only [yI,zP] at hw4
   rw [hw4]
   clear hw4
   obtain ⟨o0,y0,f0,o1,y1,f1,o2,y2,f2,o3,y3,f3,o4,y4,f4,o5,y5,f5,o6,y6,f6,o7,y7,f7,HB⟩ := xSe HZ.out.o HZ.out.bel (by omega) (.string ⟨#[]⟩) (.string ⟨#[]⟩) (.int .i64 0) (.int .i64 0) (.string ⟨#[]⟩) (.string ⟨#[]⟩) (.string ⟨#[]⟩) (.string ⟨#[]⟩) _ rfl
   clear HZ
   go_wp2
   refine bodyPost_ret (v := .tuple #[.agg #[.string ⟨#[]⟩,.string ⟨#[]⟩,.int .i64 0,.int .i64 0,.string ⟨#[]⟩,.string ⟨#[]⟩,.string ⟨#[]⟩,.string ⟨#[]⟩],.int .i64 3]) (by simp [results,Tryz.results9,go_sem,f0,f1,f2,f3,f4,f5,f6,f7]) rfl ?_
   exact ⟨by rw [HAE.out,HAR.out]; rfl,HB.out⟩
  | true =>
   rw [if_pos rfl,if_pos rfl]
   rw [htk,Bool.true_and] at HAF
   have HZ : Hid (AcN w (.slice A1 d.secs.length c1) (.slice A2 d.cache.length c2) d (w3.alloc (yI (xA2 ag))) ∧ (w3.alloc (yI (xA2 ag))).heap[w3.heap.size]? = some (yI (xA2 ag))) := hI' ⟨H3.out.below ((Below.refl _ _).alloc (Nat.le_refl _) _),xM _ _⟩
   have hbz := xM w3 (yI (xA2 ag))
   have z0 := xA hbz 0
   simp only [yI,gA,gC] at z0
   clear hbz htk H3
   generalize xA2 ag = ta at HZ HAF HAR z0 ⊢
   obtain ⟨tu,ts,tr,te,tp,tn,tw,to_⟩ := ta
   simp only [pF,yI] at z0 HZ ⊢
   have HAF2 : Hid (fit = decide (tu = u)) := HAF
   clear HAF
   have HAF := HAF2
   clear HAF2
   by_cases hue : tu = u
   ·have HFT : Hid (fit = true) := hI' (by rw [HAF.out,hue]; simp)
    rw [HFT.out,if_pos rfl] at HAE
    rw [HAE.out,if_pos rfl] at HAR
    have e1 : (tu.toList == u.toList) = true := by rw [hue]; simp
    have e2 : (!tu.toList == u.toList) = false := by rw [hue]; simp
    clear hue HAF HFT
    go_upto_region 7 with fail
    clear z0
    generalize hg4 : w3.heap.size = g4 at HZ ⊢
    generalize w3.alloc (.cells #[.string tu,.string ts,.int .i64 tr,.int .i64 te,.string tp,.string tn,.string tw,.string to_] 35) = w4 at HZ ⊢
    have hz4 := HZ.out.2
    obtain ⟨z0,z1,z2,z3,z4,z5,z6,z7⟩ := xRx hz4
    obtain ⟨o0,y0,f0,o1,y1,f1,o2,y2,f2,o3,y3,f3,o4,y4,f4,o5,y5,f5,o6,y6,f6,o7,y7,f7,HB⟩ := xSe HZ.out.1.o HZ.out.1.bel (by omega) (.string tu) (.string ts) (.int .i64 tr) (.int .i64 te) (.string tp) (.string tn) (.string tw) (.string to_) _ rfl
    clear HZ hz4 hg4
    go_wp2
    refine bodyPost_ret (v := .tuple #[.agg #[.string tu,.string ts,.int .i64 tr,.int .i64 te,.string tp,.string tn,.string tw,.string to_],.int .i64 0]) (by simp [results,Tryz.results9,go_sem,f0,f1,f2,f3,f4,f5,f6,f7]) rfl ?_
    exact ⟨by rw [HAE.out,HAR.out],HB.out⟩
   ·have HFT : Hid (fit = false) := hI' (by rw [HAF.out]; simpa using hue)
    rw [HFT.out,if_neg (by simp)] at HAE
    rw [HAE.out,if_neg (by omega)] at HAR
    have hne : ¬ (tu.toList = u.toList) := by
     rw [ByteArray.toList_eq,ByteArray.toList_eq]
     intro e
     exact hue (ByteArray.ext (Array.toList_inj.1 e))
    have e1 : (tu.toList == u.toList) = false := by simpa using hne
    have e2 : (!tu.toList == u.toList) = true := by rw [e1]; rfl
    have HZ2 := hI' HZ.out.1
    clear hue HAF HFT hne HZ
    have HZ := HZ2
    clear HZ2
    go_upto_region 6 with fail
    clear z0
    generalize w3.alloc (.cells #[.string tu,.string ts,.int .i64 tr,.int .i64 te,.string tp,.string tn,.string tw,.string to_] 35) = w4 at HZ ⊢
    obtain ⟨o0,y0,f0,o1,y1,f1,o2,y2,f2,o3,y3,f3,o4,y4,f4,o5,y5,f5,o6,y6,f6,o7,y7,f7,HB⟩ := xSe HZ.out.o HZ.out.bel (by omega) (.string ⟨#[]⟩) (.string ⟨#[]⟩) (.int .i64 0) (.int .i64 0) (.string ⟨#[]⟩) (.string ⟨#[]⟩) (.string ⟨#[]⟩) (.string ⟨#[]⟩) _ rfl
    clear HZ
    go_wp2
    refine bodyPost_ret (v := .tuple #[.agg #[.string ⟨#[]⟩,.string ⟨#[]⟩,.int .i64 0,.int .i64 0,.string ⟨#[]⟩,.string ⟨#[]⟩,.string ⟨#[]⟩,.string ⟨#[]⟩],.int .i64 3]) (by simp [results,Tryz.results9,go_sem,f0,f1,f2,f3,f4,f5,f6,f7]) rfl ?_
    exact ⟨by rw [HAE.out,HAR.out]; rfl,HB.out⟩
 ·have hg1 : (ge == 0) = false := by simpa using hg
  have hg2 : (ge != 0) = true := by simpa using hg
  rw [if_neg hg] at HAE
  rw [HAE.out,if_neg (by omega)] at HAR
  have HZ := hw2
  clear hw2 HTK
  obtain ⟨o0,y0,f0,o1,y1,f1,o2,y2,f2,o3,y3,f3,o4,y4,f4,o5,y5,f5,o6,y6,f6,o7,y7,f7,HB⟩ := xSe HZ.out.o HZ.out.bel (by omega) (.string ⟨#[]⟩) (.string ⟨#[]⟩) (.int .i64 0) (.int .i64 0) (.string ⟨#[]⟩) (.string ⟨#[]⟩) (.string ⟨#[]⟩) (.string ⟨#[]⟩) _ rfl
  clear HZ
  go_wp2
  refine bodyPost_ret (v := .tuple #[.agg #[.string ⟨#[]⟩,.string ⟨#[]⟩,.int .i64 0,.int .i64 0,.string ⟨#[]⟩,.string ⟨#[]⟩,.string ⟨#[]⟩,.string ⟨#[]⟩],.int .i64 6]) (by simp [results,Tryz.results9,go_sem,f0,f1,f2,f3,f4,f5,f6,f7]) rfl ?_
  exact ⟨by rw [HAE.out,HAR.out]; rfl,HB.out⟩
end Go.Proofs.VA
namespace Mailsack
def xO4 (a : vR) : Ch := ⟨vO [117] a.user.data.toList,(tJ a).data.toList,false⟩
def xMq (user priv xD enc : ByteArray) : Ch := ⟨vO [120] user.data.toList,(xD ++ wL (yC priv) xD user enc).data.toList,false⟩
end Mailsack
namespace Go.Proofs.VA
open Go.RowKit Mailsack MM BB SH SV RK DS Go.Proofs.ST
theorem xMk (s : ByteArray) : xU s.data.toList = .string s := rfl
theorem xKc (a : vR) (w : World) (hr : uI a = true) :
  Calls Tryz.prog 24 #[pF a] w fun e w' => e = .returned (.tuple #[chV (xO4 a),.int .i64 0]) ∧ Below w.heap.size w w' := by
 have hu := (kL hr).2.1
 have HPU := hI' (fun W => yAi a W hr)
 have HUO := hI' (fun W => jQ ⟨#[117]⟩ a.user W (by decide) (by omega))
 rw [show (⟨#[117]⟩ : ByteArray).data.toList = [117] from rfl] at HUO
 have H0 : Hid (((w.alloc (yI a)).alloc (chO ⟨[],[],false⟩)).heap[w.heap.size]? = some (yI a) ∧ ((w.alloc (yI a)).alloc (chO ⟨[],[],false⟩)).heap[w.heap.size + 1]? = some (chO ⟨[],[],false⟩) ∧ Below w.heap.size w ((w.alloc (yI a)).alloc (chO ⟨[],[],false⟩))) := hI' ⟨zQ _ _ _,zM _ _ _,((Below.refl w.heap.size w).alloc (Nat.le_refl _) _).alloc (by simp) _⟩
 have HC : Hid (chV (xO4 a) = .agg #[xU (vO [117] a.user.data.toList),.string (tJ a),.bool false]) := hI' rfl
 generalize tJ a = pa at HPU HC
 generalize vO [117] a.user.data.toList = nm at HUO HC
 generalize xO4 a = ac at HC ⊢
 obtain ⟨u,s,r,ep,pb,n,wr,o⟩ := a
 simp only [yI,pF] at H0 HPU HUO ⊢
 clear hr hu
 go_enter Tryz.func24,Tryz.ntmps24
 go_upto_region 1 with fail
 obtain ⟨w1,hw1⟩ : ∃ w1,(w.alloc (.cells #[.string u,.string s,.int .i64 r,.int .i64 ep,.string pb,.string n,.string wr,.string o] 35)).alloc (chO ⟨[],[],false⟩) = w1 := ⟨_,rfl⟩
 rw [hw1] at H0
 simp only [chO,xU] at hw1
 rw [hw1]
 clear hw1
 have ha := H0.out.1
 obtain ⟨a0,a1,a2,a3,a4,a5,a6,a7⟩ := xRx ha
 clear ha
 go_wp2_with fail
 refine (HPU.out _).mono ?_
 rintro e w2 ⟨rfl,hb2⟩
 have H2 : Hid (w2.heap[w.heap.size + 1]? = some (chO ⟨[],[],false⟩) ∧ Below w.heap.size w w2) := hI' ⟨xE H0.out.2.1 hb2 (xI H0.out.2.1),H0.out.2.2.trans (hb2.mono H0.out.2.2.size)⟩
 have ha := xE H0.out.1 hb2 (xI H0.out.1)
 clear H0 HPU hb2 a0 a1 a2 a3 a4 a5 a6 a7
 have a0 := xWj ha
 clear ha
 go_wp2_with fail
 refine (HUO.out _).mono ?_
 rintro e w3 ⟨rfl,hw3⟩
 rw [hw3]
 clear hw3 w3 a0 HUO
 obtain ⟨o0,y0,f0,o1,y1,f1,o2,y2,f2,HB⟩ := xH1 H2.out.1 H2.out.2 (by omega) (xU nm) (.string pa) (.bool false) _ rfl
 clear H2
 go_wp2
 refine bodyPost_ret (v := .tuple #[.agg #[xU nm,.string pa,.bool false],.int .i64 0]) (by simp [results,Tryz.results24,go_sem,f0,f1,f2]) rfl ?_
 exact ⟨by rw [HC.out],HB.out⟩
end Go.Proofs.VA
