/- Contracts of functions of the program. Conditions: those that each theorem states. -/
import Derived.Test.YtnaiekglbemhcaaGreatDoorVaultFreshProofB34
import Derived.Deep.AppendLies
import Derived.Test.YtnaiekglbemhcaaGreatDoorVaultFreshProofB18
set_option maxHeartbeats 8000000
set_option maxRecDepth 100000
namespace Mailsack
def tkB (n : Nat) (l : List Nat) : List Bool := (List.range n).map fun i => l.contains i
theorem xDs (n : Nat) (l : List Nat) : (tkB n l).length = n := by simp [tkB]
theorem yAa (n : Nat) : tkB n [] = List.replicate n false := by
 apply List.ext_getElem?
 intro i
 simp only [tkB,List.getElem?_map,List.getElem?_replicate]
 by_cases h : i < n
 ·rw [if_pos h,List.getElem?_range h]; rfl
 ·rw [if_neg h,List.getElem?_eq_none (by simpa using h)]; rfl
theorem xIy {n : Nat} {l : List Nat} {i : Nat} (h : i < n) : (tkB n l)[i]? = some (l.contains i) := by simp [tkB,h]
theorem xWx {n : Nat} {l : List Nat} {k t : Nat} (h : l[k]? = some t) : tkB n (l.take (k + 1)) = (tkB n (l.take k)).set t true := by
 rw [List.take_add_one,h]
 apply List.ext_getElem?
 intro i
 rw [List.getElem?_set]
 by_cases hi : i < n
 ·rw [xIy hi,xIy hi,xDs]
  by_cases e : t = i
  ·subst e; rw [if_pos rfl,if_pos hi]; simp
  ·rw [if_neg e]; simp; intro h; exact absurd h.symm e
 ·rw [List.getElem?_eq_none (by rw [xDs]; omega),List.getElem?_eq_none (by rw [xDs]; omega)]
  by_cases e : t = i
  ·subst e; rw [if_pos rfl,if_neg (by rw [xDs]; exact hi)]
  ·rw [if_neg e]
def frL (l : List Nat) (k : Nat) : List Nat := (List.range k).filter fun i => !l.contains i
theorem xYh (l : List Nat) (k : Nat) : frL l (k + 1) = if l.contains k = true then frL l k else frL l k ++ [k] := by
 unfold frL
 rw [List.range_succ,List.filter_append]
 cases h : l.contains k <;> simp at h <;> simp [h]
theorem xVf (l : List Nat) (k : Nat) : (frL l k).length ≤ k := by
 have := List.length_filter_le (fun i => !l.contains i) (List.range k)
 simpa [frL] using this
theorem frL_lt {l : List Nat} {k x : Nat} (h : x ∈ frL l k) : x < k := by
 have := (List.mem_filter.1 h).1
 simpa using this
theorem xYe (n : Nat) (l : List Nat) : xB4 n l = xRg (frL l n) := rfl
end Mailsack
namespace Go.Proofs.AL
open Go.RowKit Mailsack MM SV DS BB
def RdN (w : World) (B : Nat) (v : Value) (L : List Nat) : Prop :=
 ∃ A c,v = .slice A L.length c ∧ L.length ≤ c ∧ (0 < L.length → ∃ b off,A = some ⟨b,off,none⟩ ∧ b < B ∧ ∀ j x,L[j]? = some x → w.cell? ⟨b,off + j,none⟩ = some (.int .i64 ((x : Nat) : Int)))
def xIq (w : World) (base : Nat) (v : Value) (l : List Nat) : Prop := w.ownsRow base 3 1 v l.length (xM4 l)
theorem xIq.nil (w : World) (base : Nat) : xIq w base (.slice none 0 0) [] := World.ownsRow_nil w base _ _
theorem xIq.row {w : World} {base : Nat} {v : Value} {l : List Nat} (h : xIq w base v l) : w.ownsRow base 3 1 v l.length (xM4 l) := h
theorem xIq.of {w : World} {base : Nat} {v : Value} {l : List Nat} {x : Nat} (h : w.ownsRow base 3 1 v (l.length + 1) (xM4 l ++ [.int .i64 (x : Int)])) : xIq w base v (l ++ [x]) := by
 unfold xIq xM4; rw [List.length_append,List.map_append]; exact h
theorem xIq.alloc {w : World} {base : Nat} {v : Value} {l : List Nat} (h : xIq w base v l) (o : Obj) : xIq (w.alloc o) base v l := World.ownsRow.alloc h o
theorem xIq.form {w : World} {base : Nat} {v : Value} {l : List Nat} (h : xIq w base v l) : ∃ A c,v = .slice A l.length c ∧ l.length ≤ c := by
 rcases h.2 with ⟨h1,h2⟩ | ⟨g,cap,cur,h1,_,_,h2,_⟩
 ·exact ⟨none,0,by rw [h1,h2],by omega⟩
 ·exact ⟨_,_,h1,h2⟩
theorem xIq.row_of {w : World} {base : Nat} {v : Value} {l : List Nat} (h : xIq w base v l) : (l = [] ∧ v = .slice none 0 0) ∨ ∃ g c rest,v = .slice (some ⟨g,0,none⟩) l.length c ∧ l.length ≤ c ∧ vQ w g l rest ∧ base ≤ g := by
 rcases h.2 with ⟨h1,h2⟩ | ⟨g,cap,cur,h1,hb,hg,hnc,_,_,ht⟩
 ·exact .inl ⟨List.eq_nil_of_length_eq_zero h2,h1⟩
 ·refine .inr ⟨g,cap,cur.toList.drop l.length,h1,hnc,?_,hb⟩
  unfold vQ
  rw [Nat.mul_one] at ht
  rw [← ht,List.take_append_drop]
  exact hg
theorem xIq.xBx {w : World} {base : Nat} {v : Value} {l : List Nat} (h : xIq w base v l) {p : Addr} (u : Value) (hne : v.ownBlock ≠ some p.block) : xIq (w.setCell p u) base v l := by
 refine ⟨h.1,?_⟩
 rcases h.2 with hn | ⟨g,cap,cur,h1,h2,h3,h4⟩
 ·exact .inl hn
 ·exact .inr ⟨g,cap,cur,h1,h2,xZ h3 (fun e => hne (by rw [h1,← e]; rfl)) u,h4⟩
theorem yBd : (Tryz.prog.info? 3).map (fun i => (i.zero,i.size,i.bytes)) = some (some (.int .i64 0),1,8) := by kernel_rfl
theorem yAt (z : Int) : ∀ v ∈ [Value.int .i64 z],v.oneCell' = true := by simp [Value.oneCell']
abbrev polO (tv fv : Value) : Obj := .cells #[tv,fv] 166
def FreeM (W : World) (lo hi : Nat) (fv : Value) (h : List Nat) (gp gt : Nat) : Prop :=
 (h = [] ∧ ∃ A c,fv = .slice A 0 c) ∨ ∃ g c rest,fv = .slice (some ⟨g,0,none⟩) h.length c ∧ h.length ≤ c ∧ vQ W g h rest ∧ lo ≤ g ∧ g < hi ∧ g ≠ gp ∧ g ≠ gt
def rE (W : World) (lo hi gp n : Nat) (h : List Nat) : Prop :=
 ∃ gt fv bs,lo ≤ gp ∧ gp < hi ∧ lo ≤ gt ∧ gt < hi ∧ gp ≠ gt ∧ W.heap[gp]? = some (polO (.slice (some ⟨gt,0,none⟩) n n) fv) ∧ W.heap[gt]? = some (.cells ((bs : List Bool).map Value.bool).toArray 4 (0,0)) ∧ bs.length = n ∧ FreeM W lo hi fv h gp gt ∧ (∀ x ∈ h,x < n) ∧ h.length ≤ n ∧ n ≤ 256
theorem rE.kept {W W' : World} {lo hi gp n : Nat} {h : List Nat} (hp : rE W lo hi gp n h) (hk : ∀ (k : Nat) o,W.heap[k]? = some o → lo ≤ k → k < hi → W'.heap[k]? = some o) : rE W' lo hi gp n h := by
 obtain ⟨gt,fv,bs,h1,h1',h2,h2',h3,h4,h5,h6,h7,h8⟩ := hp
 refine ⟨gt,fv,bs,h1,h1',h2,h2',h3,hk _ _ h4 h1 h1',hk _ _ h5 h2 h2',h6,?_,h8⟩
 rcases h7 with h7 | ⟨g,c,rest,k1,k2,k3,k4,k4',k5⟩
 ·exact .inl h7
 ·exact .inr ⟨g,c,rest,k1,k2,hk _ _ k3 k4 k4',k4,k4',k5⟩
theorem rE.below {W W' : World} {lo hi gp n : Nat} {h : List Nat} (hp : rE W lo hi gp n h) (hb : Below W.heap.size W W') : rE W' lo hi gp n h := hp.kept fun _ _ hk _ _ => xE hk hb (xI hk)
theorem rE.tn {P : Nat → Prop} {W W' : World} {lo hi gp n : Nat} {h : List Nat} (hp : rE W lo hi gp n h) (ht : Tn P W W') (hP : ∀ k,lo ≤ k → k < hi → ¬ P k) : rE W' lo hi gp n h := hp.kept fun k _ hk h1 h2 => ht.blk hk (hP k h1 h2)
structure NwM (w : World) (n : Nat) (tk : List Bool) (fv : Value) (fl : List Nat) (W : World) : Prop where
 tb : W.heap[w.heap.size]? = some (.cells (tk.map Value.bool).toArray 4 (0,0))
 pl : W.heap[w.heap.size + 1]? = some (polO (.slice (some ⟨w.heap.size,0,none⟩) n n) fv)
 own : xIq W w.heap.size fv fl
 ne0 : fv.ownBlock ≠ some w.heap.size
 ne1 : fv.ownBlock ≠ some (w.heap.size + 1)
 bel : Below w.heap.size w W
theorem NwM.put {w : World} {n : Nat} {tk : List Bool} {fv : Value} {fl : List Nat} {W : World} (h : NwM w n tk fv fl W) (i : Nat) : NwM w n (tk.set i true) fv fl (W.setCell ⟨w.heap.size,i,none⟩ (.bool true)) :=
 ⟨by have := yB h.tb i (.bool true); rw [this]; simp [List.map_set],xZ h.pl (p := ⟨w.heap.size,i,none⟩) (by simp) _,h.own.xBx (p := ⟨w.heap.size,i,none⟩) _ h.ne0,h.ne0,h.ne1,h.bel.setCell (p := ⟨w.heap.size,i,none⟩) (Nat.le_refl _) _⟩
theorem NwM.push {w : World} {n : Nat} {tk : List Bool} {fv fv' : Value} {fl : List Nat} {W W' : World} {o : Obj} {x : Nat} (h : NwM w n tk fv fl W) (hown : W'.ownsRow w.heap.size 3 1 fv' (fl.length + 1) (xM4 fl ++ [.int .i64 (x : Int)])) (hg : (W.alloc o).grownBy W' fv.ownBlock) (hloc : fv'.ownBlock = fv.ownBlock ∨ fv'.ownBlock = some (W.heap.size + 1)) :
  NwM w n tk fv' (fl ++ [x]) (W'.setCell ⟨w.heap.size + 1,1,none⟩ fv') := by
 have hw := xI h.pl
 have t1 := kX (xP h.tb o) hg (Ne.symm h.ne0)
 have t2 := kX (xP h.pl o) hg (Ne.symm h.ne1)
 have n0 : fv'.ownBlock ≠ some w.heap.size := by rcases hloc with e | e <;> rw [e]; exact h.ne0; simp; omega
 have n1 : fv'.ownBlock ≠ some (w.heap.size + 1) := by rcases hloc with e | e <;> rw [e]; exact h.ne1; simp; omega
 have b1 : Below w.heap.size w W' := (h.bel.alloc h.bel.size o).grown hg (by simp; omega) (fun k hk => (World.ownsRow.lt h.own.row k hk).1)
 refine ⟨xZ t1 (p := ⟨w.heap.size + 1,1,none⟩) (by simp) _,?_,(xIq.of hown).xBx (p := ⟨w.heap.size + 1,1,none⟩) _ n1,n0,n1,b1.setCell (p := ⟨w.heap.size + 1,1,none⟩) (by simp) _⟩
 have := yB t2 1 fv'
 simpa using this
theorem NwM.pool {w : World} {n : Nat} {tk : List Bool} {fv : Value} {fl : List Nat} {W : World} (h : NwM w n tk fv fl W) (hl : tk.length = n) (hx : ∀ x ∈ fl,x < n) (hf : fl.length ≤ n) (hn : n ≤ 256) (hne : fl = []) : rE W w.heap.size W.heap.size (w.heap.size + 1) n [] := by
 subst hne
 refine ⟨w.heap.size,fv,tk,by omega,xI h.pl,Nat.le_refl _,xI h.tb,by omega,h.pl,h.tb,hl,.inl ⟨rfl,?_⟩,by simp,by simp,hn⟩
 obtain ⟨A,c,e,_⟩ := h.own.form
 exact ⟨A,c,e⟩
theorem xQ3 (n : Nat) (tk : List Nat) (tv : Value) (w : World) (hn : n ≤ 256) (ht : RdN w w.heap.size tv tk) (hlt : ∀ x ∈ tk,x < n) (htl : tk.length ≤ 1000000) :
  Calls Tryz.prog 43 #[.int .i64 n,tv] w fun e w' => ∃ gp,e = .returned (.pointer (some ⟨gp,0,none⟩)) ∧ rE w' w.heap.size w'.heap.size gp n (xB4 n tk) ∧ Below w.heap.size w w' := by
 obtain ⟨A,c,rfl,hc,hr⟩ := ht
 have h0 : ¬ ((n : Int) < 0) := by omega
 have h1 : ¬ (256 < (n : Int)) := by omega
 have hmk := madeB w n (by omega)
 have HI0 : Hid (NwM w n (tkB n []) (.slice none 0 0) [] ((w.alloc (.cells (noB n) 4)).alloc (polO (.slice (some ⟨w.heap.size,0,none⟩) n n) (.slice none 0 0)))) := hI' (by
  refine ⟨?_,zM _ _ _,xIq.nil _ _,by simp [Value.ownBlock],by simp [Value.ownBlock],((Below.refl w.heap.size w).alloc (Nat.le_refl _) _).alloc (by simp) _⟩
  have := zQ w (.cells (noB n) 4) (polO (.slice (some ⟨w.heap.size,0,none⟩) n n) (.slice none 0 0))
  rw [this,yAa]
  simp [noB])
 have HR := hI' hr
 have HL := hI' hlt
 have HN := hI' hn
 clear hr hlt
 go_enter Tryz.func43,Tryz.ntmps43
 go_wp2_with fail
 clear hmk
 generalize (w.alloc (.cells (noB n) 4)).alloc (polO (.slice (some ⟨w.heap.size,0,none⟩) n n) (.slice none 0 0)) = w1 at HI0
 go_loopw [22] (fun iv wr => ∃ k : Nat,k ≤ tk.length ∧ iv = .int .i64 k ∧ Hid (NwM w n (tkB n (tk.take k)) (.slice none 0 0) [] wr)) (fun iv _ => tk.length - (intOf iv).toNat)
 case atStart => exact ⟨0,Nat.zero_le _,rfl,HI0⟩
 case round =>
  obtain ⟨k,hk,rfl,HI⟩ := hrel
  clear HI0
  by_cases hlt : k < tk.length
  ·obtain ⟨x,hx⟩ : ∃ x,tk[k]? = some x := ⟨_,List.getElem?_eq_getElem hlt⟩
   obtain ⟨b,off,rfl,hb,hcell⟩ := HR.out (by omega)
   have q := (HI.out.bel.cell (p := ⟨b,off + k,none⟩) hb).trans (hcell k x hx)
   have hxn := HL.out x (List.mem_of_getElem? hx)
   have hx0 : ¬ ((x : Int) < 0) := by omega
   have hx1 : (x : Int) < (n : Int) := by omega
   have hs := xWx (n := n) hx
   have HI2 := hI' (HI.out.put x)
   rw [← hs] at HI2
   have c0 := xA HI.out.pl 0
   have c1 : wr.cell? ⟨w.heap.size,x,none⟩ = some (.bool ((tk.take k).contains x)) := by
    rw [xA HI.out.tb,List.getElem?_toArray,List.getElem?_map,xIy hxn]; rfl
   have f1 := xK HI.out.tb x
   generalize (tk.take k).contains x = bx at c1
   simp only [gA,gC] at c0
   clear hcell hx hs HI hxn
   go_wp2
   exact ⟨⟨k + 1,by omega,by go_num,HI2⟩,by simp [intOf]; omega⟩
  ·obtain rfl : k = tk.length := by omega
   rw [List.take_length] at HI
   have c0 := xWj HI.out.pl
   clear HR hlt
   go_wp2_with fail
   clear c0
   obtain ⟨i0,hi,hz0,hz1,hz2⟩ := wH yBd
   go_loopw [45] (fun iv wx => ∃ (k : Nat) (fv : Value),k ≤ n ∧ iv = .int .i64 k ∧ Hid (NwM w n (tkB n tk) fv (frL tk k) wx)) (fun iv _ => n - (intOf iv).toNat)
   case atStart => exact ⟨0,_,Nat.zero_le _,rfl,HI⟩
   case round =>
    obtain ⟨k,fv,hk,rfl,HJ⟩ := hrel
    clear HI
    by_cases hlt : k < n
    ·have c1 : wr.cell? ⟨w.heap.size,k,none⟩ = some (.bool (tk.contains k)) := by
      rw [xA HJ.out.tb,List.getElem?_toArray,List.getElem?_map,xIy hlt]; rfl
     have HS := hI' (xYh tk k)
     cases hb : tk.contains k with
     | true =>
      rw [hb] at c1 HS
      rw [if_pos rfl] at HS
      clear hb
      go_wp2
      exact ⟨⟨k + 1,fv,by omega,by go_num,by rw [HS.out]; exact HJ⟩,by simp [intOf]; omega⟩
     | false =>
      rw [hb] at c1 HS
      rw [if_neg (by simp)] at HS
      have hfl := xVf tk k
      have c0 := xA HJ.out.pl 1
      have f0 := xK (xP HJ.out.pl (.cells #[.int .i64 (k : Int)] 3)) 1
      simp only [gA,gB,gC] at c0
      clear hb
      generalize frL tk k = fl at HJ HS hfl
      go_wp2_with (at_builtin; refine wpList_append_lies _ rfl _ _ 164 rfl w.heap.size 3 i0 (.int .i64 0) 1 8 Tryz.underlying164 hi hz0 hz1 hz2 rfl (by decide) _ _ _ rfl (HJ.out.own.alloc _) ⟨wr.heap.size,0,none⟩ 1 1 [.int .i64 (k : Int)] rfl rfl (cell_one_new _ _ _) (yAt _) (by decide) (by unfold maxLen; omega) (by omega) (by have := HJ.out.bel.size; simp; omega) (wr.heap.size + 1) (by simp) ?_; intro g cap w5 hown hgrow hat hlt5; have HK := hI' (HJ.out.push hown hgrow (loc_of hat)); have hb5 := kX (xP HJ.out.pl (.cells #[.int .i64 (k : Int)] 3)) hgrow (Ne.symm HJ.out.ne1); have y1 := xK hb5 1; have y2 := xA hb5 1; simp only [gA,gB,gC] at y2; clear hown hgrow hat hb5)
      exact ⟨⟨k + 1,_,by omega,by go_num,by rw [HS.out]; exact HK⟩,by simp [intOf]; omega⟩
    ·obtain rfl : k = n := by omega
     have HLN : Hid (∀ x ∈ frL tk k,x < k) := hI' (fun x hx => frL_lt hx)
     have hfl := xVf tk k
     have HFE := hI' (xYe k tk)
     generalize frL tk k = fl at HJ HLN hfl HFE
     have c0 := xA HJ.out.pl 1
     simp only [gA,gB,gC] at c0
     clear hlt
     rcases HJ.out.own.row_of with ⟨rfl,rfl⟩ | ⟨g,cc,rest,rfl,hcc,hrow,hbg⟩
     ·have HP := hI' (HJ.out.pool (xDs _ _) (by simp) (by simp) HN.out rfl)
      go_wp2_with fail
      refine (xY8 _ _ _ wr c0).mono ?_
      rintro e w6 ⟨rfl,rfl⟩
      go_wp2
      go_ret
      refine ⟨_,rfl,?_,HJ.out.bel⟩
      rw [HFE.out]
      exact HP.out
     ·have hdw : DwI wr (w.heap.size + 1) g fl.length cc fl rest wr := ⟨hrow,c0,rfl,Tn.refl _ _,xI HJ.out.pl,fun e => HJ.out.ne1 (by rw [e]; rfl)⟩
      have HD := hI' (xY9 (w.heap.size + 1) g fl.length cc fl rest wr hdw (by omega))
      have HF : Hid (g ≠ w.heap.size ∧ g ≠ w.heap.size + 1 ∧ w.heap.size ≤ g ∧ fl.length ≤ cc) := hI' ⟨fun e => HJ.out.ne0 (by rw [e]; rfl),fun e => HJ.out.ne1 (by rw [e]; rfl),hbg,hcc⟩
      clear hdw hrow hbg hcc
      go_wp2_with fail
      refine HD.out.mono ?_
      rintro e w6 ⟨rfl,hd⟩
      have H6 := hI' hd
      clear hd HD
      go_wp2
      go_ret
      obtain ⟨f1,f2,f3,f4⟩ := HF.out
      have hd := H6.out
      have hpm := xE8 fl
      have hs6 := hd.tn.size
      have hs7 := xI HJ.out.pl
      refine ⟨_,rfl,⟨w.heap.size,_,tkB k tk,by omega,by omega,Nat.le_refl _,by omega,by omega,?_,?_,xDs _ _,.inr ⟨g,cc,rest,rfl,?_,?_,f3,xI hd.row.blk,f2,f1⟩,?_,?_,HN.out⟩,?_⟩
      ·exact (hd.tn.block _ (xI HJ.out.pl) (Ne.symm f2)).trans (by have := HJ.out.pl; rw [this,HFE.out,hpm.length_eq])
      ·exact (hd.tn.block _ (xI HJ.out.tb) (Ne.symm f1)).trans HJ.out.tb
      ·rw [HFE.out,hpm.length_eq]; exact f4
      ·rw [HFE.out]; exact hd.row
      ·rw [HFE.out]; exact fun x hx => HLN.out x (hpm.mem_iff.1 hx)
      ·rw [HFE.out,hpm.length_eq]; exact hfl
      ·exact HJ.out.bel.trans (hd.tn.below (fun q hq => by rw [hq]; exact f3) HJ.out.bel.size)
end Go.Proofs.AL
namespace Go.Proofs.AL
open Go.RowKit Mailsack MM SV DS BB
theorem xCs (lo hi gp n : Nat) (w : World) (hp : rE w lo hi gp n []) :
  Calls Tryz.prog 100 #[.pointer (some ⟨gp,0,none⟩)] w fun e w' => e = .returned (.tuple #[.int .i64 0,.bool false]) ∧ w' = w := by
 obtain ⟨gt,fv,bs,h1,h1',h2,h2',h3,h4,h5,h6,h7,h8,h9,h10⟩ := hp
 have hf : ∃ A c,fv = .slice A 0 c := by
  rcases h7 with ⟨_,h⟩ | ⟨g,c,rest,h,_⟩
  ·exact h
  ·exact ⟨_,_,h⟩
 obtain ⟨A,c,rfl⟩ := hf
 have c1 := xA h4 1
 simp only [gA,gB,gC] at c1
 clear h1 h2 h3 h4 h5 h6 h7 h8 h9 h10 h1' h2'
 go_enter Tryz.func100,Tryz.ntmps100
 go_wp2
 go_ret2
 exact ⟨rfl,rfl⟩
theorem xFe (lo hi gp n x : Nat) (h : List Nat) (w : World) (hp : rE w lo hi gp n (x :: h)) :
  Calls Tryz.prog 100 #[.pointer (some ⟨gp,0,none⟩)] w fun e w' => e = .returned (.tuple #[.int .i64 x,.bool true]) ∧ rE w' lo hi gp n (qP (x :: h)) ∧ Tn (fun k => lo ≤ k ∧ k < hi) w w' := by
 obtain ⟨gt,fv,bs,h1,h1',h2,h2',h3,h4,h5,h6,h7,h8,h9,h10⟩ := hp
 rcases h7 with ⟨h7,_⟩ | ⟨g,c,rest,rfl,k2,k3,k4,k4',k5,k6⟩
 ·cases h7
 have c1 := xA h4 1
 simp only [gA,gB,gC] at c1
 have hx := h8 x (List.mem_cons_self ..)
 have hp0 := hI' (xYb gp g h.length c (x :: h) rest w ⟨k3,c1,rfl,Tn.refl _ _,xI h4,fun e => k5 e.symm⟩ (xK h4 1) k2 (by simp at h9; omega))
 have hpl := xTw (h := x :: h) (by simp)
 have hpp := xFf (h := x :: h) (by simp)
 have H := hI' (And.intro h4 h5)
 have HM : Hid ((qP (x :: h)).length = h.length ∧ (∀ y ∈ qP (x :: h),y < n)) := hI' ⟨by simpa using hpl,fun y hy => h8 y (hpp.mem_iff.1 (List.mem_cons_of_mem _ hy))⟩
 have HX : Hid (lo ≤ gp ∧ gp < hi ∧ lo ≤ gt ∧ gt < hi ∧ gp ≠ gt ∧ bs.length = n ∧ lo ≤ g ∧ g < hi ∧ g ≠ gp ∧ g ≠ gt ∧ h.length ≤ c ∧ h.length ≤ n ∧ n ≤ 256) := hI' ⟨h1,h1',h2,h2',h3,h6,k4,k4',k5,k6,by simp at k2; omega,by simp at h9; omega,h10⟩
 have hnz : ¬ ((h.length : Int) + 1 = 0) := by omega
 have hnz2 : ((h.length : Int) + 1 == 0) = false := by simpa using hnz
 have hxn : (x : Int) < (n : Int) := by omega
 clear h1 h2 h3 h4 h5 h6 h8 h9 h10 h1' h2' k2 k3 k4 k4' k5 k6 hpl hpp hx
 go_enter Tryz.func100,Tryz.ntmps100
 go_wp2_with fail
 refine hp0.out.mono ?_
 rintro e w1 ⟨rfl,W,rest',rfl,ht,hrow⟩
 obtain ⟨x1,x2,x3,x4,x5,x6,x7,x8,x9,x10,x11,x12,x13⟩ := HX.out
 have q1 := ht.blk H.out.1 (fun e => x9 e.symm)
 have q2 := ht.blk H.out.2 (fun e => x10 e.symm)
 have q3 := yB q1 1 (.slice (some ⟨g,0,none⟩) h.length c)
 simp only [List.setIfInBounds_toArray,List.set_cons_zero,List.set_cons_succ] at q3
 have q4 := xZ q2 (p := ⟨gp,1,none⟩) (fun e => x5 e.symm) (.slice (some ⟨g,0,none⟩) h.length c)
 have q5 := vQ.far hrow (p := ⟨gp,1,none⟩) x9 (.slice (some ⟨g,0,none⟩) h.length c)
 have t1 : Tn (fun k => lo ≤ k ∧ k < hi) w (W.setCell ⟨gp,1,none⟩ (.slice (some ⟨g,0,none⟩) h.length c)) := (ht.more (fun k hk => by subst hk; exact ⟨x7,x8⟩)).set (p := ⟨gp,1,none⟩) (.inl ⟨x1,x2⟩) _
 have HK := hI' (And.intro q3 (And.intro q4 (And.intro q5 t1)))
 clear q1 q2 q3 q4 q5 t1 ht hrow H hp0 c1 x1 x2 x3 x4 x5 x7 x8 x9 x10 x11 x12 x13
 generalize W.setCell ⟨gp,1,none⟩ (.slice (some ⟨g,0,none⟩) h.length c) = w2 at HK ⊢
 have c0 := xA HK.out.1 0
 have c2 : ∃ b,w2.cell? ⟨gt,x,none⟩ = some (.bool b) := by
  rw [xA HK.out.2.1,List.getElem?_toArray,List.getElem?_map,List.getElem?_eq_getElem (by omega)]
  exact ⟨_,rfl⟩
 obtain ⟨b,c2⟩ := c2
 have f2 := xK HK.out.2.1 x
 simp only [gA,gC] at c0
 clear x6
 have hta : ∀ w,(Instr.typeAssert (.iface 3 (.int .i64 (x : Int))) 20 3 true).run Tryz.prog w = .ok (.tuple #[.int .i64 (x : Int),.bool true]) w := fun _ => by kernel_rfl
 go_wp2
 go_ret2
 obtain ⟨x1,x2,x3,x4,x5,x6,x7,x8,x9,x10,x11,x12,x13⟩ := HX.out
 refine ⟨rfl,⟨gt,_,bs.set x true,x1,x2,x3,x4,x5,xZ HK.out.1 (p := ⟨gt,x,none⟩) x5 _,?_,by simpa using x6,.inr ⟨g,c,rest',by rw [HM.out.1],by rw [HM.out.1]; exact x11,vQ.far HK.out.2.2.1 (p := ⟨gt,x,none⟩) x10 _,x7,x8,x9,x10⟩,HM.out.2,by rw [HM.out.1]; exact x12,x13⟩,HK.out.2.2.2.set (p := ⟨gt,x,none⟩) (.inl ⟨x3,x4⟩) _⟩
 have := yB HK.out.2.1 x (.bool true)
 rw [this]
 simp [List.map_set]
end Go.Proofs.AL
namespace Mailsack
theorem xQj {l : List Slot} {k c : Nat} {t : Slot} (h : l[k]? = some t) : uD (l.take (k + 1)) c = uD (l.take k) c ++ (if (t.used && t.cls == c) = true then [t.blk] else []) := by
 unfold uD
 rw [List.take_add_one,h,List.filter_append,List.map_append]
 cases hq : (t.used && t.cls == c) with
 | true => simp [hq]
 | false => simp [hq]
theorem xKe (l : List Slot) (c k : Nat) : (uD (l.take k) c).length ≤ k := by
 unfold uD
 rw [List.length_map]
 have h1 := List.length_filter_le (fun t : Slot => t.used && t.cls == c) (l.take k)
 have h2 := List.length_take_le k l
 omega
end Mailsack
namespace Go.Proofs.ST
open Go.RowKit Mailsack MM BB SH SV RK DS AL
abbrev natF (n : Nat) : List Value := [.int .i64 (n : Int)]
theorem xJh (n : Nat) : (natF n).length = 1 := rfl
theorem xXs (x : Nat) : ∀ u ∈ natF x,u.oneCell' = true := by
 intro u hu; rw [List.mem_singleton.1 hu]; rfl
theorem xP7 : (Tryz.prog.info? 3).map (fun i => (i.zero,i.size,i.bytes)) = some (some (.int .i64 0),1,8) := by kernel_rfl
theorem tyNat : xWm Tryz.prog 49 3 1 8 natF := by
 obtain ⟨i,hi,hz,hs,hb⟩ := wH xP7
 exact ⟨Tryz.underlying49,⟨i,_,hi,hz,hs,hb,rfl⟩,by omega,by omega,xJh,xXs⟩
theorem rdN_of {w : World} {B : Nat} {v : Value} {l : List Nat} (h : RdR 1 natF w B v l) : RdN w B v l := by
 obtain ⟨A,c,h1,h2,h3⟩ := h
 refine ⟨A,c,h1,h2,fun hn => ?_⟩
 obtain ⟨b,off,h4,h5,h6⟩ := h3 hn
 refine ⟨b,off,h4,h5,fun j x hx => ?_⟩
 have := h6 j x hx 0 _ rfl
 rw [Nat.mul_one,Nat.add_zero] at this
 exact this
structure TkS (w : World) (gs gl : Nat) (l : List Slot) (v : Value) (T : List Nat) (W : World) : Prop where
 st : W.cell? ⟨gs,0,none⟩ = some (.slice (some ⟨gl,0,none⟩) 32 32)
 sl : qC 140 qI W gl l
 own : xX 3 1 natF W w.heap.size v T
 bel : Below w.heap.size w W
theorem xQk {w W W' : World} {gs gl : Nat} {l : List Slot} {v : Value} {T : List Nat} (h : TkS w gs gl l v T W) (hgs : gs < w.heap.size) (hb : Below W.heap.size W W') : TkS w gs gl l v T W' :=
 ⟨(hb.cell (p := ⟨gs,0,none⟩) (Nat.lt_of_lt_of_le hgs h.bel.size)).trans h.st,h.sl.below hb,h.own.below hb,h.bel.trans (hb.mono h.bel.size)⟩
theorem xKf (gs gl c : Nat) (l : List Slot) (w : World) (h1 : w.cell? ⟨gs,0,none⟩ = some (.slice (some ⟨gl,0,none⟩) 32 32)) (h2 : qC 140 qI w gl l) (hl : l.length = 32) (hgs : gs < w.heap.size) :
  Calls Tryz.prog 45 #[.pointer (some ⟨gs,0,none⟩),.int .i64 c] w fun e w' => ∃ v,e = .returned v ∧ RdN w' w'.heap.size v (uD l c) ∧ Below w.heap.size w w' := by
 have H0 : Hid (TkS w gs gl l (.slice none 0 0) (uD (l.take 0) c) w) := hI' ⟨h1,h2,xX.nil _ _,Below.refl _ _⟩
 have HL := hI' (And.intro hl hgs)
 clear h2 hl hgs
 go_enter Tryz.func45,Tryz.ntmps45
 go_wp2_with fail
 clear h1
 go_loopw [5,13] (fun tv iv wr => ∃ k : Nat,k ≤ 32 ∧ iv = .int .i64 k ∧ Hid (TkS w gs gl l tv (uD (l.take k) c) wr)) (fun _ iv _ => 32 - (intOf iv).toNat)
 case atStart => exact ⟨0,Nat.zero_le _,rfl,H0⟩
 case round =>
  obtain ⟨k,hk,rfl,HI⟩ := hrel
  clear H0
  by_cases hlt : k < 32
  ·obtain ⟨x,hx⟩ : ∃ x,l[k]? = some x := ⟨_,List.getElem?_eq_getElem (by have := HL.out.1; omega)⟩
   have q0 := HI.out.sl.cell zO (i := 0) hx rfl
   have q1 := HI.out.sl.cell zO (i := 1) hx rfl
   have q2 := HI.out.sl.cell zO (i := 2) hx rfl
   have q3 := HI.out.sl.cell zO (i := 3) hx rfl
   have q4 := HI.out.sl.cell zO (i := 4) hx rfl
   rw [Nat.add_zero] at q0
   have HS := hI' (xQj (c := c) hx)
   have HTL := hI' (xKe l c k)
   have HA := hI' (xQk HI.out HL.out.2 ((Below.refl _ _).alloc (Nat.le_refl _) (wU x)))
   have hbx := xM wr (wU x)
   obtain ⟨x0,x1,x2,x3,x4⟩ := xSf hbx
   have hbx2 := hI' hbx
   generalize uD (l.take k) c = T at HI HS HTL HA
   clear hx hbx HI
   go_upto_region 5 with fail
   clear q0 q1 q2 q3 q4
   obtain ⟨xu,xc,xb,xs,xn⟩ := x
   simp only at HS HA x0 x1 x2 x3 x4 hbx2
   generalize wr.alloc (.cells #[.bool xu,.int .i64 xc,.int .i64 xb,.int .i64 xs,xU xn] 140) = w2 at HA x0 x1 x2 x3 x4 hbx2 ⊢
   by_cases hu : xu = true ∧ xc = c
   ·obtain ⟨rfl,rfl⟩ := hu
    rw [if_pos (by simp)] at HS
    go_upto_region 6 with fail
    have hsz := HA.out.bel.size
    have HAD : Hid (∀ v8 w8,xHn 3 1 natF (w2.alloc (.cells #[.int .i64 (xb : Int)] 3)) w8 w.heap.size u5 v8 (T ++ [xb]) → Hid (TkS w gs gl l v8 (uD (l.take (k + 1)) xc) w8)) := hI' fun v8 w8 h8 => hI' (by
     have hlo := HL.out.2
     have h9 := xP HA.out.sl.blk (.cells #[.int .i64 (xb : Int)] 3)
     refine ⟨?_,h8.keep h9 (xX.neT (HA.out.own.alloc _) h9 (by decide)),by rw [HS.out]; exact h8.own,h8.bel (HA.out.own.alloc _) (Nat.le_refl _) (HA.out.bel.alloc HA.out.bel.size _) (by simp; omega)⟩
     rw [(h8.bel (HA.out.own.alloc _) (Nat.le_refl _) ((Below.refl w.heap.size w2).alloc hsz _) (by simp; omega)).cell (p := ⟨gs,0,none⟩) hlo]
     exact HA.out.st)
    go_wp2_with (at_builtin; refine vS tyNat rfl _ _ rfl rfl rfl (HA.out.own.alloc _) (RdR.lit (m := [xb]) xJh _ _ rfl) (by have := HTL.out; simp; omega) (by simp; omega) ?_; intro v8 w8 h8; have HA8 := HAD.out _ _ h8; clear h8)
    exact ⟨⟨k + 1,by omega,by go_num,HA8⟩,by simp [intOf]; omega⟩
   ·have hf : (xu && xc == c) = false := by
     cases hq : (xu && xc == c) with
     | false => rfl
     | true => simp at hq; exact absurd hq hu
    rw [hf,if_neg (by simp),List.append_nil] at HS
    have HA9 : Hid (TkS w gs gl l u5 (uD (l.take (k + 1)) c) w2) := hI' (by rw [HS.out]; exact HA.out)
    cases xu with
    | false =>
     clear hu hf
     go_wp2
     exact ⟨⟨k + 1,by omega,by go_num,HA9⟩,by simp [intOf]; omega⟩
    | true =>
     have hc : ¬ ((xc : Int) = (c : Int)) := by
      intro e
      exact hu ⟨rfl,by omega⟩
     have hc2 : ((xc : Int) == (c : Int)) = false := by simpa using hc
     clear hu hf
     go_wp2
     exact ⟨⟨k + 1,by omega,by go_num,HA9⟩,by simp [intOf]; omega⟩
  ·obtain rfl : k = 32 := by omega
   have HE : Hid (uD (l.take 32) c = uD l c) := hI' (by rw [List.take_of_length_le (by rw [HL.out.1]; omega)])
   rw [HE.out] at HI
   go_wp2
   go_ret
   exact ⟨_,rfl,rdN_of (HI.out.own.rd xJh),HI.out.bel⟩
end Go.Proofs.ST
namespace Go.Proofs.ST
open Go.RowKit Mailsack MM BB SH SV RK DS AL
structure StL where
 gl : Nat
 gs : Nat
 gp0 : Nat
 lo0 : Nat
 hi0 : Nat
 gp1 : Nat
 lo1 : Nat
 hi1 : Nat
abbrev staO (L : StL) (cv : Value) : Obj := .cells #[.slice (some ⟨L.gl,0,none⟩) 32 32,.pointer (some ⟨L.gp0,0,none⟩),.pointer (some ⟨L.gp1,0,none⟩),cv] 104
structure StM (w : World) (L : StL) (cv wv : Value) (s : StS) (W : World) : Prop where
 st : W.heap[L.gs]? = some (staO L cv)
 sl : qC 140 qI W L.gl s.slots
 p0 : rE W L.lo0 L.hi0 L.gp0 24 s.wB
 p1 : rE W L.lo1 L.hi1 L.gp1 12 s.xB5
 wr : xX 111 2 wrF W L.hi1 wv s.writes
 len : s.slots.length = 32
 bel : Below w.heap.size w W
 o0 : w.heap.size ≤ L.gl
 o1 : L.gl < L.gs
 o2 : L.gs < L.lo0
 o3 : L.lo0 ≤ L.hi0
 o4 : L.hi0 ≤ L.lo1
 o5 : L.lo1 ≤ L.hi1
 o6 : L.hi1 ≤ W.heap.size
section
variable {w W W' : World} {L : StL} {cv wv : Value} {s : StS}
theorem StM.below (h : StM w L cv wv s W) (hb : Below W.heap.size W W') : StM w L cv wv s W' :=
 ⟨xE h.st hb (xI h.st),h.sl.below hb,h.p0.below hb,h.p1.below hb,h.wr.below hb,h.len,h.bel.trans (hb.mono h.bel.size),h.o0,h.o1,h.o2,h.o3,h.o4,h.o5,Nat.le_trans h.o6 hb.size⟩
theorem xG1 (b : Nat) : ∀ (l : List Value) (i : Nat) (W : World),(yR b i l W).heap.size = W.heap.size
 | [],_,_ => rfl
 | _ :: l,i,W => by unfold yR; rw [xG1 b l,size_set]
theorem xX.yR {α : Type} {e : TypeId} {k : Nat} {f : α → List Value} {w : World} {base : Nat} {v : Value} {l : List α} (h : xX e k f w base v l) {g : Nat} (xs : List Value) (i : Nat) (hg : g < base) : xX e k f (SV.yR g i xs w) base v l := by
 refine ⟨h.1,?_⟩
 rcases h.2 with hn | ⟨g',cap,cur,h1,h2,h3,h4⟩
 ·exact .inl hn
 ·exact .inr ⟨g',cap,cur,h1,h2,yQ (by omega) xs i _ h3,h4⟩
theorem StM.slot (h : StM w L cv wv s W) {k : Nat} (hk : k < 32) (t : Slot) : StM w L cv wv { s with slots := s.slots.set k t } (yR L.gl (k * 5) (qI t) W) := by
 have a1 := h.o1; have a2 := h.o2; have a3 := h.o3; have a4 := h.o4; have a5 := h.o5
 refine ⟨yQ (by omega) _ _ _ h.st,h.sl.put zO (by rw [h.len]; exact hk) t,h.p0.kept fun q o hq h1 h2 => yQ (by omega) _ _ _ hq,h.p1.kept fun q o hq h1 h2 => yQ (by omega) _ _ _ hq,xX.yR h.wr _ _ (by omega),by simpa using h.len,zZ h.o0 _ _ _ h.bel,h.o0,h.o1,h.o2,h.o3,h.o4,h.o5,by rw [xG1]; exact h.o6⟩
theorem StM.app {l' : List Wr} {wv' : Value} (h : StM w L cv wv s W) (ha : xHn 111 2 wrF W W' L.hi1 wv wv' l') : StM w L cv wv' { s with writes := l' } W' := by
 have a0 := h.o0; have a1 := h.o1; have a2 := h.o2; have a3 := h.o3; have a4 := h.o4; have a5 := h.o5; have a6 := h.o6
 have hf : ∀ p,p < L.hi1 → wv.ownBlock ≠ some p := fun p hp => h.wr.far hp
 refine ⟨ha.keep h.st (hf _ (by omega)),ha.keep h.sl.blk (hf _ (by omega)),h.p0.kept fun q o hq h1 h2 => ha.keep hq (hf _ (by omega)),h.p1.kept fun q o hq h1 h2 => ha.keep hq (hf _ h2),ha.own,h.len,ha.bel h.wr (by omega) h.bel (by omega),h.o0,h.o1,h.o2,h.o3,h.o4,h.o5,Nat.le_trans h.o6 ha.grown.size⟩
theorem StM.cell (h : StM w L cv wv s W) (cv' : Value) : StM w L cv' wv s (W.setCell ⟨L.gs,3,none⟩ cv') := by
 have a0 := h.o0; have a1 := h.o1; have a2 := h.o2; have a3 := h.o3; have a4 := h.o4; have a5 := h.o5; have a6 := h.o6
 have hs := yB h.st 3 cv'
 simp only [List.setIfInBounds_toArray,List.set_cons_zero,List.set_cons_succ] at hs
 refine ⟨hs,xZ h.sl.blk (p := ⟨L.gs,3,none⟩) (by show L.gl ≠ L.gs; omega) _,h.p0.kept fun q o hq h1 h2 => xZ hq (p := ⟨L.gs,3,none⟩) (by show q ≠ L.gs; omega) _,h.p1.kept fun q o hq h1 h2 => xZ hq (p := ⟨L.gs,3,none⟩) (by show q ≠ L.gs; omega) _,h.wr.xBx (p := ⟨L.gs,3,none⟩) _ (h.wr.far (by show L.gs < L.hi1; omega)),h.len,h.bel.setCell (p := ⟨L.gs,3,none⟩) (by show w.heap.size ≤ L.gs; omega) _,h.o0,h.o1,h.o2,h.o3,h.o4,h.o5,by rw [size_set]; exact h.o6⟩
end
theorem xFy (w : World) (K : StL) (wv : Value) (s : StS) (i : Nat) (t : Slot) (W : World) (h : StM w K wv wv s W) (hi : i < 32) (hc : t.cls ≤ 255) (hb : t.blk ≤ 255) (hs : t.size ≤ 65535) (hn : t.name.length ≤ 255) (hw : s.writes.length ≤ 10000) :
  Calls Tryz.prog 96 #[.pointer (some ⟨K.gs,0,none⟩),.int .i64 i,xGz t] W fun e W' => e = .returned (.tuple #[]) ∧ ∃ wv',StM w K wv' wv' (putAt s i t) W' := by
 have HEN := hI' (fun W => xIb t W hc hb hs hn)
 have HP0 : Hid (StM w K wv wv s (W.alloc (wU t)) ∧ (W.alloc (wU t)).heap[W.heap.size]? = some (wU t) ∧ K.hi1 ≤ W.heap.size) := hI' ⟨h.below ((Below.refl _ _).alloc (Nat.le_refl _) _),xM _ _,h.o6⟩
 have HPA : Hid (putAt s i t = { s with slots := s.slots.set i t,writes := s.writes ++ [setW i t] }) := hI' rfl
 have HSW : Hid (setW i t = ⟨((61 + i : Nat) : Int),kI t⟩) := hI' rfl
 have hi32 : (i : Int) < 32 := by omega
 obtain ⟨bx,hbx⟩ : ∃ bx,W.heap.size = bx := ⟨_,rfl⟩
 rw [hbx] at HP0
 have HBX := hI' hbx
 have HW := hI' hw
 clear h hc hb hs hn hbx hw
 go_enter Tryz.func96,Tryz.ntmps96
 go_upto_region 1 with fail
 rw [HBX.out]
 generalize hw1 : W.alloc (.cells #[.bool t.used,.int .i64 t.cls,.int .i64 t.blk,.int .i64 t.size,xU t.name] 140) = w1
 have HP1 : Hid (StM w K wv wv s w1 ∧ w1.heap[bx]? = some (wU t) ∧ K.hi1 ≤ bx) := hI' (by rw [← hw1]; exact HP0.out)
 clear hw1 HP0 HBX
 refine RG.uU [7] [] (fun F α W => Hid ((F 7 = false → StM w K wv wv s W) ∧ (F 7 = true → StM w K wv wv { s with slots := s.slots.set i t } W) ∧ W.heap[bx]? = some (wU t)))
  (fun F F' α α' W hl _ h => hI' (by rw [← hl 7 (by simp)]; exact h.out)) (by kernel_rfl) (by kernel_rfl) (by kernel_rfl) (hI' ⟨fun _ => HP1.out.1.below (Below.refl _ _).drew,fun e => (by cases e),HP1.out.2.1⟩) ?_
 iterate 3
  apply RG.yL
  ·rfl
  ·rfl
  ·intro α L w9 h0 hcl xH hw9
   repeat go_step
   with_reducible exact RG.xB hw9
  ·intro α; rfl
 apply RG.yL
 ·rfl
 ·rfl
 ·intro α L w9 h0 hcl xH hw9
  have f7 : L 7 = false := hcl.not 8 (i := 7) h0 (by kernel_rfl)
  have hb := (hw9.out.1 f7).st
  have s0 := xWj hb
  repeat go_step
  with_reducible exact RG.xB hw9
 ·intro α; rfl
 apply RG.yL
 ·rfl
 ·rfl
 ·intro α L w9 h0 hcl xH hw9
  repeat go_step
  with_reducible exact RG.xB hw9
 ·intro α; rfl
 iterate 2
  apply RG.yL
  ·rfl
  ·rfl
  ·intro α L w9 h0 hcl xH hw9
   have hb := hw9.out.2.2
   obtain ⟨d0,d1,d2,d3,d4⟩ := xSf hb
   repeat go_step
   with_reducible exact RG.xB hw9
  ·intro α; rfl
 apply RG.xCj (v := undef)
 ·rfl
 ·rfl
 ·intro α L w9 h0 hcl xH hw9
  have hst := hw9.out.1 h0
  have HPU := hI' (hst.slot hi t)
  have HBX := hI' (yQ (b := K.gl) (g := bx) (by have := HP1.out.2.2; have := hst.o1; have := hst.o2; have := hst.o3; have := hst.o4; have := hst.o5; omega) (qI t) (i * 5) w9 hw9.out.2.2)
  obtain ⟨y,hy⟩ : ∃ y,s.slots[i]? = some y := ⟨_,List.getElem?_eq_getElem (by rw [hst.len]; exact hi)⟩
  have f0 := hst.sl.free (i * 5)
  have f1 := hst.sl.free (i * 5 + 1)
  have f2 := hst.sl.free (i * 5 + 2)
  have f3 := hst.sl.free (i * 5 + 3)
  have f4 := hst.sl.free (i * 5 + 4)
  have o0 := hst.sl.cell zO (i := 0) hy rfl
  have o1 := hst.sl.cell zO (i := 1) hy rfl
  have o2 := hst.sl.cell zO (i := 2) hy rfl
  have o3 := hst.sl.cell zO (i := 3) hy rfl
  have o4 := hst.sl.cell zO (i := 4) hy rfl
  rw [Nat.add_zero] at o0
  simp only [yR] at HPU HBX
  clear hst hy
  repeat go_step
  with_reducible refine RG.xB ?_
  exact hI' ⟨fun e => by simp at e,fun _ => HPU.out,HBX.out⟩
 ·intro α; rfl
 refine RG.rY (fun α w2 hw2 => ?_)
 have HP2 : Hid (StM w K wv wv { s with slots := s.slots.set i t } w2 ∧ w2.heap[bx]? = some (wU t) ∧ K.hi1 ≤ bx) := hI' ⟨hw2.out.2.1 rfl,hw2.out.2.2,HP1.out.2.2⟩
 clear hw2 HP1
 go_upto_region 2 with fail
 obtain ⟨ev,hev⟩ : ∃ ev,kI t = ev := ⟨_,rfl⟩
 rw [hev] at HEN HSW
 clear hev
 obtain ⟨sl2,hsl2⟩ : ∃ l,s.slots.set i t = l := ⟨_,rfl⟩
 rw [hsl2] at HP2 HPA
 have hat : (61 : Int) + (i : Int) = ((61 + i : Nat) : Int) := by omega
 have HAT := hI' hat
 clear hat hsl2
 refine RG.uU [14] [10,11] (fun F α W => Hid ((F 11 = false → StM w K wv wv { s with slots := sl2 } W) ∧ (F 10 = true → F 11 = false → RdR 2 wrF W W.heap.size (α 10) [⟨61 + (i : Int),ev⟩]) ∧
  (F 11 = true → F 14 = false → StM w K wv (α 11) { s with slots := sl2,writes := s.writes ++ [⟨61 + (i : Int),ev⟩] } W) ∧ (F 11 = true → F 14 = true → StM w K (α 11) (α 11) { s with slots := sl2,writes := s.writes ++ [⟨61 + (i : Int),ev⟩] } W) ∧ W.heap[bx]? = some (wU t)))
  (fun F F' α α' W hl ha h => hI' (by
   have l10 := hl 10 (by simp)
   have l11 := hl 11 (by simp)
   have l14 := hl 14 (by simp)
   refine ⟨fun e => h.out.1 (l11.trans e),fun e f => ?_,fun e f => ?_,fun e f => ?_,h.out.2.2.2.2⟩
   ·rw [← ha 10 (by simp) (l10.trans e)]; exact h.out.2.1 (l10.trans e) (l11.trans f)
   ·rw [← ha 11 (by simp) (l11.trans e)]; exact h.out.2.2.1 (l11.trans e) (l14.trans f)
   ·rw [← ha 11 (by simp) (l11.trans e)]; exact h.out.2.2.2.1 (l11.trans e) (l14.trans f))) (by kernel_rfl) (by kernel_rfl) (by kernel_rfl) (hI' ⟨fun _ => HP2.out.1.below (Below.refl _ _).drew,fun e => (by cases e),fun e => (by cases e),fun e => (by cases e),HP2.out.2.1⟩) ?_
 iterate 4
  apply RG.yL
  ·rfl
  ·rfl
  ·intro α L w9 h0 hcl xH hw9
   repeat go_step
   with_reducible exact RG.xB hw9
  ·intro α; rfl
 apply RG.yL
 ·rfl
 ·rfl
 ·intro α L w9 h0 hcl xH hw9
  have f14 : L 14 = false := hcl.not 9 (i := 14) h0 (by kernel_rfl)
  have hb : w9.heap[K.gs]? = some (staO K wv) := by
   cases f11 : L 11 with
   | false => exact (hw9.out.1 f11).st
   | true => exact (hw9.out.2.2.1 f11 f14).st
  have s3 := xA hb 3
  simp only [gA,gB,gC] at s3
  clear hb
  repeat go_step
  with_reducible exact RG.xB hw9
 ·intro α; rfl
 iterate 2
  apply RG.yL
  ·rfl
  ·rfl
  ·intro α L w9 h0 hcl xH hw9
   repeat go_step
   with_reducible exact RG.xB hw9
  ·intro α; rfl
 apply RG.yL
 ·rfl
 ·rfl
 ·intro α L w9 h0 hcl xH hw9
  have hb := hw9.out.2.2.2.2
  obtain ⟨d0,d1,d2,d3,d4⟩ := xSf hb
  repeat go_step
  with_reducible exact RG.xB hw9
 ·intro α; rfl
 apply RG.yL
 ·rfl
 ·rfl
 ·intro α L w9 h0 hcl xH hw9
  repeat go_step
  refine (HEN.out _).mono ?_
  rintro e w10 ⟨rfl,yA⟩
  simp only []
  repeat go_step
  with_reducible refine RG.xB ?_
  exact hI' ⟨fun e => (hw9.out.1 e).below yA,fun e f => ((hw9.out.2.1 e f).below yA (Nat.le_refl _)).more yA.size,fun e f => (hw9.out.2.2.1 e f).below yA,fun e f => (hw9.out.2.2.2.1 e f).below yA,xE hw9.out.2.2.2.2 yA (xI hw9.out.2.2.2.2)⟩
 ·intro α; rfl
 apply RG.yL
 ·rfl
 ·rfl
 ·intro α L w9 h0 hcl xH hw9
  repeat go_step
  with_reducible exact RG.xB hw9
 ·intro α; rfl
 apply RG.kN
 ·rfl
 ·intro α L w9 h0 hcl xH hw9
  have f11 : L 11 = false := hcl.not 9 (i := 11) h0 (by kernel_rfl)
  refine ⟨.slice (some ⟨w9.heap.size,0,none⟩) 1 1,fun bv hbv => ?_⟩
  repeat go_step
  rw [← hbv]
  with_reducible refine RG.xB ?_
  have hal := (Below.refl w9.heap.size w9).alloc (Nat.le_refl _) (.cells #[.int .i64 (61 + (i : Int)),xU ev] 111)
  exact hI' ⟨fun _ => (hw9.out.1 f11).below hal,fun _ _ => by
   rw [show RG.xH0 α (0 + 1 + 1 + 1 + 1 + 1 + 1 + 1 + 1 + 1 + 1) bv 10 = bv from RG.uM _ _ _,hbv,vD]
   exact RdR.lit (m := [(⟨61 + (i : Int),ev⟩ : Wr)]) xDq w9 _ rfl,fun e => absurd (show L 11 = true by simpa using e) (by rw [f11]; simp),fun e => absurd (show L 11 = true by simpa using e) (by rw [f11]; simp),xP hw9.out.2.2.2.2 _⟩
 ·intro b α; rfl
 apply RG.kN
 ·rfl
 ·intro α L w9 h0 hcl xH hw9
  have f10 : L 10 = true := by
   have := xH.yes 9 (i := 11) (j := 10) (by simp) (by kernel_rfl)
   simpa using this
  have f14 : L 14 = false := hcl.not 9 (i := 14) h0 (by kernel_rfl)
  have hst := hw9.out.1 h0
  obtain ⟨v',w',hr,ha⟩ := xBe (P := Tryz.prog) tyWr 26 hst.wr (hw9.out.2.1 f10 h0) (by have := HW.out; simp; omega) hst.o6
  refine ⟨v',fun bv hbv => ?_⟩
  refine jP rfl _ _ rfl rfl rfl hr ?_
  rw [← hbv]
  repeat go_step
  with_reducible refine RG.xB ?_
  exact hI' ⟨fun e => by simp at e,fun _ e => by simp at e,fun _ _ => by
   rw [show RG.xH0 α (0 + 1 + 1 + 1 + 1 + 1 + 1 + 1 + 1 + 1 + 1 + 1) bv 11 = bv from RG.uM _ _ _,hbv]
   exact hst.app ha,fun _ e => absurd (show L 14 = true by simpa using e) (by rw [f14]; simp),ha.keep hw9.out.2.2.2.2 (xX.neT hst.wr hw9.out.2.2.2.2 (by decide))⟩
 ·intro b α; rfl
 iterate 2
  apply RG.yL
  ·rfl
  ·rfl
  ·intro α L w9 h0 hcl xH hw9
   repeat go_step
   with_reducible exact RG.xB hw9
  ·intro α; rfl
 apply RG.xCk (v := fun _ => undef)
 ·rfl
 ·kernel_rfl
 ·rfl
 ·intro α L w9 h0 hcl xH hw9
  have f11 : L 11 = true := by
   have := xH.yes 9 (i := 14) (j := 11) (by simp) (by kernel_rfl)
   simpa using this
  have hst := hw9.out.2.2.1 f11 h0
  obtain ⟨A,c,hg,_⟩ := hst.wr.form
  rw [show (s.writes ++ [(⟨61 + (i : Int),ev⟩ : Wr)]).length = s.writes.length + 1 by simp] at hg
  have HC := hI' (hst.cell (α 11))
  have HBX := hI' (xZ hw9.out.2.2.2.2 (p := ⟨K.gs,3,none⟩) (by have := HP2.out.2.2; have := hst.o2; have := hst.o3; have := hst.o4; have := hst.o5; show bx ≠ K.gs; omega) (α 11))
  have hb := hst.st
  have s3 := xA hb 3
  have y3 := xK hb 3
  simp only [gA,gB,gC] at s3
  have HG := hI' hg
  rw [show α (0 + 1 + 1 + 1 + 1 + 1 + 1 + 1 + 1 + 1 + 1 + 1) = _ from hg]
  clear hst hb hg
  repeat go_step
  rw [← show α (0 + 1 + 1 + 1 + 1 + 1 + 1 + 1 + 1 + 1 + 1 + 1) = _ from HG.out]
  with_reducible refine RG.xB ?_
  exact hI' ⟨fun e => absurd (show L 11 = false by simpa using e) (by rw [f11]; simp),fun _ e => absurd (show L 11 = false by simpa using e) (by rw [f11]; simp),fun _ e => by simp at e,fun _ _ => HC.out,HBX.out⟩
 ·intro α; rfl
 refine RG.rY (fun α w3 hw3 => ?_)
 have HR := hI' (hw3.out.2.2.2.1 rfl rfl)
 clear hw3
 go_wp2
 refine bodyPost_end (results_none rfl _ _ _) rfl ?_
 refine ⟨rfl,α 11,?_⟩
 rw [HPA.out,HSW.out,← HAT.out]
 exact HR.out
end Go.Proofs.ST
