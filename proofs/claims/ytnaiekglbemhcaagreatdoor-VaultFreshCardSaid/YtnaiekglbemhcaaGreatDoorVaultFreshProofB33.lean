/- Contracts of functions of the program. Conditions: those that each theorem states. -/
import Derived.Test.YtnaiekglbemhcaaGreatDoorVaultFreshProofB32
import Derived.Test.YtnaiekglbemhcaaGreatDoorVaultFreshProofB22
set_option maxHeartbeats 8000000
set_option maxRecDepth 100000
namespace Go.Proofs.SH
open Go.RowKit Mailsack MM BB SV FE
theorem rd_one (w : World) (x : ByteArray) : RdS (w.alloc (.cells #[.string x] 9)) (w.alloc (.cells #[.string x] 9)).heap.size (.slice (some ⟨w.heap.size,0,none⟩) 1 1) [x.data.toList] := by
 refine ⟨_,_,rfl,Nat.le_refl _,fun _ => ⟨_,_,rfl,by simp,fun j y hy => ?_⟩⟩
 have hj : j = 0 := by
  have := (List.getElem?_eq_some_iff.1 hy).1
  simpa using this
 subst hj
 injection hy with hy
 subst hy
 exact xA (xM w (.cells #[.string x] 9)) 0
theorem xXv (u pw xO xD priv : ByteArray) (r : Int) (w : World) (hu : u.size ≤ 1099511627776) (h : (yS u && yY xO xD priv r) = false) :
  Calls Tryz.prog 21 #[.string u,.string pw,xB3 xO xD priv r] w fun e w' => e = .returned (.tuple #[pF zP,.int .i64 1]) ∧ Below w.heap.size w w' := by
 have HU := hI' (fun W => tH u W hu)
 have HF := hI' (fun W => xBy xO xD priv r W)
 have t0 := zQ w (uO xO xD priv r) (yI zP)
 have t1 := zM w (uO xO xD priv r) (yI zP)
 have H0 : Hid (((w.alloc (uO xO xD priv r)).alloc (yI zP)).heap[w.heap.size]? = some (uO xO xD priv r) ∧ ((w.alloc (uO xO xD priv r)).alloc (yI zP)).heap[w.heap.size + 1]? = some (yI zP) ∧ Below w.heap.size w ((w.alloc (uO xO xD priv r)).alloc (yI zP))) := hI' ⟨t0,t1,((Below.refl w.heap.size w).alloc (Nat.le_refl _) _).alloc (by simp) _⟩
 clear t0 t1
 cases hb : yS u with
 | false =>
  rw [hb] at HU
  clear hb h HF
  go_enter Tryz.func21,Tryz.ntmps21
  go_wp2_with fail
  refine (HU.out _).mono ?_
  rintro e w1 ⟨rfl,hw1⟩
  have H1 : w1.heap[w.heap.size + 1]? = some (yI zP) ∧ Below w.heap.size w w1 := by rw [hw1]; exact H0.out.2
  obtain ⟨o0,y0,f0,o1,y1,f1,o2,y2,f2,o3,y3,f3,o4,y4,f4,o5,y5,f5,o6,y6,f6,o7,y7,f7,HB⟩ := xSe H1.1 H1.2 (by omega) (.string ⟨#[]⟩) (.string ⟨#[]⟩) (.int .i64 0) (.int .i64 0) (.string ⟨#[]⟩) (.string ⟨#[]⟩) (.string ⟨#[]⟩) (.string ⟨#[]⟩) _ rfl
  clear H0 H1 hw1 HU
  go_wp2
  refine bodyPost_ret (v := .tuple #[.agg #[.string ⟨#[]⟩,.string ⟨#[]⟩,.int .i64 0,.int .i64 0,.string ⟨#[]⟩,.string ⟨#[]⟩,.string ⟨#[]⟩,.string ⟨#[]⟩],.int .i64 1]) (by simp [results,Tryz.results21,go_sem,f0,f1,f2,f3,f4,f5,f6,f7]) rfl ?_
  exact ⟨rfl,HB.out⟩
 | true =>
  have hf : yY xO xD priv r = false := by rw [hb] at h; exact h
  rw [hb] at HU
  rw [hf] at HF
  clear hb h hf
  go_enter Tryz.func21,Tryz.ntmps21
  go_wp2_with fail
  refine (HU.out _).mono ?_
  rintro e w1 ⟨rfl,hw1⟩
  have H1 := hI' (show w1.heap[w.heap.size]? = some (uO xO xD priv r) ∧ w1.heap[w.heap.size + 1]? = some (yI zP) ∧ Below w.heap.size w w1 by rw [hw1]; exact H0.out)
  clear hw1 H0 HU
  obtain ⟨d0,d1,d2,d3⟩ := xM5 H1.out.1
  go_wp2_with fail
  refine (HF.out _).mono ?_
  rintro e w2 ⟨rfl,hb2⟩
  have h2 := xE H1.out.2.1 hb2 (xI H1.out.2.1)
  have h3 := H1.out.2.2.trans (hb2.mono H1.out.2.2.size)
  obtain ⟨o0,y0,f0,o1,y1,f1,o2,y2,f2,o3,y3,f3,o4,y4,f4,o5,y5,f5,o6,y6,f6,o7,y7,f7,HB⟩ := xSe h2 h3 (by omega) (.string ⟨#[]⟩) (.string ⟨#[]⟩) (.int .i64 0) (.int .i64 0) (.string ⟨#[]⟩) (.string ⟨#[]⟩) (.string ⟨#[]⟩) (.string ⟨#[]⟩) _ rfl
  clear h2 h3 hb2 H1 HF d0 d1 d2 d3
  go_wp2
  refine bodyPost_ret (v := .tuple #[.agg #[.string ⟨#[]⟩,.string ⟨#[]⟩,.int .i64 0,.int .i64 0,.string ⟨#[]⟩,.string ⟨#[]⟩,.string ⟨#[]⟩,.string ⟨#[]⟩],.int .i64 1]) (by simp [results,Tryz.results21,go_sem,f0,f1,f2,f3,f4,f5,f6,f7]) rfl ?_
  exact ⟨rfl,HB.out⟩
theorem yAy (u pw xO xD priv : ByteArray) (r : Nat) (w : World) (hu : yS u = true) (hf : yY xO xD priv (r : Int) = true) (hpw : pw.size ≤ 1000) (hT : vT w) :
  Calls Tryz.prog 21 #[.string u,.string pw,xB3 xO xD priv r] w fun e w' => e = .returned (.tuple #[pF (rF u (zX priv) 0 pw xO xD r priv),.int .i64 0]) ∧ Below w.heap.size w w' := by
 have hu8 : u.size ≤ 8 := by
  unfold yS at hu
  simp only [Bool.and_eq_true,decide_eq_true_eq] at hu
  exact hu.1.2
 have hff : xO.size = 16 ∧ xD.size = 12 ∧ 1 ≤ (r : Int) ∧ (r : Int) ≤ 64 ∧ priv.size = 32 := by
  unfold yY vN at hf
  simp only [Bool.and_eq_true,decide_eq_true_eq] at hf
  exact ⟨hf.1.1.1.1,hf.1.1.1.2,hf.1.1.2,hf.1.2,hf.2⟩
 obtain ⟨f1,f2,f3,f4,f5⟩ := hff
 have HU := hI' (fun W => tH u W (by omega))
 have HF := hI' (fun W => xBy xO xD priv (r : Int) W)
 rw [hu] at HU
 rw [hf] at HF
 have HPU := hI' (fun W => xHx priv W f5)
 have yBf : (zX priv).size = 32 := xC8 _ _
 have HWR := hI' (fun W kv (h : vT W) (hk : RdS W W.heap.size kv [priv.data.toList]) => wrap_one u ⟨#[]⟩ 0 0 (zX priv) ⟨#[]⟩ ⟨#[]⟩ ⟨#[]⟩ pw xO xD priv priv r kv W (by omega) (by omega) f2 (by omega) (by omega) (by omega) (by omega) hpw h hk)
 have HT := hI' (fun W (h : Below w.heap.size w W) => hT.below h (Nat.le_refl _))
 have HE : Hid (rF u (zX priv) 0 pw xO xD r priv = rF u (zX priv) 0 pw xO xD r priv) := hI' rfl
 generalize rF u (zX priv) 0 pw xO xD r priv = res at HWR HE ⊢
 generalize zX priv = pubv at HPU HWR
 obtain ⟨rr,hrr⟩ : ∃ rr : Int,(r : Int) = rr := ⟨_,rfl⟩
 rw [hrr] at HF HWR ⊢
 obtain ⟨x0,x1,x2,x3,x4,x5,x6,x7⟩ := res
 simp only [pF] at HWR ⊢
 have t0 := zQ w (uO xO xD priv rr) (yI zP)
 have t1 := zM w (uO xO xD priv rr) (yI zP)
 have H0 : Hid (((w.alloc (uO xO xD priv rr)).alloc (yI zP)).heap[w.heap.size]? = some (uO xO xD priv rr) ∧ ((w.alloc (uO xO xD priv rr)).alloc (yI zP)).heap[w.heap.size + 1]? = some (yI zP) ∧ Below w.heap.size w ((w.alloc (uO xO xD priv rr)).alloc (yI zP))) := hI' ⟨t0,t1,((Below.refl w.heap.size w).alloc (Nat.le_refl _) _).alloc (by simp) _⟩
 clear t0 t1 HE hrr hT hpw hu hf f1 f2 f3 f4 f5 hu8 yBf
 go_enter Tryz.func21,Tryz.ntmps21
 go_wp2_with fail
 refine (HU.out _).mono ?_
 rintro e w1 ⟨rfl,hw1⟩
 have H1 := hI' (show w1.heap[w.heap.size]? = some (uO xO xD priv rr) ∧ w1.heap[w.heap.size + 1]? = some (yI zP) ∧ Below w.heap.size w w1 by rw [hw1]; exact H0.out)
 clear hw1 H0 HU
 obtain ⟨d0,d1,d2,d3⟩ := xM5 H1.out.1
 go_wp2_with fail
 clear d0 d1 d2 d3
 refine (HF.out _).mono ?_
 rintro e w2 ⟨rfl,hb2⟩
 have H2 := hI' (And.intro (xE H1.out.1 hb2 (xI H1.out.1)) (And.intro (xE H1.out.2.1 hb2 (xI H1.out.2.1)) (H1.out.2.2.trans (hb2.mono H1.out.2.2.size))))
 clear H1 hb2 HF
 obtain ⟨d0,d1,d2,d3⟩ := xM5 H2.out.1
 go_wp2_with fail
 clear d0 d1 d2 d3
 refine (HPU.out _).mono ?_
 rintro e w3 ⟨rfl,hb3⟩
 have H3 := hI' (And.intro (xE H2.out.1 hb3 (xI H2.out.1)) (And.intro (xE H2.out.2.1 hb3 (xI H2.out.2.1)) (H2.out.2.2.trans (hb3.mono H2.out.2.2.size))))
 clear H2 hb3 HPU
 obtain ⟨d0,d1,d2,d3⟩ := xM5 H3.out.1
 have H4 := hI' (And.intro (xP H3.out.2.1 (.cells #[.string priv] 9)) (H3.out.2.2.alloc H3.out.2.2.size (.cells #[.string priv] 9)))
 have HRD := hI' (rd_one w3 priv)
 go_wp2_with fail
 refine (HWR.out _ _ (HT.out _ H4.out.2) HRD.out).mono ?_
 rintro e w5 ⟨rfl,hb5⟩
 have h2 := xE H4.out.1 hb5 (xI H4.out.1)
 have h3 := H4.out.2.trans (hb5.mono H4.out.2.size)
 obtain ⟨o0,y0,f0,o1,y1,f1,o2,y2,f2,o3,y3,f3,o4,y4,f4,o5,y5,f5,o6,y6,f6,o7,y7,f7,HB⟩ := xSe h2 h3 (by omega) (.string x0) (.string x1) (.int .i64 x2) (.int .i64 x3) (.string x4) (.string x5) (.string x6) (.string x7) _ rfl
 clear h2 h3 hb5 H4 H3 HRD HWR HT d0 d1 d2 d3
 go_wp2
 refine bodyPost_ret (v := .tuple #[.agg #[.string x0,.string x1,.int .i64 x2,.int .i64 x3,.string x4,.string x5,.string x6,.string x7],.int .i64 0]) (by simp [results,Tryz.results21,go_sem,f0,f1,f2,f3,f4,f5,f6,f7]) rfl ?_
 exact ⟨rfl,HB.out⟩
end Go.Proofs.SH
namespace Go.Proofs.SH
open Go.RowKit Mailsack MM BB SV FE
abbrev xZ8 (r : ByteArray) : Obj := .cells #[.string r] 9
structure TkA (w : World) (r : ByteArray) (W : World) : Prop where
 o : W.heap[w.heap.size]? = some (yI zP)
 r : W.heap[w.heap.size + 1]? = some (xZ8 r)
 bel : Below w.heap.size w W
theorem TkA.next {w W : World} {r : ByteArray} (h : TkA w r W) (r' : ByteArray) : TkA w r' (W.setCell ⟨w.heap.size + 1,0,none⟩ (.string r')) :=
 ⟨xZ h.o (p := ⟨w.heap.size + 1,0,none⟩) (by show w.heap.size ≠ w.heap.size + 1; omega) _,by have := yB h.r 0 (.string r'); simpa using this,h.bel.setCell (p := ⟨w.heap.size + 1,0,none⟩) (by simp) _⟩
structure TkB (w : World) (g : Nat) (r : ByteArray) (a : vR) (W : World) : Prop where
 o : W.heap[w.heap.size]? = some (yI zP)
 r : W.heap[w.heap.size + 1]? = some (xZ8 r)
 a : W.heap[g]? = some (yI a)
 bel : Below w.heap.size w W
 lt : w.heap.size + 1 < g
theorem TkB.next {w W : World} {g : Nat} {r : ByteArray} {a : vR} (h : TkB w g r a W) (r' : ByteArray) : TkB w g r' a (W.setCell ⟨w.heap.size + 1,0,none⟩ (.string r')) :=
 ⟨xZ h.o (p := ⟨w.heap.size + 1,0,none⟩) (by show w.heap.size ≠ w.heap.size + 1; omega) _,by have := yB h.r 0 (.string r'); simpa using this,xZ h.a (p := ⟨w.heap.size + 1,0,none⟩) (by show g ≠ w.heap.size + 1; have := h.lt; omega) _,h.bel.setCell (p := ⟨w.heap.size + 1,0,none⟩) (by simp) _,h.lt⟩
theorem TkB.put {w W : World} {g : Nat} {r : ByteArray} {a : vR} (h : TkB w g r a W) (i : Nat) (v : Value) (a' : vR) (e : (#[Value.string a.user,.string a.xO,.int .i64 a.rounds,.int .i64 a.epoch,.string a.pub,.string a.xD,.string a.wrapped,.string a.old] : Array Value).setIfInBounds i v = #[.string a'.user,.string a'.xO,.int .i64 a'.rounds,.int .i64 a'.epoch,.string a'.pub,.string a'.xD,.string a'.wrapped,.string a'.old]) : TkB w g r a' (W.setCell ⟨g,i,none⟩ v) :=
 ⟨xZ h.o (p := ⟨g,i,none⟩) (by show w.heap.size ≠ g; have := h.lt; omega) _,xZ h.r (p := ⟨g,i,none⟩) (by show w.heap.size + 1 ≠ g; have := h.lt; omega) _,by have := yB h.a i v; rw [e] at this; exact this,h.bel.setCell (p := ⟨g,i,none⟩) (by show w.heap.size ≤ g; have := h.lt; omega) _,h.lt⟩
theorem xTk (s : ByteArray) (w : World) (hs : s.size ≤ 1000000) :
  Calls Tryz.prog 29 #[.string s] w fun e w' => e = .returned (.tuple #[pF (if xAj s = true then xA2 s else zP),.int .i64 (if xAj s = true then 0 else 3)]) ∧ Below w.heap.size w w' := by
 have HO : Hid ((w.alloc (yI zP)).heap[w.heap.size]? = some (yI zP) ∧ Below w.heap.size w (w.alloc (yI zP))) := hI' ⟨xM _ _,(Below.refl w.heap.size w).alloc (Nat.le_refl _) _⟩
 have HF : Hid (xAj s = (!decide (s.size = 0) && !decide (s.size < xIw s + 111) && uI (xA2 s))) := hI' rfl
 by_cases h0 : s.size = 0
 ·have e0 : xAj s = false := by rw [HF.out,decide_eq_true h0]; rfl
  rw [e0,if_neg (by simp),if_neg (by simp)]
  have i6 : (s.toList == []) = true := by rw [ByteArray.toList_eq]; simp; exact Array.eq_empty_of_size_eq_zero h0
  clear HF e0 h0 hs
  go_enter Tryz.func29,Tryz.ntmps29
  go_upto_region 2 with fail
  obtain ⟨w1,hw1⟩ : ∃ w1,w.alloc (yI zP) = w1 := ⟨_,rfl⟩
  rw [hw1] at HO
  simp only [yI,zP] at hw1
  rw [hw1]
  obtain ⟨o0,y0,f0,o1,y1,f1,o2,y2,f2,o3,y3,f3,o4,y4,f4,o5,y5,f5,o6,y6,f6,o7,y7,f7,HB⟩ := xSe HO.out.1 HO.out.2 (by omega) (.string ⟨#[]⟩) (.string ⟨#[]⟩) (.int .i64 0) (.int .i64 0) (.string ⟨#[]⟩) (.string ⟨#[]⟩) (.string ⟨#[]⟩) (.string ⟨#[]⟩) _ rfl
  clear HO hw1
  go_wp2
  refine bodyPost_ret (v := .tuple #[.agg #[.string ⟨#[]⟩,.string ⟨#[]⟩,.int .i64 0,.int .i64 0,.string ⟨#[]⟩,.string ⟨#[]⟩,.string ⟨#[]⟩,.string ⟨#[]⟩],.int .i64 3]) (by simp [results,Tryz.results29,go_sem,f0,f1,f2,f3,f4,f5,f6,f7]) rfl ?_
  exact ⟨rfl,HB.out⟩
 ·have i6 : (s.toList == []) = false := by
   rw [ByteArray.toList_eq]
   cases hx : (s.data.toList == []) with
   | false => rfl
   | true =>
    simp only [beq_iff_eq] at hx
    exact absurd (show s.data.size = 0 by rw [← Array.length_toList,hx]; rfl) h0
  have ix := fun w => zU (P := Tryz.prog) Tryz.underlying9 s (0 : Int) 0 rfl (by omega) w
  obtain ⟨b0,b1⟩ := zG s 0
  obtain ⟨u,hu⟩ : ∃ u : Nat,yZ s 0 = (u : Int) := ⟨(yZ s 0).toNat,by omega⟩
  have hun : xIw s = u := by unfold xIw; rw [hu]; rfl
  rw [hu] at ix b0 b1
  have hsz := jA s 1
  have hr0 : s.extract 1 s.size = yE s 1 := rfl
  have HT : Hid (xA2 s = ⟨uT (yE s 1) u,uT (yE (yE s 1) u) 16,yZ (uT (yE (yE (yE s 1) u) 16) 1) 0,yZ (uT (yE (yE (yE (yE s 1) u) 16) 1) 1) 0,uT (yE (yE (yE (yE (yE s 1) u) 16) 1) 1) 32,
   uT (yE (yE (yE (yE (yE (yE s 1) u) 16) 1) 1) 32) 12,uT (yE (yE (yE (yE (yE (yE (yE s 1) u) 16) 1) 1) 32) 12) 48,yE (yE (yE (yE (yE (yE (yE (yE s 1) u) 16) 1) 1) 32) 12) 48⟩) := hI' (by
    unfold xA2 xYy
    rw [hun])
  have h1s : ¬ ((s.size : Int) < 1) := by omega
  have h1t : (1 : Int) ≤ (s.size : Int) := by omega
  generalize yE s 1 = r0 at hsz hr0 HT
  have HSZ := hI' hsz
  have hu0 : ¬ ((u : Int) < 0) := by omega
  have huu : u < 256 := by omega
  have hrz : (r0.size : Int) = (s.size : Int) - 1 := by omega
  clear hu hsz
  by_cases hsh : s.size < u + 111
  ·have e0 : xAj s = false := by rw [HF.out,hun,decide_eq_true hsh,Bool.not_true,Bool.and_false,Bool.false_and]
   rw [e0,if_neg (by simp),if_neg (by simp)]
   have hshi : (r0.size : Int) < (u : Int) + 16 + 2 + 32 + 12 + 48 := by omega
   clear HF e0 HT hun b0 b1 hsh hrz
   go_enter Tryz.func29,Tryz.ntmps29
   go_upto_region 6 with fail
   have HO2 := hI' (show TkA w r0 ((w.alloc (yI zP)).alloc (xZ8 r0)) from ⟨xP HO.out.1 _,zM _ _ _,HO.out.2.alloc HO.out.2.size _⟩)
   obtain ⟨w1,hw1⟩ : ∃ w1,(w.alloc (yI zP)).alloc (xZ8 r0) = w1 := ⟨_,rfl⟩
   rw [hw1] at HO2
   simp only [yI,zP,xZ8] at hw1
   rw [hw1]
   clear hw1 HO
   obtain ⟨o0,y0,f0,o1,y1,f1,o2,y2,f2,o3,y3,f3,o4,y4,f4,o5,y5,f5,o6,y6,f6,o7,y7,f7,HB⟩ := xSe HO2.out.o HO2.out.bel (by omega) (.string ⟨#[]⟩) (.string ⟨#[]⟩) (.int .i64 0) (.int .i64 0) (.string ⟨#[]⟩) (.string ⟨#[]⟩) (.string ⟨#[]⟩) (.string ⟨#[]⟩) _ rfl
   clear HO2
   go_wp2
   refine bodyPost_ret (v := .tuple #[.agg #[.string ⟨#[]⟩,.string ⟨#[]⟩,.int .i64 0,.int .i64 0,.string ⟨#[]⟩,.string ⟨#[]⟩,.string ⟨#[]⟩,.string ⟨#[]⟩],.int .i64 3]) (by simp [results,Tryz.results29,go_sem,f0,f1,f2,f3,f4,f5,f6,f7]) rfl ?_
   exact ⟨rfl,HB.out⟩
  ·have hshi : ¬ ((r0.size : Int) < (u : Int) + 16 + 2 + 32 + 12 + 48) := by omega
   have hrn : u + 110 ≤ r0.size := by have := HSZ.out; omega
   clear hrz
   obtain ⟨rv,hrv⟩ : ∃ rv,(if xAj s = true then xA2 s else zP) = rv := ⟨_,rfl⟩
   obtain ⟨re,hre⟩ : ∃ re : Int,(if xAj s = true then (0 : Int) else 3) = re := ⟨_,rfl⟩
   rw [hrv,hre]
   have HV := hI' (And.intro hrv hre)
   clear hrv hre
   go_enter Tryz.func29,Tryz.ntmps29
   go_upto_region 8 with fail
   have HA0 := hI' (show TkA w r0 ((w.alloc (yI zP)).alloc (xZ8 r0)) from ⟨xP HO.out.1 _,zM _ _ _,HO.out.2.alloc HO.out.2.size _⟩)
   obtain ⟨w1,hw1⟩ : ∃ w1,(w.alloc (yI zP)).alloc (xZ8 r0) = w1 := ⟨_,rfl⟩
   rw [hw1] at HA0
   simp only [yI,zP,xZ8] at hw1
   rw [hw1]
   clear hw1 HO
   have HZ : Hid (u + 110 ≤ r0.size ∧ r0.size ≤ 1000000) := hI' ⟨hrn,by have := HSZ.out; omega⟩
   have HSH := hI' hsh
   clear hrn hshi h1s h1t i6 ix hr0 hsh HSZ
   obtain ⟨p0,hp0⟩ : ∃ p,uT r0 u = p := ⟨_,rfl⟩
   obtain ⟨r1,hr1⟩ : ∃ r,yE r0 u = r := ⟨_,rfl⟩
   have HN := hI' (xA7 (w.heap.size + 1) u r0 _ HA0.out.r (by have := HZ.out; omega))
   have HP0 : Hid (p0.size = u) := hI' (by rw [← hp0]; exact kG _ _ (by have := HZ.out; omega))
   have HZ2 : Hid (110 ≤ r1.size ∧ r1.size ≤ 1000000) := hI' (by have := HZ.out; rw [← hr1,jA]; omega)
   rw [hp0,hr1] at HN
   simp only [hp0,hr1] at HT
   clear hp0 hr1 HZ
   have HZ := HZ2
   clear HZ2
   go_wp2_with fail
   refine HN.out.mono ?_
   rintro e wn ⟨rfl,hwn⟩
   have HA1 : Hid (TkA w r1 wn) := hI' (by rw [hwn]; exact HA0.out.next r1)
   clear hwn HA0 HN
   obtain ⟨p1,hp1⟩ : ∃ p,uT r1 16 = p := ⟨_,rfl⟩
   obtain ⟨r2,hr2⟩ : ∃ r,yE r1 16 = r := ⟨_,rfl⟩
   have HN := hI' (xA7 (w.heap.size + 1) 16 r1 _ HA1.out.r (by have := HZ.out; omega))
   have HP1 : Hid (p1.size = 16) := hI' (by rw [← hp1]; exact kG _ _ (by have := HZ.out; omega))
   have HZ2 : Hid (94 ≤ r2.size ∧ r2.size ≤ 1000000) := hI' (by have := HZ.out; rw [← hr2,jA]; omega)
   rw [hp1,hr2] at HN
   simp only [hp1,hr2] at HT
   clear hp1 hr2 HZ
   have HZ := HZ2
   clear HZ2
   go_wp2_with fail
   refine HN.out.mono ?_
   rintro e wm ⟨rfl,hwn⟩
   have HA2 : Hid (TkA w r2 wm) := hI' (by rw [hwn]; exact HA1.out.next r2)
   clear hwn HA1 HN
   have HB0 := hI' (show TkB w wm.heap.size r2 ⟨p0,p1,0,0,⟨#[]⟩,⟨#[]⟩,⟨#[]⟩,⟨#[]⟩⟩ (wm.alloc (yI ⟨p0,p1,0,0,⟨#[]⟩,⟨#[]⟩,⟨#[]⟩,⟨#[]⟩⟩)) from ⟨xP HA2.out.o _,xP HA2.out.r _,xM _ _,HA2.out.bel.alloc HA2.out.bel.size _,xI HA2.out.r⟩)
   go_upto_region 9 with fail
   obtain ⟨w3,hw3⟩ : ∃ w3,wm.alloc (yI ⟨p0,p1,0,0,⟨#[]⟩,⟨#[]⟩,⟨#[]⟩,⟨#[]⟩⟩) = w3 := ⟨_,rfl⟩
   rw [hw3] at HB0
   simp only [yI] at hw3
   rw [hw3]
   clear hw3
   obtain ⟨g,hg⟩ : ∃ g,wm.heap.size = g := ⟨_,rfl⟩
   rw [hg] at HB0 ⊢
   clear hg HA2
   obtain ⟨p2,hp2⟩ : ∃ p,uT r2 1 = p := ⟨_,rfl⟩
   obtain ⟨r3,hr3⟩ : ∃ r,yE r2 1 = r := ⟨_,rfl⟩
   have HN := hI' (xA7 (w.heap.size + 1) 1 r2 _ HB0.out.r (by have := HZ.out; omega))
   have HP2 : Hid (p2.size = 1) := hI' (by rw [← hp2]; exact kG _ _ (by have := HZ.out; omega))
   have HZ2 : Hid (93 ≤ r3.size ∧ r3.size ≤ 1000000) := hI' (by have := HZ.out; rw [← hr3,jA]; omega)
   rw [hp2,hr3] at HN
   simp only [hp2,hr3] at HT
   clear hp2 hr3 HZ
   have HZ := HZ2
   clear HZ2
   go_wp2_with fail
   refine HN.out.mono ?_
   rintro e wn ⟨rfl,hwn⟩
   have HC : Hid (TkB w g r3 ⟨p0,p1,0,0,⟨#[]⟩,⟨#[]⟩,⟨#[]⟩,⟨#[]⟩⟩ wn) := hI' (by rw [hwn]; exact HB0.out.next r3)
   clear hwn HB0 HN
   have c2 := xA HC.out.a 2
   have f2 := xK HC.out.a 2
   simp only [gA,gB,gC] at c2
   have ix := fun w => zU (P := Tryz.prog) Tryz.underlying9 p2 (0 : Int) 0 rfl (by have := HP2.out; omega) w
   have hpi : (p2.size : Int) = 1 := by have := HP2.out; omega
   obtain ⟨q0,q1⟩ := zG p2 0
   generalize yZ p2 0 = e2 at ix q0 q1 HT
   go_upto_region 10 with fail
   have HB1 := hI' (HC.out.put 2 (.int .i64 e2) ⟨p0,p1,e2,0,⟨#[]⟩,⟨#[]⟩,⟨#[]⟩,⟨#[]⟩⟩ rfl)
   clear c2 f2 HC ix q0 q1 hpi
   generalize wn.setCell ⟨g,2,none⟩ (.int .i64 e2) = wk0 at HB1 ⊢
   obtain ⟨p3,hp3⟩ : ∃ p,uT r3 1 = p := ⟨_,rfl⟩
   obtain ⟨r4,hr4⟩ : ∃ r,yE r3 1 = r := ⟨_,rfl⟩
   have HN := hI' (xA7 (w.heap.size + 1) 1 r3 _ HB1.out.r (by have := HZ.out; omega))
   have HP3 : Hid (p3.size = 1) := hI' (by rw [← hp3]; exact kG _ _ (by have := HZ.out; omega))
   have HZ2 : Hid (92 ≤ r4.size ∧ r4.size ≤ 1000000) := hI' (by have := HZ.out; rw [← hr4,jA]; omega)
   rw [hp3,hr4] at HN
   simp only [hp3,hr4] at HT
   clear hp3 hr4 HZ
   have HZ := HZ2
   clear HZ2
   go_wp2_with fail
   refine HN.out.mono ?_
   rintro e wn ⟨rfl,hwn⟩
   have HC : Hid (TkB w g r4 ⟨p0,p1,e2,0,⟨#[]⟩,⟨#[]⟩,⟨#[]⟩,⟨#[]⟩⟩ wn) := hI' (by rw [hwn]; exact HB1.out.next r4)
   clear hwn HB1 HN
   have c3 := xA HC.out.a 3
   have f3 := xK HC.out.a 3
   simp only [gA,gB,gC] at c3
   have ix := fun w => zU (P := Tryz.prog) Tryz.underlying9 p3 (0 : Int) 0 rfl (by have := HP3.out; omega) w
   have hpi : (p3.size : Int) = 1 := by have := HP3.out; omega
   obtain ⟨q0,q1⟩ := zG p3 0
   generalize yZ p3 0 = e3 at ix q0 q1 HT
   go_upto_region 11 with fail
   have HB2 := hI' (HC.out.put 3 (.int .i64 e3) ⟨p0,p1,e2,e3,⟨#[]⟩,⟨#[]⟩,⟨#[]⟩,⟨#[]⟩⟩ rfl)
   clear c3 f3 HC ix q0 q1 hpi
   generalize wn.setCell ⟨g,3,none⟩ (.int .i64 e3) = wk1 at HB2 ⊢
   obtain ⟨p4,hp4⟩ : ∃ p,uT r4 32 = p := ⟨_,rfl⟩
   obtain ⟨r5,hr5⟩ : ∃ r,yE r4 32 = r := ⟨_,rfl⟩
   have HN := hI' (xA7 (w.heap.size + 1) 32 r4 _ HB2.out.r (by have := HZ.out; omega))
   have HP4 : Hid (p4.size = 32) := hI' (by rw [← hp4]; exact kG _ _ (by have := HZ.out; omega))
   have HZ2 : Hid (60 ≤ r5.size ∧ r5.size ≤ 1000000) := hI' (by have := HZ.out; rw [← hr5,jA]; omega)
   rw [hp4,hr5] at HN
   simp only [hp4,hr5] at HT
   clear hp4 hr5 HZ
   have HZ := HZ2
   clear HZ2
   go_wp2_with fail
   refine HN.out.mono ?_
   rintro e wn ⟨rfl,hwn⟩
   have HC : Hid (TkB w g r5 ⟨p0,p1,e2,e3,⟨#[]⟩,⟨#[]⟩,⟨#[]⟩,⟨#[]⟩⟩ wn) := hI' (by rw [hwn]; exact HB2.out.next r5)
   clear hwn HB2 HN
   have c4 := xA HC.out.a 4
   have f4 := xK HC.out.a 4
   simp only [gA,gB,gC] at c4
   go_upto_region 12 with fail
   have HB3 := hI' (HC.out.put 4 (.string p4) ⟨p0,p1,e2,e3,p4,⟨#[]⟩,⟨#[]⟩,⟨#[]⟩⟩ rfl)
   clear c4 f4 HC
   generalize wn.setCell ⟨g,4,none⟩ (.string p4) = wk2 at HB3 ⊢
   obtain ⟨p5,hp5⟩ : ∃ p,uT r5 12 = p := ⟨_,rfl⟩
   obtain ⟨r6,hr6⟩ : ∃ r,yE r5 12 = r := ⟨_,rfl⟩
   have HN := hI' (xA7 (w.heap.size + 1) 12 r5 _ HB3.out.r (by have := HZ.out; omega))
   have HP5 : Hid (p5.size = 12) := hI' (by rw [← hp5]; exact kG _ _ (by have := HZ.out; omega))
   have HZ2 : Hid (48 ≤ r6.size ∧ r6.size ≤ 1000000) := hI' (by have := HZ.out; rw [← hr6,jA]; omega)
   rw [hp5,hr6] at HN
   simp only [hp5,hr6] at HT
   clear hp5 hr6 HZ
   have HZ := HZ2
   clear HZ2
   go_wp2_with fail
   refine HN.out.mono ?_
   rintro e wn ⟨rfl,hwn⟩
   have HC : Hid (TkB w g r6 ⟨p0,p1,e2,e3,p4,⟨#[]⟩,⟨#[]⟩,⟨#[]⟩⟩ wn) := hI' (by rw [hwn]; exact HB3.out.next r6)
   clear hwn HB3 HN
   have c5 := xA HC.out.a 5
   have f5 := xK HC.out.a 5
   simp only [gA,gB,gC] at c5
   go_upto_region 13 with fail
   have HB4 := hI' (HC.out.put 5 (.string p5) ⟨p0,p1,e2,e3,p4,p5,⟨#[]⟩,⟨#[]⟩⟩ rfl)
   clear c5 f5 HC
   generalize wn.setCell ⟨g,5,none⟩ (.string p5) = wk3 at HB4 ⊢
   obtain ⟨p6,hp6⟩ : ∃ p,uT r6 48 = p := ⟨_,rfl⟩
   obtain ⟨r7,hr7⟩ : ∃ r,yE r6 48 = r := ⟨_,rfl⟩
   have HN := hI' (xA7 (w.heap.size + 1) 48 r6 _ HB4.out.r (by have := HZ.out; omega))
   have HP6 : Hid (p6.size = 48) := hI' (by rw [← hp6]; exact kG _ _ (by have := HZ.out; omega))
   have HZ2 : Hid (0 ≤ r7.size ∧ r7.size ≤ 1000000) := hI' (by have := HZ.out; rw [← hr7,jA]; omega)
   rw [hp6,hr7] at HN
   simp only [hp6,hr7] at HT
   clear hp6 hr7 HZ
   have HZ := HZ2
   clear HZ2
   go_wp2_with fail
   refine HN.out.mono ?_
   rintro e wn ⟨rfl,hwn⟩
   have HC : Hid (TkB w g r7 ⟨p0,p1,e2,e3,p4,p5,⟨#[]⟩,⟨#[]⟩⟩ wn) := hI' (by rw [hwn]; exact HB4.out.next r7)
   clear hwn HB4 HN
   have c6 := xA HC.out.a 6
   have f6 := xK HC.out.a 6
   simp only [gA,gB,gC] at c6
   go_upto_region 14 with fail
   have HB5 := hI' (HC.out.put 6 (.string p6) ⟨p0,p1,e2,e3,p4,p5,p6,⟨#[]⟩⟩ rfl)
   clear c6 f6 HC
   generalize wn.setCell ⟨g,6,none⟩ (.string p6) = wk4 at HB5 ⊢
   have c7 := xA HB5.out.a 7
   have f7 := xK HB5.out.a 7
   have cr := xA HB5.out.r 0
   simp only [gA,gB,gC] at c7 cr
   go_upto_region 15 with fail
   have HB6 := hI' (HB5.out.put 7 (.string r7) ⟨p0,p1,e2,e3,p4,p5,p6,r7⟩ rfl)
   clear c7 f7 cr HB5
   generalize wk4.setCell ⟨g,7,none⟩ (.string r7) = w9 at HB6 ⊢
   have HR := hI' (fun W => xDy ⟨p0,p1,e2,e3,p4,p5,p6,r7⟩ W (by have := HP0.out; simp only; omega))
   rw [← HT.out] at HR
   obtain ⟨c0,c1,c2,c3,c4,c5,c6,c7⟩ := xRx HB6.out.a
   rw [hun,decide_eq_false h0,decide_eq_false HSH.out,Bool.not_false,Bool.true_and,Bool.true_and] at HF
   rw [HF.out] at HV
   clear HF hun h0 HSH
   cases hra : uI (xA2 s) with
   | false =>
    rw [hra] at HR
    rw [hra,if_neg (by simp),if_neg (by simp)] at HV
    simp only [HT.out,pF] at HR
    clear hra HT
    go_wp2_with fail
    refine (HR.out _).mono ?_
    rintro e wz ⟨rfl,hbz⟩
    have hoz := xE HB6.out.o hbz (xI HB6.out.o)
    have hbb := HB6.out.bel.trans (hbz.mono HB6.out.bel.size)
    obtain ⟨o0,y0,f0,o1,y1,f1,o2,y2,f2,o3,y3,f3,o4,y4,f4,o5,y5,f5,o6,y6,f6,o7,y7,f7,HB⟩ := xSe hoz hbb (by omega) (.string ⟨#[]⟩) (.string ⟨#[]⟩) (.int .i64 0) (.int .i64 0) (.string ⟨#[]⟩) (.string ⟨#[]⟩) (.string ⟨#[]⟩) (.string ⟨#[]⟩) _ rfl
    clear hoz hbb hbz HB6 HR c0 c1 c2 c3 c4 c5 c6 c7
    go_wp2
    refine bodyPost_ret (v := .tuple #[.agg #[.string ⟨#[]⟩,.string ⟨#[]⟩,.int .i64 0,.int .i64 0,.string ⟨#[]⟩,.string ⟨#[]⟩,.string ⟨#[]⟩,.string ⟨#[]⟩],.int .i64 3]) (by simp [results,Tryz.results29,go_sem,f0,f1,f2,f3,f4,f5,f6,f7]) rfl ?_
    exact ⟨by rw [← HV.out.1,← HV.out.2]; rfl,HB.out⟩
   | true =>
    rw [hra] at HR
    rw [hra,if_pos rfl,if_pos rfl,HT.out] at HV
    simp only [HT.out,pF] at HR
    clear hra HT
    go_wp2_with fail
    clear c0 c1 c2 c3 c4 c5 c6 c7
    refine (HR.out _).mono ?_
    rintro e wz ⟨rfl,hbz⟩
    have hoz := xE HB6.out.o hbz (xI HB6.out.o)
    have haz := xE HB6.out.a hbz (xI HB6.out.a)
    have hbb := HB6.out.bel.trans (hbz.mono HB6.out.bel.size)
    obtain ⟨c0,c1,c2,c3,c4,c5,c6,c7⟩ := xRx haz
    obtain ⟨o0,y0,f0,o1,y1,f1,o2,y2,f2,o3,y3,f3,o4,y4,f4,o5,y5,f5,o6,y6,f6,o7,y7,f7,HB⟩ := xSe hoz hbb (by omega) (.string p0) (.string p1) (.int .i64 e2) (.int .i64 e3) (.string p4) (.string p5) (.string p6) (.string r7) _ rfl
    clear hoz haz hbb hbz HB6 HR
    go_wp2
    refine bodyPost_ret (v := .tuple #[.agg #[.string p0,.string p1,.int .i64 e2,.int .i64 e3,.string p4,.string p5,.string p6,.string r7],.int .i64 0]) (by simp [results,Tryz.results29,go_sem,f0,f1,f2,f3,f4,f5,f6,f7]) rfl ?_
    exact ⟨by rw [← HV.out.1,← HV.out.2],HB.out⟩
end Go.Proofs.SH
namespace Mailsack
theorem xI2 (l : Bs) (c : UInt8) : numOf (l ++ [c]) = 10 * numOf l + (c.toNat - 48) := by unfold numOf; rw [List.foldl_append]; rfl
theorem xOn : ∀ (n : Nat) (l : Bs),l.length = n → (∀ c ∈ l,xGa c = true) → numOf l < 10 ^ n
 | 0,l,h,_ => by
  have : l = [] := List.eq_nil_of_length_eq_zero h
  subst this
  simp [numOf]
 | n + 1,l,h,hd => by
  obtain ⟨m,c,rfl⟩ : ∃ m c,l = m ++ [c] := ⟨l.dropLast,l.getLast (by intro e; rw [e] at h; simp at h),(List.dropLast_concat_getLast _).symm⟩
  have ih := xOn n m (by simpa using h) fun x hx => hd x (List.mem_append_left _ hx)
  have hc := hd c (List.mem_append_right _ (List.mem_singleton.2 rfl))
  unfold xGa at hc
  simp at hc
  rw [xI2,Nat.pow_succ]
  omega
end Mailsack
namespace Go.Proofs.VA
open Go.RowKit Mailsack MM BB SH SV RK DS Go.Proofs.ST
theorem jQ (k u : ByteArray) (w : World) (hk : k.size ≤ 100) (hu : u.size ≤ 1000000) : Calls Tryz.prog 23 #[.string k,.string u] w fun e w' => e = .returned (xU (vO k.data.toList u.data.toList)) ∧ w' = w := by
 have HE : Hid (xU (vO k.data.toList u.data.toList) = .string (k ++ ⟨#[47]⟩ ++ u)) := hI' (by
  show Value.string _ = Value.string _
  congr 1)
 have n1 : ¬ (9223372036854775807 < k.size + 1) := by omega
 have n2 : ¬ (9223372036854775807 < (k ++ ⟨#[47]⟩).size + u.size) := by rw [ByteArray.size_append]; show ¬ (_ < k.size + 1 + u.size); omega
 clear hk hu
 go_enter Tryz.func23,Tryz.ntmps23
 go_wp2
 go_ret
 exact ⟨by rw [HE.out]; rfl,rfl⟩
def xZv (s : Bs) (w : World) (e : Ending) (w' : World) : Prop := ∃ z,e = .returned (.tuple #[.int .i64 z,.bool (qQ s)]) ∧ (qQ s = true → z = (numOf s : Int)) ∧ w' = w
theorem xU0 (s : Bs) (w : World) (hl : s.length ≤ 1000000) : Calls Tryz.prog 36 #[xU s] w (xZv s w) := by
 have HP : Hid (qQ s = (decide (1 ≤ s.length) && decide (s.length ≤ 10) && (s.getD 0 0 != 48) && s.all xGa && decide (numOf s ≤ 4294967295))) := hI' rfl
 have HQ : Hid (∀ z b,qQ s = b → (b = true → z = (numOf s : Int)) → xZv s w (.returned (.tuple #[.int .i64 z,.bool b])) w) := hI' (fun z b h1 h2 => ⟨z,by rw [h1],fun h => h2 (by rw [← h1]; exact h),rfl⟩)
 by_cases h0 : s = []
 ·subst h0
  have HF : Hid (qQ [] = false) := hI' rfl
  go_enter Tryz.func36,Tryz.ntmps36
  go_wp2
  go_ret2
  exact HQ.out 0 false HF.out (fun h => (by cases h))
 ·have hl0 : 1 ≤ s.length := by
   rcases s with _ | ⟨x,s⟩
   ·exact absurd rfl h0
   ·simp
  have e0 : (s == []) = false := by simpa using h0
  by_cases h10 : 10 < s.length
  ·have i10 : 10 < (s.length : Int) := by omega
   have HF : Hid (qQ s = false) := hI' (by rw [HP.out]; simp; omega)
   clear h10
   go_enter Tryz.func36,Tryz.ntmps36
   go_wp2
   go_ret2
   exact HQ.out 0 false HF.out (fun h => (by cases h))
  ·have i10 : ¬ (10 < (s.length : Int)) := by omega
   have ix0 := fun w => zU (P := Tryz.prog) Tryz.underlying9 ⟨s.toArray⟩ (0 : Int) 0 rfl (by show 0 < s.toArray.size; simp; omega) w
   rw [xQ2] at ix0
   rw [show (⟨s.toArray⟩ : ByteArray).data.toList = s from rfl] at ix0
   have HB0 : Hid (bN s 0 = (s.getD 0 0).toNat) := hI' rfl
   generalize bN s 0 = b0 at ix0 HB0
   by_cases hz : b0 = 48
   ·have HF : Hid (qQ s = false) := hI' (by
     have e : s.getD 0 0 = 48 := by apply UInt8.toNat_inj.1; rw [← HB0.out,hz]; rfl
     rw [HP.out,e]
     simp)
    have z1 : (b0 : Int) = 48 := by omega
    have z2 : ((b0 : Int) == 48) = true := by simpa using z1
    clear hz
    go_enter Tryz.func36,Tryz.ntmps36
    go_wp2
    go_ret2
    exact HQ.out 0 false HF.out (fun h => (by cases h))
   ·have z1 : ¬ ((b0 : Int) = 48) := by omega
    have z2 : ((b0 : Int) == 48) = false := by simpa using z1
    have HZ : Hid ((s.getD 0 0 != 48) = true) := hI' (by
     simp only [bne_iff_ne,ne_eq]
     intro e
     apply hz
     rw [HB0.out,e]; rfl)
    have HL : Hid (1 ≤ s.length ∧ s.length ≤ 10) := hI' ⟨hl0,by omega⟩
    clear hz
    go_enter Tryz.func36,Tryz.ntmps36
    go_wp2_with fail
    clear ix0 z1 z2
    go_loopw [4,20] (fun nv iv wr => ∃ k : Nat,k ≤ s.length ∧ iv = .int .i64 k ∧ nv = .int .i64 (numOf (s.take k) : Nat) ∧ wr = w ∧ Hid (∀ c ∈ s.take k,xGa c = true)) (fun _ iv _ => s.length - (intOf iv).toNat)
    case atStart => exact ⟨0,Nat.zero_le _,rfl,rfl,rfl,hI' (by simp)⟩
    case round =>
     obtain ⟨k,hk,rfl,rfl,rfl,HD⟩ := hrel
     have hnb := xOn k (s.take k) (by rw [List.length_take]; omega) HD.out
     have hpw : 10 ^ k ≤ 10 ^ 10 := Nat.pow_le_pow_right (by omega) (by omega)
     have HN : Hid (numOf (s.take k) < 10 ^ 10) := hI' (by omega)
     by_cases hlt : k < s.length
     ·obtain ⟨x,hx⟩ : ∃ x,s[k]? = some x := ⟨_,List.getElem?_eq_getElem hlt⟩
      have ixk := fun w => zU (P := Tryz.prog) Tryz.underlying9 ⟨s.toArray⟩ (k : Int) k rfl (by show k < s.toArray.size; simpa using hlt) w
      have hby : yZ ⟨s.toArray⟩ k = (x.toNat : Int) := by
       unfold yZ
       show ((s.getD k 0).toNat : Int) = _
       rw [List.getD_eq_getElem?_getD,hx]; rfl
      rw [hby] at ixk
      have HTK : Hid (s.take (k + 1) = s.take k ++ [x]) := hI' (by rw [List.take_add_one,hx]; rfl)
      have HXM := hI' (List.mem_of_getElem? hx)
      have hx256 := UInt8.toNat_lt x
      have hnn : numOf (s.take k) < 10000000000 := by have := HN.out; omega
      have HSN := hI' (xI2 (s.take k) x)
      generalize numOf (s.take k) = m at hnn HSN
      by_cases hd : xGa x = true
      ·have hd2 := hd
       unfold xGa at hd2
       simp only [Bool.and_eq_true,decide_eq_true_eq] at hd2
       obtain ⟨d1,d2⟩ := hd2
       have g1 : ¬ ((x.toNat : Int) < 48) := by omega
       have g2 : ¬ (57 < (x.toNat : Int)) := by omega
       have g3 : (0 : Int) ≤ (x.toNat : Int) - 48 := by omega
       have g4 : (x.toNat : Int) - 48 ≤ 9 := by omega
       have HD2 : Hid (∀ c ∈ s.take (k + 1),xGa c = true) := hI' (by
        intro c hc
        rw [HTK.out] at hc
        rcases List.mem_append.1 hc with hc | hc
        ·exact HD.out c hc
        ·rw [List.mem_singleton.1 hc]; exact hd)
       have HNV : Hid ((numOf (s.take (k + 1)) : Int) = 10 * (m : Int) + ((x.toNat : Int) - 48)) := hI' (by rw [HTK.out,HSN.out]; omega)
       clear hx hby hd hnb hpw d1 d2 HD
       go_wp2
       exact ⟨⟨k + 1,by omega,by go_num,by rw [HNV.out],trivial,HD2⟩,by simp [intOf]; omega⟩
      ·have HF : Hid (qQ s = false) := hI' (by
        have : s.all xGa = false := List.all_eq_false.2 ⟨x,HXM.out,hd⟩
        rw [HP.out,this]
        simp)
       unfold xGa at hd
       simp only [Bool.and_eq_true,decide_eq_true_eq] at hd
       by_cases d1 : x.toNat < 48
       ·have g1 : (x.toNat : Int) < 48 := by omega
        clear hx hby hd hnb hpw d1 HD
        go_wp2
        go_ret2
        exact HQ.out 0 false HF.out (fun h => (by cases h))
       ·have g1 : ¬ ((x.toNat : Int) < 48) := by omega
        have g2 : 57 < (x.toNat : Int) := by omega
        clear hx hby hd hnb hpw d1 HD
        go_wp2
        go_ret2
        exact HQ.out 0 false HF.out (fun h => (by cases h))
     ·obtain rfl : k = s.length := by omega
      have HT : Hid (s.take s.length = s) := hI' List.take_length
      rw [HT.out]
      rw [HT.out] at HN HD
      have HA : Hid (s.all xGa = true) := hI' (List.all_eq_true.2 HD.out)
      have hnn : numOf s < 10000000000 := by have := HN.out; omega
      have HPE : Hid (qQ s = decide (numOf s ≤ 4294967295)) := hI' (by rw [HP.out,HZ.out,HA.out,decide_eq_true HL.out.1,decide_eq_true HL.out.2]; simp)
      obtain ⟨m,hm⟩ : ∃ m,numOf s = m := ⟨_,rfl⟩
      have HM := hI' hm
      rw [hm] at HPE hnn ⊢
      clear hnb hpw hm HN HT
      by_cases hg : m ≤ 4294967295
      ·have gi : (m : Int) ≤ 4294967295 := by omega
       rw [decide_eq_true hg] at HPE
       clear hg
       go_wp2
       go_ret2
       exact HQ.out _ true HPE.out (fun _ => by rw [HM.out])
      ·have gi : ¬ ((m : Int) ≤ 4294967295) := by omega
       rw [decide_eq_false hg] at HPE
       clear hg
       go_wp2
       go_ret2
       exact HQ.out _ false HPE.out (fun h => (by cases h))
end Go.Proofs.VA
