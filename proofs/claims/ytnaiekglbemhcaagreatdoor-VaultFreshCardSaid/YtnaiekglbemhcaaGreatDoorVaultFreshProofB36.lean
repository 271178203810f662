/- Contracts of functions of the program. Conditions: those that each theorem states. -/
import Derived.Test.YtnaiekglbemhcaaGreatDoorVaultFreshProofB35
set_option maxHeartbeats 8000000
set_option maxRecDepth 100000
namespace Mailsack
theorem xVk {c b : Nat} {data : Bs} {k : Nat} (h : k < countP c) : (uE c b data)[k]? = some ⟨((uF c b + k : Nat) : Int),((xJ8 data (qA c)).drop (k * 64)).take 64⟩ := by
 unfold uE
 rw [List.getElem?_map,List.getElem?_range h]
 rfl
theorem xB7 (c b : Nat) (data : Bs) : (uE c b data).length = countP c := by simp [uE]
end Mailsack
namespace Go.Proofs.ST
open Go.RowKit Mailsack MM BB SH SV RK DS AL
def Keep (K : StL) (W W' : World) : Prop := ∀ (q : Nat) cs T fr,W.heap[q]? = some (.cells cs T fr) → T ≠ 111 → K.hi1 ≤ q → W'.heap[q]? = some (.cells cs T fr)
theorem Keep.refl (K : StL) (W : World) : Keep K W W := fun _ _ _ _ h _ _ => h
theorem Keep.below {K : StL} {W W1 W2 : World} (h : Keep K W W1) (hb : Below W1.heap.size W1 W2) : Keep K W W2 := fun q cs T fr h1 h2 h3 => by
 have := h q cs T fr h1 h2 h3
 exact xE this hb (xI this)
theorem Keep.app {K : StL} {W W1 W2 : World} {base : Nat} {v v' : Value} {l l' : List Wr} (h : Keep K W W1) (ho : xX 111 2 wrF W1 base v l) (ha : xHn 111 2 wrF W1 W2 base v v' l') : Keep K W W2 := fun q cs T fr h1 h2 h3 => by
 have := h q cs T fr h1 h2 h3
 exact ha.keep this (xX.neT ho this h2)
theorem Keep.cell {K : StL} {W W1 : World} (h : Keep K W W1) (hg : K.gs < K.hi1) (v : Value) : Keep K W (W1.setCell ⟨K.gs,3,none⟩ v) := fun q cs T fr h1 h2 h3 => xZ (h q cs T fr h1 h2 h3) (p := ⟨K.gs,3,none⟩) (by show q ≠ K.gs; omega) _
theorem StM.gs_lt {w W : World} {K : StL} {cv wv : Value} {s : StS} (h : StM w K cv wv s W) : K.gs < K.hi1 := by
 have := h.o2; have := h.o3; have := h.o4; have := h.o5; omega
theorem pR (w : World) (K : StL) (wv : Value) (s : StS) (c b : Nat) (data : Bs) (W : World) (h : StM w K wv wv s W) (hc : c ≤ 1) (hb : b ≤ 255) (hd : data.length ≤ qA c) (hw : s.writes.length ≤ 10000) :
  Calls Tryz.prog 101 #[.pointer (some ⟨K.gs,0,none⟩),.int .i64 c,.int .i64 b,xU data] W fun e W' => e = .returned (.tuple #[]) ∧ (∃ wv',StM w K wv' wv' { s with writes := s.writes ++ uE c b data } W') ∧ Keep K W W' := by
 have HCA := hI' (fun W => pW c W)
 have hcl := xK0 c
 have HPD := hI' (fun W => xN0 ⟨data.toArray⟩ (qA c) W (by omega) (by show data.toArray.size ≤ _; simp; omega))
 rw [show (⟨data.toArray⟩ : ByteArray).data.toList = data from rfl] at HPD
 have HSE := hI' (fun W => xG2 c b W (by omega))
 have HPL := hI' (xJ7 hd)
 have HCE := hI' (xK1 hc)
 have HFG := hI' (fun k h => xVk (c := c) (b := b) (data := data) (k := k) h)
 have HFL := hI' (xB7 c b data)
 have HCN : Hid (countP c ≤ 16 ∧ uF c b ≤ 100000) := hI' ⟨by unfold countP; split <;> omega,by unfold uF; split <;> omega⟩
 have HW := hI' hw
 have H0 : Hid (StM w K wv wv { s with writes := s.writes ++ (uE c b data).take 0 } W) := hI' (by simpa using h)
 have HGS := hI' h.gs_lt
 generalize uE c b data = fl at HFG HFL H0 ⊢
 generalize xJ8 data (qA c) = al at HPD HPL HFG
 generalize qA c = cp at HCA HPD HPL HCE hd hcl
 generalize uF c b = fi at HSE HFG HCN
 generalize countP c = cn at HSE HFG HFL HCN HCE
 obtain ⟨ab,hab⟩ : ∃ ab : ByteArray,(⟨al.toArray⟩ : ByteArray) = ab := ⟨_,rfl⟩
 have HAB := hI' (And.intro hab (show ab.size = al.length by rw [← hab]; simp [ByteArray.size]))
 rw [show xU al = .string ab from by rw [← hab]] at HPD
 clear h hc hb hd hcl hw hab
 go_enter Tryz.func101,Tryz.ntmps101
 go_wp2_with fail
 refine (HCA.out _).mono ?_
 rintro e w1 ⟨rfl,hw1⟩
 rw [hw1]
 clear hw1 w1
 go_wp2_with fail
 refine (HPD.out _).mono ?_
 rintro e w2 ⟨rfl,hb2⟩
 have H2 := hI' (And.intro (H0.out.below hb2) ((Keep.refl K W).below hb2))
 clear hb2 H0
 go_wp2_with fail
 refine (HSE.out _).mono ?_
 rintro e w3 ⟨rfl,rfl⟩
 go_wp2_with fail
 clear HCA HPD HSE
 go_loopw [24] (fun iv wr => ∃ (k : Nat) (uv : Value),k ≤ cn ∧ iv = .int .i64 k ∧ Hid (StM w K uv uv { s with writes := s.writes ++ fl.take k } wr ∧ Keep K W wr)) (fun iv _ => cn - (intOf iv).toNat)
 case atStart => exact ⟨0,_,Nat.zero_le _,rfl,H2⟩
 case round =>
  obtain ⟨k,uv,hk,rfl,HI⟩ := hrel
  clear H2
  by_cases hlt : k < cn
  ·have HT1 : Hid (∀ x,fl[k]? = some x → s.writes ++ fl.take (k + 1) = s.writes ++ fl.take k ++ [x]) := hI' (fun x hx => by rw [List.take_add_one,hx,List.append_assoc]; rfl)
   have HTL : Hid ((s.writes ++ fl.take k).length ≤ 10020) := hI' (by have := HW.out; have := List.length_take_le k fl; have := HFL.out; have := HCN.out.1; rw [List.length_append]; omega)
   generalize s.writes ++ fl.take k = ws at HI HT1 HTL
   obtain ⟨A,cc,hv,_⟩ := HI.out.1.wr.form
   have hcnb : cn ≤ 16 := HCN.out.1
   have hfib : fi ≤ 100000 := HCN.out.2
   have hz : (ab.size : Int) = 64 * (cn : Int) := by have := HAB.out.2; have := HPL.out; have := HCE.out; omega
   have hHX := HFG.out k hlt
   have HPB : Hid (xU ((al.drop (k * 64)).take 64) = .string (ab.extract (k * 64) ((k + 1) * 64))) := hI' (by
    rw [← HAB.out.1]
    show Value.string _ = Value.string _
    congr 1
    apply ByteArray.ext
    rw [ByteArray.data_extract]
    apply Array.ext'
    rw [Array.toList_extract]
    simp [List.extract,show (k + 1) * 64 - k * 64 = 64 by omega])
   have HX := hI' hHX
   have HTK : Hid (s.writes ++ fl.take (k + 1) = ws ++ [⟨((fi + k : Nat) : Int),(al.drop (k * 64)).take 64⟩]) := hI' (HT1.out _ HX.out)
   have g1 : (0 : Int) ≤ (k : Int) * 64 := by omega
   have g2 : (k : Int) * 64 ≤ ((k : Int) + 1) * 64 := by omega
   have g3 : ((k : Int) + 1) * 64 ≤ (ab.size : Int) := by omega
   have hb := HI.out.1.st
   have s3 := xA hb 3
   have y3 := xK hb 3
   simp only [gA,gB,gC] at s3
   clear hHX hb
   go_upto_region 6 with fail
   rw [← HPB.out]
   generalize (al.drop (k * 64)).take 64 = pl at HTK ⊢
   have hfk : (fi : Int) + (k : Int) = ((fi + k : Nat) : Int) := by omega
   have HFK := hI' hfk
   have HAD : Hid (∀ v8 w8,xHn 111 2 wrF (wr.alloc (.cells #[.int .i64 ((fi : Int) + (k : Int)),xU pl] 111)) w8 K.hi1 uv v8 (ws ++ [(⟨(fi : Int) + (k : Int),pl⟩ : Wr)]) → Hid (StM w K v8 v8 { s with writes := s.writes ++ fl.take (k + 1) } (w8.setCell ⟨K.gs,3,none⟩ v8) ∧ w8.heap[K.gs]? = some (staO K uv) ∧ Keep K W (w8.setCell ⟨K.gs,3,none⟩ v8))) := hI' fun v8 w8 h8 => hI' (by
    have ha := StM.app (HI.out.1.below ((Below.refl wr.heap.size wr).alloc (Nat.le_refl _) _)) h8
    refine ⟨?_,ha.st,((HI.out.2.below ((Below.refl wr.heap.size wr).alloc (Nat.le_refl _) _)).app (HI.out.1.wr.alloc _) h8).cell HGS.out v8⟩
    have hc := ha.cell v8
    rw [HTK.out,← HFK.out]
    exact hc)
   have HO := hI' (And.intro HI.out.1.wr HI.out.1.o6)
   subst hv
   clear hfk HI HTK HPB HX
   go_wp2_with (at_builtin; refine vS tyWr rfl _ _ rfl rfl rfl (HO.out.1.alloc _) (RdR.lit (m := [(⟨(fi : Int) + (k : Int),pl⟩ : Wr)]) xDq _ _ rfl) (by have := HTL.out; simp; omega) (by have := HO.out.2; simp; omega) ?_; intro v8 w8 h8; obtain ⟨A8,c8,hv8,_⟩ := h8.own.form; rw [show (ws ++ [(⟨(fi : Int) + (k : Int),pl⟩ : Wr)]).length = ws.length + 1 by simp] at hv8; subst hv8; have HA8 := HAD.out _ _ h8; have s8 := xA HA8.out.2.1 3; have y8 := xK HA8.out.2.1 3; simp only [gA,gB,gC] at s8; clear h8)
   exact ⟨⟨k + 1,_,by omega,by go_num,hI' ⟨HA8.out.1,HA8.out.2.2⟩⟩,by simp [intOf]; omega⟩
  ·obtain rfl : k = cn := by omega
   have HE : Hid (fl.take k = fl) := hI' (List.take_of_length_le (by rw [HFL.out]; omega))
   rw [HE.out] at HI
   go_wp2
   refine bodyPost_end (results_none rfl _ _ _) rfl ?_
   exact ⟨rfl,⟨_,HI.out.1⟩,HI.out.2⟩
end Go.Proofs.ST
namespace Go.Proofs.ST
open Go.RowKit Mailsack MM BB SH SV RK DS AL
theorem xVd (t : Slot) (w : World) :
  Calls Tryz.prog 98 #[xGz t] w fun e w' => e = .returned (.bool (!t.used)) ∧ Below w.heap.size w w' := by
 obtain ⟨u,c,b,s,m⟩ := t
 have HB := hI' ((Below.refl w.heap.size w).alloc (Nat.le_refl _) (wU ⟨u,c,b,s,m⟩))
 have hb := xM w (wU ⟨u,c,b,s,m⟩)
 have c0 := xWj hb
 clear hb
 cases u with
 | false =>
  go_enter Tryz.func98,Tryz.ntmps98
  go_wp2
  go_ret
  exact ⟨rfl,HB.out⟩
 | true =>
  go_enter Tryz.func98,Tryz.ntmps98
  go_wp2
  go_ret
  exact ⟨rfl,HB.out⟩
abbrev chV (c : Ch) : Value := .agg #[xU c.name,xU c.data,.bool c.gone]
abbrev chO (c : Ch) : Obj := .cells #[xU c.name,xU c.data,.bool c.gone] 70
structure ChM (w : World) (K : StL) (wv : Value) (s : StS) (c : Ch) (bx : Nat) (W : World) : Prop where
 m : StM w K wv wv s W
 c : W.heap[bx]? = some (chO c)
 lo : K.hi1 ≤ bx
section
variable {w W W' : World} {K : StL} {wv : Value} {s : StS} {c : Ch} {bx : Nat}
theorem ChM.below (h : ChM w K wv s c bx W) (hb : Below W.heap.size W W') : ChM w K wv s c bx W' := ⟨h.m.below hb,xE h.c hb (xI h.c),h.lo⟩
theorem ChM.drew (h : ChM w K wv s c bx W) : ChM w K wv s c bx W.drew := h.below (Below.refl _ _).drew
theorem ChM.slots (h : ChM w K wv s c bx W) : RdR 5 qI W W.heap.size (.slice (some ⟨K.gl,0,none⟩) 32 32) s.slots := by
 have := h.m.sl.rd zO (B := W.heap.size) (xI h.m.sl.blk) (c := 32) (by rw [h.m.len]; omega)
 rw [h.m.len] at this
 exact this
theorem ChM.pop0 (h : ChM w K wv s c bx W) {l : List Nat} (hp : rE W' K.lo0 K.hi0 K.gp0 24 l) (ht : Tn (fun k => K.lo0 ≤ k ∧ k < K.hi0) W W') : ChM w K wv { s with wB := l } c bx W' := by
 have m := h.m
 have a0 := m.o0; have a1 := m.o1; have a2 := m.o2; have a3 := m.o3; have a4 := m.o4; have a5 := m.o5; have a6 := m.o6; have a7 := h.lo
 refine ⟨⟨ht.blk m.st (by omega),ht.blk m.sl.blk (by omega),hp,m.p1.tn ht (fun k h1 h2 => by omega),m.wr.tn ht (fun g hg => by have := (World.ownsRow.lt m.wr.row g hg).1; omega),m.len,m.bel.trans (ht.below (fun k hk => by omega) m.bel.size),a0,a1,a2,a3,a4,a5,Nat.le_trans a6 ht.size⟩,ht.blk h.c (by omega),h.lo⟩
theorem ChM.pop1 (h : ChM w K wv s c bx W) {l : List Nat} (hp : rE W' K.lo1 K.hi1 K.gp1 12 l) (ht : Tn (fun k => K.lo1 ≤ k ∧ k < K.hi1) W W') : ChM w K wv { s with xB5 := l } c bx W' := by
 have m := h.m
 have a0 := m.o0; have a1 := m.o1; have a2 := m.o2; have a3 := m.o3; have a4 := m.o4; have a5 := m.o5; have a6 := m.o6; have a7 := h.lo
 refine ⟨⟨ht.blk m.st (by omega),ht.blk m.sl.blk (by omega),m.p0.tn ht (fun k h1 h2 => by omega),hp,m.wr.tn ht (fun g hg => by have := (World.ownsRow.lt m.wr.row g hg).1; omega),m.len,m.bel.trans (ht.below (fun k hk => by omega) m.bel.size),a0,a1,a2,a3,a4,a5,Nat.le_trans a6 ht.size⟩,ht.blk h.c (by omega),h.lo⟩
end
end Go.Proofs.ST
namespace Go.Proofs.ST
open Go.RowKit Mailsack MM BB SH SV RK DS AL
def yA1 (w : World) (K : StL) (s : StS) (c : Ch) (W : World) : Prop := ∃ wv',StM w K wv' wv' (if jH s c = 0 then jG s c else s) W
theorem xRw (w : World) (K : StL) (wv : Value) (s : StS) (c : Ch) (W : World) (h : StM w K wv wv s W) (hw : s.writes.length ≤ 9000) :
  Calls Tryz.prog 46 #[.pointer (some ⟨K.gs,0,none⟩),chV c] W fun e W' => e = .returned (.int .i64 (jH s c)) ∧ yA1 w K s c W' := by
 have H0 : Hid (ChM w K wv s c W.heap.size (W.alloc (chO c))) := hI' ⟨h.below ((Below.refl _ _).alloc (Nat.le_refl _) _),xM _ _,h.o6⟩
 have HW := hI' hw
 have HCE : Hid (jH s c = if c.name.length < 1 ∨ 24 < c.name.length then 1 else if c.gone = true then (if wC s.slots c.name < 0 then 6 else 0) else if 1024 < c.data.length then 4 else if qY s.slots c.name < 0 then 5 else if (s.free (yU c.data)).length = 0 then 5 else 0) := hI' rfl
 have HPO : Hid (∀ W',(∃ wv',StM w K wv' wv' (if jH s c = 0 then jG s c else s) W') → yA1 w K s c W') := hI' fun _ h => h
 obtain ⟨ce,hce⟩ : ∃ ce,jH s c = ce := ⟨_,rfl⟩
 rw [hce] at HCE HPO ⊢
 obtain ⟨bx,hbx⟩ : ∃ bx,W.heap.size = bx := ⟨_,rfl⟩
 rw [hbx] at H0
 have HBX := hI' hbx
 clear h hw hce hbx
 by_cases hn : c.name.length < 1 ∨ 24 < c.name.length
 ·have HC : Hid (ce = 1) := hI' (by rw [HCE.out,if_pos hn])
  have c0 := xWj H0.out.c
  rw [HC.out,if_neg (by omega)] at HPO
  clear HCE
  by_cases h1 : c.name.length < 1
  ·have i1 : (c.name.length : Int) < 1 := by omega
   clear hn h1
   go_enter Tryz.func46,Tryz.ntmps46
   go_upto_region 1 with fail
   rw [HBX.out]
   go_wp2
   go_ret
   exact ⟨by rw [HC.out]; rfl,HPO.out _ ⟨_,H0.out.m⟩⟩
  ·have i1 : ¬ ((c.name.length : Int) < 1) := by omega
   have i2 : 24 < (c.name.length : Int) := by omega
   clear hn h1
   go_enter Tryz.func46,Tryz.ntmps46
   go_upto_region 1 with fail
   rw [HBX.out]
   go_wp2
   go_ret
   exact ⟨by rw [HC.out]; rfl,HPO.out _ ⟨_,H0.out.m⟩⟩
 ·have i1 : ¬ ((c.name.length : Int) < 1) := by omega
  have i2 : ¬ (24 < (c.name.length : Int)) := by omega
  have HNL : Hid (c.name.length ≤ 24) := hI' (by omega)
  rw [if_neg hn] at HCE
  clear hn
  have c0 := xWj H0.out.c
  have HFI := hI' (fun W (h : ChM w K wv s c bx W) => xPm (.slice (some ⟨K.gl,0,none⟩) 32 32) s.slots c.name W h.slots (by rw [h.m.len]; omega))
  go_enter Tryz.func46,Tryz.ntmps46
  go_upto_region 1 with fail
  rw [HBX.out]
  go_upto_region 3 with fail
  clear c0 i1 i2
  generalize W.alloc (.cells #[xU c.name,xU c.data,.bool c.gone] 70) = w1 at H0 ⊢
  refine RG.xR (fun W => Hid (ChM w K wv s c bx W)) (by kernel_rfl) (by kernel_rfl) (hI' H0.out.drew) ?_
  iterate 6
   apply RG.xC
   ·intro w9 hw9
    have hb := hw9.out.m.st
    have s0 := xA hb 0
    have hc := hw9.out.c
    have c0 := xA hc 0
    simp only [gA,gC] at s0 c0
    repeat go_step
    with_reducible exact RG.xB hw9
   ·rfl
  apply RG.xC
  ·intro w9 hw9
   repeat go_step
   refine (HFI.out _ hw9.out).mono ?_
   rintro e w10 ⟨rfl,yA⟩
   simp only []
   repeat go_step
   with_reducible refine RG.xB ?_
   exact hI' (hw9.out.below yA)
  ·rfl
  apply RG.xC
  ·intro w9 hw9
   repeat go_step
   with_reducible exact RG.xB hw9
  ·rfl
  refine RG.xW (fun w3 hw3 => ?_)
  clear H0 HFI HBX
  have c2 := xA hw3.out.c 2
  simp only [gA,gB,gC] at c2
  cases hg : c.gone with
  | true =>
   rw [hg] at c2
   rw [hg,if_pos rfl] at HCE
   have HGO : Hid (jG s c = putAt s (wC s.slots c.name).toNat noSlot) := hI' (by unfold jG; rw [hg,if_pos rfl])
   rcases jF s.slots c.name with ⟨f1,_⟩ | ⟨i,t,f1,f2,_,_,f5⟩
   ·rw [f1]
    rw [f1,if_pos (by omega)] at HCE
    have HC := HCE
    rw [HC.out,if_neg (by omega)] at HPO
    clear f1 hg HGO HCE
    go_wp2
    go_ret
    exact ⟨by rw [HC.out]; rfl,HPO.out _ ⟨_,hw3.out.m⟩⟩
   ·rw [f1]
    rw [f1,if_neg (by omega)] at HCE
    rw [f1,Int.toNat_natCast] at HGO
    have HC := HCE
    rw [HC.out,if_pos rfl,HGO.out] at HPO
    have HST := hI' (xFy w K wv s i noSlot w3 hw3.out.m (by rw [hw3.out.m.len] at f5; exact f5) (by decide) (by decide) (by decide) (by decide) (by have := HW.out; omega))
    rw [show xGz noSlot = .agg #[.bool false,.int .i64 0,.int .i64 0,.int .i64 0,.string ⟨#[]⟩] from rfl] at HST
    clear f1 f2 f5 hg HGO HCE
    go_wp2_with fail
    refine HST.out.mono ?_
    rintro e w4 ⟨rfl,hp⟩
    have HP := hI' hp
    clear hp c2 HST
    go_wp2
    go_ret
    exact ⟨by rw [HC.out]; rfl,HPO.out _ HP.out⟩
  | false =>
   rw [hg] at c2
   rw [hg,if_neg (by simp)] at HCE
   have c1 := xA hw3.out.c 1
   simp only [gA,gB,gC] at c1
   have HGO : Hid (jG s c = putAt { vY s (yU c.data) with writes := (vY s (yU c.data)).writes ++ uE (yU c.data) ((s.free (yU c.data)).getD 0 0) c.data } (qY s.slots c.name).toNat (zI c ((s.free (yU c.data)).getD 0 0))) := hI' (by unfold jG; rw [hg,if_neg (by simp)])
   clear hg
   by_cases hd : 1024 < c.data.length
   ·have hdi : 1024 < (c.data.length : Int) := by omega
    rw [if_pos hd] at HCE
    have HC := HCE
    rw [HC.out,if_neg (by omega)] at HPO
    clear hd HGO HCE
    go_wp2
    go_ret
    exact ⟨by rw [HC.out]; rfl,HPO.out _ ⟨_,hw3.out.m⟩⟩
   ·have hdi : ¬ (1024 < (c.data.length : Int)) := by omega
    rw [if_neg hd] at HCE
    have HDL : Hid (c.data.length ≤ 1024) := hI' (by omega)
    clear hd
    have HPL : Hid (qY s.slots c.name = if wC s.slots c.name < 0 then xP8 (fun t => !t.used) s.slots else wC s.slots c.name) := hI' rfl
    have HPC : Hid ((qY s.slots c.name = -1) ∨ ∃ i : Nat,qY s.slots c.name = i ∧ i < 32) := hI' (by
     have hl := hw3.out.m.len
     unfold qY
     split
     ·rcases qE (fun t : Slot => !t.used) s.slots with ⟨g,_⟩ | ⟨k,t,g1,g2,_⟩
      ·exact .inl g
      ·exact .inr ⟨k,g1,by have := (List.getElem?_eq_some_iff.1 g2).1; omega⟩
     ·rcases jF s.slots c.name with ⟨g,_⟩ | ⟨k,t,g1,_,_,_,g5⟩
      ·omega
      ·exact .inr ⟨k,g1,by omega⟩)
    by_cases hf : wC s.slots c.name < 0
    ·rw [if_pos hf] at HPL
     have HIF := hI' (xLc 98 #[] (fun t => !t.used) (.slice (some ⟨K.gl,0,none⟩) 32 32) s.slots w3 hw3.out.slots (by rw [hw3.out.m.len]; omega) (fun args W => enters_of Tryz.func98 (by kernel_rfl) rfl args W) (fun t W _ => xVd t W))
     rw [← HPL.out] at HIF
     have hs0 := xWj hw3.out.m.st
     go_wp2_with fail
     refine HIF.out.mono ?_
     rintro e w5 ⟨rfl,hb5⟩
     have H5 := hI' (hw3.out.below hb5)
     clear hb5 HIF hs0 c1 c2 hdi hf hw3 HPL
     rcases HPC.out with hpl | ⟨i,hpl,hi⟩
     ·rw [hpl]
      rw [hpl,if_pos (by omega)] at HCE
      have HC := HCE
      rw [HC.out,if_neg (by omega)] at HPO
      clear hpl HGO HCE
      go_wp2
      go_ret
      exact ⟨by rw [HC.out]; rfl,HPO.out _ ⟨_,H5.out.m⟩⟩
     ·rw [hpl]
      rw [hpl,if_neg (by omega)] at HCE
      rw [hpl,Int.toNat_natCast] at HGO
      clear hpl HPC
      have HI := hI' hi
      clear hi
      go_upto_region 16 with fail
      have HCA := hI' (fun W => pW 0 W)
      rw [show (qA 0 : Int) = 256 from rfl] at HCA
      refine RG.xR (fun W => Hid (ChM w K wv s c bx W)) (by kernel_rfl) (by kernel_rfl) (hI' H5.out.drew) ?_
      iterate 3
       apply RG.xC
       ·intro w9 hw9
        have hc := hw9.out.c
        have c1 := xA hc 1
        simp only [gA,gB,gC] at c1
        repeat go_step
        with_reducible exact RG.xB hw9
       ·rfl
      apply RG.xC
      ·intro w9 hw9
       repeat go_step
       refine (HCA.out _).mono ?_
       rintro e w10 ⟨rfl,rfl⟩
       simp only []
       repeat go_step
       with_reducible exact RG.xB hw9
      ·rfl
      apply RG.xC
      ·intro w9 hw9
       repeat go_step
       with_reducible exact RG.xB hw9
      ·rfl
      refine RG.xW (fun w6 hw6 => ?_)
      clear H5 HCA
      have c1 := xA hw6.out.c 1
      simp only [gA,gB,gC] at c1
      by_cases hcl : 256 < c.data.length
      ·have HCL : Hid (yU c.data = 1) := hI' (by unfold yU; rw [if_pos hcl])
       rw [HCL.out] at HCE HGO
       have yBg : 256 < (c.data.length : Int) := by omega
       have s2 := xA hw6.out.m.st 2
       simp only [gA,gB,gC] at s2
       clear hcl
       rw [show s.free 1 = s.xB5 from rfl] at HCE HGO
       rw [show vY s 1 = { s with xB5 := qP s.xB5 } from rfl] at HGO
       cases hfr : s.xB5 with
       | nil =>
        rw [hfr,if_pos (show ([] : List Nat).length = 0 from rfl)] at HCE
        have HC := HCE
        rw [HC.out,if_neg (by omega)] at HPO
        have hpm := hw6.out.m.p1
        rw [hfr] at hpm
        have HTK := hI' (xCs K.lo1 K.hi1 K.gp1 12 w6 hpm)
        clear hfr hpm HGO HCE
        go_wp2_with fail
        refine HTK.out.mono ?_
        rintro e w7 ⟨rfl,hw7⟩
        rw [hw7]
        clear hw7 w7
        go_wp2
        go_ret
        exact ⟨by rw [HC.out]; rfl,HPO.out _ ⟨_,hw6.out.m⟩⟩
       | cons x fl =>
        rw [hfr,if_neg (by simp)] at HCE
        rw [hfr] at HGO
        have HC := HCE
        rw [HC.out,if_pos rfl,HGO.out] at HPO
        have hpm := hw6.out.m.p1
        rw [hfr] at hpm
        have HXB : Hid (x < 12) := hI' (by
         obtain ⟨_,_,_,_,_,_,_,_,_,_,_,_,h8,_⟩ := hpm
         exact h8 x (List.mem_cons_self ..))
        have HTK := hI' (xFe K.lo1 K.hi1 K.gp1 12 x fl w6 hpm)
        clear hfr hpm HGO HCE
        go_wp2_with fail
        refine HTK.out.mono ?_
        rintro e w7 ⟨rfl,hp7,ht7⟩
        have H7 := hI' (hw6.out.pop1 hp7 ht7)
        clear hp7 ht7 HTK c1 s2 hw6 yBg
        have c1 := xA H7.out.c 1
        simp only [gA,gB,gC] at c1
        have HFL := hI' (pR w K wv { s with xB5 := qP (x :: fl) } 1 x c.data w7 H7.out.m (by omega) (by have := HXB.out; omega) (by show c.data.length ≤ 1024; have := HDL.out; omega) (by show s.writes.length ≤ _; have := HW.out; omega))
        rw [show (((1 : Nat)) : Int) = 1 from rfl] at HFL
        go_upto_region 21 with fail
        go_wp2_with fail
        refine HFL.out.mono ?_
        rintro e w8 ⟨rfl,⟨uv,hm8⟩,hk8⟩
        have HB8 := hI' (hk8 _ _ _ _ H7.out.c (by decide) H7.out.lo)
        have HST := hI' (xFy w K uv { s with xB5 := qP (x :: fl),writes := s.writes ++ uE 1 x c.data } i (zI c x) w8 hm8 HI.out (by show yU c.data ≤ 255; rw [HCL.out]; omega) (by show x ≤ 255; have := HXB.out; omega) (by show c.data.length ≤ 65535; have := HDL.out; omega) (by show c.name.length ≤ 255; have := HNL.out; omega) (by show (s.writes ++ uE 1 x c.data).length ≤ _; rw [List.length_append,xB7]; have := HW.out; have h16 : countP 1 ≤ 16 := (by decide); omega))
        rw [show xGz (zI c x) = .agg #[.bool true,.int .i64 (yU c.data : Nat),.int .i64 x,.int .i64 (c.data.length : Nat),xU c.name] from rfl,HCL.out] at HST
        rw [show (((1 : Nat)) : Int) = 1 from rfl] at HST
        clear hm8 hk8 HFL H7 c1
        have c1 := xA HB8.out 1
        have c0 := xA HB8.out 0
        simp only [gA,gB,gC] at c0 c1
        go_upto_region 22 with fail
        go_wp2_with fail
        refine HST.out.mono ?_
        rintro e w9 ⟨rfl,hp⟩
        have HP := hI' hp
        clear hp c0 c1 HST
        go_wp2
        go_ret
        exact ⟨by rw [HC.out]; rfl,HPO.out _ HP.out⟩
      ·have HCL : Hid (yU c.data = 0) := hI' (by unfold yU; rw [if_neg hcl])
       rw [HCL.out] at HCE HGO
       have HCLB : Hid (c.data.length ≤ 256) := hI' (by omega)
       have yBg : ¬ (256 < (c.data.length : Int)) := by omega
       have s2 := xA hw6.out.m.st 1
       simp only [gA,gB,gC] at s2
       clear hcl
       rw [show s.free 0 = s.wB from rfl] at HCE HGO
       rw [show vY s 0 = { s with wB := qP s.wB } from rfl] at HGO
       cases hfr : s.wB with
       | nil =>
        rw [hfr,if_pos (show ([] : List Nat).length = 0 from rfl)] at HCE
        have HC := HCE
        rw [HC.out,if_neg (by omega)] at HPO
        have hpm := hw6.out.m.p0
        rw [hfr] at hpm
        have HTK := hI' (xCs K.lo0 K.hi0 K.gp0 24 w6 hpm)
        clear hfr hpm HGO HCE
        go_wp2_with fail
        refine HTK.out.mono ?_
        rintro e w7 ⟨rfl,hw7⟩
        rw [hw7]
        clear hw7 w7
        go_wp2
        go_ret
        exact ⟨by rw [HC.out]; rfl,HPO.out _ ⟨_,hw6.out.m⟩⟩
       | cons x fl =>
        rw [hfr,if_neg (by simp)] at HCE
        rw [hfr] at HGO
        have HC := HCE
        rw [HC.out,if_pos rfl,HGO.out] at HPO
        have hpm := hw6.out.m.p0
        rw [hfr] at hpm
        have HXB : Hid (x < 24) := hI' (by
         obtain ⟨_,_,_,_,_,_,_,_,_,_,_,_,h8,_⟩ := hpm
         exact h8 x (List.mem_cons_self ..))
        have HTK := hI' (xFe K.lo0 K.hi0 K.gp0 24 x fl w6 hpm)
        clear hfr hpm HGO HCE
        go_wp2_with fail
        refine HTK.out.mono ?_
        rintro e w7 ⟨rfl,hp7,ht7⟩
        have H7 := hI' (hw6.out.pop0 hp7 ht7)
        clear hp7 ht7 HTK c1 s2 hw6 yBg
        have c1 := xA H7.out.c 1
        simp only [gA,gB,gC] at c1
        have HFL := hI' (pR w K wv { s with wB := qP (x :: fl) } 0 x c.data w7 H7.out.m (by omega) (by have := HXB.out; omega) (by show c.data.length ≤ 256; have := HCLB.out; omega) (by show s.writes.length ≤ _; have := HW.out; omega))
        rw [show (((0 : Nat)) : Int) = 0 from rfl] at HFL
        go_upto_region 21 with fail
        go_wp2_with fail
        refine HFL.out.mono ?_
        rintro e w8 ⟨rfl,⟨uv,hm8⟩,hk8⟩
        have HB8 := hI' (hk8 _ _ _ _ H7.out.c (by decide) H7.out.lo)
        have HST := hI' (xFy w K uv { s with wB := qP (x :: fl),writes := s.writes ++ uE 0 x c.data } i (zI c x) w8 hm8 HI.out (by show yU c.data ≤ 255; rw [HCL.out]; omega) (by show x ≤ 255; have := HXB.out; omega) (by show c.data.length ≤ 65535; have := HDL.out; omega) (by show c.name.length ≤ 255; have := HNL.out; omega) (by show (s.writes ++ uE 0 x c.data).length ≤ _; rw [List.length_append,xB7]; have := HW.out; have h16 : countP 0 ≤ 16 := (by decide); omega))
        rw [show xGz (zI c x) = .agg #[.bool true,.int .i64 (yU c.data : Nat),.int .i64 x,.int .i64 (c.data.length : Nat),xU c.name] from rfl,HCL.out] at HST
        rw [show (((0 : Nat)) : Int) = 0 from rfl] at HST
        clear hm8 hk8 HFL H7 c1
        have c1 := xA HB8.out 1
        have c0 := xA HB8.out 0
        simp only [gA,gB,gC] at c0 c1
        go_upto_region 22 with fail
        go_wp2_with fail
        refine HST.out.mono ?_
        rintro e w9 ⟨rfl,hp⟩
        have HP := hI' hp
        clear hp c0 c1 HST
        go_wp2
        go_ret
        exact ⟨by rw [HC.out]; rfl,HPO.out _ HP.out⟩
    ·rw [if_neg hf] at HPL
     have H5 := hw3
     rw [← HPL.out] at hf ⊢
     clear hw3 HPL
     go_upto_region 13 with fail
     clear c1 c2 hdi hf
     obtain ⟨w5,hw5⟩ : ∃ w5,w5 = w3 := ⟨_,rfl⟩
     rw [← hw5] at H5 ⊢
     clear hw5
     rcases HPC.out with hpl | ⟨i,hpl,hi⟩
     ·rw [hpl]
      rw [hpl,if_pos (by omega)] at HCE
      have HC := HCE
      rw [HC.out,if_neg (by omega)] at HPO
      clear hpl HGO HCE
      go_wp2
      go_ret
      exact ⟨by rw [HC.out]; rfl,HPO.out _ ⟨_,H5.out.m⟩⟩
     ·rw [hpl]
      rw [hpl,if_neg (by omega)] at HCE
      rw [hpl,Int.toNat_natCast] at HGO
      clear hpl HPC
      have HI := hI' hi
      clear hi
      go_upto_region 16 with fail
      have HCA := hI' (fun W => pW 0 W)
      rw [show (qA 0 : Int) = 256 from rfl] at HCA
      refine RG.xR (fun W => Hid (ChM w K wv s c bx W)) (by kernel_rfl) (by kernel_rfl) (hI' H5.out.drew) ?_
      iterate 3
       apply RG.xC
       ·intro w9 hw9
        have hc := hw9.out.c
        have c1 := xA hc 1
        simp only [gA,gB,gC] at c1
        repeat go_step
        with_reducible exact RG.xB hw9
       ·rfl
      apply RG.xC
      ·intro w9 hw9
       repeat go_step
       refine (HCA.out _).mono ?_
       rintro e w10 ⟨rfl,rfl⟩
       simp only []
       repeat go_step
       with_reducible exact RG.xB hw9
      ·rfl
      apply RG.xC
      ·intro w9 hw9
       repeat go_step
       with_reducible exact RG.xB hw9
      ·rfl
      refine RG.xW (fun w6 hw6 => ?_)
      clear H5 HCA
      have c1 := xA hw6.out.c 1
      simp only [gA,gB,gC] at c1
      by_cases hcl : 256 < c.data.length
      ·have HCL : Hid (yU c.data = 1) := hI' (by unfold yU; rw [if_pos hcl])
       rw [HCL.out] at HCE HGO
       have yBg : 256 < (c.data.length : Int) := by omega
       have s2 := xA hw6.out.m.st 2
       simp only [gA,gB,gC] at s2
       clear hcl
       rw [show s.free 1 = s.xB5 from rfl] at HCE HGO
       rw [show vY s 1 = { s with xB5 := qP s.xB5 } from rfl] at HGO
       cases hfr : s.xB5 with
       | nil =>
        rw [hfr,if_pos (show ([] : List Nat).length = 0 from rfl)] at HCE
        have HC := HCE
        rw [HC.out,if_neg (by omega)] at HPO
        have hpm := hw6.out.m.p1
        rw [hfr] at hpm
        have HTK := hI' (xCs K.lo1 K.hi1 K.gp1 12 w6 hpm)
        clear hfr hpm HGO HCE
        go_wp2_with fail
        refine HTK.out.mono ?_
        rintro e w7 ⟨rfl,hw7⟩
        rw [hw7]
        clear hw7 w7
        go_wp2
        go_ret
        exact ⟨by rw [HC.out]; rfl,HPO.out _ ⟨_,hw6.out.m⟩⟩
       | cons x fl =>
        rw [hfr,if_neg (by simp)] at HCE
        rw [hfr] at HGO
        have HC := HCE
        rw [HC.out,if_pos rfl,HGO.out] at HPO
        have hpm := hw6.out.m.p1
        rw [hfr] at hpm
        have HXB : Hid (x < 12) := hI' (by
         obtain ⟨_,_,_,_,_,_,_,_,_,_,_,_,h8,_⟩ := hpm
         exact h8 x (List.mem_cons_self ..))
        have HTK := hI' (xFe K.lo1 K.hi1 K.gp1 12 x fl w6 hpm)
        clear hfr hpm HGO HCE
        go_wp2_with fail
        refine HTK.out.mono ?_
        rintro e w7 ⟨rfl,hp7,ht7⟩
        have H7 := hI' (hw6.out.pop1 hp7 ht7)
        clear hp7 ht7 HTK c1 s2 hw6 yBg
        have c1 := xA H7.out.c 1
        simp only [gA,gB,gC] at c1
        have HFL := hI' (pR w K wv { s with xB5 := qP (x :: fl) } 1 x c.data w7 H7.out.m (by omega) (by have := HXB.out; omega) (by show c.data.length ≤ 1024; have := HDL.out; omega) (by show s.writes.length ≤ _; have := HW.out; omega))
        rw [show (((1 : Nat)) : Int) = 1 from rfl] at HFL
        go_upto_region 21 with fail
        go_wp2_with fail
        refine HFL.out.mono ?_
        rintro e w8 ⟨rfl,⟨uv,hm8⟩,hk8⟩
        have HB8 := hI' (hk8 _ _ _ _ H7.out.c (by decide) H7.out.lo)
        have HST := hI' (xFy w K uv { s with xB5 := qP (x :: fl),writes := s.writes ++ uE 1 x c.data } i (zI c x) w8 hm8 HI.out (by show yU c.data ≤ 255; rw [HCL.out]; omega) (by show x ≤ 255; have := HXB.out; omega) (by show c.data.length ≤ 65535; have := HDL.out; omega) (by show c.name.length ≤ 255; have := HNL.out; omega) (by show (s.writes ++ uE 1 x c.data).length ≤ _; rw [List.length_append,xB7]; have := HW.out; have h16 : countP 1 ≤ 16 := (by decide); omega))
        rw [show xGz (zI c x) = .agg #[.bool true,.int .i64 (yU c.data : Nat),.int .i64 x,.int .i64 (c.data.length : Nat),xU c.name] from rfl,HCL.out] at HST
        rw [show (((1 : Nat)) : Int) = 1 from rfl] at HST
        clear hm8 hk8 HFL H7 c1
        have c1 := xA HB8.out 1
        have c0 := xA HB8.out 0
        simp only [gA,gB,gC] at c0 c1
        go_upto_region 22 with fail
        go_wp2_with fail
        refine HST.out.mono ?_
        rintro e w9 ⟨rfl,hp⟩
        have HP := hI' hp
        clear hp c0 c1 HST
        go_wp2
        go_ret
        exact ⟨by rw [HC.out]; rfl,HPO.out _ HP.out⟩
      ·have HCL : Hid (yU c.data = 0) := hI' (by unfold yU; rw [if_neg hcl])
       rw [HCL.out] at HCE HGO
       have HCLB : Hid (c.data.length ≤ 256) := hI' (by omega)
       have yBg : ¬ (256 < (c.data.length : Int)) := by omega
       have s2 := xA hw6.out.m.st 1
       simp only [gA,gB,gC] at s2
       clear hcl
       rw [show s.free 0 = s.wB from rfl] at HCE HGO
       rw [show vY s 0 = { s with wB := qP s.wB } from rfl] at HGO
       cases hfr : s.wB with
       | nil =>
        rw [hfr,if_pos (show ([] : List Nat).length = 0 from rfl)] at HCE
        have HC := HCE
        rw [HC.out,if_neg (by omega)] at HPO
        have hpm := hw6.out.m.p0
        rw [hfr] at hpm
        have HTK := hI' (xCs K.lo0 K.hi0 K.gp0 24 w6 hpm)
        clear hfr hpm HGO HCE
        go_wp2_with fail
        refine HTK.out.mono ?_
        rintro e w7 ⟨rfl,hw7⟩
        rw [hw7]
        clear hw7 w7
        go_wp2
        go_ret
        exact ⟨by rw [HC.out]; rfl,HPO.out _ ⟨_,hw6.out.m⟩⟩
       | cons x fl =>
        rw [hfr,if_neg (by simp)] at HCE
        rw [hfr] at HGO
        have HC := HCE
        rw [HC.out,if_pos rfl,HGO.out] at HPO
        have hpm := hw6.out.m.p0
        rw [hfr] at hpm
        have HXB : Hid (x < 24) := hI' (by
         obtain ⟨_,_,_,_,_,_,_,_,_,_,_,_,h8,_⟩ := hpm
         exact h8 x (List.mem_cons_self ..))
        have HTK := hI' (xFe K.lo0 K.hi0 K.gp0 24 x fl w6 hpm)
        clear hfr hpm HGO HCE
        go_wp2_with fail
        refine HTK.out.mono ?_
        rintro e w7 ⟨rfl,hp7,ht7⟩
        have H7 := hI' (hw6.out.pop0 hp7 ht7)
        clear hp7 ht7 HTK c1 s2 hw6 yBg
        have c1 := xA H7.out.c 1
        simp only [gA,gB,gC] at c1
        have HFL := hI' (pR w K wv { s with wB := qP (x :: fl) } 0 x c.data w7 H7.out.m (by omega) (by have := HXB.out; omega) (by show c.data.length ≤ 256; have := HCLB.out; omega) (by show s.writes.length ≤ _; have := HW.out; omega))
        rw [show (((0 : Nat)) : Int) = 0 from rfl] at HFL
        go_upto_region 21 with fail
        go_wp2_with fail
        refine HFL.out.mono ?_
        rintro e w8 ⟨rfl,⟨uv,hm8⟩,hk8⟩
        have HB8 := hI' (hk8 _ _ _ _ H7.out.c (by decide) H7.out.lo)
        have HST := hI' (xFy w K uv { s with wB := qP (x :: fl),writes := s.writes ++ uE 0 x c.data } i (zI c x) w8 hm8 HI.out (by show yU c.data ≤ 255; rw [HCL.out]; omega) (by show x ≤ 255; have := HXB.out; omega) (by show c.data.length ≤ 65535; have := HDL.out; omega) (by show c.name.length ≤ 255; have := HNL.out; omega) (by show (s.writes ++ uE 0 x c.data).length ≤ _; rw [List.length_append,xB7]; have := HW.out; have h16 : countP 0 ≤ 16 := (by decide); omega))
        rw [show xGz (zI c x) = .agg #[.bool true,.int .i64 (yU c.data : Nat),.int .i64 x,.int .i64 (c.data.length : Nat),xU c.name] from rfl,HCL.out] at HST
        rw [show (((0 : Nat)) : Int) = 0 from rfl] at HST
        clear hm8 hk8 HFL H7 c1
        have c1 := xA HB8.out 1
        have c0 := xA HB8.out 0
        simp only [gA,gB,gC] at c0 c1
        go_upto_region 22 with fail
        go_wp2_with fail
        refine HST.out.mono ?_
        rintro e w9 ⟨rfl,hp⟩
        have HP := hI' hp
        clear hp c0 c1 HST
        go_wp2
        go_ret
        exact ⟨by rw [HC.out]; rfl,HPO.out _ HP.out⟩
end Go.Proofs.ST
