/- Contracts of functions of the program. Conditions: those that each theorem states. -/
import Derived.Test.YtnaiekglbemhcaaGreatDoorVaultFreshProofB17
import Derived.Lib.Join
import Derived.Test.YtnaiekglbemhcaaGreatDoorVaultFreshProofB11
import Derived.Test.YtnaiekglbemhcaaGreatDoorVaultFreshProofB07
import Derived.Test.YtnaiekglbemhcaaGreatDoorVaultFreshProofB00
set_option maxHeartbeats 8000000
set_option maxRecDepth 100000
namespace Go.Proofs.ST
open Go.RowKit Mailsack MM BB SH SV RK DS
def xQ8 (d : Dk) (v : Value) (w : World) : Prop := vV d = true → RdS w w.heap.size v (xY d).secs
theorem xBb (va vb : Value) (d : Dk) (w : World) (h : RdD w w.heap.size va vb d) :
  Calls Tryz.prog 41 #[.agg #[va,vb]] w fun e w' => ∃ v,e = .returned (.tuple #[v,.bool (vV d)]) ∧ xQ8 d v w' ∧ Below w.heap.size w w' := by
 obtain ⟨A1,c1,A2,c2,rfl,rfl⟩ := yH h
 have HA := hI' ((Below.refl w.heap.size w).alloc (Nat.le_refl _) (yD (.slice A1 d.secs.length c1) (.slice A2 d.cache.length c2)))
 have hD0 := xM w (yD (.slice A1 d.secs.length c1) (.slice A2 d.cache.length c2))
 have HD0 := hI' hD0
 obtain ⟨d0,d1⟩ := uG hD0
 clear hD0
 have HRD := hI' ((h.below HA.out (Nat.le_refl _)).more HA.out.size)
 have HRT := hI' (wV _ _ d _ HRD.out)
 have HCP : Hid (vV d = (decide (d.secs.length = 381) && zC d)) := hI' rfl
 obtain ⟨cv,hcv⟩ : ∃ cv,vV d = cv := ⟨_,rfl⟩
 rw [hcv] at HCP ⊢
 have HQ := hI' hcv
 clear hcv h
 by_cases hl : d.secs.length = 381
 ·have hli : (d.secs.length : Int) = 381 := by omega
  have hlb : ((d.secs.length : Int) != 381) = false := by simp [hli]
  rw [decide_eq_true hl,Bool.true_and] at HCP
  clear hl
  cases hr : zC d with
  | false =>
   rw [hr] at HRT HCP
   have HCV := HCP
   clear hr HCP
   rw [HCV.out]
   go_enter Tryz.func41,Tryz.ntmps41
   go_wp2_with fail
   refine HRT.out.mono ?_
   rintro e w1 ⟨rfl,hb⟩
   have HB := hI' (HA.out.trans (hb.mono HA.out.size))
   clear hb d0 d1
   go_wp2
   go_ret2
   exact ⟨_,rfl,(fun e => by rw [HQ.out,HCV.out] at e; cases e),HB.out⟩
  | true =>
   rw [hr] at HRT HCP
   rw [HCP.out]
   have HR := hI' hr
   clear hr HCP
   go_enter Tryz.func41,Tryz.ntmps41
   go_wp2_with fail
   refine HRT.out.mono ?_
   rintro e w1 ⟨rfl,hb⟩
   have HB := hI' (And.intro (HA.out.trans (hb.mono HA.out.size)) ((HRD.out.below hb (Nat.le_refl _)).more hb.size))
   have h1 := xE HD0.out hb (xI HD0.out)
   clear hb d0 d1
   obtain ⟨d0,d1⟩ := uG h1
   clear h1 HD0
   have HF := hI' (xGf _ _ d w1 HB.out.2)
   go_wp2_with fail
   refine HF.out.mono ?_
   rintro e w2 ⟨ua,ub,rfl,hr2,_,hb2⟩
   obtain ⟨A3,c3,A4,c4,rfl,rfl⟩ := yH hr2
   have HB2 := hI' (And.intro (HB.out.1.trans (hb2.mono HB.out.1.size)) hr2.s)
   have hfld := fun (W : World) => (show (Instr.field 28 (.agg #[.slice A3 (xY d).secs.length c3,.slice A4 (xY d).cache.length c4]) 0).run Tryz.prog W = .ok (.slice A3 (xY d).secs.length c3) W from by rfl)
   clear hr2 hb2 HF HB d0 d1 HRT HRD
   go_wp2
   go_ret2
   exact ⟨_,rfl,fun _ => HB2.out.2,HB2.out.1⟩
 ·have hli : ¬ ((d.secs.length : Int) = 381) := by omega
  have hlb : ((d.secs.length : Int) != 381) = true := by simp [hli]
  rw [decide_eq_false hl,Bool.false_and] at HCP
  rw [HCP.out]
  clear hl
  go_enter Tryz.func41,Tryz.ntmps41
  go_wp2
  go_ret2
  exact ⟨_,rfl,(fun e => by rw [HQ.out,HCP.out] at e; cases e),HA.out⟩
theorem xFx (v : Value) (S : List Bs) (w : World) (h : RdS w w.heap.size v S) (hl : S.length = 381) (h64 : ∀ s ∈ S,s.length = 64) :
  Calls Tryz.prog 42 #[v] w fun e w' => ∃ g,e = .returned (.slice (some ⟨g,0,none⟩) 32 32) ∧ w.heap.size ≤ g ∧ w'.heap[g]? = some (.cells ((yG S).flatMap qI).toArray 140 (0,0)) ∧ Below w.heap.size w w' := by
 obtain ⟨A,c,rfl,hc,hcell⟩ := h
 obtain ⟨b,off,rfl,hb,hcs⟩ := hcell (by omega)
 obtain ⟨z,hi,hz,hsz,hby⟩ := wH yBc
 have hmk := run_make (P := Tryz.prog) (w := w) 99 140 z _ Tryz.underlying99 hi hz .i64 .i64 (32 : Int) (32 : Int) (by omega) (by omega) (by rw [hby]; omega) (by omega)
 simp only [hsz] at hmk
 have hmf : madeCells (Value.cells (.agg #[.bool false,.int .i64 0,.int .i64 0,.int .i64 0,.string ⟨#[]⟩])) ((32 : Int).toNat * 5) = ((List.replicate 32 noSlot).flatMap qI).toArray := xUe zO (by omega) noSlot 32
 rw [hmf] at hmk
 clear hmf hi hz hsz hby
 have H0 : Hid (qC 140 qI (w.alloc (.cells ((List.replicate 32 noSlot).flatMap qI).toArray 140)) w.heap.size ((yG S).take 0 ++ List.replicate (32 - 0) noSlot) ∧ Below w.heap.size w (w.alloc (.cells ((List.replicate 32 noSlot).flatMap qI).toArray 140))) := hI' ⟨xM _ _,(Below.refl _ _).alloc (Nat.le_refl _) _⟩
 have HSL := hI' (jE hl)
 have HGT := hI' (fun k => vX S k)
 have HC := hI' hcs
 have H64 := hI' h64
 generalize ((List.replicate 32 noSlot).flatMap qI).toArray = cs0 at hmk H0
 have HLL := hI' hl
 clear hcs h64 hl hc
 go_enter Tryz.func42,Tryz.ntmps42
 go_wp2_with fail
 clear hmk
 generalize w.alloc (.cells cs0 140) = w1 at H0 ⊢
 go_loopw [8] (fun iv wr => ∃ k : Nat,k ≤ 32 ∧ iv = .int .i64 k ∧ Hid (qC 140 qI wr w.heap.size ((yG S).take k ++ List.replicate (32 - k) noSlot) ∧ Below w.heap.size w wr)) (fun iv _ => 32 - (intOf iv).toNat)
 case atStart => exact ⟨0,by omega,rfl,H0⟩
 case round =>
  obtain ⟨k,hk,rfl,HI⟩ := hrel
  clear H0
  by_cases hlt : k < 32
  ·obtain ⟨x,hx⟩ : ∃ x,S[61 + k]? = some x := ⟨_,List.getElem?_eq_getElem (by have := HLL.out; omega)⟩
   have q := (HI.out.2.cell (p := ⟨b,off + (61 + k),none⟩) hb).trans (HC.out _ x hx)
   have hx64 := H64.out x (List.mem_of_getElem? hx)
   have HD := hI' (fun W => xRr ⟨x.toArray⟩ W (by show x.toArray.size = 64; simpa using hx64))
   have HXS : Hid ((yG S)[k]? = some (decP x)) := hI' (by rw [HGT.out,if_pos hlt,hx]; rfl)
   rw [show (⟨x.toArray⟩ : ByteArray).data.toList = x from rfl] at HD
   have tn : (61 + (k : Int)).toNat = 61 + k := by omega
   have t0 : (0 : Int) ≤ 61 + (k : Int) := by omega
   have t1 : 61 + (k : Int) < (S.length : Int) := by have := HLL.out; omega
   clear hx hx64
   go_wp2_with fail
   refine (HD.out _).mono ?_
   rintro e w2 ⟨rfl,hb2⟩
   have HI2 := hI' (And.intro (HI.out.1.below hb2) (HI.out.2.trans (hb2.mono HI.out.2.size)))
   have hlen : ((yG S).take k ++ List.replicate (32 - k) noSlot).length = 32 := by simp [HSL.out]; omega
   have HNX : Hid (((yG S).take k ++ List.replicate (32 - k) noSlot).set k (decP x) = (yG S).take (k + 1) ++ List.replicate (32 - (k + 1)) noSlot) := hI' (by
    rw [List.set_append_right _ _ (by rw [List.length_take]; omega),List.length_take,HSL.out,show k - min k 32 = 0 by omega,show 32 - k = (32 - (k + 1)) + 1 by omega,List.replicate_succ,List.set_cons_zero,List.take_add_one,HXS.out]
    simp)
   have HPU := hI' (HI2.out.1.put zO (k := k) (by rw [hlen]; exact hlt) (decP x))
   have HPB := hI' (zZ (b := w.heap.size) (B := w.heap.size) (Nat.le_refl _) (qI (decP x)) (k * 5) w2 HI2.out.2)
   rw [HNX.out] at HPU
   have f := fun i => HI2.out.1.free i
   have f0 := f (k * 5)
   have f1 := f (k * 5 + 1)
   have f2 := f (k * 5 + 2)
   have f3 := f (k * 5 + 3)
   have f4 := f (k * 5 + 4)
   obtain ⟨y,hy⟩ : ∃ y,((yG S).take k ++ List.replicate (32 - k) noSlot)[k]? = some y := ⟨_,List.getElem?_eq_getElem (by rw [hlen]; exact hlt)⟩
   have o0 := HI2.out.1.cell zO (i := 0) hy rfl
   have o1 := HI2.out.1.cell zO (i := 1) hy rfl
   have o2 := HI2.out.1.cell zO (i := 2) hy rfl
   have o3 := HI2.out.1.cell zO (i := 3) hy rfl
   have o4 := HI2.out.1.cell zO (i := 4) hy rfl
   rw [Nat.add_zero] at o0
   simp only [yR] at HPU HPB
   clear f hlen hy HNX HXS HI HI2 hb2 HD q tn t0 t1
   generalize decP x = t at HPU HPB ⊢
   go_wp2
   exact ⟨⟨k + 1,by omega,by go_num,hI' ⟨HPU.out,HPB.out⟩⟩,by simp [intOf]; omega⟩
  ·obtain rfl : k = 32 := by omega
   have HE : Hid ((yG S).take 32 ++ List.replicate (32 - 32) noSlot = yG S) := hI' (by rw [show 32 - 32 = 0 by omega,List.take_of_length_le (by rw [HSL.out]; omega)]; simp)
   rw [HE.out] at HI
   go_wp2
   go_ret
   exact ⟨_,rfl,Nat.le_refl _,HI.out.1,HI.out.2⟩
end Go.Proofs.ST
namespace Mailsack
theorem xUz {α : Type} {p : α → Bool} {l : List α} {k : Nat} {x : α} (hx : l[k]? = some x) (hp : p x = true) (h : ∀ y ∈ l.take k,p y = false) : xP8 p l = k :=
 yBe hx hp fun j y hj hy => h y (by
  have := (List.getElem?_eq_some_iff.1 hy).1
  exact List.mem_of_getElem? (i := j) (by rw [List.getElem?_take,if_pos hj]; exact hy))
end Mailsack
namespace Go.Proofs.ST
open Go.RowKit Mailsack MM BB SH SV RK DS
theorem xLc (fid : FuncId) (fr : Array Value) (p : Slot → Bool) (v : Value) (l : List Slot) (w : World) (h : RdR 5 qI w w.heap.size v l) (hl : l.length ≤ 100000) (hE : ∀ args W,(callFunc fid args).run Tryz.prog W = .ok (.enter fid args) W)
  (hp : ∀ (t : Slot) (W : World),Below w.heap.size w W → Calls Tryz.prog fid (#[xGz t] ++ fr) W fun e w' => e = .returned (.bool (p t)) ∧ Below W.heap.size W w') :
  Calls Tryz.prog 97 #[v,.func (.func fid) #[] fr] w fun e w' => e = .returned (.int .i64 (xP8 p l)) ∧ Below w.heap.size w w' := by
 obtain ⟨A,c,rfl,hc,hcell⟩ := h
 have HL := hI' hcell
 have HP := hI' hp
 obtain ⟨r,hr⟩ : ∃ r,xP8 p l = r := ⟨_,rfl⟩
 rw [hr]
 have HR := hI' hr
 clear hcell hc hp hr
 go_enter Tryz.func97,Tryz.ntmps97
 go_wp2_with fail
 go_loopw [8] (fun iv wr => ∃ k : Nat,k ≤ l.length ∧ iv = .int .i64 k ∧ Hid (Below w.heap.size w wr) ∧ Hid (∀ y ∈ l.take k,p y = false)) (fun iv _ => l.length - (intOf iv).toNat)
 case atStart => exact ⟨0,Nat.zero_le _,rfl,hI' (Below.refl _ _),hI' (by simp)⟩
 case round =>
  obtain ⟨k,hk,rfl,HI,HN⟩ := hrel
  by_cases hlt : k < l.length
  ·obtain ⟨x,hx⟩ : ∃ x,l[k]? = some x := ⟨_,List.getElem?_eq_getElem hlt⟩
   obtain ⟨b,off,rfl,hb,hcell⟩ := HL.out (by omega)
   have q := fun i u hu => (HI.out.cell (p := ⟨b,off + k * 5 + i,none⟩) hb).trans (hcell k x hx i u hu)
   have q0 : wr.cell? ⟨b,off + k * 5,none⟩ = some (.bool x.used) := q 0 _ rfl
   have q1 : wr.cell? ⟨b,off + k * 5 + 1,none⟩ = some (.int .i64 x.cls) := q 1 _ rfl
   have q2 : wr.cell? ⟨b,off + k * 5 + 2,none⟩ = some (.int .i64 x.blk) := q 2 _ rfl
   have q3 : wr.cell? ⟨b,off + k * 5 + 3,none⟩ = some (.int .i64 x.size) := q 3 _ rfl
   have q4 : wr.cell? ⟨b,off + k * 5 + 4,none⟩ = some (xU x.name) := q 4 _ rfl
   have HC := hI' (HP.out x wr HI.out)
   have HX := hI' hx
   clear hcell q hx
   cases hpx : p x with
   | true =>
    rw [hpx] at HC
    have HRK : Hid (r = (k : Int)) := hI' (by rw [← HR.out]; exact xUz HX.out hpx HN.out)
    clear hpx HR
    go_wp2_with (go_at_fn fid; refine HC.out.mono ?_; rintro e w' ⟨rfl,hb'⟩)
    go_ret
    exact ⟨by rw [HRK.out]; rfl,HI.out.trans (hb'.mono HI.out.size)⟩
   | false =>
    rw [hpx] at HC
    have HN2 : Hid (∀ y ∈ l.take (k + 1),p y = false) := hI' (by
     intro y hy
     rw [List.take_add_one,HX.out] at hy
     rcases List.mem_append.1 hy with hy | hy
     ·exact HN.out y hy
     ·simp at hy; subst hy; exact hpx)
    clear hpx HN
    go_wp2_with (go_at_fn fid; refine HC.out.mono ?_; rintro e w' ⟨rfl,hb'⟩; have HB' := hI' (HI.out.trans (hb'.mono HI.out.size)); clear hb')
    exact ⟨⟨k + 1,by omega,by go_num,HB',HN2⟩,by simp [intOf]; omega⟩
  ·obtain rfl : k = l.length := by omega
   rw [List.take_length] at HN
   have HRK : Hid (r = -1) := hI' (by rw [← HR.out]; exact xV0 HN.out)
   clear HR
   go_wp2
   go_ret
   exact ⟨by rw [HRK.out]; rfl,HI.out⟩
theorem xVi (t : Slot) (n : Bs) (nb : Nat) (w : World) (h : w.heap[nb]? = some (.cells #[xU n] 9 (0,0))) :
  Calls Tryz.prog 110 #[xGz t,.pointer (some ⟨nb,0,none⟩)] w fun e w' => e = .returned (.bool (xEv n t)) ∧ Below w.heap.size w w' := by
 obtain ⟨u,c,b,s,m⟩ := t
 have HB := hI' ((Below.refl w.heap.size w).alloc (Nat.le_refl _) (wU ⟨u,c,b,s,m⟩))
 have hb := xM w (wU ⟨u,c,b,s,m⟩)
 have c0 := xA hb 0
 have c4 := xA hb 4
 have n0 := xA (xP h (wU ⟨u,c,b,s,m⟩)) 0
 simp only [gA,gB,gC] at c0 c4 n0
 clear hb h
 cases u with
 | false =>
  go_enter Tryz.func110,Tryz.ntmps110
  go_wp2
  go_ret
  exact ⟨rfl,HB.out⟩
 | true =>
  have HN : Hid (xEv n ⟨true,c,b,s,m⟩ = (m == n)) := hI' rfl
  cases hq : (m == n) with
  | true =>
   rw [hq] at HN
   rw [HN.out]
   obtain rfl : m = n := by simpa using hq
   clear hq
   go_enter Tryz.func110,Tryz.ntmps110
   go_wp2
   go_ret
   exact ⟨rfl,HB.out⟩
  | false =>
   rw [hq] at HN
   rw [HN.out]
   have hq2 : ¬ m = n := by simpa using hq
   go_enter Tryz.func110,Tryz.ntmps110
   go_wp2
   go_ret
   exact ⟨rfl,HB.out⟩
theorem xPm (v : Value) (l : List Slot) (n : Bs) (w : World) (h : RdR 5 qI w w.heap.size v l) (hl : l.length ≤ 100000) :
  Calls Tryz.prog 66 #[v,xU n] w fun e w' => e = .returned (.int .i64 (wC l n)) ∧ Below w.heap.size w w' := by
 have HA := hI' ((Below.refl w.heap.size w).alloc (Nat.le_refl _) (.cells #[xU n] 9))
 have HN := hI' (xM w (.cells #[xU n] 9))
 have HI := hI' (xLc 110 #[.pointer (some ⟨w.heap.size,0,none⟩)] (xEv n) v l (w.alloc (.cells #[xU n] 9)) ((h.below HA.out (Nat.le_refl _)).more HA.out.size) hl (fun args W => enters_of Tryz.func110 (by kernel_rfl) rfl args W) (fun t W hW => xVi t n w.heap.size W (xE HN.out hW (by simp))))
 have HF : Hid (wC l n = xP8 (xEv n) l) := hI' rfl
 obtain ⟨r,hr⟩ : ∃ r,wC l n = r := ⟨_,rfl⟩
 rw [hr] at HF ⊢
 rw [← HF.out] at HI
 clear hr h HF
 go_enter Tryz.func66,Tryz.ntmps66
 go_wp2_with fail
 refine HI.out.mono ?_
 rintro e w1 ⟨rfl,hb⟩
 have HB := hI' (HA.out.trans (hb.mono HA.out.size))
 clear hb HI HA HN
 go_wp2
 go_ret
 exact ⟨rfl,HB.out⟩
end Go.Proofs.ST
namespace Mailsack
theorem xE7 : ∀ (xs : List Bs),Go.Lib.join xs [] = xs.flatten
 | [] => rfl
 | [x] => by simp [Go.Lib.join,List.intercalate,List.intersperse]
 | x :: y :: l => by
  have ih := xE7 (y :: l)
  simp only [Go.Lib.join,List.intercalate,List.intersperse,List.flatten_cons] at ih ⊢
  rw [List.nil_append,ih]
theorem xVh {l : List Bs} (h : ∀ x ∈ l,x.length = 64) : l.flatten.length = 64 * l.length := by
 induction l with
 | nil => rfl
 | cons x l ih =>
  rw [List.flatten_cons,List.length_append,h x (List.mem_cons_self ..),ih fun y hy => h y (List.mem_cons_of_mem _ hy),List.length_cons]
  omega
end Mailsack
namespace Go.Proofs.ST
open Go.RowKit Mailsack MM BB SH SV RK DS
theorem xL9 (b off c : Nat) (S : List Bs) (first n : Nat) (w : World) (hcs : ∀ (j : Nat) x,S[j]? = some x → w.cell? ⟨b,off + j,none⟩ = some (xU x)) (hb : b < w.heap.size) (hn : first + n ≤ S.length) (h0 : n ≤ 100) (hc : n ≤ c) (h64 : ∀ x ∈ S,x.length = 64) :
  Calls Tryz.prog 68 #[.slice (some ⟨b,off + first,none⟩) n c,.string ⟨#[]⟩] w fun e w' => e = .returned (xU ((S.drop first).take n).flatten) ∧ Below w.heap.size w w' := by
 have hl : ((S.drop first).take n).length = n := by simp; omega
 have e1 : ((((S.drop first).take n).map fun y => (⟨y.toArray⟩ : ByteArray)).map (·.data.toList)) = (S.drop first).take n := by
  rw [List.map_map]
  conv => rhs; rw [← List.map_id ((S.drop first).take n)]
  rfl
 have hJ := Tryz.strings_Join b (off + first) c (((S.drop first).take n).map fun y => (⟨y.toArray⟩ : ByteArray)) ⟨#[]⟩ w (fun j x hx => by
  rw [List.getElem?_map] at hx
  obtain ⟨y,hy,rfl⟩ := Option.map_eq_some_iff.1 hx
  have hj := (List.getElem?_eq_some_iff.1 hy).1
  rw [hl] at hj
  rw [List.getElem?_take,if_pos hj,List.getElem?_drop] at hy
  have := hcs _ _ hy
  rw [← Nat.add_assoc] at this
  exact this) hb (by rw [List.length_map,hl]; omega) (by rw [List.length_map,hl]; exact hc) (by
   rw [e1]
   show (Go.Lib.join _ []).length ≤ _
   rw [xE7,xVh fun x hx => h64 x (List.mem_of_mem_drop (List.mem_of_mem_take hx)),hl]
   omega)
 rw [e1,List.length_map,hl] at hJ
 rw [show (⟨#[]⟩ : ByteArray).data.toList = [] from rfl,xE7] at hJ
 exact hJ
theorem xJv {d : Dk} (h : vV d = true) : (xY d).secs.length = 381 ∧ ∀ s ∈ (xY d).secs,s.length = 64 := by
 unfold vV at h
 rw [Bool.and_eq_true,decide_eq_true_eq] at h
 have h2 := xA5 h.2
 exact ⟨by rw [xBj h.2]; exact h.1,(xAw.1 h2).2.2.1⟩
theorem xX5 {S : List Bs} {i : Nat} {t : Slot} (h : (yG S)[i]? = some t) : t = noSlot ∨ (t.used = true ∧ xF5 t) := by
 rw [vX] at h
 split at h
 ·obtain ⟨s,_,rfl⟩ := Option.map_eq_some_iff.1 h
  exact xGr s
 ·cases h
structure GtM (w : World) (gs b off c : Nat) (S : List Bs) (W : World) : Prop where
 sl : W.heap[gs]? = some (.cells ((yG S).flatMap qI).toArray 140 (0,0))
 cs : ∀ (j : Nat) x,S[j]? = some x → W.cell? ⟨b,off + j,none⟩ = some (xU x)
 hb : b < W.heap.size
 bel : Below w.heap.size w W
theorem GtM.below {w W W' : World} {gs b off c : Nat} {S : List Bs} (h : GtM w gs b off c S W) (hb : Below W.heap.size W W') : GtM w gs b off c S W' :=
 ⟨xE h.sl hb (xI h.sl),fun j x hx => (hb.cell (p := ⟨b,off + j,none⟩) h.hb).trans (h.cs j x hx),Nat.lt_of_lt_of_le h.hb hb.size,h.bel.trans (hb.mono h.bel.size)⟩
theorem GtM.drew {w W : World} {gs b off c : Nat} {S : List Bs} (h : GtM w gs b off c S W) : GtM w gs b off c S W.drew := h.below (Below.refl _ _).drew
theorem xNg (va vb : Value) (d : Dk) (n : Bs) (w : World) (h : RdD w w.heap.size va vb d) :
  Calls Tryz.prog 22 #[.agg #[va,vb],xU n] w fun e w' => e = .returned (.tuple #[xU (xPb d n),.int .i64 (xJu d n)]) ∧ Below w.heap.size w w' := by
 obtain ⟨A1,c1,A2,c2,rfl,rfl⟩ := yH h
 have HA := hI' ((Below.refl w.heap.size w).alloc (Nat.le_refl _) (yD (.slice A1 d.secs.length c1) (.slice A2 d.cache.length c2)))
 have hD0 := xM w (yD (.slice A1 d.secs.length c1) (.slice A2 d.cache.length c2))
 obtain ⟨d0,d1⟩ := uG hD0
 clear hD0
 have HCT := hI' (xBb _ _ d _ ((h.below HA.out (Nat.le_refl _)).more HA.out.size))
 have HE : Hid (xJu d n = if vV d = true then (if wC (yG (xY d).secs) n < 0 then 6 else 0) else 1) := hI' rfl
 have HG : Hid (xPb d n = if xJu d n = 0 then xBr (xY d).secs (xCv (yG (xY d).secs) (wC (yG (xY d).secs) n)) else []) := hI' rfl
 have HFL : Hid (vV d = true → (xY d).secs.length = 381 ∧ ∀ s ∈ (xY d).secs,s.length = 64) := hI' xJv
 have HCP : Hid (∀ v W,xQ8 d v W → vV d = true → RdS W W.heap.size v (xY d).secs) := hI' (fun v W h => h)
 obtain ⟨ge,hge⟩ : ∃ ge,xJu d n = ge := ⟨_,rfl⟩
 obtain ⟨gp,hgp⟩ : ∃ gp,xPb d n = gp := ⟨_,rfl⟩
 rw [hge] at HE HG
 rw [hgp] at HG
 rw [hge,hgp]
 clear hge hgp h
 cases hc : vV d with
 | false =>
  rw [hc] at HCT HE
  rw [if_neg (by simp)] at HE
  rw [HE.out,if_neg (by omega)] at HG
  rw [HG.out,HE.out]
  clear hc HE HG HFL HCP
  go_enter Tryz.func22,Tryz.ntmps22
  go_wp2_with fail
  refine HCT.out.mono ?_
  rintro e w1 ⟨v,rfl,_,hb⟩
  have HB := hI' (HA.out.trans (hb.mono HA.out.size))
  clear hb HA HCT d0 d1
  go_wp2
  go_ret2
  exact ⟨rfl,HB.out⟩
 | true =>
  have qO := hI' (HFL.out hc)
  have xS6 := hI' (fun v W h => HCP.out v W h hc)
  rw [hc] at HCT HE
  rw [if_pos rfl] at HE
  clear hc HFL HCP
  generalize (xY d).secs = S at HE HG qO xS6
  go_enter Tryz.func22,Tryz.ntmps22
  go_wp2_with fail
  refine HCT.out.mono ?_
  rintro e w1 ⟨v,rfl,hct,hb⟩
  have HRS := hI' (xS6.out v w1 hct)
  have HB1 := hI' (HA.out.trans (hb.mono HA.out.size))
  clear hct hb HCT xS6 d0 d1 HA
  have HSO := hI' (xFx v S w1 HRS.out qO.out.1 qO.out.2)
  obtain ⟨A,c,rfl,hlc,hcell⟩ := HRS.out
  obtain ⟨b,off,rfl,hb,hcs⟩ := hcell (by rw [qO.out.1]; omega)
  have HCS := hI' (And.intro hb (And.intro hcs hlc))
  clear hb hcs hlc hcell
  go_wp2_with fail
  refine HSO.out.mono ?_
  rintro e w2 ⟨gs,rfl,hgs,hsl,hb2⟩
  have HM := hI' (show GtM w gs b off c S w2 from ⟨hsl,fun j x hx => (hb2.cell (p := ⟨b,off + j,none⟩) HCS.out.1).trans (HCS.out.2.1 j x hx),Nat.lt_of_lt_of_le HCS.out.1 hb2.size,HB1.out.trans (hb2.mono HB1.out.size)⟩)
  clear hsl hb2 hgs HSO HRS
  have HFD := hI' (xPm (.slice (some ⟨gs,0,none⟩) 32 32) (yG S) n w2 (by
   have := qC.rd (e := 140) (f := qI) (n := 5) zO HM.out.sl (B := w2.heap.size) (xI HM.out.sl) (c := 32) (by rw [jE qO.out.1]; omega)
   rw [jE qO.out.1] at this
   exact this) (by rw [jE qO.out.1]; omega))
  go_wp2_with fail
  refine HFD.out.mono ?_
  rintro e w3 ⟨rfl,hb3⟩
  have HM3 := hI' (HM.out.below hb3)
  clear hb3 HM HFD HB1
  rcases jF (yG S) n with ⟨f1,f2⟩ | ⟨i,t,f1,f2,f3,f4,f5⟩
  ·rw [f1] at HE HG
   rw [f1]
   rw [if_pos (by omega)] at HE
   rw [HE.out,if_neg (by omega)] at HG
   clear f1 f2
   go_wp2
   go_ret2
   exact ⟨by rw [HE.out,HG.out]; rfl,HM3.out.bel⟩
  ·rw [f1] at HE HG
   rw [f1]
   rw [if_neg (by omega)] at HE
   rw [HE.out,if_pos rfl,xHr f2] at HG
   have hok : xF5 t := by
    rcases xX5 f2 with e | ⟨_,h⟩
    ·rw [e] at f3; cases f3
    ·exact h
   have HI : Hid (i < 32) := hI' (by rw [jE qO.out.1] at f5; exact f5)
   have hi32 : (i : Int) < 32 := by have := HI.out; omega
   have HC1 : Hid (∀ {W},GtM w gs b off c S W → W.cell? ⟨gs,i * 5 + 1,none⟩ = some (.int .i64 t.cls)) := hI' (fun h => qC.cell (e := 140) zO h.sl f2 rfl)
   have HC2 : Hid (∀ {W},GtM w gs b off c S W → W.cell? ⟨gs,i * 5 + 2,none⟩ = some (.int .i64 t.blk)) := hI' (fun h => qC.cell (e := 140) zO h.sl f2 rfl)
   have HC3 : Hid (∀ {W},GtM w gs b off c S W → W.cell? ⟨gs,i * 5 + 3,none⟩ = some (.int .i64 t.size)) := hI' (fun h => qC.cell (e := 140) zO h.sl f2 rfl)
   have HSE := hI' (fun W => xG2 t.cls t.blk W (by have := hok.blk; have := xEn t.cls; omega))
   have hfl := xFn hok.blk
   have hcn : countP t.cls = 4 ∨ countP t.cls = 16 := by unfold countP; split <;> simp
   have hcp := xK1 hok.cls
   have hsz := hok.size
   have HRD : Hid (gp = (((S.drop (uF t.cls t.blk)).take (countP t.cls)).flatten).take t.size) := HG
   have HJL : Hid ((((S.drop (uF t.cls t.blk)).take (countP t.cls)).flatten).length = 64 * countP t.cls) := hI' (by
    rw [xVh fun x hx => qO.out.2 x (List.mem_of_mem_drop (List.mem_of_mem_take hx)),List.length_take,List.length_drop,qO.out.1]
    omega)
   have HJ := hI' (fun W (h : GtM w gs b off c S W) => xL9 b off (c - uF t.cls t.blk) S (uF t.cls t.blk) (countP t.cls) W h.cs h.hb (by rw [qO.out.1]; exact hfl) (by omega) (by have := HCS.out.2.2; have := qO.out.1; omega) qO.out.2)
   generalize uF t.cls t.blk = fi at HSE hfl HRD HJL HJ
   generalize ((S.drop fi).take (countP t.cls)).flatten = jl at HRD HJL HJ
   generalize countP t.cls = cn at HSE hfl hcn hcp HJL HJ
   obtain ⟨tu,tc,tb,ts,tn⟩ := t
   simp only at HC1 HC2 HC3 HSE HRD hcp hsz
   have HBD : Hid (fi + cn ≤ 381 ∧ ts ≤ 64 * cn ∧ cn ≤ 16 ∧ 1 ≤ cn ∧ 381 ≤ c) := hI' ⟨hfl,by omega,by omega,by omega,by have := HCS.out.2.2; have := qO.out.1; omega⟩
   clear f1 f2 f3 f4 f5 hok hfl hcn hcp hsz HG
   go_upto_region 8 with fail
   refine RG.xR (fun W => Hid (GtM w gs b off c S W)) (by kernel_rfl) (by kernel_rfl) (hI' HM3.out.drew) ?_
   iterate 10
    apply RG.xC
    ·intro w9 hw9
     have c1 := HC1.out hw9.out
     have c2 := HC2.out hw9.out
     have c3 := HC3.out hw9.out
     repeat go_step
     with_reducible exact RG.xB hw9
    ·rfl
   apply RG.xC
   ·intro w9 hw9
    repeat go_step
    refine (HSE.out _).mono ?_
    rintro e w10 ⟨rfl,rfl⟩
    simp only []
    repeat go_step
    with_reducible exact RG.xB hw9
   ·rfl
   iterate 5
    apply RG.xC
    ·intro w9 hw9
     repeat go_step
     with_reducible exact RG.xB hw9
    ·rfl
   refine RG.xW (fun w4 hw4 => ?_)
   clear HM3 HSE
   go_upto_region 9 with fail
   have h0 : (0 : Int) ≤ (fi : Int) := by omega
   have h1 : (fi : Int) ≤ (fi : Int) + (cn : Int) := by omega
   have h2 : (fi : Int) + (cn : Int) ≤ (c : Int) := by have := HBD.out; omega
   have h3 : (fi : Int) ≤ 381 ∧ (cn : Int) ≤ 16 := by have := HBD.out; omega
   obtain ⟨h3,h4⟩ := h3
   have hcf : ¬ (c = fi) := by have := HBD.out; omega
   refine RG.xR (fun W => Hid (GtM w gs b off c S W)) (by kernel_rfl) (by kernel_rfl) (hI' hw4.out.drew) ?_
   iterate 6
    apply RG.xC
    ·intro w9 hw9
     repeat go_step
     with_reducible exact RG.xB hw9
    ·rfl
   obtain ⟨jb,hjb⟩ : ∃ jb : ByteArray,(⟨jl.toArray⟩ : ByteArray) = jb := ⟨_,rfl⟩
   have hjs : jb.size = jl.length := by rw [← hjb]; simp [ByteArray.size]
   have HRS : Hid (xU gp = .string (jb.extract 0 ts)) := hI' (by
    rw [HRD.out,← hjb]
    show Value.string _ = Value.string _
    congr 1
    apply ByteArray.ext
    rw [ByteArray.data_extract]
    apply Array.ext'
    simp)
   rw [show xU jl = .string jb from by rw [← hjb]] at HJ
   have t0 : (ts : Int) ≤ (jb.size : Int) := by have := HBD.out; have := HJL.out; omega
   clear hjb HRD HJL h1 h2 h3 h4 h0
   apply RG.xC
   ·intro w9 hw9
    repeat go_step
    with_reducible refine (HJ.out _ hw9.out).mono ?_
    rintro e w10 ⟨rfl,yA⟩
    simp only []
    repeat go_step
    with_reducible refine RG.xB ?_
    exact hI' (hw9.out.below yA)
   ·rfl
   iterate 8
    apply RG.xC
    ·intro w9 hw9
     have c3 := HC3.out hw9.out
     repeat go_step
     with_reducible exact RG.xB hw9
    ·rfl
   refine RG.xW (fun w5 hw5 => ?_)
   go_wp2
   go_ret2
   exact ⟨by rw [HE.out,HRS.out]; rfl,hw5.out.bel⟩
end Go.Proofs.ST
namespace Go.Proofs.ST
open Go.RowKit Go.Lib Mailsack MM BB SH SV RK DS
theorem xGx {α : Type} [Inhabited α] {enc : α → Value} {B : Nat} {w0 w : World} {n blk off : Nat} {d : Array α} {os : Array Obj} (h : Below B w0 w) (hB : B ≤ blk) (hs : blk < w.heap.size) : Below B w0 (Sort.grow (Sort.putRow enc (Sort.ahead w n) blk off d) os) := by
 refine h.trans ⟨rfl,rfl,rfl,by simp,fun k hk => ?_⟩
 rw [Sort.heap_grow_old _ _ (by simp; omega)]
 unfold Sort.putRow Sort.mapBlock
 simp only [Sort.heap_ahead,Array.getElem?_modify]
 rw [if_neg (by omega)]
theorem xRz {α : Type} [Inhabited α] {enc : α → Value} {B : Nat} {w0 w : World} {n blk off : Nat} {d : Array α} (h : Below B w0 w) (hB : B ≤ blk) (hs : blk < w.heap.size) : Below B w0 (Sort.putRow enc (Sort.ahead w n) blk off d) := by
 have := xGx (enc := enc) (n := n) (off := off) (d := d) (os := #[]) h hB hs
 rwa [Sort.grow_empty] at this
theorem xV2 {w : World} {base : Nat} {v : Value} {x : Bs} {xs : List Bs} (h : xQ7 w base v (x :: xs)) : ∃ g c,v = .slice (some ⟨g,0,none⟩) (x :: xs).length c ∧ (x :: xs).length ≤ c ∧ base ≤ g ∧ g < w.heap.size ∧ Sort.Holds encStr w g 0 (x :: xs).toArray := by
 rcases h.2 with ⟨_,h2⟩ | ⟨g,cap,cur,h1,hb,hg,hnc,_,_,htake⟩
 ·simp at h2
 ·refine ⟨g,cap,h1,hnc,hb,xI hg,fun j hj => ⟨?_,xK hg _⟩⟩
  have := World.ownsRow.cells h (g := g) (by rw [h1]; rfl) j (xU ((x :: xs).toArray[j]!)) (by
   have hj2 : j < (x :: xs).length := by simpa using hj
   rw [List.getElem?_map,List.getElem?_eq_getElem hj2]
   rw [getElem!_pos (x :: xs).toArray j (by simpa using hj2)]
   rfl)
  have hadd : (⟨g,0,none⟩ : Addr).add j = ⟨g,0 + j,none⟩ := by unfold Addr.add; split <;> simp_all
  rw [hadd] at this
  exact this
theorem xXb {w : World} {B g c n : Nat} {xs : List Bs} (h : ∀ j,j < xs.length → w.cell? ⟨g,0 + j,none⟩ = some (xU (xs.toArray[j]!))) (hg : g < B) (hn : n = xs.length) (hc : n ≤ c) : RdS w B (.slice (some ⟨g,0,none⟩) n c) xs := by
 subst hn
 refine ⟨_,c,rfl,hc,fun _ => ⟨g,0,rfl,hg,fun j x hx => ?_⟩⟩
 obtain ⟨hj,rfl⟩ := List.getElem?_eq_some_iff.1 hx
 rw [h j hj,getElem!_pos xs.toArray j (by simpa using hj)]
 rfl
theorem xNx (zs : List Bs) : (Go.Lib.compact zs).length ≤ zs.length := by
 unfold Go.Lib.compact Go.Lib.compactUpTo
 rw [List.length_map]
 have := List.length_filter_le (Go.Lib.keeps zs.toArray) (List.range zs.length)
 simpa using this
theorem xTc {w : World} {base : Nat} {v : Value} {xs : List Bs} (h : xQ7 w base v xs) (hl : xs.length ≤ 1000000) :
  Calls Tryz.prog 85 #[v] w fun e w' => e = .returned (.tuple #[]) ∧ Below base w w' ∧ ((xs = [] ∧ v = .slice none 0 0) ∨ ∃ g c,v = .slice (some ⟨g,0,none⟩) (wK xs).length c ∧ (wK xs).length ≤ c ∧ base ≤ g ∧ g < w'.heap.size ∧ Sort.Holds encStr w' g 0 (wK xs).toArray) := by
 cases xs with
 | nil =>
  have hv : v = .slice none 0 0 ∨ ∃ A c,v = .slice A 0 c := by
   obtain ⟨A,c,e,_⟩ := h.form
   exact .inr ⟨A,c,e⟩
  rcases h.2 with ⟨hv,_⟩ | ⟨g,cap,cur,h1,hb,hg,hnc,_⟩
  ·subst hv
   refine (Tryz.slices_Sort_string_none none 0 w).mono ?_
   rintro e w' ⟨rfl,rfl⟩
   exact ⟨rfl,Below.refl _ _,.inl ⟨rfl,rfl⟩⟩
  ·subst h1
   refine (Tryz.slices_Sort_string_none _ cap w).mono ?_
   rintro e w' ⟨rfl,rfl⟩
   exact ⟨rfl,Below.refl _ _,.inr ⟨g,cap,by simp [wK],by simp [wK],hb,xI hg,fun j hj => by simp [wK] at hj⟩⟩
 | cons x xs =>
  obtain ⟨g,c,rfl,hc,hb,hg,hH⟩ := xV2 h
  refine (Tryz.slices_Sort_string g 0 c (x :: xs) w hH hg (by omega)).mono ?_
  rintro e w' ⟨rfl,n,os,rfl⟩
  have hls : (wK (x :: xs)).length = (x :: xs).length := by unfold wK; exact List.length_mergeSort _
  have hH2 := Sort.holds_putRow encStr (Sort.ahead w n) g 0 (x :: xs).toArray (wK (x :: xs)).toArray (Sort.holds_ahead _ _ n _ _ _ hH) (by simpa using hls)
  refine ⟨rfl,xGx (Below.refl _ _) hb hg,.inr ⟨g,c,by rw [hls],by rw [hls]; exact hc,hb,by simp; omega,?_⟩⟩
  exact Sort.holds_grow _ _ _ _ _ _ (by simpa using hg) hH2
theorem xLm {w : World} {base g c : Nat} {zs : List Bs} (hH : Sort.Holds encStr w g 0 zs.toArray) (hb : base ≤ g) (hg : g < w.heap.size) (hl : zs.length ≤ 1000000) (hc : zs.length ≤ c) :
  Calls Tryz.prog 86 #[.slice (some ⟨g,0,none⟩) zs.length c] w fun e w' => e = .returned (.slice (some ⟨g,0,none⟩) (Go.Lib.compact zs).length c) ∧ RdS w' w'.heap.size (.slice (some ⟨g,0,none⟩) (Go.Lib.compact zs).length c) (Go.Lib.compact zs) ∧ Below base w w' := by
 refine (Tryz.slices_Compact_string g 0 c zs w hH (by omega) hc).mono ?_
 rintro e w' ⟨rfl,q,rfl⟩
 have hle := xNx zs
 have hsz : (Go.Lib.compact zs ++ List.replicate (zs.length - (Go.Lib.compact zs).length) ([] : Bs)).length = zs.length := by simp; omega
 have hH2 := Sort.holds_putRow encStr (Sort.ahead w q) g 0 zs.toArray (Go.Lib.compact zs ++ List.replicate (zs.length - (Go.Lib.compact zs).length) ([] : Bs)).toArray (Sort.holds_ahead _ _ q _ _ _ hH) (by simpa using hsz)
 refine ⟨rfl,xXb (fun j hj => ?_) (by simpa using hg) rfl (by omega),xRz (Below.refl _ _) hb hg⟩
 have := (hH2 j (by simp; omega)).1
 rw [this]
 congr 2
 rw [getElem!_pos _ j (by simp; omega),getElem!_pos _ j (by simpa using hj)]
 simp [List.getElem_append_left hj]
end Go.Proofs.ST
namespace Mailsack
structure wN where
 uid : Int
 flags : Int
 object : Int
 size : Int
structure xGy where
 name : Bs
 validity : Int
 next : Int
 zA : List wN
structure jU where
 boxes : List xGy
 subs : List Bs
 given : Int
end Mailsack
namespace Go.Proofs.IX
open Go.RowKit Mailsack MM
def kZ (w : World) (B : Nat) (v : Value) (L : List wN) : Prop :=
 ∃ A c,v = .slice A L.length c ∧ L.length ≤ c ∧ (0 < L.length → ∃ b off,A = some ⟨b,off,none⟩ ∧ b < B ∧ ∀ (j : Nat) m,L[j]? = some m →
  w.cell? ⟨b,off + j * 4,none⟩ = some (.int .i64 m.uid) ∧ w.cell? ⟨b,off + j * 4 + 1,none⟩ = some (.int .i64 m.flags) ∧ w.cell? ⟨b,off + j * 4 + 2,none⟩ = some (.int .i64 m.object) ∧ w.cell? ⟨b,off + j * 4 + 3,none⟩ = some (.int .i64 m.size))
theorem kZ.keep {w w' : World} {B : Nat} {v : Value} {L : List wN} (h : kZ w B v L) (hk : ∀ p : Addr,p.block < B → w'.cell? p = w.cell? p) : kZ w' B v L := by
 obtain ⟨A,c,h1,h2,h3⟩ := h
 refine ⟨A,c,h1,h2,fun hn => ?_⟩
 obtain ⟨b,off,h4,h5,h6⟩ := h3 hn
 refine ⟨b,off,h4,h5,fun j m hm => ?_⟩
 obtain ⟨k1,k2,k3,k4⟩ := h6 j m hm
 exact ⟨(hk _ h5).trans k1,(hk _ h5).trans k2,(hk _ h5).trans k3,(hk _ h5).trans k4⟩
theorem kZ.more {w : World} {B B' : Nat} {v : Value} {L : List wN} (h : kZ w B v L) (hB : B ≤ B') : kZ w B' v L := by
 obtain ⟨A,c,h1,h2,h3⟩ := h
 refine ⟨A,c,h1,h2,fun hn => ?_⟩
 obtain ⟨b,off,h4,h5,h6⟩ := h3 hn
 exact ⟨b,off,h4,by omega,h6⟩
def qW (w : World) (B : Nat) (v : Value) (L : List xGy) : Prop :=
 ∃ A c,v = .slice A L.length c ∧ L.length ≤ c ∧ (0 < L.length → ∃ b off,A = some ⟨b,off,none⟩ ∧ b < B ∧ ∀ (j : Nat) x,L[j]? = some x → ∃ mv,
  w.cell? ⟨b,off + j * 4,none⟩ = some (xU x.name) ∧ w.cell? ⟨b,off + j * 4 + 1,none⟩ = some (.int .i64 x.validity) ∧ w.cell? ⟨b,off + j * 4 + 2,none⟩ = some (.int .i64 x.next) ∧ w.cell? ⟨b,off + j * 4 + 3,none⟩ = some mv ∧ kZ w B mv x.zA)
theorem qW.keep {w w' : World} {B : Nat} {v : Value} {L : List xGy} (h : qW w B v L) (hk : ∀ p : Addr,p.block < B → w'.cell? p = w.cell? p) : qW w' B v L := by
 obtain ⟨A,c,h1,h2,h3⟩ := h
 refine ⟨A,c,h1,h2,fun hn => ?_⟩
 obtain ⟨b,off,h4,h5,h6⟩ := h3 hn
 refine ⟨b,off,h4,h5,fun j m hm => ?_⟩
 obtain ⟨mv,k1,k2,k3,k4,k5⟩ := h6 j m hm
 exact ⟨mv,(hk _ h5).trans k1,(hk _ h5).trans k2,(hk _ h5).trans k3,(hk _ h5).trans k4,k5.keep hk⟩
theorem qW.more {w : World} {B B' : Nat} {v : Value} {L : List xGy} (h : qW w B v L) (hB : B ≤ B') : qW w B' v L := by
 obtain ⟨A,c,h1,h2,h3⟩ := h
 refine ⟨A,c,h1,h2,fun hn => ?_⟩
 obtain ⟨b,off,h4,h5,h6⟩ := h3 hn
 refine ⟨b,off,h4,by omega,fun j m hm => ?_⟩
 obtain ⟨mv,k1,k2,k3,k4,k5⟩ := h6 j m hm
 exact ⟨mv,k1,k2,k3,k4,k5.more hB⟩
theorem qW.below {w w' : World} {B B' : Nat} {v : Value} {L : List xGy} (h : qW w B v L) (hb : Below B' w w') (hB : B ≤ B') : qW w' B v L := h.keep fun _ hp => hb.cell (by omega)
theorem kZ.below {w w' : World} {B B' : Nat} {v : Value} {L : List wN} (h : kZ w B v L) (hb : Below B' w w') (hB : B ≤ B') : kZ w' B v L := h.keep fun _ hp => hb.cell (by omega)
structure xQ6 (w : World) (B : Nat) (bv sv : Value) (x : jU) : Prop where
 boxes : qW w B bv x.boxes
 subs : RdS w B sv x.subs
theorem xQ6.below {w w' : World} {B B' : Nat} {bv sv : Value} {x : jU} (h : xQ6 w B bv sv x) (hb : Below B' w w') (hB : B ≤ B') : xQ6 w' B bv sv x := ⟨h.boxes.below hb hB,h.subs.below hb hB⟩
theorem xQ6.more {w : World} {B B' : Nat} {bv sv : Value} {x : jU} (h : xQ6 w B bv sv x) (hB : B ≤ B') : xQ6 w B' bv sv x := ⟨h.boxes.more hB,h.subs.more hB⟩
end Go.Proofs.IX
