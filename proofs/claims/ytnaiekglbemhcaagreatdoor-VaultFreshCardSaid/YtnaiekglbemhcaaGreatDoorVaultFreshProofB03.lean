/- Contracts of functions of the program. Conditions: those that each theorem states. -/
import Derived.Test.YtnaiekglbemhcaaGreatDoorVaultFreshProofB00
import Derived.Test.YtnaiekglbemhcaaGreatDoorVaultFreshProofB01
import Derived.Laws.CopyOwn
import Derived.Deep.Cut
import Derived.Test.YtnaiekglbemhcaaGreatDoorVaultFreshProofB02
import Derived.Lib.AppendStr
import Derived.Deep.AppendLies
import Derived.Maps.AppendAt
set_option maxHeartbeats 8000000
set_option maxRecDepth 100000
namespace Mailsack
def vU (x : Wr) (n : Nat) : Bool := decide (0 ≤ x.at_) && decide (x.at_ < n) && decide (x.data.length = 64)
def zC (d : Dk) : Bool := decide (1 ≤ d.secs.length) && decide (d.secs.length ≤ 1024) && d.secs.all (fun s => decide (s.length = 64)) && d.cache.all (fun x => vU x d.secs.length)
theorem xK2 {α : Type} {f : α → Bool} {L : List α} {k : Nat} {x : α} (h : L[k]? = some x) (hf : f x = true) (h0 : ∀ r ∈ L.take k,f r = true) : ∀ r ∈ L.take (k + 1),f r = true := by
 intro q hq
 rw [List.take_add_one,h] at hq
 rcases List.mem_append.1 hq with hq | hq
 ·exact h0 q hq
 ·simp at hq; subst hq; exact hf
theorem all_false {α : Type} {f : α → Bool} {L : List α} {k : Nat} {x : α} (h : L[k]? = some x) (hf : f x = false) : L.all f = false := by
 rw [List.all_eq_false]
 exact ⟨x,List.mem_of_getElem? h,by rw [hf]; simp⟩
theorem all_true {α : Type} {f : α → Bool} {L : List α} (h : ∀ r ∈ L.take L.length,f r = true) : L.all f = true := by
 rw [List.take_length] at h
 exact List.all_eq_true.2 h
end Mailsack
namespace Go.Proofs.DS
open Go.RowKit Mailsack MM BB
def RdW (w : World) (B : Nat) (v : Value) (L : List Wr) : Prop :=
 ∃ A c,v = .slice A L.length c ∧ L.length ≤ c ∧ (0 < L.length → ∃ b off,A = some ⟨b,off,none⟩ ∧ b < B ∧ ∀ j x,L[j]? = some x → w.cell? ⟨b,off + j * 2,none⟩ = some (.int .i64 x.at_) ∧ w.cell? ⟨b,off + j * 2 + 1,none⟩ = some (xU x.data))
theorem RdW.keep {w w' : World} {B : Nat} {v : Value} {L : List Wr} (h : RdW w B v L) (hk : ∀ p : Addr,p.block < B → w'.cell? p = w.cell? p) : RdW w' B v L := by
 obtain ⟨A,c,h1,h2,h3⟩ := h
 refine ⟨A,c,h1,h2,fun hn => ?_⟩
 obtain ⟨b,off,h4,h5,h6⟩ := h3 hn
 exact ⟨b,off,h4,h5,fun j x hx => ⟨(hk _ h5).trans (h6 j x hx).1,(hk _ h5).trans (h6 j x hx).2⟩⟩
theorem RdW.below {w w' : World} {B B' : Nat} {v : Value} {L : List Wr} (h : RdW w B v L) (hb : Below B' w w') (hB : B ≤ B') : RdW w' B v L := h.keep fun _ hp => hb.cell (by omega)
theorem RdW.more {w : World} {B B' : Nat} {v : Value} {L : List Wr} (h : RdW w B v L) (hB : B ≤ B') : RdW w B' v L := by
 obtain ⟨A,c,h1,h2,h3⟩ := h
 refine ⟨A,c,h1,h2,fun hn => ?_⟩
 obtain ⟨b,off,h4,h5,h6⟩ := h3 hn
 exact ⟨b,off,h4,by omega,h6⟩
theorem RdW.xOp (w : World) (B : Nat) : RdW w B (.slice none 0 0) [] := ⟨none,0,rfl,Nat.le_refl _,fun h => by simp at h⟩
structure RdD (w : World) (B : Nat) (a b : Value) (d : Dk) : Prop where
 s : RdS w B a d.secs
 c : RdW w B b d.cache
 ls : d.secs.length ≤ 1000000
 lc : d.cache.length ≤ 1000000
theorem RdD.below {w w' : World} {B B' : Nat} {a b : Value} {d : Dk} (h : RdD w B a b d) (hb : Below B' w w') (hB : B ≤ B') : RdD w' B a b d := ⟨h.s.below hb hB,h.c.below hb hB,h.ls,h.lc⟩
theorem RdD.more {w : World} {B B' : Nat} {a b : Value} {d : Dk} (h : RdD w B a b d) (hB : B ≤ B') : RdD w B' a b d := ⟨h.s.more hB,h.c.more hB,h.ls,h.lc⟩
theorem xPk (x : Wr) (n : Nat) (w : World) :
  Calls Tryz.prog 105 #[.agg #[.int .i64 x.at_,xU x.data],.int .i64 n] w fun e w' => e = .returned (.bool (vU x n)) ∧ Below w.heap.size w w' := by
 obtain ⟨a,s⟩ := x
 obtain ⟨sb,hsb⟩ : ∃ sb : ByteArray,(⟨s.toArray⟩ : ByteArray) = sb := ⟨_,rfl⟩
 have HF : Hid (vU ⟨a,s⟩ n = (decide (0 ≤ a) && decide (a < n) && decide (sb.size = 64))) := hI' (by rw [← hsb]; rfl)
 show Calls Tryz.prog 105 #[.agg #[.int .i64 a,.string ⟨s.toArray⟩],.int .i64 n] w _
 rw [hsb]
 have hB := xM w (.cells #[.int .i64 a,.string sb] 111)
 have c0 := xA hB 0
 have c1 := xA hB 1
 have HB := hI' ((Below.refl w.heap.size w).alloc (Nat.le_refl _) (.cells #[.int .i64 a,.string sb] 111))
 clear hB hsb
 by_cases h1 : 0 ≤ a
 ·by_cases h2 : a < n
  ·by_cases h3 : sb.size = 64
   ·have h3i : (sb.size : Int) = 64 := by omega
    have h3b : ((sb.size : Int) == 64) = true := by simpa using h3i
    have HR : Hid (vU ⟨a,s⟩ n = true) := hI' (by rw [HF.out]; simp [h1,h2,h3])
    clear h3
    go_enter Tryz.func105,Tryz.ntmps105
    go_wp2
    go_ret
    exact ⟨by rw [HR.out]; rfl,HB.out⟩
   ·have h3i : ¬ ((sb.size : Int) = 64) := by omega
    have h3b : ((sb.size : Int) == 64) = false := by simpa using h3i
    have HR : Hid (vU ⟨a,s⟩ n = false) := hI' (by rw [HF.out]; simp [h3])
    clear h3
    go_enter Tryz.func105,Tryz.ntmps105
    go_wp2
    go_ret
    exact ⟨by rw [HR.out]; rfl,HB.out⟩
  ·have HR : Hid (vU ⟨a,s⟩ n = false) := hI' (by rw [HF.out]; simp [h2])
   go_enter Tryz.func105,Tryz.ntmps105
   go_wp2
   go_ret
   exact ⟨by rw [HR.out]; rfl,HB.out⟩
 ·have HR : Hid (vU ⟨a,s⟩ n = false) := hI' (by rw [HF.out]; simp [h1])
  go_enter Tryz.func105,Tryz.ntmps105
  go_wp2
  go_ret
  exact ⟨by rw [HR.out]; rfl,HB.out⟩
theorem wV (va vb : Value) (d : Dk) (w : World) (h : RdD w w.heap.size va vb d) :
  Calls Tryz.prog 56 #[.agg #[va,vb]] w fun e w' => e = .returned (.bool (zC d)) ∧ Below w.heap.size w w' := by
 obtain ⟨S,C⟩ := d
 obtain ⟨⟨A1,c1,rfl,hc1,h1⟩,⟨A2,c2,rfl,hc2,h2⟩,hls,hlc⟩ := h
 have H1 := hI' h1
 have H2 := hI' h2
 simp only at hc1 hc2 hls hlc H1 H2 ⊢
 have HF : Hid (zC ⟨S,C⟩ = (decide (1 ≤ S.length) && decide (S.length ≤ 1024) && S.all (fun s => decide (s.length = 64)) && C.all (fun x => vU x S.length))) := hI' rfl
 have hB := xM w (yD (.slice A1 S.length c1) (.slice A2 C.length c2))
 have HB := hI' ((Below.refl w.heap.size w).alloc (Nat.le_refl _) (yD (.slice A1 S.length c1) (.slice A2 C.length c2)))
 have b0 := xA hB 0
 have HBK := hI' hB
 clear hB h1 h2
 by_cases g1 : 1 ≤ S.length
 ·by_cases g2 : S.length ≤ 1024
  ·have i1 : ¬ ((S.length : Int) < 1) := by omega
   have i2 : ¬ (1024 < (S.length : Int)) := by omega
   have HF2 : Hid (zC ⟨S,C⟩ = (S.all (fun s => decide (s.length = 64)) && C.all (fun x => vU x S.length))) := hI' (by rw [HF.out]; simp [g1,g2])
   clear HF
   go_enter Tryz.func56,Tryz.ntmps56
   go_wp2_with fail
   obtain ⟨b,off,rfl,hbw,hcs⟩ := H1.out (by omega)
   have HCS := hI' hcs
   clear H1 hcs b0
   generalize w.alloc (yD (.slice (some ⟨b,off,none⟩) S.length c1) (.slice A2 C.length c2)) = w0 at HB HBK ⊢
   go_loopw [20] (fun iv wr => ∃ k : Nat,k ≤ S.length ∧ iv = .int .i64 k ∧ wr = w0 ∧ Hid (∀ r ∈ S.take k,decide (r.length = 64) = true)) (fun iv _ => S.length - (intOf iv).toNat)
   case atStart => exact ⟨0,Nat.zero_le _,rfl,rfl,hI' (by simp)⟩
   case round =>
    obtain ⟨k,hk,rfl,rfl,hok⟩ := hrel
    by_cases hlt : k < S.length
    ·obtain ⟨x,hx⟩ : ∃ x,S[k]? = some x := ⟨_,List.getElem?_eq_getElem hlt⟩
     have q0 := (HB.out.cell (p := ⟨b,off + k,none⟩) hbw).trans (HCS.out k x hx)
     have HX := hI' hx
     clear hx
     obtain ⟨xb,hxb⟩ : ∃ xb : ByteArray,(⟨x.toArray⟩ : ByteArray) = xb := ⟨_,rfl⟩
     have hxs : xb.size = x.length := by rw [← hxb]; rfl
     have q1 : wr.cell? ⟨b,off + k,none⟩ = some (.string xb) := by rw [← hxb]; exact q0
     clear q0 hxb
     by_cases h64 : x.length = 64
     ·have e1 : ((xb.size : Int) != 64) = false := by simp; omega
      have e2 : (xb.size : Int) = 64 := by omega
      have HO := hI' (xK2 HX.out (by simpa using h64) hok.out)
      clear h64 hxs
      go_wp2
      exact ⟨⟨k + 1,by omega,by go_num,trivial,HO⟩,by simp [intOf]; omega⟩
     ·have e1 : ((xb.size : Int) != 64) = true := by simp; omega
      have e2 : ¬ ((xb.size : Int) = 64) := by omega
      have HR : Hid (zC ⟨S,C⟩ = false) := hI' (by rw [HF2.out,all_false HX.out (by simpa using h64)]; rfl)
      clear h64 hxs
      go_wp2
      go_ret
      exact ⟨by rw [HR.out]; rfl,HB.out⟩
    ·obtain rfl : k = S.length := by omega
     have HF3 : Hid (zC ⟨S,C⟩ = C.all (fun x => vU x S.length)) := hI' (by rw [HF2.out,all_true hok.out]; rfl)
     clear HF2 hok HCS hlt
     have b1 := xA HBK.out 1
     go_wp2_with fail
     clear b1
     go_loopw [31] (fun iv wx => ∃ k : Nat,k ≤ C.length ∧ iv = .int .i64 k ∧ Hid (Below wr.heap.size wr wx) ∧ Hid (∀ r ∈ C.take k,vU r S.length = true)) (fun iv _ => C.length - (intOf iv).toNat)
     case atStart => exact ⟨0,Nat.zero_le _,rfl,hI' (Below.refl _ _),hI' (by simp)⟩
     case round =>
      obtain ⟨k,hk,rfl,hbx,hok⟩ := hrel
      by_cases hlt : k < C.length
      ·obtain ⟨b2,off2,rfl,hb2,hc2⟩ := H2.out (by omega)
       obtain ⟨x,hx⟩ : ∃ x,C[k]? = some x := ⟨_,List.getElem?_eq_getElem hlt⟩
       obtain ⟨p0,p1⟩ := hc2 k x hx
       have HBX := hI' (HB.out.trans (hbx.out.mono HB.out.size))
       have q0 := (HBX.out.cell (p := ⟨b2,off2 + k * 2,none⟩) hb2).trans p0
       have q1 := (HBX.out.cell (p := ⟨b2,off2 + k * 2 + 1,none⟩) hb2).trans p1
       have HX := hI' hx
       have HFT := hI' (fun W => xPk x S.length W)
       have b0 := xA (xP (xE HBK.out hbx.out (xI HBK.out)) (.cells #[.int .i64 x.at_,.string ⟨x.data.toArray⟩] 111)) 0
       have HA := hI' ((Below.refl wr.heap.size wr).alloc (Nat.le_refl _) (.cells #[.int .i64 x.at_,.string ⟨x.data.toArray⟩] 111))
       obtain ⟨a,s⟩ := x
       simp only at q0 q1 HFT b0 HA
       clear hc2 hx p0 p1 H2
       go_wp2_with fail
       refine (HFT.out _).mono ?_
       rintro e w5 ⟨rfl,hb5⟩
       have HB5 := hI' (hbx.out.trans ((HA.out.trans (hb5.mono HA.out.size)).mono hbx.out.size))
       clear hb5 HA b0 q0 q1 HFT
       cases hft : vU ⟨a,s⟩ S.length with
       | true =>
        have HO := hI' (xK2 HX.out hft hok.out)
        clear hft
        go_wp2
        exact ⟨⟨k + 1,by omega,by go_num,HB5,HO⟩,by simp [intOf]; omega⟩
       | false =>
        have HR : Hid (zC ⟨S,C⟩ = false) := hI' (by rw [HF3.out,all_false HX.out hft])
        clear hft
        go_wp2
        go_ret
        exact ⟨by rw [HR.out]; rfl,HB.out.trans (HB5.out.mono HB.out.size)⟩
      ·obtain rfl : k = C.length := by omega
       have HR : Hid (zC ⟨S,C⟩ = true) := hI' (by rw [HF3.out,all_true hok.out])
       clear hlt
       go_wp2
       go_ret
       exact ⟨by rw [HR.out]; rfl,HB.out.trans (hbx.out.mono HB.out.size)⟩
  ·have i1 : ¬ ((S.length : Int) < 1) := by omega
   have i2 : 1024 < (S.length : Int) := by omega
   have HR : Hid (zC ⟨S,C⟩ = false) := hI' (by rw [HF.out]; simp [g2])
   go_enter Tryz.func56,Tryz.ntmps56
   go_wp2
   go_ret
   exact ⟨by rw [HR.out]; rfl,HB.out⟩
 ·have i1 : (S.length : Int) < 1 := by omega
  have HR : Hid (zC ⟨S,C⟩ = false) := hI' (by rw [HF.out]; simp [g1])
  go_enter Tryz.func56,Tryz.ntmps56
  go_wp2
  go_ret
  exact ⟨by rw [HR.out]; rfl,HB.out⟩
end Go.Proofs.DS
namespace Mailsack
def wrD (C : List Wr) (k : Nat) : Wr := C.getD k ⟨0,[]⟩
def rP (c : Nat → Bool) (C : List Wr) (S : List Bs) : Nat → List Bs
 | 0 => S
 | k + 1 => if c k = true then (rP c C S k).set (wrD C k).at_.toNat (wrD C k).data else rP c C S k
theorem rO (c : Nat → Bool) (C : List Wr) (S : List Bs) : ∀ k,(rP c C S k).length = S.length
 | 0 => rfl
 | k + 1 => by
  unfold rP
  split
  ·rw [List.length_set,rO c C S k]
  ·exact rO c C S k
def xY (d : Dk) : Dk := if zC d = true then ⟨rP (fun _ => true) d.cache d.secs d.cache.length,[]⟩ else d
theorem xQt {d : Dk} (h : zC d = true) : 1 ≤ d.secs.length ∧ d.secs.length ≤ 1024 := by
 unfold zC at h
 simp only [Bool.and_eq_true,decide_eq_true_eq] at h
 exact ⟨h.1.1.1,h.1.1.2⟩
theorem xTq {d : Dk} (h : zC d = true) {k : Nat} {x : Wr} (hx : d.cache[k]? = some x) : 0 ≤ x.at_ ∧ x.at_ < d.secs.length ∧ x.data.length = 64 := by
 unfold zC at h
 simp only [Bool.and_eq_true] at h
 have := List.all_eq_true.1 h.2 x (List.mem_of_getElem? hx)
 unfold vU at this
 simp only [Bool.and_eq_true,decide_eq_true_eq] at this
 exact ⟨this.1.1,this.1.2,this.2⟩
end Mailsack
namespace Go.Proofs.DS
open Go.RowKit Mailsack MM BB
theorem xNs (l : List Bs) : (encS l).toList = l.map xU := by simp [encS]
theorem jB.row {W : World} {g : Nat} {l : List Bs} (h : jB W g l) (l' : List Bs) : jB (W.setRow g (encS l')) g l' := setRow_heap W g _ _ _ _ h.blk
theorem yC0 {W : World} {g : Nat} {l : List Bs} (h : jB W g l) (S : List Bs) (hl : l.length = S.length) (b off c cd : Nat) (ty : TypeId) (hsrc : ∀ j x,S[j]? = some x → W.cell? ⟨b,off + j,none⟩ = some (xU x)) :
  (Builtin.copy_ #[25,25] ty #[.slice (some ⟨g,0,none⟩) S.length cd,.slice (some ⟨b,off,none⟩) S.length c]).run Tryz.prog W = .ok (goInt S.length) (W.setRow g (encS S)) := by
 have h3 := run_copy_row (P := Tryz.prog) W 25 25 ty 9 g 0 S.length cd ⟨b,off,none⟩ S.length c (encS l) _ (S.map xU) Tryz.underlying25 (by kernel_rfl) h.blk (by simp) (fun j v hv => by
  rw [List.getElem?_map] at hv
  obtain ⟨x,hx,rfl⟩ := Option.map_eq_some_iff.1 hv
  have hadd : (⟨b,off,none⟩ : Addr).add j = ⟨b,off + j,none⟩ := by unfold Addr.add; split <;> simp_all
  rw [hadd]
  exact hsrc j x hx) (by rw [xLg]; simp; omega) (fun v hv => by
  obtain ⟨x,_,rfl⟩ := List.mem_map.1 hv
  rfl)
 have hrow : ((encS l).toList.take 0 ++ S.map xU ++ (encS l).toList.drop (0 + (S.map xU).length)).toArray = encS S := by
  rw [xNs]
  simp [encS,← hl]
 rw [h3,hrow]
 simp
theorem xT4 (w : World) (o o' o'' : Obj) : (((w.alloc o).alloc o').alloc o'').heap[w.heap.size + 1 + 1]? = some o'' := by
 have := xM ((w.alloc o).alloc o') o''
 rwa [show ((w.alloc o).alloc o').heap.size = w.heap.size + 1 + 1 by simp] at this
structure PfI (w : World) (g : Nat) (va vb : Value) (l : List Bs) (W : World) : Prop where
 box : W.heap[w.heap.size]? = some (yD va vb)
 res : W.heap[w.heap.size + 1]? = some (yD (.slice none 0 0) (.slice none 0 0))
 row : jB W g l
 bel : Below w.heap.size w W
 lo : w.heap.size + 1 < g
theorem PfI.call {w : World} {g : Nat} {va vb : Value} {l : List Bs} {W W' : World} (h : PfI w g va vb l W) (hb : Below W.heap.size W W') : PfI w g va vb l W' :=
 ⟨xE h.box hb (xI h.box),xE h.res hb (xI h.res),h.row.below hb h.row.lt,h.bel.trans (hb.mono h.bel.size),h.lo⟩
theorem PfI.put {w : World} {g : Nat} {va vb : Value} {l : List Bs} {W : World} (h : PfI w g va vb l W) (i : Nat) (x : Bs) : PfI w g va vb (l.set i x) (W.setCell ⟨g,i,none⟩ (xU x)) :=
 ⟨xZ h.box (p := ⟨g,i,none⟩) (by have := h.lo; simp; omega) _,xZ h.res (p := ⟨g,i,none⟩) (by have := h.lo; simp; omega) _,h.row.put i x,h.bel.setCell (p := ⟨g,i,none⟩) (by have := h.lo; simp; omega) _,h.lo⟩
theorem xMz (va vb : Value) (d : Dk) (fid : FuncId) (fr : Array Value) (c : Nat → Bool) (w : World) (h : RdD w w.heap.size va vb d) (hr : zC d = true) (hE : ∀ args W,(callFunc fid args).run Tryz.prog W = .ok (.enter fid args) W)
  (hc : ∀ i W,i < d.cache.length → Below w.heap.size w W → Calls Tryz.prog fid (#[.int .i64 (i : Int)] ++ fr) W fun e w' => e = .returned (.bool (c i)) ∧ Below W.heap.size W w') :
  Calls Tryz.prog 57 #[.agg #[va,vb],.func (.func fid) #[] fr] w fun e w' => ∃ g,e = .returned (.agg #[.slice (some ⟨g,0,none⟩) d.secs.length d.secs.length,.slice none 0 0]) ∧ jB w' g (rP c d.cache d.secs d.cache.length) ∧ w.heap.size < g ∧ Below w.heap.size w w' := by
 obtain ⟨hn1,hn2⟩ := xQt hr
 have HFIT := hI' (fun (k : Nat) (x : Wr) (hx : d.cache[k]? = some x) => xTq hr hx)
 have HC := hI' hc
 obtain ⟨S,C⟩ := d
 obtain ⟨⟨A1,c1,rfl,hc1,h1⟩,⟨A2,c2,rfl,hc2,h2⟩,hls,hlc⟩ := h
 simp only at hn1 hn2 hc1 hc2 h1 h2 hls hlc HFIT HC ⊢
 obtain ⟨b,off,rfl,hbw,hcs⟩ := h1 (by omega)
 have HCS := hI' hcs
 have H2 := hI' h2
 have t0 := zQ w (yD (.slice (some ⟨b,off,none⟩) S.length c1) (.slice A2 C.length c2)) (yD (.slice none 0 0) (.slice none 0 0))
 have t1 := zM w (yD (.slice (some ⟨b,off,none⟩) S.length c1) (.slice A2 C.length c2)) (yD (.slice none 0 0) (.slice none 0 0))
 have HB0 := hI' (((Below.refl w.heap.size w).alloc (Nat.le_refl _) (yD (.slice (some ⟨b,off,none⟩) S.length c1) (.slice A2 C.length c2))).alloc (by simp) (yD (.slice none 0 0) (.slice none 0 0)))
 have HT0 := hI' t0
 have HT1 := hI' t1
 have k0 := xA t0 0
 have hmk := fun W => madeS W S.length (by omega)
 clear hr hc hcs h1 h2 t0 t1
 go_enter Tryz.func57,Tryz.ntmps57
 go_upto_region 2 with fail
 have HP : Hid (PfI w (w.heap.size + 1 + 1) (.slice (some ⟨b,off,none⟩) S.length c1) (.slice A2 C.length c2) (List.replicate S.length []) (((w.alloc (yD (.slice (some ⟨b,off,none⟩) S.length c1) (.slice A2 C.length c2))).alloc (yD (.slice none 0 0) (.slice none 0 0))).alloc (.cells (encS (List.replicate S.length [])) 9))) :=
  hI' ⟨xP HT0.out _,xP HT1.out _,xT4 _ _ _ _,HB0.out.alloc HB0.out.size _,by omega⟩
 generalize ((w.alloc (yD (.slice (some ⟨b,off,none⟩) S.length c1) (.slice A2 C.length c2))).alloc (yD (.slice none 0 0) (.slice none 0 0))).alloc (.cells (encS (List.replicate S.length [])) 9) = w3 at HP ⊢
 generalize w.heap.size + 1 + 1 = g at HP ⊢
 clear k0 hmk HT0 HT1 HB0
 have k0 := xA HP.out.box 0
 have hcp := yC0 HP.out.row S (by simp) b off c1 S.length 3 (fun j x hx => (HP.out.bel.cell (p := ⟨b,off + j,none⟩) hbw).trans (HCS.out j x hx))
 go_upto_region 3 with fail
 have HP2 : Hid (PfI w g (.slice (some ⟨b,off,none⟩) S.length c1) (.slice A2 C.length c2) (rP c C S 0) (w3.setRow g (encS S))) :=
  hI' ⟨by rw [setRow_other _ _ _ _ (by have := HP.out.lo; omega)]; exact HP.out.box,by rw [setRow_other _ _ _ _ (by have := HP.out.lo; omega)]; exact HP.out.res,jB.row HP.out.row S,below_setRow HP.out.bel (by have := HP.out.lo; omega) _,HP.out.lo⟩
 generalize w3.setRow g (encS S) = w4 at HP2 ⊢
 clear HP hcp HCS k0
 have k1 := xA HP2.out.box 1
 go_wp2_with fail
 clear k1
 go_loopw [19] (fun iv wr => ∃ k : Nat,k ≤ C.length ∧ iv = .int .i64 k ∧ Hid (PfI w g (.slice (some ⟨b,off,none⟩) S.length c1) (.slice A2 C.length c2) (rP c C S k) wr)) (fun iv _ => C.length - (intOf iv).toNat)
 case atStart => exact ⟨0,Nat.zero_le _,rfl,HP2⟩
 case round =>
  obtain ⟨k,hk,rfl,hr⟩ := hrel
  clear HP2
  by_cases hlt : k < C.length
  ·obtain ⟨b2,off2,rfl,hb2,hc2⟩ := H2.out (by omega)
   obtain ⟨x,hx⟩ : ∃ x,C[k]? = some x := ⟨_,List.getElem?_eq_getElem hlt⟩
   obtain ⟨p0,p1⟩ := hc2 k x hx
   have q0 := (hr.out.bel.cell (p := ⟨b2,off2 + k * 2,none⟩) hb2).trans p0
   have q1 := (hr.out.bel.cell (p := ⟨b2,off2 + k * 2 + 1,none⟩) hb2).trans p1
   obtain ⟨f0,f1,f2⟩ := HFIT.out k x hx
   have HD : Hid (wrD C k = x) := hI' (by unfold wrD; rw [List.getD_eq_getElem?_getD,hx]; rfl)
   obtain ⟨a,s⟩ := x
   simp only at q0 q1 f0 f1 f2
   have HA := hI' (hr.out.call ((Below.refl wr.heap.size wr).alloc (Nat.le_refl _) (.cells #[.int .i64 a,xU s] 111)))
   have hbk := xM wr (.cells #[.int .i64 a,xU s] 111)
   have hcc := HC.out k (wr.alloc (.cells #[.int .i64 a,xU s] 111)) hlt HA.out.bel
   have HBK := hI' hbk
   have HCC := hI' hcc
   clear hc2 hx p0 p1 H2 hbk hcc
   go_wp2_with fail
   refine HCC.out.mono ?_
   rintro e w5 ⟨rfl,hb5⟩
   have hk5 := xE HBK.out hb5 (xI HBK.out)
   have HR5 := hI' (HA.out.call hb5)
   have m0 := xA hk5 0
   have m1 := xA hk5 1
   clear HA HBK HCC hb5 hk5 q0 q1 hr
   cases hck : c k with
   | true =>
    have HPL : Hid (rP c C S (k + 1) = (rP c C S k).set a.toNat s) := hI' (by rw [rP,if_pos hck,HD.out])
    obtain ⟨an,rfl⟩ : ∃ an : Nat,a = an := ⟨a.toNat,by omega⟩
    have hal : an < (rP c C S k).length := by rw [rO]; omega
    obtain ⟨y,hy⟩ : ∃ y,(rP c C S k)[an]? = some y := ⟨_,List.getElem?_eq_getElem hal⟩
    have cy := HR5.out.row.cell hy
    have yy := HR5.out.row.free an
    have HE5 := hI' (HR5.out.put an s)
    have hpl := HPL.out
    simp only [Int.toNat_natCast] at hpl
    rw [← hpl] at HE5
    clear hck HPL hal hy hpl HD
    go_wp2
    exact ⟨⟨k + 1,by omega,by go_num,HE5⟩,by simp [intOf]; omega⟩
   | false =>
    have HPL : Hid (rP c C S (k + 1) = rP c C S k) := hI' (by rw [rP,if_neg (by rw [hck]; simp)])
    clear hck HD
    go_wp2
    exact ⟨⟨k + 1,by omega,by go_num,by rw [HPL.out]; exact HR5⟩,by simp [intOf]; omega⟩
  ·obtain rfl : k = C.length := by omega
   have c0 := xA hr.out.res 0
   have c1 := xA hr.out.res 1
   have y0 := xK hr.out.res 0
   have y1 := xK hr.out.res 1
   have hB := yB (yB hr.out.res 0 (.slice (some ⟨g,0,none⟩) S.length S.length)) 1 (.slice none 0 0)
   have f0 := xA hB 0
   have f1 := xA hB 1
   simp only [List.setIfInBounds_toArray,List.set_cons_zero,List.set_cons_succ,gA,gC,gB] at f0 f1
   clear hB hlt H2 HC HFIT
   have HL : Hid (w.heap.size + 1 < g) := hI' hr.out.lo
   go_wp2
   refine bodyPost_ret (v := .agg #[.slice (some ⟨g,0,none⟩) S.length S.length,.slice none 0 0]) (by simp [results,Tryz.results57,go_sem,f0,f1]) rfl ?_
   have hlo := HL.out
   refine ⟨g,rfl,?_,by omega,?_⟩
   ·exact (hr.out.row.far (p := ⟨w.heap.size + 1,0,none⟩) (by simp; omega) _).far (p := ⟨w.heap.size + 1,1,none⟩) (by simp; omega) _
   ·exact (hr.out.bel.setCell (p := ⟨w.heap.size + 1,0,none⟩) (by simp) _).setCell (p := ⟨w.heap.size + 1,1,none⟩) (by simp) _
end Go.Proofs.DS
namespace Go.Proofs.DS
open Go.RowKit Mailsack MM BB
def noB (n : Nat) : Array Value := (List.replicate n (Value.bool false)).toArray
theorem xXp (n : Nat) : madeCells (Value.cells (.bool false)) (n * 1) = noB n := by
 apply Array.ext_getElem?
 intro i
 by_cases h : i < n
 ·have : (noB n)[i]? = some (.bool false) := by simp [noB,h]
  rw [this]
  simp [madeCells,Value.cells,h,Nat.mod_one]
 ·rw [Array.getElem?_eq_none (by simp [madeCells]; omega),Array.getElem?_eq_none (by simp [noB]; omega)]
theorem madeB (W : World) (n : Nat) (hm : n ≤ 1000000) : (Instr.makeSlice 127 (.int .i64 (n : Int)) (.int .i64 (n : Int))).run Tryz.prog W = .ok (.slice (some ⟨W.heap.size,0,none⟩) n n) (W.alloc (.cells (noB n) 4)) := by
 have hinfo : (Tryz.prog.info? 4).map (fun i => (i.zero,i.size,i.bytes)) = some (some (.bool false),1,1) := by kernel_rfl
 cases hq : Tryz.prog.info? 4 with
 | none => rw [hq] at hinfo; cases hinfo
 | some i =>
  rw [hq] at hinfo
  simp only [Option.map_some,Option.some.injEq,Prod.mk.injEq] at hinfo
  obtain ⟨hz,hs,hb⟩ := hinfo
  have h := run_make (P := Tryz.prog) (w := W) 127 4 i _ Tryz.underlying127 hq hz .i64 .i64 (n : Int) (n : Int) (by omega) (by omega) (by rw [hb]; omega) (by omega)
  simp only [Int.toNat_natCast] at h
  rw [hs,xXp] at h
  exact h
theorem xWd (i : Int) (w : World) : Calls Tryz.prog 106 #[.int .i64 i] w fun e w' => e = .returned (.bool true) ∧ Below w.heap.size w w' := by
 go_enter Tryz.func106,Tryz.ntmps106
 go_wp2
 go_ret
 exact ⟨rfl,Below.refl _ _⟩
theorem xGf (va vb : Value) (d : Dk) (w : World) (h : RdD w w.heap.size va vb d) :
  Calls Tryz.prog 59 #[.agg #[va,vb]] w fun e w' => ∃ va' vb',e = .returned (.agg #[va',vb']) ∧ RdD w' w'.heap.size va' vb' (xY d) ∧ (zC d = true → ∃ g,va' = .slice (some ⟨g,0,none⟩) d.secs.length d.secs.length ∧ jB w' g (xY d).secs) ∧ Below w.heap.size w w' := by
 obtain ⟨A1,c1,rfl,_,_⟩ := h.s
 obtain ⟨A2,c2,rfl,_,_⟩ := h.c
 have t0 := zQ w (yD (.slice A1 d.secs.length c1) (.slice A2 d.cache.length c2)) (yD (.slice none 0 0) (.slice none 0 0))
 have t1 := zM w (yD (.slice A1 d.secs.length c1) (.slice A2 d.cache.length c2)) (yD (.slice none 0 0) (.slice none 0 0))
 have HB0 := hI' (((Below.refl w.heap.size w).alloc (Nat.le_refl _) (yD (.slice A1 d.secs.length c1) (.slice A2 d.cache.length c2))).alloc (by simp) (yD (.slice none 0 0) (.slice none 0 0)))
 have HD := hI' h
 have HRT := hI' (fun W (hb : Below w.heap.size w W) => wV _ _ d W ((h.below hb (Nat.le_refl _)).more hb.size))
 have HT0 := hI' t0
 have HT1 := hI' t1
 have k0 := xA t0 0
 have k1 := xA t0 1
 clear h t0 t1
 go_enter Tryz.func59,Tryz.ntmps59
 go_wp2_with fail
 refine (HRT.out _ HB0.out).mono ?_
 rintro e w1 ⟨rfl,hb1⟩
 have HB1 := hI' (HB0.out.trans (hb1.mono HB0.out.size))
 have HT0' := hI' (xE HT0.out hb1 (xI HT0.out))
 have xZ1 := hI' (xE HT1.out hb1 (xI HT1.out))
 clear HT0 HT1 HB0 hb1 k0 k1 HRT
 have k0 := xA HT0'.out 0
 have k1 := xA HT0'.out 1
 cases hr : zC d with
 | false =>
  have j0 := xA xZ1.out 0
  have j1 := xA xZ1.out 1
  have y0 := xK xZ1.out 0
  have y1 := xK xZ1.out 1
  have hB := yB (yB xZ1.out 0 (.slice A1 d.secs.length c1)) 1 (.slice A2 d.cache.length c2)
  have f0 := xA hB 0
  have f1 := xA hB 1
  simp only [List.setIfInBounds_toArray,List.set_cons_zero,List.set_cons_succ,gA,gC,gB] at f0 f1
  have HF : Hid (xY d = d) := hI' (by unfold xY; rw [if_neg (by rw [hr]; simp)])
  have HRF := hI' hr
  clear hB hr
  go_wp2
  refine bodyPost_ret (v := .agg #[.slice A1 d.secs.length c1,.slice A2 d.cache.length c2]) (by simp [results,Tryz.results59,go_sem,f0,f1]) rfl ?_
  have hb := (HB1.out.setCell (p := ⟨w.heap.size + 1,0,none⟩) (by simp) (.slice A1 d.secs.length c1)).setCell (p := ⟨w.heap.size + 1,1,none⟩) (by simp) (.slice A2 d.cache.length c2)
  refine ⟨_,_,rfl,?_,(fun h => by rw [HRF.out] at h; cases h),hb⟩
  rw [HF.out]
  exact (HD.out.below hb (Nat.le_refl _)).more hb.size
 | true =>
  have HPF := hI' (xMz _ _ d 106 #[] (fun _ => true) w1 ((HD.out.below HB1.out (Nat.le_refl _)).more HB1.out.size) hr (fun args W => enters_of Tryz.func106 (by kernel_rfl) rfl args W) (fun i W _ _ => by have := xWd i W; simpa using this))
  have HF : Hid (xY d = ⟨rP (fun _ => true) d.cache d.secs d.cache.length,[]⟩) := hI' (by unfold xY; rw [if_pos hr])
  clear hr
  go_wp2_with fail
  refine HPF.out.mono ?_
  rintro e w2 ⟨g,rfl,hs,hg,hb2⟩
  have HT2 := hI' (xE xZ1.out hb2 (xI xZ1.out))
  have HS2 := hI' hs
  have HB2 := hI' (HB1.out.trans (hb2.mono HB1.out.size))
  have hgw : w.heap.size + 1 < g := by have := xI xZ1.out; omega
  clear HPF hs hg hb2 HT0' xZ1 HB1 k0 k1
  have j0 := xA HT2.out 0
  have j1 := xA HT2.out 1
  have y0 := xK HT2.out 0
  have y1 := xK HT2.out 1
  have hB := yB (yB HT2.out 0 (.slice (some ⟨g,0,none⟩) d.secs.length d.secs.length)) 1 (.slice none 0 0)
  have f0 := xA hB 0
  have f1 := xA hB 1
  simp only [List.setIfInBounds_toArray,List.set_cons_zero,List.set_cons_succ,gA,gC,gB] at f0 f1
  clear hB
  go_wp2
  refine bodyPost_ret (v := .agg #[.slice (some ⟨g,0,none⟩) d.secs.length d.secs.length,.slice none 0 0]) (by simp [results,Tryz.results59,go_sem,f0,f1]) rfl ?_
  have hb := (HB2.out.setCell (p := ⟨w.heap.size + 1,0,none⟩) (by simp) (.slice (some ⟨g,0,none⟩) d.secs.length d.secs.length)).setCell (p := ⟨w.heap.size + 1,1,none⟩) (by simp) (.slice none 0 0)
  have hs2 := (HS2.out.far (p := ⟨w.heap.size + 1,0,none⟩) (by simp; omega) (.slice (some ⟨g,0,none⟩) d.secs.length d.secs.length)).far (p := ⟨w.heap.size + 1,1,none⟩) (by simp; omega) (.slice none 0 0)
  refine ⟨_,_,rfl,?_,fun _ => ⟨g,rfl,?_⟩,hb⟩
  ·rw [HF.out]
   refine ⟨?_,RdW.xOp _ _,?_,by simp⟩
   ·have hl := rO (fun _ => true) d.cache d.secs d.cache.length
    have := hs2.rd d.secs.length (by omega)
    rw [hl] at this
    exact this.more (by have := hs2.lt; omega)
   ·show (rP _ _ _ _).length ≤ _
    rw [rO]
    exact HD.out.ls
  ·rw [HF.out]
   exact hs2
end Go.Proofs.DS
namespace Go.Proofs.DS
open Go.RowKit Mailsack MM BB
end Go.Proofs.DS
namespace Go.Proofs.DS
open Go.RowKit Mailsack MM BB SH
theorem xKh (va vb : Value) (d : Dk) (w : World) (h : RdD w w.heap.size va vb d) :
  Calls Tryz.prog 47 #[.agg #[va,vb]] w fun e w' => e = .returned (.bool (decide (61 < d.secs.length) && zC d)) ∧ Below w.heap.size w w' := by
 obtain ⟨A1,c1,rfl,_,_⟩ := h.s
 obtain ⟨A2,c2,rfl,_,_⟩ := h.c
 have hb := xM w (yD (.slice A1 d.secs.length c1) (.slice A2 d.cache.length c2))
 have HB := hI' ((Below.refl w.heap.size w).alloc (Nat.le_refl _) (yD (.slice A1 d.secs.length c1) (.slice A2 d.cache.length c2)))
 have HRT := hI' (fun W (hb : Below w.heap.size w W) => wV _ _ d W ((h.below hb (Nat.le_refl _)).more hb.size))
 have k0 := xA hb 0
 have k1 := xA hb 1
 clear h hb
 by_cases hl : 61 < d.secs.length
 ·have hi : 61 < (d.secs.length : Int) := by omega
  have HD : Hid (decide (61 < d.secs.length) = true) := hI' (by simpa using hl)
  go_enter Tryz.func47,Tryz.ntmps47
  go_wp2_with fail
  refine (HRT.out _ HB.out).mono ?_
  rintro e w1 ⟨rfl,hb1⟩
  have HB1 := hI' (HB.out.trans (hb1.mono HB.out.size))
  have HE : Hid ((decide (61 < d.secs.length) && zC d) = zC d) := hI' (by rw [HD.out,Bool.true_and])
  clear hb1
  go_wp2
  go_ret
  exact ⟨by rw [HE.out]; rfl,HB1.out⟩
 ·have hi : ¬ (61 < (d.secs.length : Int)) := by omega
  have HE : Hid ((decide (61 < d.secs.length) && zC d) = false) := hI' (by simp [hl])
  go_enter Tryz.func47,Tryz.ntmps47
  go_wp2
  go_ret
  exact ⟨rfl,HB.out⟩
end Go.Proofs.DS
namespace Go.Proofs.BB
open Go.RowKit Mailsack MM
theorem xX7 {P : Program} (w : World) (base : Nat) (t u ty e : TypeId) (i : TypeInfo) (ht : P.underlying t = some (.slice e)) (hu : P.underlying u = some .string) (hi : P.info? e = some i) (hz : i.zero = some (.int .u8 0))
  (hsize : i.size = 1) (hby : i.bytes = 1) (g n cap : Nat) (xs : List Value) (hown : w.ownsRow base e 1 (.slice (some ⟨g,0,none⟩) n cap) n xs) (s : ByteArray)
  (h63 : n + s.size ≤ maxLen) (hbytes : n + s.size ≤ 140737488355328) (hbase : base ≤ w.heap.size) :
  ∃ v' w',(Builtin.append_ #[t,u] ty #[.slice (some ⟨g,0,none⟩) n cap,.string s]).run P w = .ok v' w' ∧ w'.ownsRow base e 1 v' (n + s.size) (xs ++ Lib.strCells s) ∧ w.grownBy w' (some g) ∧
   (v'.ownBlock = some g ∨ v'.ownBlock = some w.heap.size) := by
 obtain ⟨v',w',hr,h2,h3,_⟩ := Lib.run_append_own_string (P := P) w base t u ty e i ht hu hi hz hsize hby _ n xs hown s h63 hbytes hbase
 refine ⟨v',w',hr,h2,h3,?_⟩
 have hsmall : n + s.size ≤ 9223372036854775807 := by simp only [maxLen] at h63; omega
 have hxl : xs.length = n := by simpa using hown.1
 rcases hown.2 with ⟨h,_⟩ | ⟨g',cap',cur,h,hbg,hg,hnc,hcm,hcs,htake⟩
 ·cases h
 ·injection h with h h' h''
  injection h with h
  injection h with h
  subst h h''
  by_cases hroom : n + s.size ≤ cap
  ·have hcs' : cur.size = cap := by simpa using hcs
   have hq := Lib.run_append_room_string (P := P) w t u ty e i ht hu hi hsize g n cap cur hg s hroom (by omega)
   rw [hq] at hr
   injection hr with hv hw
   exact .inl (by rw [← hv]; rfl)
  ·have holds : ∀ j u,xs[j]? = some u → w.cell? ((⟨g,0,none⟩ : Addr).add j) = some u := hown.cells (g := g) rfl
   have hq := Lib.run_append_grow_string (P := P) w t u ty e i (.int .u8 0) ht hu hi hz ⟨g,0,none⟩ n cap xs (by rw [hsize]; simpa using hxl) holds s (by omega) (by omega) (by rw [hby]; exact growslice_fits (by omega) (by omega))
   rw [hq] at hr
   injection hr with hv hw
   exact .inr (by rw [← hv]; rfl)
theorem xFt {P : Program} {w : World} {ops : Array Oper} {rest : List Oper} {o : Oper} {a : Act} {Q : Exit → Act → World → Prop} (hgd : o.guard = none) (sl x : Operand) (t u : TypeId)
  (ho : o.op = .call { callee := .builtin .append,args := #[sl,x],argTypes := #[t,u] })
  (base : Nat) (e : TypeId) (i : TypeInfo) (ht : P.underlying t = some (.slice e)) (hu : P.underlying u = some .string) (hi : P.info? e = some i) (hz : i.zero = some (.int .u8 0))
  (hsize : i.size = 1) (hby : i.bytes = 1)
  (g n cap : Nat) (xs : List Value) (hs : a.eval sl = .slice (some ⟨g,0,none⟩) n cap) (hown : w.ownsRow base e 1 (.slice (some ⟨g,0,none⟩) n cap) n xs) (s : ByteArray) (hx : a.eval x = .string s)
  (h63 : n + s.size ≤ maxLen) (hbytes : n + s.size ≤ 140737488355328) (hbase : base ≤ w.heap.size)
  (h : ∀ v' w',w'.ownsRow base e 1 v' (n + s.size) (xs ++ Lib.strCells s) → w.grownBy w' (some g) → (v'.ownBlock = some g ∨ v'.ownBlock = some w.heap.size) → wpList P ops Q rest (a.put o.dst v') w') : wpList P ops Q (o :: rest) a w := by
 refine wpList_plain hgd fun K hK => ?_
 obtain ⟨v',w',hr,h2,h3,h4⟩ := xX7 (P := P) w base t u o.type e i ht hu hi hz hsize hby g n cap xs hown s h63 hbytes hbase
 unfold Oper.wp execOp
 simp only [ho,resolve,invoke,builtin,Sem.run_bind,Sem.run_pure,Result.andThen_ok,List.map_toArray,List.map_cons,List.map_nil,hs,hx,hr]
 exact hK _ _ (h v' w' h2 h3 h4)
theorem xRf : (Tryz.prog.info? 5).map (fun i => (i.zero,i.size,i.bytes)) = some (some (.int .u8 0),1,1) := by kernel_rfl
theorem wH {P : Program} {t : TypeId} {z : Value} {n b : Nat} (h : (P.info? t).map (fun i => (i.zero,i.size,i.bytes)) = some (some z,n,b)) : ∃ i,P.info? t = some i ∧ i.zero = some z ∧ i.size = n ∧ i.bytes = b := by
 cases hq : P.info? t with
 | none => rw [hq] at h; cases h
 | some i =>
  rw [hq] at h
  simp only [Option.map_some,Option.some.injEq,Prod.mk.injEq] at h
  exact ⟨i,rfl,h.1,h.2.1,h.2.2⟩
def uP (w : World) (base : Nat) (v : Value) (l : Bs) : Prop := w.ownsRow base 5 1 v l.length (l.map fun c => Value.int .u8 (c.toNat : Int))
theorem uP.row {w : World} {base : Nat} {v : Value} {l : Bs} (h : uP w base v l) : w.ownsRow base 5 1 v l.length (l.map fun c => Value.int .u8 (c.toNat : Int)) := h
theorem uP.of {w : World} {base : Nat} {v : Value} {l m : Bs} (h : w.ownsRow base 5 1 v (l.length + m.length) (l.map (fun c => Value.int .u8 (c.toNat : Int)) ++ m.map (fun c => Value.int .u8 (c.toNat : Int)))) : uP w base v (l ++ m) := by
 unfold uP; rw [List.length_append,List.map_append]; exact h
theorem uP.alloc {w : World} {base : Nat} {v : Value} {l : Bs} (h : uP w base v l) (o : Obj) : uP (w.alloc o) base v l := World.ownsRow.alloc h o
theorem uP.grown {w w' : World} {base : Nat} {v : Value} {l : Bs} {row : Option Nat} (h : uP w base v l) (hg : w.grownBy w' row) (hne : v.ownBlock = none ∨ v.ownBlock ≠ row) : uP w' base v l := h.row.kept hg hne
theorem uP.below {w w' : World} {base : Nat} {v : Value} {l : Bs} (h : uP w base v l) (hb : Below w.heap.size w w') : uP w' base v l :=
 h.grown (xC1 hb none) (by cases v.ownBlock <;> simp)
theorem uP.drew {w : World} {base : Nat} {v : Value} {l : Bs} (h : uP w base v l) : uP w.drew base v l := h
theorem uP.form {w : World} {base : Nat} {v : Value} {l : Bs} (h : uP w base v l) : ∃ A c,v = .slice A l.length c ∧ l.length ≤ c := by
 rcases h.2 with ⟨h1,h2⟩ | ⟨g,cap,cur,h1,_,_,h2,_⟩
 ·exact ⟨none,0,by rw [h1,h2],by omega⟩
 ·exact ⟨_,_,h1,h2⟩
theorem uP.room (w : World) (c : Nat) (base : Nat) (hb : base ≤ w.heap.size) (hc : c ≤ 9223372036854775807) : uP (w.alloc (.cells (yJ (xQ c)) 5)) base (.slice (some ⟨w.heap.size,0,none⟩) 0 c) [] :=
 ⟨rfl,.inr ⟨w.heap.size,c,_,rfl,hb,xM _ _,Nat.zero_le _,by unfold maxLen; exact hc,by rw [vC,yT,Nat.mul_one],by simp⟩⟩
theorem uP.head {w : World} {g : Nat} {l : Bs} (h : jN w g l) (n : Nat) (base : Nat) (hb : base ≤ g) (hn : n ≤ l.length) (hc : l.length ≤ 9223372036854775807) : uP w base (.slice (some ⟨g,0,none⟩) n l.length) (l.take n) := by
 have hl : (l.take n).length = n := by rw [List.length_take]; omega
 unfold uP
 rw [hl]
 refine ⟨by simp; omega,.inr ⟨g,l.length,_,rfl,hb,h.blk,hn,by unfold maxLen; exact hc,by rw [vC,Nat.mul_one],?_⟩⟩
 rw [Nat.mul_one,List.map_take]
 rfl
theorem uP.text {w : World} {base : Nat} {v : Value} {l : Bs} (h : uP w base v l) : (convert 113 9 v).run Tryz.prog w = .ok (xU l) w := by
 rcases h.2 with ⟨h1,h2⟩ | ⟨g,cap,cur,h1,_,_,h2,_⟩
 ·have : l = [] := List.eq_nil_of_length_eq_zero h2
  subst this
  have h0 : ∀ W : World,(convert 113 9 (.slice none 0 0)).run Tryz.prog W = .ok (.string ⟨#[]⟩) W := fun _ => by kernel_rfl
  rw [h1]
  exact h0 w
 ·rw [h1]
  refine run_convert_bytes_back w _ _ 5 ⟨g,0,none⟩ cap l Tryz.underlying113 Tryz.underlying5 Tryz.underlying9 (fun j hj => ?_)
  exact World.ownsRow.cells h (g := g) (by rw [h1]; rfl) j _ (by simp [hj])
theorem xQw {w w2 w1 : World} {B n : Nat} {tv : Value} {xs : List Value} {E : TypeId} {o : Obj} (hT : w2.ownsRow B E 1 tv n xs) (hg : (w2.alloc o).grownBy w1 tv.ownBlock) (hb : Below B w w2) (hB : B ≤ w2.heap.size) : Below B w w1 :=
 (hb.alloc hB o).grown hg (by simp; omega) (fun k hk => (World.ownsRow.lt hT k hk).1)
theorem xW3 (w : World) (xs : List Value) (t : TypeId) : ∀ j u,xs[j]? = some u → (w.alloc (.cells xs.toArray t)).cell? ((⟨w.heap.size,0,none⟩ : Addr).add j) = some u := by
 intro j u hj
 have hadd : (⟨w.heap.size,0,none⟩ : Addr).add j = ⟨w.heap.size,j,none⟩ := by unfold Addr.add; split <;> simp_all
 rw [hadd,xA (xM w (.cells xs.toArray t)) j]
 simpa using hj
end Go.Proofs.BB
