/- Contracts of functions of the program. Conditions: those that each theorem states. -/
import Derived.Test.YtnaiekglbemhcaaGreatDoorVaultFreshProofB10
import Derived.Test.YtnaiekglbemhcaaGreatDoorVaultFreshProofB01
import Derived.Test.YtnaiekglbemhcaaGreatDoorVaultFreshProofB06
import Derived.Lib.SlicesCompact
set_option maxHeartbeats 8000000
set_option maxRecDepth 100000
namespace Mailsack
def xMd (c : Int) : Bool := !((decide (c < 97) || decide (122 < c)) && (decide (c < 48) || decide (57 < c)))
def xC5 (s : ByteArray) : Nat → Bool
 | 0 => true
 | k + 1 => xC5 s k && xMd (yZ s k)
def yS (s : ByteArray) : Bool := decide (1 ≤ s.size) && decide (s.size ≤ 8) && xC5 s s.size
theorem xMe (s : ByteArray) (k : Nat) (h : xC5 s k = false) : ∀ n,k ≤ n → xC5 s n = false := by
 intro n hn
 induction n with
 | zero => rw [show k = 0 by omega] at h; exact h
 | succ n ih =>
  by_cases e : k = n + 1
  ·rw [← e]; exact h
  ·rw [xC5,ih (by omega),Bool.false_and]
def yC (xJ6 : ByteArray) : ByteArray := bsA (xLj xJ6 ⟨#[]⟩ ⟨#[105,110,100,101,120]⟩ 32)
theorem xBz (p : ByteArray) : (yC p).size = 32 := by rw [yC,yO,xLi]
end Mailsack
namespace Go.Proofs.SH
open Go.RowKit Mailsack MM BB
theorem xEy (p : ByteArray) (w : World) (hp : p.size ≤ 1000000) (hT : vT w) :
  Calls Tryz.prog 73 #[.string p] w fun e w' => e = .returned (.tuple #[.string (yC p),.int .i64 0]) ∧ Below w.heap.size w w' := by
 have HD : Hid (Calls Tryz.prog 115 #[.string p,.string ⟨#[]⟩,.string ⟨#[105,110,100,101,120]⟩,.int .i64 32] w fun e w' => e = .returned (.tuple #[.string (yC p),.int .i64 0]) ∧ Below w.heap.size w w') := hI' (xPs p ⟨#[]⟩ ⟨#[105,110,100,101,120]⟩ 32 w (by omega) (by decide) (by decide) (by decide) hT)
 generalize yC p = r at HD ⊢
 clear hT
 go_enter Tryz.func73,Tryz.ntmps73
 go_wp2_with fail
 refine HD.out.mono ?_
 rintro e w1 ⟨rfl,hb1⟩
 have B1 := hI' hb1
 go_wp2
 go_ret2
 exact ⟨rfl,B1.out⟩
theorem tH (s : ByteArray) (w : World) (hs : s.size ≤ 1099511627776) :
  Calls Tryz.prog 8 #[.string s] w fun e w' => e = .returned (.bool (yS s)) ∧ w' = w := by
 by_cases h1 : s.size < 1
 ·have HR : Hid (yS s = false) := hI' (by unfold yS; rw [show decide (1 ≤ s.size) = false from decide_eq_false (by omega)]; rfl)
  rw [HR.out]
  have hi : (s.size : Int) < 1 := by omega
  clear h1 hs
  go_enter Tryz.func8,Tryz.ntmps8
  go_wp2
  go_ret
  exact ⟨rfl,rfl⟩
 ·by_cases h8 : 8 < s.size
  ·have HR : Hid (yS s = false) := hI' (by unfold yS; rw [show decide (s.size ≤ 8) = false from decide_eq_false (by omega)]; simp)
   rw [HR.out]
   have hi : ¬ (s.size : Int) < 1 := by omega
   have hj : 8 < (s.size : Int) := by omega
   clear h1 h8 hs
   go_enter Tryz.func8,Tryz.ntmps8
   go_wp2
   go_ret
   exact ⟨rfl,rfl⟩
  ·have HR : Hid (yS s = xC5 s s.size) := hI' (by unfold yS; rw [show decide (1 ≤ s.size) = true from decide_eq_true (by omega),show decide (s.size ≤ 8) = true from decide_eq_true (by omega)]; rfl)
   rw [HR.out]
   have hi : ¬ (s.size : Int) < 1 := by omega
   have hj : ¬ 8 < (s.size : Int) := by omega
   have HE : Hid (∀ n,n = s.size → xC5 s n = xC5 s s.size) := hI' (fun n hn => by rw [hn])
   have HLT := hI' (xMe s)
   have HSS : Hid (∀ k,xC5 s (k + 1) = (xC5 s k && xMd (yZ s k))) := hI' (fun k => rfl)
   have HS0 : Hid (xC5 s 0 = true) := hI' rfl
   generalize hres : xC5 s s.size = res at HE ⊢
   have HRES := hI' hres
   clear h1 h8 hs HR hres
   go_enter Tryz.func8,Tryz.ntmps8
   go_wp2_with fail
   clear hi
   go_loopw [14] (fun iv W => ∃ k : Nat,k ≤ s.size ∧ iv = .int .i64 k ∧ Hid (xC5 s k = true) ∧ W = w) (fun iv _ => s.size - (intOf iv).toNat)
   case atStart => exact ⟨0,Nat.zero_le _,rfl,HS0,rfl⟩
   case round =>
    obtain ⟨k,hk,rfl,hu,rfl⟩ := hrel
    by_cases hlt : k < s.size
    ·have i1 := fun w => zU (P := Tryz.prog) Tryz.underlying9 s (k : Int) k rfl hlt w
     obtain ⟨c0,c1⟩ := zG s k
     have HSk := hI' (HSS.out k)
     generalize yZ s k = c at i1 c0 c1 HSk
     have hcase : (97 ≤ c ∧ c ≤ 122) ∨ (48 ≤ c ∧ c ≤ 57) ∨ c < 48 ∨ (57 < c ∧ c < 97) ∨ 122 < c := by omega
     rcases hcase with ⟨k1,k2⟩ | ⟨k1,k2⟩ | k1 | ⟨k1,k2⟩ | k1
     ·have k3 : ¬ c < 97 := by omega
      have k4 : ¬ 122 < c := by omega
      have HN : Hid (xC5 s (k + 1) = true) := hI' (by rw [HSk.out,hu.out]; unfold xMd; simp; omega)
      go_wp2
      exact ⟨⟨k + 1,by omega,by go_num,HN,trivial⟩,by simp [intOf]; omega⟩
     ·have k3 : c < 97 := by omega
      have k4 : ¬ c < 48 := by omega
      have k5 : ¬ 57 < c := by omega
      have HN : Hid (xC5 s (k + 1) = true) := hI' (by rw [HSk.out,hu.out]; unfold xMd; simp; omega)
      go_wp2
      exact ⟨⟨k + 1,by omega,by go_num,HN,trivial⟩,by simp [intOf]; omega⟩
     ·have k3 : c < 97 := by omega
      have HN : Hid (res = false) := hI' (by rw [← HRES.out]; exact HLT.out (k + 1) (by rw [HSk.out]; unfold xMd; simp; omega) s.size (by omega))
      go_wp2
      go_ret
      rw [HN.out]
      exact ⟨rfl,rfl⟩
     ·have k3 : c < 97 := by omega
      have k4 : ¬ c < 48 := by omega
      have HN : Hid (res = false) := hI' (by rw [← HRES.out]; exact HLT.out (k + 1) (by rw [HSk.out]; unfold xMd; simp; omega) s.size (by omega))
      go_wp2
      go_ret
      rw [HN.out]
      exact ⟨rfl,rfl⟩
     ·have k3 : ¬ c < 97 := by omega
      have k4 : ¬ c < 48 := by omega
      have k5 : 57 < c := by omega
      have HN : Hid (res = false) := hI' (by rw [← HRES.out]; exact HLT.out (k + 1) (by rw [HSk.out]; unfold xMd; simp; omega) s.size (by omega))
      go_wp2
      go_ret
      rw [HN.out]
      exact ⟨rfl,rfl⟩
    ·have hke : k = s.size := by omega
     have HN := hI' ((HE.out k hke).symm.trans hu.out)
     have hneg : ¬ ((k : Int) < (s.size : Int)) := by omega
     go_wp2
     go_ret
     rw [HN.out]
     exact ⟨rfl,rfl⟩
end Go.Proofs.SH
namespace Mailsack
def vN (xO xD : ByteArray) (r : Int) : Bool := decide (xO.size = 16) && decide (xD.size = 12) && decide (1 ≤ r) && decide (r ≤ 64)
def yY (xO xD priv : ByteArray) (r : Int) : Bool := vN xO xD r && decide (priv.size = 32)
end Mailsack
namespace Go.Proofs.SH
open Go.RowKit Mailsack MM BB
abbrev xB3 (xO xD priv : ByteArray) (r : Int) : Value := .agg #[.string xO,.string xD,.string priv,.int .i64 r]
theorem xD0 (xO xD priv : ByteArray) (r : Int) (w : World) :
  Calls Tryz.prog 108 #[xB3 xO xD priv r] w fun e w' => e = .returned (.bool (vN xO xD r)) ∧ Below w.heap.size w w' := by
 have HB : Hid (Below w.heap.size w (w.alloc (.cells #[.string xO,.string xD,.string priv,.int .i64 r] 23))) := hI' ((Below.refl w.heap.size w).alloc (Nat.le_refl _) _)
 have HR : Hid (∀ b,(b = true ↔ xO.size = 16 ∧ xD.size = 12 ∧ 1 ≤ r ∧ r ≤ 64) → vN xO xD r = b) := hI' (fun b hb => by
  rw [Bool.eq_iff_iff,hb]
  unfold vN
  simp [and_assoc])
 by_cases h1 : xO.size = 16
 ·have i1 : (xO.size : Int) = 16 := by omega
  by_cases h2 : xD.size = 12
  ·have i2 : (xD.size : Int) = 12 := by omega
   by_cases h3 : 1 ≤ r
   ·by_cases h4 : r ≤ 64
    ·rw [HR.out true (by simp [h1,h2,h3,h4])]
     clear h1 h2 HR
     go_enter Tryz.func108,Tryz.ntmps108
     go_wp2
     go_ret
     exact ⟨rfl,HB.out⟩
    ·rw [HR.out false (by simp [h4])]
     clear h1 h2 HR
     go_enter Tryz.func108,Tryz.ntmps108
     go_wp2
     go_ret
     exact ⟨rfl,HB.out⟩
   ·rw [HR.out false (by simp [h3])]
    clear h1 h2 HR
    go_enter Tryz.func108,Tryz.ntmps108
    go_wp2
    go_ret
    exact ⟨rfl,HB.out⟩
  ·rw [HR.out false (by simp [h2])]
   have i2 : (xD.size : Int) ≠ 12 := by omega
   have i3 : ((xD.size : Int) == 12) = false := by simp; omega
   clear h1 h2 HR
   go_enter Tryz.func108,Tryz.ntmps108
   go_wp2
   go_ret
   exact ⟨rfl,HB.out⟩
 ·rw [HR.out false (by simp [h1])]
  have i2 : (xO.size : Int) ≠ 16 := by omega
  have i3 : ((xO.size : Int) == 16) = false := by simp; omega
  clear h1 HR
  go_enter Tryz.func108,Tryz.ntmps108
  go_wp2
  go_ret
  exact ⟨rfl,HB.out⟩
theorem xBy (xO xD priv : ByteArray) (r : Int) (w : World) :
  Calls Tryz.prog 63 #[xB3 xO xD priv r] w fun e w' => e = .returned (.bool (yY xO xD priv r)) ∧ Below w.heap.size w w' := by
 have HW := hI' (fun W => xD0 xO xD priv r W)
 have HR : Hid (yY xO xD priv r = (vN xO xD r && decide (priv.size = 32))) := hI' rfl
 rw [HR.out]
 have H1 : Hid (Below w.heap.size w (w.alloc (.cells #[.string xO,.string xD,.string priv,.int .i64 r] 23)) ∧ (w.alloc (.cells #[.string xO,.string xD,.string priv,.int .i64 r] 23)).heap[w.heap.size]? = some (.cells #[.string xO,.string xD,.string priv,.int .i64 r] 23 (0,0))) := hI' ⟨(Below.refl w.heap.size w).alloc (Nat.le_refl _) _,xM _ _⟩
 clear HR
 generalize vN xO xD r = b at HW ⊢
 by_cases h : priv.size = 32
 ·have i1 : (priv.size : Int) = 32 := by omega
  rw [decide_eq_true h]
  clear h
  go_enter Tryz.func63,Tryz.ntmps63
  go_wp2_with fail
  refine (HW.out _).mono ?_
  rintro e w1 ⟨rfl,hb1⟩
  have c2 := xA (xE H1.out.2 hb1 (xI H1.out.2)) 2
  have HB := hI' (H1.out.1.trans (hb1.mono H1.out.1.size))
  clear hb1 H1 HW
  cases b <;> go_wp2 <;> go_ret <;> exact ⟨rfl,HB.out⟩
 ·have i1 : (priv.size : Int) ≠ 32 := by omega
  have i2 : ((priv.size : Int) == 32) = false := by simp; omega
  rw [decide_eq_false h]
  clear h
  go_enter Tryz.func63,Tryz.ntmps63
  go_wp2_with fail
  refine (HW.out _).mono ?_
  rintro e w1 ⟨rfl,hb1⟩
  have c2 := xA (xE H1.out.2 hb1 (xI H1.out.2)) 2
  have HB := hI' (H1.out.1.trans (hb1.mono H1.out.1.size))
  clear hb1 H1 HW
  cases b <;> go_wp2 <;> go_ret <;> exact ⟨rfl,HB.out⟩
end Go.Proofs.SH
namespace Mailsack
def slash : Bs := [47]
def vO (kind user : Bs) : Bs := kind ++ slash ++ user
def xGb (kind user : Bs) : Bs := kind ++ slash ++ user ++ slash
def usedNames (l : List Slot) : List Bs := (l.filter (·.used)).map (·.name)
def wK (l : List Bs) : List Bs := l.mergeSort fun x y => decide (x ≤ y)
def qZ (d : Dk) : List Bs := if vV d = true then Go.Lib.compact (wK (usedNames (yG (xY d).secs))) else []
def numOf (s : Bs) : Nat := s.foldl (fun n c => 10 * n + (c.toNat - 48)) 0
def xGa (c : UInt8) : Bool := decide (48 ≤ c.toNat) && decide (c.toNat ≤ 57)
def qQ (s : Bs) : Bool := decide (1 ≤ s.length) && decide (s.length ≤ 10) && (s.getD 0 0 != 48) && s.all xGa && decide (numOf s ≤ 4294967295)
def numberOf (h n : Bs) : List Int := if n.take h.length = h then (if qQ (n.drop h.length) = true then [(numOf (n.drop h.length) : Int)] else []) else []
def xDu (l : List Int) : List Int := l.mergeSort fun x y => decide (x ≤ y)
def tK (d : Dk) (kind user : Bs) : List Int := xDu ((qZ d).flatMap (numberOf (xGb kind user)))
theorem xNw {α : Type} [DecidableEq α] [Inhabited α] {l : List α} {x : α} (h : x ∈ Go.Lib.compact l) : x ∈ l := by
 unfold Go.Lib.compact Go.Lib.compactUpTo at h
 obtain ⟨i,hi,rfl⟩ := List.mem_map.1 h
 have := List.mem_range.1 (List.mem_filter.1 hi).1
 rw [getElem!_pos l.toArray i (by simpa using this)]
 simp
theorem xOv {l : List Slot} {x : Bs} : x ∈ usedNames l ↔ ∃ t ∈ l,t.used = true ∧ t.name = x := by
 unfold usedNames
 simp only [List.mem_map,List.mem_filter]
 exact ⟨fun ⟨t,⟨h1,h2⟩,h3⟩ => ⟨t,h1,h2,h3⟩,fun ⟨t,h1,h2,h3⟩ => ⟨t,⟨h1,h2⟩,h3⟩⟩
theorem xU7 {d : Dk} {x : Bs} (h : x ∈ qZ d) : ∃ t ∈ yG (xY d).secs,t.used = true ∧ t.name = x := by
 unfold qZ at h
 split at h
 ·have := xNw h
  unfold wK at this
  rw [List.mem_mergeSort] at this
  exact xOv.1 this
 ·simp at h
structure vR where
 user : ByteArray
 xO : ByteArray
 rounds : Int
 epoch : Int
 pub : ByteArray
 xD : ByteArray
 wrapped : ByteArray
 old : ByteArray
def zP : vR := ⟨⟨#[]⟩,⟨#[]⟩,0,0,⟨#[]⟩,⟨#[]⟩,⟨#[]⟩,⟨#[]⟩⟩
def uI (a : vR) : Bool :=
 yS a.user && vN a.xO a.xD a.rounds && (decide (a.epoch = 0) || decide (a.epoch = 1)) && decide (a.pub.size = 32) && decide (a.wrapped.size = 48) && (decide (a.old.size = 0) || decide (a.old.size = 48))
def tJ (a : vR) : ByteArray :=
 bsA [oct a.user.size] ++ a.user ++ a.xO ++ bsA [oct a.rounds,oct a.epoch] ++ a.pub ++ a.xD ++ a.wrapped ++ a.old
end Mailsack
namespace Go.Proofs.SH
open Go.RowKit Mailsack MM BB
abbrev pF (a : vR) : Value := .agg #[.string a.user,.string a.xO,.int .i64 a.rounds,.int .i64 a.epoch,.string a.pub,.string a.xD,.string a.wrapped,.string a.old]
abbrev yI (a : vR) : Obj := .cells #[.string a.user,.string a.xO,.int .i64 a.rounds,.int .i64 a.epoch,.string a.pub,.string a.xD,.string a.wrapped,.string a.old] 35
theorem xDy (a : vR) (w : World) (hu : a.user.size ≤ 1099511627776) :
  Calls Tryz.prog 77 #[pF a] w fun e w' => e = .returned (.bool (uI a)) ∧ Below w.heap.size w w' := by
 obtain ⟨u,s,r,ep,pb,n,wr,o⟩ := a
 simp only at hu ⊢
 have HU := hI' (fun W => tH u W hu)
 have HW := hI' (fun W => xD0 s n ⟨#[]⟩ r W)
 have HE : Hid (uI ⟨u,s,r,ep,pb,n,wr,o⟩ = (yS u && vN s n r && (decide (ep = 0) || decide (ep = 1)) && decide (pb.size = 32) && decide (wr.size = 48) && (decide (o.size = 0) || decide (o.size = 48)))) := hI' rfl
 have H0 : Hid (Below w.heap.size w (w.alloc (yI ⟨u,s,r,ep,pb,n,wr,o⟩)) ∧ (w.alloc (yI ⟨u,s,r,ep,pb,n,wr,o⟩)).heap[w.heap.size]? = some (yI ⟨u,s,r,ep,pb,n,wr,o⟩)) := hI' ⟨(Below.refl w.heap.size w).alloc (Nat.le_refl _) _,xM _ _⟩
 simp only [yI] at H0
 clear hu
 generalize yS u = b1 at HU HE
 generalize vN s n r = b2 at HW HE
 cases b1 with
 | false =>
  have HR : Hid (uI ⟨u,s,r,ep,pb,n,wr,o⟩ = false) := hI' (by rw [HE.out]; rfl)
  clear HE
  go_enter Tryz.func77,Tryz.ntmps77
  go_wp2_with fail
  refine (HU.out _).mono ?_
  rintro ex w1 ⟨rfl,rfl⟩
  go_wp2
  go_ret
  exact ⟨by rw [HR.out]; rfl,H0.out.1⟩
 | true =>
  cases b2 with
  | false =>
   have HR : Hid (uI ⟨u,s,r,ep,pb,n,wr,o⟩ = false) := hI' (by rw [HE.out]; rfl)
   clear HE
   go_enter Tryz.func77,Tryz.ntmps77
   go_wp2_with fail
   refine (HU.out _).mono ?_
   rintro ex w1 ⟨rfl,rfl⟩
   go_wp2_with fail
   refine (HW.out _).mono ?_
   rintro ex w2 ⟨rfl,hb2⟩
   have HB2 := hI' (H0.out.1.trans (hb2.mono H0.out.1.size))
   have hk2 := xE H0.out.2 hb2 (xI H0.out.2)
   have c3 := xA hk2 3
   have c4 := xA hk2 4
   have c6 := xA hk2 6
   have c7 := xA hk2 7
   simp only [gA,gB,gC] at c3 c4 c6 c7
   clear hb2 hk2 HU HW H0
   go_wp2
   go_ret
   exact ⟨by rw [HR.out]; rfl,HB2.out⟩
  | true =>
   by_cases he0 : ep = 0
   ·have he : ep = 0 ∨ ep = 1 := .inl he0
    have k0 : (ep == 0) = true := by simp [he0]
    clear he0
    by_cases h4 : pb.size = 32
    ·have i4 : ((pb.size : Int) == 32) = true := by simp; omega
     have j4 : (pb.size : Int) = 32 := by omega
     by_cases h5 : wr.size = 48
     ·have i5 : ((wr.size : Int) == 48) = true := by simp; omega
      have j5 : (wr.size : Int) = 48 := by omega
      by_cases h6 : o.size = 0
      ·have i6 : (o.toList == []) = true := by rw [ByteArray.toList_eq]; simp; exact Array.eq_empty_of_size_eq_zero h6
       have HR : Hid (uI ⟨u,s,r,ep,pb,n,wr,o⟩ = true) := hI' (by rw [HE.out]; simp [h4,h5,h6,he])
       clear h4 h5 h6 HE
       go_enter Tryz.func77,Tryz.ntmps77
       go_wp2_with fail
       refine (HU.out _).mono ?_
       rintro ex w1 ⟨rfl,rfl⟩
       go_wp2_with fail
       refine (HW.out _).mono ?_
       rintro ex w2 ⟨rfl,hb2⟩
       have HB2 := hI' (H0.out.1.trans (hb2.mono H0.out.1.size))
       have hk2 := xE H0.out.2 hb2 (xI H0.out.2)
       have c3 := xA hk2 3
       have c4 := xA hk2 4
       have c6 := xA hk2 6
       have c7 := xA hk2 7
       simp only [gA,gB,gC] at c3 c4 c6 c7
       clear hb2 hk2 HU HW H0
       go_wp2
       go_ret
       exact ⟨by rw [HR.out]; rfl,HB2.out⟩
      ·have i6 : (o.toList == []) = false := by
        rw [ByteArray.toList_eq]
        cases hx : (o.data.toList == []) with
        | false => rfl
        | true =>
         simp only [beq_iff_eq] at hx
         exact absurd (show o.data.size = 0 by rw [← Array.length_toList,hx]; rfl) h6
       by_cases h7 : o.size = 48
       ·have i7 : ((o.size : Int) == 48) = true := by simp; omega
        have j7 : (o.size : Int) = 48 := by omega
        have HR : Hid (uI ⟨u,s,r,ep,pb,n,wr,o⟩ = true) := hI' (by rw [HE.out]; simp [h4,h5,h7,he])
        clear h4 h5 h6 h7 HE
        go_enter Tryz.func77,Tryz.ntmps77
        go_wp2_with fail
        refine (HU.out _).mono ?_
        rintro ex w1 ⟨rfl,rfl⟩
        go_wp2_with fail
        refine (HW.out _).mono ?_
        rintro ex w2 ⟨rfl,hb2⟩
        have HB2 := hI' (H0.out.1.trans (hb2.mono H0.out.1.size))
        have hk2 := xE H0.out.2 hb2 (xI H0.out.2)
        have c3 := xA hk2 3
        have c4 := xA hk2 4
        have c6 := xA hk2 6
        have c7 := xA hk2 7
        simp only [gA,gB,gC] at c3 c4 c6 c7
        clear hb2 hk2 HU HW H0
        go_wp2
        go_ret
        exact ⟨by rw [HR.out]; rfl,HB2.out⟩
       ·have i7 : ((o.size : Int) == 48) = false := by simp; omega
        have j7 : (o.size : Int) ≠ 48 := by omega
        have HR : Hid (uI ⟨u,s,r,ep,pb,n,wr,o⟩ = false) := hI' (by rw [HE.out]; simp [h6,h7])
        clear h4 h5 h6 h7 HE
        go_enter Tryz.func77,Tryz.ntmps77
        go_wp2_with fail
        refine (HU.out _).mono ?_
        rintro ex w1 ⟨rfl,rfl⟩
        go_wp2_with fail
        refine (HW.out _).mono ?_
        rintro ex w2 ⟨rfl,hb2⟩
        have HB2 := hI' (H0.out.1.trans (hb2.mono H0.out.1.size))
        have hk2 := xE H0.out.2 hb2 (xI H0.out.2)
        have c3 := xA hk2 3
        have c4 := xA hk2 4
        have c6 := xA hk2 6
        have c7 := xA hk2 7
        simp only [gA,gB,gC] at c3 c4 c6 c7
        clear hb2 hk2 HU HW H0
        go_wp2
        go_ret
        exact ⟨by rw [HR.out]; rfl,HB2.out⟩
     ·have i5 : ((wr.size : Int) == 48) = false := by simp; omega
      have j5 : (wr.size : Int) ≠ 48 := by omega
      have HR : Hid (uI ⟨u,s,r,ep,pb,n,wr,o⟩ = false) := hI' (by rw [HE.out]; simp [h5])
      clear h4 h5 HE
      go_enter Tryz.func77,Tryz.ntmps77
      go_wp2_with fail
      refine (HU.out _).mono ?_
      rintro ex w1 ⟨rfl,rfl⟩
      go_wp2_with fail
      refine (HW.out _).mono ?_
      rintro ex w2 ⟨rfl,hb2⟩
      have HB2 := hI' (H0.out.1.trans (hb2.mono H0.out.1.size))
      have hk2 := xE H0.out.2 hb2 (xI H0.out.2)
      have c3 := xA hk2 3
      have c4 := xA hk2 4
      have c6 := xA hk2 6
      have c7 := xA hk2 7
      simp only [gA,gB,gC] at c3 c4 c6 c7
      clear hb2 hk2 HU HW H0
      go_wp2
      go_ret
      exact ⟨by rw [HR.out]; rfl,HB2.out⟩
    ·have i4 : ((pb.size : Int) == 32) = false := by simp; omega
     have j4 : (pb.size : Int) ≠ 32 := by omega
     have HR : Hid (uI ⟨u,s,r,ep,pb,n,wr,o⟩ = false) := hI' (by rw [HE.out]; simp [h4])
     clear h4 HE
     go_enter Tryz.func77,Tryz.ntmps77
     go_wp2_with fail
     refine (HU.out _).mono ?_
     rintro ex w1 ⟨rfl,rfl⟩
     go_wp2_with fail
     refine (HW.out _).mono ?_
     rintro ex w2 ⟨rfl,hb2⟩
     have HB2 := hI' (H0.out.1.trans (hb2.mono H0.out.1.size))
     have hk2 := xE H0.out.2 hb2 (xI H0.out.2)
     have c3 := xA hk2 3
     have c4 := xA hk2 4
     have c6 := xA hk2 6
     have c7 := xA hk2 7
     simp only [gA,gB,gC] at c3 c4 c6 c7
     clear hb2 hk2 HU HW H0
     go_wp2
     go_ret
     exact ⟨by rw [HR.out]; rfl,HB2.out⟩
   ·have k0 : (ep == 0) = false := by simp [he0]
    by_cases he1 : ep = 1
    ·have he : ep = 0 ∨ ep = 1 := .inr he1
     have k1 : (ep == 1) = true := by simp [he1]
     clear he1
     by_cases h4 : pb.size = 32
     ·have i4 : ((pb.size : Int) == 32) = true := by simp; omega
      have j4 : (pb.size : Int) = 32 := by omega
      by_cases h5 : wr.size = 48
      ·have i5 : ((wr.size : Int) == 48) = true := by simp; omega
       have j5 : (wr.size : Int) = 48 := by omega
       by_cases h6 : o.size = 0
       ·have i6 : (o.toList == []) = true := by rw [ByteArray.toList_eq]; simp; exact Array.eq_empty_of_size_eq_zero h6
        have HR : Hid (uI ⟨u,s,r,ep,pb,n,wr,o⟩ = true) := hI' (by rw [HE.out]; simp [h4,h5,h6,he])
        clear h4 h5 h6 HE
        go_enter Tryz.func77,Tryz.ntmps77
        go_wp2_with fail
        refine (HU.out _).mono ?_
        rintro ex w1 ⟨rfl,rfl⟩
        go_wp2_with fail
        refine (HW.out _).mono ?_
        rintro ex w2 ⟨rfl,hb2⟩
        have HB2 := hI' (H0.out.1.trans (hb2.mono H0.out.1.size))
        have hk2 := xE H0.out.2 hb2 (xI H0.out.2)
        have c3 := xA hk2 3
        have c4 := xA hk2 4
        have c6 := xA hk2 6
        have c7 := xA hk2 7
        simp only [gA,gB,gC] at c3 c4 c6 c7
        clear hb2 hk2 HU HW H0
        go_wp2
        go_ret
        exact ⟨by rw [HR.out]; rfl,HB2.out⟩
       ·have i6 : (o.toList == []) = false := by
         rw [ByteArray.toList_eq]
         cases hx : (o.data.toList == []) with
         | false => rfl
         | true =>
          simp only [beq_iff_eq] at hx
          exact absurd (show o.data.size = 0 by rw [← Array.length_toList,hx]; rfl) h6
        by_cases h7 : o.size = 48
        ·have i7 : ((o.size : Int) == 48) = true := by simp; omega
         have j7 : (o.size : Int) = 48 := by omega
         have HR : Hid (uI ⟨u,s,r,ep,pb,n,wr,o⟩ = true) := hI' (by rw [HE.out]; simp [h4,h5,h7,he])
         clear h4 h5 h6 h7 HE
         go_enter Tryz.func77,Tryz.ntmps77
         go_wp2_with fail
         refine (HU.out _).mono ?_
         rintro ex w1 ⟨rfl,rfl⟩
         go_wp2_with fail
         refine (HW.out _).mono ?_
         rintro ex w2 ⟨rfl,hb2⟩
         have HB2 := hI' (H0.out.1.trans (hb2.mono H0.out.1.size))
         have hk2 := xE H0.out.2 hb2 (xI H0.out.2)
         have c3 := xA hk2 3
         have c4 := xA hk2 4
         have c6 := xA hk2 6
         have c7 := xA hk2 7
         simp only [gA,gB,gC] at c3 c4 c6 c7
         clear hb2 hk2 HU HW H0
         go_wp2
         go_ret
         exact ⟨by rw [HR.out]; rfl,HB2.out⟩
        ·have i7 : ((o.size : Int) == 48) = false := by simp; omega
         have j7 : (o.size : Int) ≠ 48 := by omega
         have HR : Hid (uI ⟨u,s,r,ep,pb,n,wr,o⟩ = false) := hI' (by rw [HE.out]; simp [h6,h7])
         clear h4 h5 h6 h7 HE
         go_enter Tryz.func77,Tryz.ntmps77
         go_wp2_with fail
         refine (HU.out _).mono ?_
         rintro ex w1 ⟨rfl,rfl⟩
         go_wp2_with fail
         refine (HW.out _).mono ?_
         rintro ex w2 ⟨rfl,hb2⟩
         have HB2 := hI' (H0.out.1.trans (hb2.mono H0.out.1.size))
         have hk2 := xE H0.out.2 hb2 (xI H0.out.2)
         have c3 := xA hk2 3
         have c4 := xA hk2 4
         have c6 := xA hk2 6
         have c7 := xA hk2 7
         simp only [gA,gB,gC] at c3 c4 c6 c7
         clear hb2 hk2 HU HW H0
         go_wp2
         go_ret
         exact ⟨by rw [HR.out]; rfl,HB2.out⟩
      ·have i5 : ((wr.size : Int) == 48) = false := by simp; omega
       have j5 : (wr.size : Int) ≠ 48 := by omega
       have HR : Hid (uI ⟨u,s,r,ep,pb,n,wr,o⟩ = false) := hI' (by rw [HE.out]; simp [h5])
       clear h4 h5 HE
       go_enter Tryz.func77,Tryz.ntmps77
       go_wp2_with fail
       refine (HU.out _).mono ?_
       rintro ex w1 ⟨rfl,rfl⟩
       go_wp2_with fail
       refine (HW.out _).mono ?_
       rintro ex w2 ⟨rfl,hb2⟩
       have HB2 := hI' (H0.out.1.trans (hb2.mono H0.out.1.size))
       have hk2 := xE H0.out.2 hb2 (xI H0.out.2)
       have c3 := xA hk2 3
       have c4 := xA hk2 4
       have c6 := xA hk2 6
       have c7 := xA hk2 7
       simp only [gA,gB,gC] at c3 c4 c6 c7
       clear hb2 hk2 HU HW H0
       go_wp2
       go_ret
       exact ⟨by rw [HR.out]; rfl,HB2.out⟩
     ·have i4 : ((pb.size : Int) == 32) = false := by simp; omega
      have j4 : (pb.size : Int) ≠ 32 := by omega
      have HR : Hid (uI ⟨u,s,r,ep,pb,n,wr,o⟩ = false) := hI' (by rw [HE.out]; simp [h4])
      clear h4 HE
      go_enter Tryz.func77,Tryz.ntmps77
      go_wp2_with fail
      refine (HU.out _).mono ?_
      rintro ex w1 ⟨rfl,rfl⟩
      go_wp2_with fail
      refine (HW.out _).mono ?_
      rintro ex w2 ⟨rfl,hb2⟩
      have HB2 := hI' (H0.out.1.trans (hb2.mono H0.out.1.size))
      have hk2 := xE H0.out.2 hb2 (xI H0.out.2)
      have c3 := xA hk2 3
      have c4 := xA hk2 4
      have c6 := xA hk2 6
      have c7 := xA hk2 7
      simp only [gA,gB,gC] at c3 c4 c6 c7
      clear hb2 hk2 HU HW H0
      go_wp2
      go_ret
      exact ⟨by rw [HR.out]; rfl,HB2.out⟩
    ·have k1 : (ep == 1) = false := by simp [he1]
     have HR : Hid (uI ⟨u,s,r,ep,pb,n,wr,o⟩ = false) := hI' (by rw [HE.out]; simp [he0,he1])
     clear HE
     go_enter Tryz.func77,Tryz.ntmps77
     go_wp2_with fail
     refine (HU.out _).mono ?_
     rintro ex w1 ⟨rfl,rfl⟩
     go_wp2_with fail
     refine (HW.out _).mono ?_
     rintro ex w2 ⟨rfl,hb2⟩
     have HB2 := hI' (H0.out.1.trans (hb2.mono H0.out.1.size))
     have hk2 := xE H0.out.2 hb2 (xI H0.out.2)
     have c3 := xA hk2 3
     have c4 := xA hk2 4
     have c6 := xA hk2 6
     have c7 := xA hk2 7
     simp only [gA,gB,gC] at c3 c4 c6 c7
     clear hb2 hk2 HU HW H0
     go_wp2
     go_ret
     exact ⟨by rw [HR.out]; rfl,HB2.out⟩
end Go.Proofs.SH
namespace Mailsack
def yE (r : ByteArray) (n : Nat) : ByteArray := r.extract n r.size
def uT (r : ByteArray) (n : Nat) : ByteArray := r.extract 0 n
theorem jA (r : ByteArray) (n : Nat) : (yE r n).size = r.size - n := by simp [yE,ByteArray.size_extract]
theorem kG (r : ByteArray) (n : Nat) (h : n ≤ r.size) : (uT r n).size = n := by simp [uT,ByteArray.size_extract]; omega
def xIw (s : ByteArray) : Nat := (yZ s 0).toNat
def xYy (s : ByteArray) : ByteArray := yE (yE (yE s 1) (xIw s)) 16
def xA2 (s : ByteArray) : vR :=
 ⟨uT (yE s 1) (xIw s),uT (yE (yE s 1) (xIw s)) 16,yZ (uT (xYy s) 1) 0,yZ (uT (yE (xYy s) 1) 1) 0,uT (yE (yE (xYy s) 1) 1) 32,
  uT (yE (yE (yE (xYy s) 1) 1) 32) 12,uT (yE (yE (yE (yE (xYy s) 1) 1) 32) 12) 48,yE (yE (yE (yE (yE (xYy s) 1) 1) 32) 12) 48⟩
def xAj (s : ByteArray) : Bool := !decide (s.size = 0) && !decide (s.size < xIw s + 111) && uI (xA2 s)
def wW (xJ6 : ByteArray) : ByteArray := bsA (xLj xJ6 ⟨#[]⟩ ⟨#[111,108,100]⟩ 32)
theorem xKx (p : ByteArray) : (wW p).size = 32 := by rw [wW,yO,xLi]
end Mailsack
namespace Go.Proofs.SH
open Go.RowKit Mailsack MM BB
theorem xYq (c d : Int) (hc : 0 ≤ c) (hc2 : c < 256) (hd : 0 ≤ d) (hd2 : d < 256) (W : World) : (convert 113 9 (.slice (some ⟨W.heap.size,0,none⟩) 2 2)).run Tryz.prog (W.alloc (.cells #[.int .u8 c,.int .u8 d] 5)) = .ok (.string (bsA [oct c,oct d])) (W.alloc (.cells #[.int .u8 c,.int .u8 d] 5)) := by
 refine run_convert_bytes_back (P := Tryz.prog) (W.alloc (.cells #[.int .u8 c,.int .u8 d] 5)) _ _ 5 ⟨W.heap.size,0,none⟩ 2 [oct c,oct d] Tryz.underlying113 Tryz.underlying5 Tryz.underlying9 (fun j hj => ?_)
 have hb := xM W (.cells #[.int .u8 c,.int .u8 d] 5)
 have hj2 : j = 0 ∨ j = 1 := by simp at hj; omega
 have ha : (⟨W.heap.size,0,none⟩ : Addr).add j = ⟨W.heap.size,j,none⟩ := by unfold Addr.add; split <;> simp_all
 rw [ha,xA hb]
 rcases hj2 with rfl | rfl
 ·simp [kT]; omega
 ·simp [kT]; omega
theorem kL {a : vR} (h : uI a = true) : 1 ≤ a.user.size ∧ a.user.size ≤ 8 ∧ a.xO.size = 16 ∧ 1 ≤ a.rounds ∧ a.rounds ≤ 64 ∧ 0 ≤ a.epoch ∧ a.epoch ≤ 1 ∧ a.pub.size = 32 ∧ a.xD.size = 12 ∧ a.wrapped.size = 48 ∧ (a.old.size = 0 ∨ a.old.size = 48) := by
 unfold uI yS vN at h
 simp only [Bool.and_eq_true,Bool.or_eq_true,decide_eq_true_eq] at h
 obtain ⟨⟨⟨⟨⟨⟨⟨h1,h2⟩,_⟩,⟨⟨h3,h4⟩,h5⟩,h6⟩,h7⟩,h8⟩,h9⟩,h10⟩ := h
 exact ⟨h1,h2,h3,h5,h6,by omega,by omega,h8,h4,h9,h10⟩
theorem yAi (a : vR) (w : World) (hr : uI a = true) :
  Calls Tryz.prog 69 #[pF a] w fun e w' => e = .returned (.tuple #[.string (tJ a),.int .i64 0]) ∧ Below w.heap.size w w' := by
 have hl := kL hr
 have HR := hI' (fun W => xDy a W (by omega))
 rw [hr] at HR
 have H0 := hI' (And.intro ((Below.refl w.heap.size w).alloc (Nat.le_refl _) (yI a)) (xM w (yI a)))
 obtain ⟨u,s,r,ep,pb,n,wr,o⟩ := a
 simp only [yI,pF] at H0 HR hl ⊢
 obtain ⟨l1,l2,l3,l4,l5,l6,l7,l8,l9,l10,l11⟩ := hl
 have HP : Hid (tJ ⟨u,s,r,ep,pb,n,wr,o⟩ = bsA [oct u.size] ++ u ++ s ++ bsA [oct r,oct ep] ++ pb ++ n ++ wr ++ o) := hI' rfl
 have m1 : (u.size : Int) % 256 = u.size := by omega
 have m2 : r % 256 = r := by omega
 have m3 : ep % 256 = ep := by omega
 have hcv1 := xVy (u.size : Int) (by omega) (by omega)
 have hcv2 := xYq r ep (by omega) (by omega) (by omega) (by omega)
 have z1 : (bsA [oct (u.size : Int)]).size = 1 := by rw [yO]; rfl
 have z2 : (bsA [oct r,oct ep]).size = 2 := by rw [yO]; rfl
 generalize bsA [oct (u.size : Int)] = b1 at HP hcv1 z1
 generalize bsA [oct r,oct ep] = b2 at HP hcv2 z2
 have nb1 : ¬ (9223372036854775807 < b1.size + u.size) := by omega
 have nb2 : ¬ (9223372036854775807 < (b1 ++ u).size + s.size) := by simp only [ByteArray.size_append]; omega
 have nb3 : ¬ (9223372036854775807 < (b1 ++ u ++ s).size + b2.size) := by simp only [ByteArray.size_append]; omega
 have nb4 : ¬ (9223372036854775807 < (b1 ++ u ++ s ++ b2).size + pb.size) := by simp only [ByteArray.size_append]; omega
 have nb5 : ¬ (9223372036854775807 < (b1 ++ u ++ s ++ b2 ++ pb).size + n.size) := by simp only [ByteArray.size_append]; omega
 have nb6 : ¬ (9223372036854775807 < (b1 ++ u ++ s ++ b2 ++ pb ++ n).size + wr.size) := by simp only [ByteArray.size_append]; omega
 have nb7 : ¬ (9223372036854775807 < (b1 ++ u ++ s ++ b2 ++ pb ++ n ++ wr).size + o.size) := by simp only [ByteArray.size_append]; omega
 clear hr l1 l2 l3 l4 l5 l6 l7 l8 l9 l10 l11 z1 z2
 go_enter Tryz.func69,Tryz.ntmps69
 go_wp2_with fail
 refine (HR.out _).mono ?_
 rintro e w1 ⟨rfl,hb1⟩
 have B1 := hI' (H0.out.1.trans (hb1.mono H0.out.1.size))
 have HK1 := hI' (xE H0.out.2 hb1 (xI H0.out.2))
 clear hb1 HR H0
 obtain ⟨c0,c1⟩ := uG HK1.out
 have B2 := hI' (B1.out.alloc B1.out.size (.cells #[.int .u8 (u.size : Int)] 5))
 have HK2 := hI' (xP HK1.out (.cells #[.int .u8 (u.size : Int)] 5))
 obtain ⟨d0,d1⟩ := uG HK2.out
 go_upto_region 4 with fail
 clear c0 c1 d0 d1 B1 HK1 hcv1
 generalize w1.alloc (.cells #[.int .u8 (u.size : Int)] 5) = w2 at B2 HK2 ⊢
 have c2 := xA HK2.out 2
 have c3 := xA HK2.out 3
 simp only [gA,gB,gC] at c2 c3
 have B3 := hI' (B2.out.alloc B2.out.size (.cells #[.int .u8 r,.int .u8 ep] 5))
 have HK3 := hI' (xP HK2.out (.cells #[.int .u8 r,.int .u8 ep] 5))
 go_upto_region 5 with fail
 clear c2 c3 B2 HK2 hcv2
 generalize w2.alloc (.cells #[.int .u8 r,.int .u8 ep] 5) = w3 at B3 HK3 ⊢
 have c4 := xA HK3.out 4
 have c5 := xA HK3.out 5
 have c6 := xA HK3.out 6
 have c7 := xA HK3.out 7
 simp only [gA,gB,gC] at c4 c5 c6 c7
 go_wp2
 go_ret2
 exact ⟨by rw [HP.out]; rfl,B3.out⟩
theorem xR4 (p : ByteArray) (w : World) (hp : p.size ≤ 1000000) (hT : vT w) :
  Calls Tryz.prog 81 #[.string p] w fun e w' => e = .returned (.tuple #[.string (wW p),.int .i64 0]) ∧ Below w.heap.size w w' := by
 have HD : Hid (Calls Tryz.prog 115 #[.string p,.string ⟨#[]⟩,.string ⟨#[111,108,100]⟩,.int .i64 32] w fun e w' => e = .returned (.tuple #[.string (wW p),.int .i64 0]) ∧ Below w.heap.size w w') := hI' (xPs p ⟨#[]⟩ ⟨#[111,108,100]⟩ 32 w (by omega) (by decide) (by decide) (by decide) hT)
 generalize wW p = r at HD ⊢
 clear hT
 go_enter Tryz.func81,Tryz.ntmps81
 go_wp2_with fail
 refine HD.out.mono ?_
 rintro e w1 ⟨rfl,hb1⟩
 have B1 := hI' hb1
 go_wp2
 go_ret2
 exact ⟨rfl,B1.out⟩
theorem xA7 (g n : Nat) (r : ByteArray) (w : World) (h : w.heap[g]? = some (.cells #[.string r] 9 (0,0))) (hn : n ≤ r.size) :
  Calls Tryz.prog 76 #[.int .i64 n,.pointer (some ⟨g,0,none⟩)] w fun e w' => e = .returned (.string (uT r n)) ∧ w' = w.setCell ⟨g,0,none⟩ (.string (yE r n)) := by
 have c0 := xA h 0
 have f0 := xK h 0
 simp only [gA,gC] at c0
 have hP : Hid (uT r n = r.extract 0 n) := hI' rfl
 have hA : Hid (yE r n = r.extract n r.size) := hI' rfl
 have hni : (n : Int) ≤ (r.size : Int) := by omega
 have hn0 : ¬ ((n : Int) < 0) := by omega
 clear h
 go_enter Tryz.func76,Tryz.ntmps76
 go_wp2
 go_ret
 exact ⟨by rw [hP.out]; rfl,by rw [hA.out]⟩
end Go.Proofs.SH
