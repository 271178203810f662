/- Contracts of functions of the program. Conditions: those that each theorem states. -/
import Derived.Test.YtnaiekglbemhcaaGreatDoorVaultFreshProofB03
import Derived.Test.YtnaiekglbemhcaaGreatDoorVaultFreshProofB01
import Derived.OpenShut
import Derived.WalkKit
import Derived.WalkLawsBesides
import Derived.WalkSpells
import Derived.Lib.Hide
import Derived.Deep.Cut
import Derived.Test.YtnaiekglbemhcaaGreatDoorVaultFreshProofB05
import Derived.Deep.QuietTactic
set_option maxHeartbeats 8000000
set_option maxRecDepth 100000
namespace Mailsack
theorem xBd (op : Go.BinOp) (x y : Int) : 0 ≤ Go.bits op .u8 x y ∧ Go.bits op .u8 x y < 256 := by
 have h := Go.wf_bits op .u8 x y
 simp [Go.Lit.wf] at h
 have e1 : Go.IntKind.u8.min = 0 := (by decide)
 have e2 : Go.IntKind.u8.max = 255 := (by decide)
 omega
def xKa (l : Bs) (b : Int) : Nat → Bs
 | 0 => l
 | k + 1 => (xKa l b k).set k (oct (Go.bits .xor .u8 (((xKa l b k).getD k 0).toNat : Int) b))
theorem xIt (l : Bs) (b : Int) : ∀ k,(xKa l b k).length = l.length
 | 0 => rfl
 | k + 1 => by simp [xKa,xIt l b k]
def xJm (key s : Bs) : Bs := key ++ (xQ (64 + s.length)).drop key.length
def xBs (key : Bs) (b : Int) (s : Bs) : Bs := (xKa (xJm key s) b 64).take 64 ++ s
theorem xL2 (key : Bs) (b : Int) (s : Bs) (h : key.length ≤ 64) : (xBs key b s).length = 64 + s.length := by
 unfold xBs xJm
 rw [List.length_append,List.length_take,xIt,List.length_append,List.length_drop,yT]
 omega
end Mailsack
namespace Go.Proofs.SH
open Go.RowKit Mailsack MM BB
theorem jN.putV {W : World} {g : Nat} {l : Bs} (h : jN W g l) (i : Nat) {z : Int} (h0 : 0 ≤ z) (h1 : z < 256) : jN (W.setCell ⟨g,i,none⟩ (.int .u8 z)) g (l.set i (oct z)) := by
 have := h.put i z
 rwa [show z % 256 = z by omega] at this
theorem xOw (key s : ByteArray) (b : Int) (w : World) (hk : key.size ≤ 64) (hs : s.size ≤ 1099511627776) :
  Calls Tryz.prog 168 #[.string key,.int .u8 b,.string s] w fun e w' => e = .returned (.string ⟨(xBs key.data.toList b s.data.toList).toArray⟩) ∧ Below w.heap.size w w' := by
 have hkl : key.data.toList.length = key.size := by simp
 have hsl : s.data.toList.length = s.size := by simp
 have hmk : ∀ W : World,(Instr.makeSlice 113 (.int .i64 64) (.int .i64 (64 + (s.size : Int)))).run Tryz.prog W = .ok (.slice (some ⟨W.heap.size,0,none⟩) 64 (64 + s.size)) (W.alloc (.cells (yJ (xQ (64 + s.size))) 5)) := fun W => made W 64 (64 + s.size) (by omega) (by omega)
 have HB0 : Hid (jN (w.alloc (.cells (yJ (xQ (64 + s.size))) 5)) w.heap.size (xQ (64 + s.size))) := hI' (xM _ _)
 have HW0 := hI' ((Below.refl w.heap.size w).alloc (Nat.le_refl _) (.cells (yJ (xQ (64 + s.size))) 5))
 go_enter Tryz.func168,Tryz.ntmps168
 go_upto_region 2 with fail
 refine wp_region_lit ?_
 iterate 6 go_step
 refine Lib.wpList_copy_run _ rfl _ _ _ _ rfl _ _ rfl rfl (copied HB0.out _ _ _ _ (by omega) (by rw [yT]; omega)) ?_
 have HB1 : Hid (jN ((w.alloc (.cells (yJ (xQ (64 + s.size))) 5)).setRow w.heap.size (yJ (key.data.toList ++ (xQ (64 + s.size)).drop key.size))) w.heap.size (xKa (xJm key.data.toList s.data.toList) b 0)) := hI' (by
  have h := HB0.out.row (key.data.toList ++ (xQ (64 + s.size)).drop key.size)
  unfold xKa xJm
  rw [hkl,hsl]
  exact h)
 have HW1 := hI' (below_setRow HW0.out (Nat.le_refl _) (yJ (key.data.toList ++ (xQ (64 + s.size)).drop key.size)))
 clear hmk HB0 HW0
 generalize (w.alloc (.cells (yJ (xQ (64 + s.size))) 5)).setRow w.heap.size (yJ (key.data.toList ++ (xQ (64 + s.size)).drop key.size)) = w1 at HB1 HW1 ⊢
 have HL : Hid ((xJm key.data.toList s.data.toList).length = 64 + s.size) := hI' (by unfold xJm; rw [List.length_append,List.length_drop,yT]; omega)
 have HXL := hI' (fun k => xIt (xJm key.data.toList s.data.toList) b k)
 have HP : Hid (∀ n,n = 64 → xBs key.data.toList b s.data.toList = (xKa (xJm key.data.toList s.data.toList) b n).take n ++ s.data.toList) := hI' (fun n hn => by subst hn; rfl)
 generalize xJm key.data.toList s.data.toList = l at HB1 HL HXL HP
 clear hkl
 go_wp2_with fail
 go_loopw [18] (fun iv wr => ∃ k : Nat,k ≤ 64 ∧ iv = .int .i64 k ∧ Hid (jN wr w.heap.size (xKa l b k) ∧ Below w.heap.size w wr)) (fun iv _ => 64 - (intOf iv).toNat)
 case atStart => exact ⟨0,by decide,rfl,hI' ⟨HB1.out,HW1.out⟩⟩
 case round =>
  obtain ⟨k,hk,rfl,hr⟩ := hrel
  clear HB1 HW1
  by_cases hlt : k < 64
  ·have q0 := hr.out.1.cell (i := k) (by rw [HXL.out k,HL.out]; omega)
   have q1 := hr.out.1.free k
   have hu := xBd .xor (((xKa l b k).getD k 0).toNat : Int) b
   have HK : Hid (jN (wr.setCell ⟨w.heap.size,k,none⟩ (.int .u8 (bits .xor .u8 (((xKa l b k).getD k 0).toNat : Int) b))) w.heap.size (xKa l b (k + 1))) := hI' (jN.putV hr.out.1 k hu.1 hu.2)
   have HKW := hI' (hr.out.2.setCell (p := ⟨w.heap.size,k,none⟩) (Nat.le_refl _) (.int .u8 (bits .xor .u8 (((xKa l b k).getD k 0).toNat : Int) b)))
   clear hr hu
   generalize (((xKa l b k).getD k 0).toNat : Int) = x at q0 HK HKW
   go_wp2
   exact ⟨⟨k + 1,by omega,by go_num,hI' ⟨HK.out,HKW.out⟩⟩,by simp [intOf]; omega⟩
  ·have hke : k = 64 := by omega
   have HPk := hI' (HP.out k hke)
   clear HP
   obtain ⟨i0,hi,hz0,hz1,hz2⟩ := wH xRf
   have HO : Hid (uP wr w.heap.size (.slice (some ⟨w.heap.size,0,none⟩) k (64 + s.size)) ((xKa l b k).take k)) := hI' (by
    have h := uP.head hr.out.1 k w.heap.size (Nat.le_refl _) (by rw [HXL.out,HL.out]; omega) (by rw [HXL.out,HL.out]; omega)
    rw [HXL.out,HL.out] at h
    exact h)
   have HTL : Hid (((xKa l b k).take k).length = k) := hI' (by rw [List.length_take,HXL.out,HL.out]; omega)
   have HBW := hI' hr.out.2
   clear hr
   generalize (xKa l b k).take k = hd at HO HTL HPk
   subst hke
   clear hk hlt
   have HO2 : Hid (wr.ownsRow w.heap.size 5 1 (.slice (some ⟨w.heap.size,0,none⟩) 64 (64 + s.size)) 64 (hd.map fun c => Value.int .u8 (c.toNat : Int))) := hI' (by have h := HO.out.row; rw [HTL.out] at h; exact h)
   have HS := hI' hs
   go_wp2_with (at_builtin; refine xFt rfl _ _ 113 9 rfl w.heap.size 5 i0 Tryz.underlying113 Tryz.underlying9 hi hz0 hz1 hz2 w.heap.size 64 (64 + s.size) _ rfl HO2.out s rfl (by have := HS.out; unfold maxLen; omega) (by have := HS.out; omega) HBW.out.size ?_; intro v3 w3 hown hgrow hloc; have h7 := uP.text (l := hd ++ s.data.toList) (uP.of (by rw [HTL.out,hsl]; exact hown)); have h8 := hI' (HBW.out.grown hgrow HBW.out.size (fun k hk => by injection hk with hk; omega)); clear hown hgrow hloc)
   rw [← HPk.out]
   go_ret
   exact ⟨rfl,h8.out⟩
end Go.Proofs.SH
namespace Mailsack
def bsA (l : Bs) : ByteArray := ⟨l.toArray⟩
def jR (key : ByteArray) : ByteArray := if 64 < key.size then bsA (xH8 key) else key
def xSb (key s : ByteArray) : Bs := xH8 (bsA (xBs (jR key).data.toList 92 (xH8 (bsA (xBs (jR key).data.toList 54 s.data.toList)))))
theorem yO (l : Bs) : (bsA l).size = l.length := by simp [bsA,ByteArray.size]
theorem xD7 (key : ByteArray) : (jR key).size ≤ 64 := by
 unfold jR
 split
 ·rw [yO,xA3]; decide
 ·omega
theorem xFk (key s : ByteArray) : (xSb key s).length = 32 := xA3 _
end Mailsack
namespace Go.Proofs.SH
open Go.RowKit Mailsack MM BB
theorem xFh (key s : ByteArray) (w : World) (hk : key.size ≤ 1099511627776) (hs : s.size ≤ 1099511627776) (hT : vT w) :
  Calls Tryz.prog 121 #[.string key,.string s] w fun e w' => e = .returned (xU (xSb key s)) ∧ Below w.heap.size w w' := by
 have HT := hI' hT
 have HM : Hid (∀ W,Calls Tryz.prog 168 #[.string (jR key),.int .u8 54,.string s] W fun e w' => e = .returned (.string (bsA (xBs (jR key).data.toList 54 s.data.toList))) ∧ Below W.heap.size W w') := hI' (fun W => xOw (jR key) s 54 W (xD7 key) hs)
 have HS : Hid (∀ W,vT W → Calls Tryz.prog 103 #[.string (bsA (xBs (jR key).data.toList 54 s.data.toList))] W fun e w' => e = .returned (.string (bsA (xH8 (bsA (xBs (jR key).data.toList 54 s.data.toList))))) ∧ Below W.heap.size W w') := hI' (fun W hW => xFv _ W (by
  rw [yO,xL2 _ _ _ (by have := xD7 key; simpa using this)]
  have : s.data.toList.length = s.size := by simp
  omega) hW)
 have HM2 : Hid (∀ W,Calls Tryz.prog 168 #[.string (jR key),.int .u8 92,.string (bsA (xH8 (bsA (xBs (jR key).data.toList 54 s.data.toList))))] W fun e w' => e = .returned (.string (bsA (xBs (jR key).data.toList 92 (xH8 (bsA (xBs (jR key).data.toList 54 s.data.toList)))))) ∧ Below W.heap.size W w') := hI' (fun W => xOw (jR key) _ 92 W (xD7 key) (by rw [yO,xA3]; decide))
 have HS2 : Hid (∀ W,vT W → Calls Tryz.prog 103 #[.string (bsA (xBs (jR key).data.toList 92 (xH8 (bsA (xBs (jR key).data.toList 54 s.data.toList)))))] W fun e w' => e = .returned (xU (xSb key s)) ∧ Below W.heap.size W w') := hI' (fun W hW => xFv _ W (by
  rw [yO,xL2 _ _ _ (by have := xD7 key; simpa using this),xA3]
  decide) hW)
 have HK : Hid (∀ W,vT W → Calls Tryz.prog 103 #[.string key] W fun e w' => e = .returned (.string (bsA (xH8 key))) ∧ Below W.heap.size W w') := hI' (fun W hW => xFv key W (by omega) hW)
 generalize bsA (xBs (jR key).data.toList 54 s.data.toList) = x1 at HM HS HM2 HS2
 generalize bsA (xH8 x1) = x2 at HS HM2 HS2
 generalize bsA (xBs (jR key).data.toList 92 (xH8 x1)) = x3 at HM2 HS2
 clear hT hs
 by_cases h : 64 < key.size
 ·have hkey : Hid (jR key = bsA (xH8 key)) := hI' (by unfold jR; rw [if_pos h])
  rw [← hkey.out] at HK
  generalize jR key = k1 at HM HM2 HK
  go_enter Tryz.func121,Tryz.ntmps121
  go_wp2_with fail
  refine (HK.out _ HT.out).mono ?_
  rintro e w1 ⟨rfl,hb1⟩
  have B1 := hI' hb1
  clear hb1 h hk
  go_wp2_with fail
  refine (HM.out _).mono ?_
  rintro e w2 ⟨rfl,hb2⟩
  have B2 := hI' (B1.out.trans (hb2.mono B1.out.size))
  clear hb2 B1
  go_wp2_with fail
  refine (HS.out _ (HT.out.below B2.out (Nat.le_refl _))).mono ?_
  rintro e w3 ⟨rfl,hb3⟩
  have B3 := hI' (B2.out.trans (hb3.mono B2.out.size))
  clear hb3 B2
  go_wp2_with fail
  refine (HM2.out _).mono ?_
  rintro e w4 ⟨rfl,hb4⟩
  have B4 := hI' (B3.out.trans (hb4.mono B3.out.size))
  clear hb4 B3
  go_wp2_with fail
  refine (HS2.out _ (HT.out.below B4.out (Nat.le_refl _))).mono ?_
  rintro e w5 ⟨rfl,hb5⟩
  go_wp2
  go_ret
  exact ⟨rfl,B4.out.trans (hb5.mono B4.out.size)⟩
 ·have hkey : jR key = key := by unfold jR; rw [if_neg h]
  rw [hkey] at HM HM2
  have B1 := hI' (Below.refl w.heap.size w)
  clear hkey HK
  go_enter Tryz.func121,Tryz.ntmps121
  go_wp2_with fail
  refine (HM.out _).mono ?_
  rintro e w2 ⟨rfl,hb2⟩
  have B2 := hI' (B1.out.trans (hb2.mono B1.out.size))
  clear hb2 B1 h hk
  go_wp2_with fail
  refine (HS.out _ (HT.out.below B2.out (Nat.le_refl _))).mono ?_
  rintro e w3 ⟨rfl,hb3⟩
  have B3 := hI' (B2.out.trans (hb3.mono B2.out.size))
  clear hb3 B2
  go_wp2_with fail
  refine (HM2.out _).mono ?_
  rintro e w4 ⟨rfl,hb4⟩
  have B4 := hI' (B3.out.trans (hb4.mono B3.out.size))
  clear hb4 B3
  go_wp2_with fail
  refine (HS2.out _ (HT.out.below B4.out (Nat.le_refl _))).mono ?_
  rintro e w5 ⟨rfl,hb5⟩
  go_wp2
  go_ret
  exact ⟨rfl,B4.out.trans (hb5.mono B4.out.size)⟩
def xEj (a b : ByteArray) : Nat → Int
 | 0 => 0
 | k + 1 => bits .or .u8 (xEj a b k) (bits .xor .u8 (yZ a k) (yZ b k))
def rA (a b : ByteArray) : Bool := decide (a.size = b.size) && (xEj a b a.size == 0)
theorem xNu (a b : ByteArray) : ∀ k,0 ≤ xEj a b k ∧ xEj a b k < 256
 | 0 => by unfold xEj; exact ⟨by decide,by decide⟩
 | _ + 1 => xBd _ _ _
theorem xCy (a b : ByteArray) (w : World) (ha : a.size ≤ 1099511627776) :
  Calls Tryz.prog 80 #[.string a,.string b] w fun e w' => e = .returned (.bool (rA a b)) ∧ Below w.heap.size w w' := by
 by_cases h : a.size = b.size
 ·have HP : Hid (∀ n,n = a.size → rA a b = (xEj a b n == 0)) := hI' (fun n hn => by unfold rA; rw [hn]; simp [h])
  have h2 : ((a.size : Int) != (b.size : Int)) = false := by simp [h]
  have hbs : b.size = a.size := h.symm
  have HBS := hI' hbs
  clear h hbs
  go_enter Tryz.func80,Tryz.ntmps80
  go_wp2_with fail
  clear h2
  go_loopw [5,14] (fun dv iv wr => ∃ k : Nat,k ≤ a.size ∧ iv = .int .i64 k ∧ dv = .int .u8 (xEj a b k) ∧ Hid (Below w.heap.size w wr)) (fun _ iv _ => a.size - (intOf iv).toNat)
  case atStart => exact ⟨0,Nat.zero_le _,rfl,rfl,hI' (Below.refl _ _)⟩
  case round =>
   obtain ⟨k,hk,rfl,rfl,hb⟩ := hrel
   by_cases hlt : k < a.size
   ·have i0 := fun w => zU (P := Tryz.prog) Tryz.underlying9 a (k : Int) k rfl hlt w
    have i1 := fun w => zU (P := Tryz.prog) Tryz.underlying9 b (k : Int) k rfl (by rw [HBS.out]; exact hlt) w
    have r0 := zG a k
    have r1 := zG b k
    have rd := xNu a b k
    have HK : Hid (bits .or .u8 (xEj a b k) (bits .xor .u8 (yZ a k) (yZ b k)) = xEj a b (k + 1)) := hI' rfl
    generalize yZ a k = x at i0 r0 HK
    generalize yZ b k = y at i1 r1 HK
    generalize xEj a b k = d at rd HK ⊢
    obtain ⟨r00,r01⟩ := r0
    obtain ⟨r10,r11⟩ := r1
    obtain ⟨rd0,rd1⟩ := rd
    go_upto_region 7 with fail
    go_quiet (fail)
    clear i0 i1
    rw [HK.out]
    have HB := hI' (below_drewN hb.out nq)
    go_wp2
    exact ⟨⟨k + 1,by omega,by go_num,rfl,HB⟩,by simp [intOf]; omega⟩
   ·have hke : k = a.size := by omega
    have HPk := hI' (HP.out k hke)
    clear HP
    generalize xEj a b k = d at HPk ⊢
    subst hke
    clear hk hlt
    go_wp2
    go_ret
    exact ⟨by rw [HPk.out]; rfl,hb.out⟩
 ·have HP : Hid (rA a b = false) := hI' (by unfold rA; simp [h])
  have h2 : ((a.size : Int) != (b.size : Int)) = true := by simp; omega
  have h3 : ((a.size : Int) ≠ (b.size : Int)) := by omega
  clear h
  go_enter Tryz.func80,Tryz.ntmps80
  go_wp2
  go_ret
  exact ⟨by rw [HP.out]; rfl,Below.refl _ _⟩
end Go.Proofs.SH
namespace Mailsack
def xB9 (ex info : ByteArray) : Nat → ByteArray
 | 0 => ⟨#[]⟩
 | k + 1 => bsA (xSb ex (xB9 ex info k ++ info ++ bsA [oct (k + 1)]))
def xGj (ex info : ByteArray) : Nat → Bs
 | 0 => []
 | k + 1 => xGj ex info k ++ (xB9 ex info (k + 1)).data.toList
def xLj (secret xO info : ByteArray) (n : Nat) : Bs := (xGj (bsA (xSb xO secret)) info ((n + 31) / 32)).take n
theorem xEg (ex info : ByteArray) (k : Nat) : (xB9 ex info (k + 1)).size = 32 := by
 unfold xB9
 rw [yO,xFk]
theorem xYk (ex info : ByteArray) : ∀ k,(xB9 ex info k).size ≤ 32
 | 0 => by unfold xB9; decide
 | k + 1 => by rw [xEg]; exact Nat.le_refl _
theorem xDg (ex info : ByteArray) : ∀ k,(xGj ex info k).length = 32 * k
 | 0 => rfl
 | k + 1 => by
  have h : (xB9 ex info (k + 1)).data.toList.length = 32 := by
   have := xEg ex info k
   simpa using this
  unfold xGj
  rw [List.length_append,xDg ex info k,h]
  omega
theorem xLi (secret xO info : ByteArray) (n : Nat) : (xLj secret xO info n).length = n := by
 unfold xLj
 rw [List.length_take,xDg]
 omega
end Mailsack
namespace Go.Proofs.SH
open Go.RowKit Mailsack MM BB
theorem uP.at {w : World} {base : Nat} {v : Value} {l : Bs} (h : uP w base v l) (h0 : 0 < l.length) : ∃ g cap,v = .slice (some ⟨g,0,none⟩) l.length cap ∧ l.length ≤ cap := by
 rcases h.2 with ⟨_,h2⟩ | ⟨g,cap,cur,h1,_,_,h2,_⟩
 ·omega
 ·exact ⟨g,cap,h1,h2⟩
theorem uP.part {w : World} {base g n cap : Nat} {l : Bs} (h : uP w base (.slice (some ⟨g,0,none⟩) l.length cap) l) (hn : n ≤ l.length) : (convert 113 9 (.slice (some ⟨g,0,none⟩) n cap)).run Tryz.prog w = .ok (xU (l.take n)) w := by
 have h1 := run_convert_bytes_back (P := Tryz.prog) w 113 9 5 ⟨g,0,none⟩ cap (l.take n) Tryz.underlying113 Tryz.underlying5 Tryz.underlying9 (fun j hj => by
  have hj' : j < l.length := by rw [List.length_take] at hj; omega
  have := World.ownsRow.cells h (g := g) rfl j _ (by simp [hj']; rfl)
  rw [this,List.getElem_take])
 rw [List.length_take,Nat.min_eq_left hn] at h1
 exact h1
theorem xVy (c : Int) (hc : 0 ≤ c) (hc2 : c < 256) (W : World) : (convert 113 9 (.slice (some ⟨W.heap.size,0,none⟩) 1 1)).run Tryz.prog (W.alloc (.cells #[.int .u8 c] 5)) = .ok (.string (bsA [oct c])) (W.alloc (.cells #[.int .u8 c] 5)) := by
 refine run_convert_bytes_back (P := Tryz.prog) (W.alloc (.cells #[.int .u8 c] 5)) _ _ 5 ⟨W.heap.size,0,none⟩ 1 [oct c] Tryz.underlying113 Tryz.underlying5 Tryz.underlying9 (fun j hj => ?_)
 have hj0 : j = 0 := by simpa using hj
 subst hj0
 have := cell_one_new W (.int .u8 c) 5 0 _ rfl
 rw [this]
 simp [kT]
 omega
theorem xPs (secret xO info : ByteArray) (n : Nat) (w : World) (h1 : secret.size ≤ 1099511627776) (h2 : xO.size ≤ 1099511627776) (h3 : info.size ≤ 1000000) (hn : n ≤ 8160) (hT : vT w) :
  Calls Tryz.prog 115 #[.string secret,.string xO,.string info,.int .i64 n] w fun e w' => e = .returned (.tuple #[xU (xLj secret xO info n),.int .i64 0]) ∧ Below w.heap.size w w' := by
 have HT := hI' hT
 have HE : Hid (∀ W,vT W → Calls Tryz.prog 121 #[.string xO,.string secret] W fun e w' => e = .returned (.string (bsA (xSb xO secret))) ∧ Below W.heap.size W w') := hI' (fun W hW => xFh xO secret W h2 h1 hW)
 have HP : Hid (xLj secret xO info n = (xGj (bsA (xSb xO secret)) info ((n + 31) / 32)).take n) := hI' rfl
 have hex : (bsA (xSb xO secret)).size = 32 := by rw [yO,xFk]
 have HX := hI' hex
 generalize bsA (xSb xO secret) = ex at HE HP hex HX
 have HMK := hI' (fun W : World => made W 0 (n + 32) (by omega) (by omega))
 obtain ⟨i0,hi,hz0,hz1,hz2⟩ := wH xRf
 have HN := hI' hn
 clear hex h1 h2
 go_enter Tryz.func115,Tryz.ntmps115
 go_wp2_with fail
 refine (HE.out _ HT.out).mono ?_
 rintro e w1 ⟨rfl,hb1⟩
 have B1 := hI' hb1
 clear hb1 HE
 have hmk : ∀ W : World,(Instr.makeSlice 113 (.int .i64 0) (.int .i64 ((n : Int) + 32))).run Tryz.prog W = .ok (.slice (some ⟨W.heap.size,0,none⟩) 0 (n + 32)) (W.alloc (.cells (yJ (xQ (n + 32))) 5)) := HMK.out
 have HO0 := hI' (uP.room w1 (n + 32) w.heap.size B1.out.size (by omega))
 have B2 := hI' (B1.out.alloc B1.out.size (.cells (yJ (xQ (n + 32))) 5))
 go_wp2_with fail
 clear hmk HMK
 go_loopw [11,12,13] (fun ov lv cv wr => ∃ (k g cap : Nat),32 * k < n + 32 ∧ ov = .slice (some ⟨g,0,none⟩) (32 * k) cap ∧ 32 * k ≤ cap ∧ lv = .string (xB9 ex info k) ∧ cv = .int .u8 (((k : Int) + 1) % 256) ∧ Hid (uP wr w.heap.size (.slice (some ⟨g,0,none⟩) (32 * k) cap) (xGj ex info k)) ∧ Hid (Below w.heap.size w wr)) (fun ov _ _ _ => match ov with | .slice _ m _ => n + 32 - m | _ => 0)
 case atStart => exact ⟨0,w1.heap.size,n + 32,by omega,rfl,by omega,rfl,rfl,HO0,B2⟩
 case round =>
  obtain ⟨k,g,cap,hk,rfl,hcap,rfl,rfl,ho,hb⟩ := hrel
  clear HO0 B2
  by_cases hlt : 32 * k < n
  ·have HKS : Hid (xB9 ex info (k + 1) = bsA (xSb ex (xB9 ex info k ++ info ++ bsA [oct ((k : Int) + 1)]))) := hI' rfl
   have HOS : Hid (xGj ex info (k + 1) = xGj ex info k ++ (xB9 ex info (k + 1)).data.toList) := hI' rfl
   have HKZ := hI' (xEg ex info k)
   have hKl := xYk ex info k
   have HOL := hI' (xDg ex info k)
   have hc : ((k : Int) + 1) % 256 = (k : Int) + 1 := by omega
   rw [hc]
   have hcv := xVy ((k : Int) + 1) (by omega) (by omega)
   have hcb : (bsA [oct ((k : Int) + 1)]).size = 1 := by rw [yO]; rfl
   generalize bsA [oct ((k : Int) + 1)] = cb at hcv HKS hcb
   have nb1 : ¬ (9223372036854775807 < (xB9 ex info k).size + info.size) := by omega
   have nb2 : ¬ (9223372036854775807 < (xB9 ex info k ++ info).size + cb.size) := by rw [ByteArray.size_append]; omega
   have HS : Hid (∀ W,vT W → Calls Tryz.prog 121 #[.string ex,.string (xB9 ex info k ++ info ++ cb)] W fun e w' => e = .returned (.string (xB9 ex info (k + 1))) ∧ Below W.heap.size W w') := hI' (fun W hW => by
    rw [HKS.out]
    exact xFh ex _ W (by rw [HX.out]; decide) (by rw [ByteArray.size_append,ByteArray.size_append]; omega) hW)
   have HKW := hI' hlt
   generalize xB9 ex info k = l0 at nb1 nb2 HS HKS ⊢
   obtain ⟨l1,hl1⟩ : ∃ l1,xB9 ex info (k + 1) = l1 := ⟨_,rfl⟩
   rw [hl1] at HS HKS HKZ HOS
   have HL1 := hI' hl1
   clear hl1
   generalize xGj ex info k = acc at ho HOS HOL
   clear hKl hcb h3 hn
   go_wp2_with fail
   refine (HS.out _ ((HT.out.below (hb.out.alloc hb.out.size (.cells #[.int .u8 ((k : Int) + 1)] 5)) (Nat.le_refl _)))).mono ?_
   rintro e w3 ⟨rfl,hb3⟩
   have HO3 := hI' ((ho.out.alloc (.cells #[.int .u8 ((k : Int) + 1)] 5)).below hb3)
   have HB3 := hI' ((hb.out.alloc hb.out.size (.cells #[.int .u8 ((k : Int) + 1)] 5)).trans (hb3.mono (hb.out.alloc hb.out.size (.cells #[.int .u8 ((k : Int) + 1)] 5)).size))
   clear hb3 nb1 nb2 hcv HS hb ho
   have HO2 : Hid (w3.ownsRow w.heap.size 5 1 (.slice (some ⟨g,0,none⟩) (32 * k) cap) (32 * k) (acc.map fun c => Value.int .u8 (c.toNat : Int))) := hI' (by have h := HO3.out.row; rw [HOL.out] at h; exact h)
   go_wp2_with (at_builtin; refine xFt rfl _ _ 113 9 rfl w.heap.size 5 i0 Tryz.underlying113 Tryz.underlying9 hi hz0 hz1 hz2 g (32 * k) cap _ rfl HO2.out l1 rfl (by have := HKZ.out; have := HN.out; have := HKW.out; unfold maxLen; omega) (by have := HKZ.out; have := HN.out; have := HKW.out; omega) HB3.out.size ?_; intro v4 w4 hown hgrow hloc; have h7 := hI' (uP.of (l := acc) (m := l1.data.toList) (by rw [HOL.out,show l1.data.toList.length = l1.size by simp]; exact hown)); have h8 := hI' (HB3.out.grown hgrow HB3.out.size (fun q hq => World.ownsRow.lt HO2.out q hq |>.1)); clear hown hgrow hloc)
   have hlen : (acc ++ l1.data.toList).length = 32 * (k + 1) := by
    rw [List.length_append,HOL.out,show l1.data.toList.length = l1.size by simp,HKZ.out]
    omega
   obtain ⟨g4,cap4,hv4,hcap4⟩ := uP.at h7.out (by rw [hlen]; omega)
   rw [hlen] at hv4 hcap4
   subst hv4
   exact ⟨⟨k + 1,g4,cap4,by omega,rfl,hcap4,by rw [HL1.out],by rw [show ((k : Int) + 1 + 1) = (((k + 1 : Nat) : Int) + 1) by omega],hI' (by rw [HOS.out]; exact h7.out),h8⟩,by show n + 32 - 32 * (k + 1) < n + 32 - 32 * k; omega⟩
  ·have HOL := hI' (xDg ex info k)
   have HPk : Hid (xLj secret xO info n = (xGj ex info k).take n) := hI' (by
    have hke : (n + 31) / 32 = k := by omega
    rw [HP.out,hke])
   clear HP
   generalize xGj ex info k = acc at ho HOL HPk
   have ht : (convert 113 9 (.slice (some ⟨g,0,none⟩) n cap)).run Tryz.prog wr = .ok (xU (xLj secret xO info n)) wr := by
    rw [HPk.out]
    have h := ho.out
    rw [← HOL.out] at h
    exact uP.part h (by rw [HOL.out]; omega)
   go_wp2
   go_ret2
   exact ⟨rfl,hb.out⟩
end Go.Proofs.SH
namespace Mailsack
structure Op where
 flush : Bool
 w : Wr
def rM (d : Dk) : Bool := decide (61 < d.secs.length) && zC d
def xS8 (d : Dk) (x : Wr) : Dk := ⟨d.secs,d.cache ++ [x]⟩
def qH (d : Dk) (o : Op) : Dk := if o.flush = true then xY d else if (zC d && vU o.w d.secs.length) = true then xS8 d o.w else d
def vL (d : Dk) (l : List Op) : Dk := l.foldl qH d
def xF7 (a : Int) : Bs := [oct a,oct (a / 256),oct (a / 65536),oct (a / 16777216)] ++ xQ 60
theorem xGq (a : Int) : (xF7 a).length = 64 := by simp [xF7,xQ]
def xVs (x : Wr) : Bs := xF7 x.at_ ++ x.data
def xD8 (n : Nat) (all : Bs) : Bs := 74 :: oct n :: (xH8 (bsA all) ++ xQ 30)
theorem xV4 (n : Nat) (all : Bs) : (xD8 n all).length = 64 := by simp [xD8,xQ,xA3]
def wOp (a : Int) (b : Bs) : Op := ⟨false,⟨a,b⟩⟩
def fOp : Op := ⟨true,⟨0,[]⟩⟩
def qL : Nat → List Wr → List Op
 | _,[] => []
 | i,x :: l => wOp (1 + 2 * (i : Int)) (xF7 x.at_) :: wOp (2 + 2 * (i : Int)) x.data :: qL (i + 1) l
theorem xFm : ∀ (l : List Wr) (i : Nat),(qL i l).length = 2 * l.length
 | [],_ => rfl
 | x :: l,i => by simp [qL,xFm l]; omega
theorem xLa : ∀ (l : List Wr) (i : Nat) (x : Wr),qL i (l ++ [x]) = qL i l ++ [wOp (1 + 2 * ((i + l.length : Nat) : Int)) (xF7 x.at_),wOp (2 + 2 * ((i + l.length : Nat) : Int)) x.data]
 | [],_,_ => by simp [qL]
 | y :: l,i,x => by
  simp only [List.cons_append,qL,xLa l (i + 1) x,List.length_cons]
  rw [show i + 1 + l.length = i + (l.length + 1) by omega]
def qN (l : List Wr) : Bs := (l.map xVs).flatten
def kF (l : List Wr) : List Op := qL 0 l ++ [fOp,wOp 0 (xD8 l.length (qN l)),fOp] ++ l.map (fun x => ⟨false,x⟩) ++ [fOp,wOp 0 (xQ 64),fOp]
def xCc (n : Nat) (x : Wr) : Bool := decide (61 ≤ x.at_) && decide (x.at_ < n) && decide (x.data.length = 64)
def vI (d : Dk) (l : List Wr) : Int :=
 if rM d = false ∨ l.length = 0 then 1 else if l.all (xCc d.secs.length) = false then 1 else if 30 < l.length then 4 else 0
def xBc (d : Dk) (l : List Wr) : Dk := if vI d l = 0 then vL d (kF l) else ⟨[],[]⟩
structure Slot where
 used : Bool
 cls : Nat
 blk : Nat
 size : Nat
 name : Bs
deriving DecidableEq
def noSlot : Slot := ⟨false,0,0,0,[]⟩
def uH (c : Nat) : Nat := if c = 0 then 24 else 12
def qA (c : Nat) : Nat := if c = 0 then 256 else 1024
def xJ8 (s : Bs) (n : Nat) : Bs := s ++ xQ (n - s.length)
def xQp (t : Slot) : Bs := [1,oct t.cls,oct t.blk,oct t.size,oct (t.size / 256 : Nat),oct t.name.length] ++ t.name
def kI (t : Slot) : Bs := if t.used = true then xJ8 (xQp t) 64 else xJ8 [] 64
def bN (s : Bs) (i : Nat) : Nat := (s.getD i 0).toNat
theorem xS1 (s : Bs) (i : Nat) : bN s i < 256 := UInt8.toNat_lt _
def kQ (s : Bs) : Slot := ⟨true,bN s 1,bN s 2,bN s 3 + 256 * bN s 4,(s.drop 6).take (bN s 5)⟩
def xI1 (s : Bs) : Bool := decide (bN s 0 = 1) && decide (bN s 1 ≤ 1) && decide (bN s 2 < uH (bN s 1)) && decide (bN s 3 + 256 * bN s 4 ≤ qA (bN s 1)) && decide (1 ≤ bN s 5) && decide (bN s 5 ≤ 24)
def decP (s : Bs) : Slot := if xI1 s = true then (if s = kI (kQ s) then kQ s else noSlot) else noSlot
def vV (d : Dk) : Bool := decide (d.secs.length = 381) && zC d
def yG (S : List Bs) : List Slot := ((S.drop 61).take 32).map decP
def xP8 {α : Type} (p : α → Bool) : List α → Int
 | [] => -1
 | x :: l => if p x = true then 0 else if xP8 p l < 0 then -1 else xP8 p l + 1
def xEv (n : Bs) (t : Slot) : Bool := t.used && t.name == n
def wC (l : List Slot) (n : Bs) : Int := xP8 (xEv n) l
def uF (c b : Nat) : Nat := if c = 0 then 93 + b * 4 else 189 + b * 16
def countP (c : Nat) : Nat := if c = 0 then 4 else 16
def xCv (l : List Slot) (i : Int) : Slot := l.getD i.toNat noSlot
def xBr (S : List Bs) (t : Slot) : Bs := (((S.drop (uF t.cls t.blk)).take (countP t.cls)).flatten).take t.size
def xJu (d : Dk) (n : Bs) : Int := if vV d = true then (if wC (yG (xY d).secs) n < 0 then 6 else 0) else 1
def xPb (d : Dk) (n : Bs) : Bs := if xJu d n = 0 then xBr (xY d).secs (xCv (yG (xY d).secs) (wC (yG (xY d).secs) n)) else []
def wF (h : List Nat) (n : Nat) : Nat → Nat → List Nat
 | 0,_ => h
 | f + 1,i =>
  if n ≤ 2 * i + 1 then h
  else
   let j := if 2 * i + 2 < n ∧ h.getD (2 * i + 2) 0 < h.getD (2 * i + 1) 0 then 2 * i + 2 else 2 * i + 1
   if h.getD j 0 < h.getD i 0 then wF ((h.set i (h.getD j 0)).set j (h.getD i 0)) n f j else h
def xLb (h : List Nat) : Nat → List Nat
 | 0 => h
 | i + 1 => xLb (wF h h.length h.length i) i
def xRg (h : List Nat) : List Nat := xLb h (h.length / 2)
def qP (h : List Nat) : List Nat := (wF ((h.set 0 (h.getD (h.length - 1) 0)).set (h.length - 1) (h.getD 0 0)) (h.length - 1) (h.length - 1) 0).dropLast
structure Ch where
 name : Bs
 data : Bs
 gone : Bool
structure StS where
 slots : List Slot
 wB : List Nat
 xB5 : List Nat
 writes : List Wr
def StS.free (s : StS) (c : Nat) : List Nat := if c = 0 then s.wB else s.xB5
def uD (l : List Slot) (c : Nat) : List Nat := (l.filter fun t => t.used && t.cls == c).map (·.blk)
def xB4 (n : Nat) (tk : List Nat) : List Nat := xRg ((List.range n).filter fun i => !tk.contains i)
def uE (c b : Nat) (data : Bs) : List Wr := (List.range (countP c)).map fun i => ⟨((uF c b + i : Nat) : Int),((xJ8 data (qA c)).drop (i * 64)).take 64⟩
def setW (i : Nat) (t : Slot) : Wr := ⟨((61 + i : Nat) : Int),kI t⟩
def putAt (s : StS) (i : Nat) (t : Slot) : StS := { s with slots := s.slots.set i t,writes := s.writes ++ [setW i t] }
def vY (s : StS) (c : Nat) : StS := if c = 0 then { s with wB := qP s.wB } else { s with xB5 := qP s.xB5 }
def qY (l : List Slot) (n : Bs) : Int := if wC l n < 0 then xP8 (fun t => !t.used) l else wC l n
def yU (data : Bs) : Nat := if 256 < data.length then 1 else 0
def jH (s : StS) (c : Ch) : Int :=
 if c.name.length < 1 ∨ 24 < c.name.length then 1
 else if c.gone = true then (if wC s.slots c.name < 0 then 6 else 0)
 else if 1024 < c.data.length then 4
 else if qY s.slots c.name < 0 then 5
 else if (s.free (yU c.data)).length = 0 then 5 else 0
def zI (c : Ch) (b : Nat) : Slot := ⟨true,yU c.data,b,c.data.length,c.name⟩
def jG (s : StS) (c : Ch) : StS :=
 if c.gone = true then putAt s (wC s.slots c.name).toNat noSlot
 else
  let k := yU c.data
  let b := (s.free k).getD 0 0
  let s1 := vY s k
  putAt { s1 with writes := s1.writes ++ uE k b c.data } (qY s.slots c.name).toNat (zI c b)
def zS : StS → List Ch → StS × Int
 | s,[] => (s,0)
 | s,c :: l => if jH s c = 0 then zS (jG s c) l else (s,jH s c)
def stS (d : Dk) : StS := ⟨yG (xY d).secs,xB4 24 (uD (yG (xY d).secs) 0),xB4 12 (uD (yG (xY d).secs) 1),[]⟩
def wQ (d : Dk) (l : List Ch) : Int := if vV d = true then (if (zS (stS d) l).2 = 0 then (if 30 < (zS (stS d) l).1.writes.length then 4 else 0) else (zS (stS d) l).2) else 1
def jK (d : Dk) (l : List Ch) : List Wr := if wQ d l = 0 then (zS (stS d) l).1.writes else []
def xDm (d : Dk) (l : List Ch) : Int := if wQ d l = 0 then (if (jK d l).length = 0 then 0 else vI d (jK d l)) else wQ d l
def tZ (d : Dk) (l : List Ch) : Dk := if wQ d l = 0 then (if (jK d l).length = 0 then xY d else xBc d (jK d l)) else ⟨[],[]⟩
end Mailsack
