/- Contracts of functions of the program. Conditions: those that each theorem states. -/
import Derived.Test.YtnaiekglbemhcaaGreatDoorVaultFreshProofB09
import Derived.Lib.ConvBytes
import Derived.Test.YtnaiekglbemhcaaGreatDoorVaultFreshProofB06
import Derived.Deep.DeepCutAuto
set_option maxHeartbeats 8000000
set_option maxRecDepth 100000
namespace Mailsack
def qD (xs : List Int) : Nat → List Int
 | 0 => xs
 | k + 1 => (qD xs k).set 12 (((qD xs k).getD 12 0 + 1) % 4294967296)
theorem xHq (xs : List Int) : ∀ k,(qD xs k).length = xs.length
 | 0 => rfl
 | k + 1 => by simp [qD,xHq xs k]
theorem xOe {xs : List Int} (h : jO xs) : ∀ k,jO (qD xs k)
 | 0 => h
 | k + 1 => (xOe h k).set 12 (wG _)
def xMa (l : Bs) (off : Nat) (blk : Bs) : Nat → Bs
 | 0 => l
 | i + 1 => (xMa l off blk i).set (off + i) (oct (Go.bits .xor .u8 (((xMa l off blk i).getD (off + i) 0).toNat : Int) ((blk.getD i 0).toNat : Int)))
theorem xFc (l : Bs) (off : Nat) (blk : Bs) : ∀ i,(xMa l off blk i).length = l.length
 | 0 => rfl
 | i + 1 => by simp [xMa,xFc l off blk i]
def xBq (l : Bs) (xs : List Int) : Nat → Bs
 | 0 => l
 | k + 1 => xMa (xBq l xs k) (64 * k) (qU (qD xs k)) (min 64 (l.length - 64 * k))
theorem xCn (l : Bs) (xs : List Int) : ∀ k,(xBq l xs k).length = l.length
 | 0 => rfl
 | k + 1 => by unfold xBq; rw [xFc,xCn l xs k]
def vF (key xD : ByteArray) (counter : Int) (s : ByteArray) : Bs := xBq s.data.toList (tC key xD counter) ((s.size + 63) / 64)
theorem jZ (key xD : ByteArray) (counter : Int) (s : ByteArray) : (vF key xD counter s).length = s.size := by
 unfold vF
 rw [xCn]
 simp
end Mailsack
namespace Go.Proofs.SH
open Go.RowKit Mailsack MM BB
structure xM7 (W : World) (g : Nat) (l : Bs) : Prop where
 cell : ∀ j,j < l.length → W.cell? ⟨g,j,none⟩ = some (.int .u8 ((l.getD j 0).toNat : Int))
 free : ∀ j,j < l.length → W.frozen? ⟨g,j,none⟩ = false
theorem xM7.put {W : World} {g : Nat} {l : Bs} (h : xM7 W g l) {p : Nat} (hp : p < l.length) {z : Int} (h0 : 0 ≤ z) (h1 : z < 256) : xM7 (W.setCell ⟨g,p,none⟩ (.int .u8 z)) g (l.set p (oct z)) := by
 refine ⟨fun j hj => ?_,fun j hj => ?_⟩
 ·rw [List.length_set] at hj
  by_cases e : j = p
  ·subst e
   rw [World.cell?_setCell_same _ _ _ (h.cell j hj),List.getD_eq_getElem?_getD,List.getElem?_set,if_pos rfl,if_pos hj]
   simp [kT]
   omega
  ·rw [World.cell?_setCell_other _ _ _ _ (fun e' => e (by injection e' with _ e'; exact e'.symm)),h.cell j hj,List.getD_eq_getElem?_getD,List.getD_eq_getElem?_getD,List.getElem?_set,if_neg (Ne.symm e)]
 ·rw [List.length_set] at hj
  rw [World.frozen?_setCell]
  exact h.free j hj
theorem xM7.keep {W W' : World} {g : Nat} {l : Bs} (h : xM7 W g l) (hb : W'.heap[g]? = W.heap[g]?) : xM7 W' g l :=
 ⟨fun j hj => (World.cell?_of_block (w := W) (a := ⟨g,j,none⟩) hb).trans (h.cell j hj),fun j hj => (World.frozen?_of_block (w := W) (a := ⟨g,j,none⟩) hb).trans (h.free j hj)⟩
theorem xM7.start (W : World) (s : ByteArray) : xM7 (Lib.bytesWorld W 5 s) W.heap.size s.data.toList := by
 have hsl : s.data.toList.length = s.size := by simp
 refine ⟨fun j hj => Lib.bytesWorld_cell W _ s j (by omega),fun j hj => ?_⟩
 simp only [World.frozen?,Lib.bytesWorld_at_new]
 have hz : (Lib.bytesCells W 5 s).size = s.data.size + (grownCap W s.size 0 5 - s.size) := by simp [Lib.bytesCells]
 have hs : s.data.size = s.size := rfl
 simp
 omega
theorem xM7.text {W : World} {g : Nat} {l : Bs} (h : xM7 W g l) (n cap : Nat) (hn : l.length = n) : (convert 113 9 (.slice (some ⟨g,0,none⟩) n cap)).run Tryz.prog W = .ok (.string (bsA l)) W := by
 subst hn
 exact run_convert_bytes_back (P := Tryz.prog) W 113 9 5 ⟨g,0,none⟩ cap l Tryz.underlying113 Tryz.underlying5 Tryz.underlying9 (fun j hj => by
  have hadd : (⟨g,0,none⟩ : Addr).add j = ⟨g,j,none⟩ := by unfold Addr.add; split <;> simp_all
  rw [hadd,h.cell j hj,List.getD_eq_getElem?_getD,List.getElem?_eq_getElem hj]
  rfl)
structure TuI (w : World) (g1 g2 : Nat) (xs : List Int) (l : Bs) (W : World) : Prop where
 st : W.heap[g1]? = some (.cells (yX xs) 232 (0,0))
 out : xM7 W g2 l
 bel : Below w.heap.size w W
 lo : w.heap.size ≤ g1
 lt : g1 < g2
 hi : g2 < W.heap.size
theorem TuI.below {w : World} {g1 g2 : Nat} {xs : List Int} {l : Bs} {W W' : World} (h : TuI w g1 g2 xs l W) (hb : Below W.heap.size W W') : TuI w g1 g2 xs l W' :=
 ⟨xE h.st hb (xI h.st),h.out.keep (hb.block g2 h.hi),h.bel.trans (hb.mono h.bel.size),h.lo,h.lt,Nat.lt_of_lt_of_le h.hi hb.size⟩
theorem TuI.alloc {w : World} {g1 g2 : Nat} {xs : List Int} {l : Bs} {W : World} (h : TuI w g1 g2 xs l W) (o : Obj) : TuI w g1 g2 xs l (W.alloc o) := h.below ((Below.refl W.heap.size W).alloc (Nat.le_refl _) o)
theorem TuI.drew {w : World} {g1 g2 : Nat} {xs : List Int} {l : Bs} {W : World} (h : TuI w g1 g2 xs l W) : TuI w g1 g2 xs l W.drew := ⟨h.st,⟨h.out.cell,h.out.free⟩,h.bel.drew,h.lo,h.lt,h.hi⟩
theorem TuI.put {w : World} {g1 g2 : Nat} {xs : List Int} {l : Bs} {W : World} (h : TuI w g1 g2 xs l W) {p : Nat} (hp : p < l.length) {z : Int} (h0 : 0 ≤ z) (h1 : z < 256) : TuI w g1 g2 xs (l.set p (oct z)) (W.setCell ⟨g2,p,none⟩ (.int .u8 z)) :=
 ⟨xZ h.st (p := ⟨g2,p,none⟩) (by have := h.lt; simp; omega) _,h.out.put hp h0 h1,h.bel.setCell (p := ⟨g2,p,none⟩) (by have := h.lo; have := h.lt; simp; omega) _,h.lo,h.lt,by rw [size_set]; exact h.hi⟩
theorem TuI.step {w : World} {g1 g2 : Nat} {xs : List Int} {l : Bs} {W : World} (h : TuI w g1 g2 xs l W) (z : Int) : TuI w g1 g2 (xs.set 12 z) l (W.setCell ⟨g1,12,none⟩ (.int .u32 z)) := by
 refine ⟨?_,h.out.keep (Below.heap_setCell W ⟨g1,12,none⟩ _ g2 (by have := h.lt; simp; omega)),h.bel.setCell (p := ⟨g1,12,none⟩) h.lo _,h.lo,h.lt,by rw [size_set]; exact h.hi⟩
 have := yB h.st 12 (.int .u32 z)
 rw [xDe] at this
 exact this
theorem xEk (key xD : ByteArray) (counter : Int) (s : ByteArray) (w : World) (hk : key.size = 32) (hn : xD.size = 12) (hc : U32 counter) (hs : s.size ≤ 1099511627776) :
  Calls Tryz.prog 116 #[.string key,.string xD,.int .u32 counter,.string s] w fun e w' => e = .returned (.tuple #[.string (bsA (vF key xD counter s)),.bool true]) ∧ Below w.heap.size w w' := by
 have HB := hI' (xQ0 key xD counter w hk hn)
 have hl := xEp key xD counter
 have hu := xQ1 key xD hc
 have HP : Hid (∀ k,k = (s.size + 63) / 64 → vF key xD counter s = xBq s.data.toList (tC key xD counter) k) := hI' (fun k hk => by rw [hk]; rfl)
 generalize tC key xD counter = xs at HB hl hu HP
 have hsl : s.data.toList.length = s.size := by simp
 have HI : Hid ((Tryz.prog.info? 232).map (·.size) = some (yX xs).size) := hI' (by rw [zB,hl]; kernel_rfl)
 have HO : Hid ((yX (List.replicate 16 0)).size = (yX xs).size) := hI' (by rw [zB,zB,hl,List.length_replicate])
 have HSZ : Hid ((yX xs).size = 16) := hI' (by rw [zB,hl])
 have HXL : Hid (∀ k,(qD xs k).length = 16) := hI' (fun k => by rw [xHq,hl])
 have HXU := hI' (fun k => xOe hu k)
 have HTL : Hid (∀ k,(xBq s.data.toList xs k).length = s.size) := hI' (fun k => by rw [xCn,hsl])
 have HTS : Hid (∀ k m,m = min 64 (s.size - 64 * k) → xBq s.data.toList xs (k + 1) = xMa (xBq s.data.toList xs k) (64 * k) (qU (qD xs k)) m) := hI' (fun k m hm => by rw [hm,← hsl]; rfl)
 have HXS : Hid (∀ k,qD xs (k + 1) = (qD xs k).set 12 (((qD xs k).getD 12 0 + 1) % 4294967296)) := hI' (fun k => rfl)
 have xNf := fun W => Lib.run_convert_string_bytes (P := Tryz.prog) W 9 113 5 s Tryz.underlying9 Tryz.underlying113 Tryz.underlying5
 have HS := hI' hs
 clear hl hu hk hn hc
 go_enter Tryz.func116,Tryz.ntmps116
 go_wp2_with fail
 refine HB.out.mono ?_
 rintro e w1 ⟨rfl,hb1⟩
 have B1 := hI' hb1
 clear hb1 HB
 have hst : (storeCells ⟨w1.heap.size,0,none⟩ (yX xs).toList).run Tryz.prog (w1.alloc (.cells #[.int .u32 0,.int .u32 0,.int .u32 0,.int .u32 0,.int .u32 0,.int .u32 0,.int .u32 0,.int .u32 0,.int .u32 0,.int .u32 0,.int .u32 0,.int .u32 0,.int .u32 0,.int .u32 0,.int .u32 0,.int .u32 0] 232)) = .ok () (w1.alloc (.cells (yX xs) 232)) := run_storeCells_new w1 _ _ _ HI.out HO.out (pU xs)
 have hsz := HSZ.out
 have HT : Hid (TuI w w1.heap.size (w1.heap.size + 1) (qD xs 0) (xBq s.data.toList xs 0) (Lib.bytesWorld (w1.alloc (.cells (yX xs) 232)) 5 s)) := hI' (by
  have hz : (w1.alloc (.cells (yX xs) 232)).heap.size = w1.heap.size + 1 := by simp
  have ho := xM7.start (w1.alloc (.cells (yX xs) 232)) s
  rw [hz] at ho
  refine ⟨?_,ho,(B1.out.alloc B1.out.size (.cells (yX xs) 232)).trans ⟨rfl,rfl,rfl,by rw [Lib.bytesWorld_size]; omega,fun k hk => Lib.bytesWorld_at_old _ _ s k (by have := B1.out.size; omega)⟩,B1.out.size,Nat.lt_succ_self _,by rw [Lib.bytesWorld_size,hz]; omega⟩
  rw [Lib.bytesWorld_at_old _ _ _ _ (by omega)]
  exact xM _ _)
 have HG : Hid (w.heap.size ≤ w1.heap.size) := hI' B1.out.size
 go_upto_region 5 with fail
 have hcap : s.size ≤ grownCap (w1.alloc (.cells (yX xs) 232)) s.size 0 5 := grownCap_ge _ _ _ _
 generalize grownCap _ _ _ _ = cap at hcap ⊢
 generalize Lib.bytesWorld (w1.alloc (.cells (yX xs) 232)) 5 s = w2 at HT ⊢
 clear hst hsz xNf HO HI HSZ B1
 generalize w1.heap.size = g1 at HT HG ⊢
 go_wp2_with fail
 go_loopw [13] (fun rv wr => ∃ k off c2 : Nat,off = min (64 * k) s.size ∧ 64 * k < s.size + 64 ∧ (∃ A : Option Addr,rv = .slice A (s.size - off) c2 ∧ s.size - off ≤ c2 ∧ (off < s.size → A = some ⟨g1 + 1,off,none⟩)) ∧ Hid (TuI w g1 (g1 + 1) (qD xs k) (xBq s.data.toList xs k) wr)) (fun rv _ => match rv with | .slice _ m _ => m | _ => 0)
 case atStart => exact ⟨0,0,cap,by simp,by omega,⟨_,rfl,hcap,fun _ => rfl⟩,HT⟩
 case round =>
  obtain ⟨k,off,c2,hoff,hk,⟨A,rfl,hc2,hA⟩,hr⟩ := hrel
  clear HT
  by_cases hlt : 64 * k < s.size
  ·obtain rfl : off = 64 * k := by omega
   obtain rfl := hA (by omega)
   clear hA
   have hpos : 0 < s.size - 64 * k := by omega
   obtain ⟨m,hm⟩ : ∃ m,s.size - 64 * k = m := ⟨_,rfl⟩
   have HTSk := hI' (HTS.out k)
   rw [hm] at hpos HTSk hc2 ⊢
   have HMS : Hid (64 * k + m = s.size) := hI' (by omega)
   have HKL := hI' hlt
   clear hoff hk hm hlt
   go_upto_region 8 with fail
   have hsz : (min 64 (m : Int)) = ((min 64 m : Nat) : Int) := by omega
   rw [hsz]
   obtain ⟨z,hz⟩ : ∃ z,min 64 m = z := ⟨_,rfl⟩
   have HTSz := hI' (HTSk.out z hz.symm)
   have HZM : Hid (z ≤ m ∧ z ≤ 64 ∧ 0 < z ∧ (z = 64 ∨ z = m)) := hI' (by omega)
   rw [hz]
   clear hsz hz HTSk
   have hxl := HXL.out k
   have hxu := HXU.out k
   have hll := HTL.out k
   have HXSk := hI' (HXS.out k)
   obtain ⟨xk1,hxk1⟩ : ∃ x,qD xs (k + 1) = x := ⟨_,rfl⟩
   obtain ⟨lk1,hlk1⟩ : ∃ x,xBq s.data.toList xs (k + 1) = x := ⟨_,rfl⟩
   rw [hxk1] at HXSk
   rw [hlk1] at HTSz
   have HXK := hI' hxk1
   have HLK := hI' hlk1
   clear hxk1 hlk1
   generalize qD xs k = xk at hr hxl hxu HXSk HTSz
   generalize xBq s.data.toList xs k = l0 at hr HTSz hll
   have HF := hI' (fun W => xI9 xk W hxl hxu)
   have HFL := hI' (xCd xk)
   generalize qU xk = fo at HF HFL HTSz
   have HIk : Hid ((Tryz.prog.info? 232).map (·.size) = some (yX xk).size) := hI' (by rw [zB,hxl]; kernel_rfl)
   have HI8 : Hid ((Tryz.prog.info? 235).map (·.size) = some (yJ fo).size) := hI' (by rw [vC,HFL.out]; kernel_rfl)
   have HO8 : Hid ((yJ (xQ 64)).size = (yJ fo).size) := hI' (by rw [vC,vC,HFL.out,yT])
   have H18 : Hid ((yJ fo).all (·.oneCell') = true) := hI' (Array.all_eq_true_iff_forall_mem.2 (fun v hv => xJz fo v (by simpa using hv)))
   have HXL16 := hI' hxl
   have HLL := hI' hll
   clear hxl hxu hll
   refine wp_region_lit ?_
   refine wpList_load_row rfl _ _ rfl g1 rfl _ (yX xk) (0,0) _ hr.out.st Tryz.underlying232 rfl HIk.out ?_
   go_wp2_with fail
   refine (HF.out _).mono ?_
   rename World => wq
   rintro e w4 ⟨rfl,hb4⟩
   have H4 := hI' (hr.out.below hb4)
   clear hb4 hr HF
   have hst : (storeCells ⟨w4.heap.size,0,none⟩ (yJ fo).toList).run Tryz.prog (w4.alloc (.cells #[.int .u8 0,.int .u8 0,.int .u8 0,.int .u8 0,.int .u8 0,.int .u8 0,.int .u8 0,.int .u8 0,.int .u8 0,.int .u8 0,.int .u8 0,.int .u8 0,.int .u8 0,.int .u8 0,.int .u8 0,.int .u8 0,.int .u8 0,.int .u8 0,.int .u8 0,.int .u8 0,.int .u8 0,.int .u8 0,.int .u8 0,.int .u8 0,.int .u8 0,.int .u8 0,.int .u8 0,.int .u8 0,.int .u8 0,.int .u8 0,.int .u8 0,.int .u8 0,.int .u8 0,.int .u8 0,.int .u8 0,.int .u8 0,.int .u8 0,.int .u8 0,.int .u8 0,.int .u8 0,.int .u8 0,.int .u8 0,.int .u8 0,.int .u8 0,.int .u8 0,.int .u8 0,.int .u8 0,.int .u8 0,.int .u8 0,.int .u8 0,.int .u8 0,.int .u8 0,.int .u8 0,.int .u8 0,.int .u8 0,.int .u8 0,.int .u8 0,.int .u8 0,.int .u8 0,.int .u8 0,.int .u8 0,.int .u8 0,.int .u8 0,.int .u8 0] 235)) = .ok () (w4.alloc (.cells (yJ fo) 235)) := run_storeCells_new w4 _ _ _ HI8.out HO8.out H18.out
   have hsz8 : (yJ fo).size = 64 := by rw [vC,HFL.out]
   have H5 : Hid (TuI w g1 (g1 + 1) xk (xMa l0 (64 * k) fo 0) (w4.alloc (.cells (yJ fo) 235)) ∧ (w4.alloc (.cells (yJ fo) 235)).heap[w4.heap.size]? = some (.cells (yJ fo) 235 (0,0))) := hI' ⟨H4.out.alloc _,xM _ _⟩
   have HG3 : Hid (g1 + 1 < w4.heap.size) := hI' H4.out.hi
   go_upto_region 9 with fail
   generalize w4.alloc (.cells (yJ fo) 235) = w5 at H5 ⊢
   clear hst hsz8 H4
   generalize w4.heap.size = g3 at H5 HG3 ⊢
   go_wp2_with fail
   go_loopw [38] (fun iv W => ∃ i : Nat,i ≤ z ∧ iv = .int .i64 i ∧ Hid (TuI w g1 (g1 + 1) xk (xMa l0 (64 * k) fo i) W ∧ W.heap[g3]? = some (.cells (yJ fo) 235 (0,0)))) (fun iv _ => z - (intOf iv).toNat)
   case atStart => exact ⟨0,Nat.zero_le _,rfl,H5⟩
   case round =>
    clear H5
    rename World => wi
    obtain ⟨i,hi,rfl,hr⟩ := hrel
    by_cases hlt : i < z
    ·have HXI : Hid (xMa l0 (64 * k) fo (i + 1) = (xMa l0 (64 * k) fo i).set (64 * k + i) (oct (bits .xor .u8 (((xMa l0 (64 * k) fo i).getD (64 * k + i) 0).toNat : Int) ((fo.getD i 0).toNat : Int)))) := hI' rfl
     have hil := xFc l0 (64 * k) fo i
     generalize xMa l0 (64 * k) fo i = li at hr HXI hil
     have HPL : Hid (64 * k + i < li.length) := hI' (by rw [hil,HLL.out]; have := HMS.out; have := HZM.out; omega)
     have HIF : Hid (i < fo.length) := hI' (by rw [HFL.out]; have := HZM.out; omega)
     have HIM : Hid (i < m) := hI' (by have := HZM.out; omega)
     obtain ⟨a,ha⟩ : ∃ a : Int,((li.getD (64 * k + i) 0).toNat : Int) = a := ⟨_,rfl⟩
     obtain ⟨c,hc⟩ : ∃ c : Int,((fo.getD i 0).toNat : Int) = c := ⟨_,rfl⟩
     rw [ha,hc] at HXI
     have HA := hI' ha
     have HCc := hI' hc
     obtain ⟨v,hv⟩ : ∃ v,bits .xor .u8 a c = v := ⟨_,rfl⟩
     have HV : Hid (0 ≤ v ∧ v < 256) := hI' (hv ▸ xBd _ _ _)
     rw [hv] at HXI
     have HVE := hI' hv
     have ra : 0 ≤ a ∧ a < 256 := by rw [← ha]; have := (li.getD (64 * k + i) 0).toNat_lt; omega
     have rc : 0 ≤ c ∧ c < 256 := by rw [← hc]; have := (fo.getD i 0).toNat_lt; omega
     obtain ⟨ra0,ra1⟩ := ra
     obtain ⟨rc0,rc1⟩ := rc
     have him := HIM.out
     have hi64 : i < 64 := by rw [← HFL.out]; exact HIF.out
     clear ha hc hv hil
     go_upto_region 12 with fail
     refine RG.yN 10 (fun L W => Hid (TuI w g1 (g1 + 1) xk (if L 9 then li.set (64 * k + i) (oct v) else li) W ∧ W.heap[g3]? = some (.cells (yJ fo) 235 (0,0)))) (fun L L' W h hI => by rw [← h 9 (by decide)]; exact hI) (by kernel_rfl) (by kernel_rfl) rfl (hI' ⟨hr.out.1.drew,hr.out.2⟩) ?_
     iterate 3
      apply RG.xJ
      ·rfl
      ·rfl
      ·intro L w9 h0 hcl xH hw9
       repeat go_step
       with_reducible refine RG.xB ?_
       exact ⟨xH,hw9⟩
      ·rfl
     apply RG.xJ
     ·rfl
     ·rfl
     ·intro L w9 h0 hcl xH hw9
      have e1 := hcl.not 6 (i := 9) h0 (by kernel_rfl)
      have hs9 := hw9.out.1
      rw [e1,if_neg (by simp)] at hs9
      have q := hs9.out.cell (64 * k + i) HPL.out
      rw [HA.out] at q
      clear e1 hs9
      repeat go_step
      with_reducible refine RG.xB ?_
      exact ⟨xH,hw9⟩
     ·rfl
     iterate 2
      apply RG.xJ
      ·rfl
      ·rfl
      ·intro L w9 h0 hcl xH hw9
       repeat go_step
       with_reducible refine RG.xB ?_
       exact ⟨xH,hw9⟩
      ·rfl
     apply RG.xJ
     ·rfl
     ·rfl
     ·intro L w9 h0 hcl xH hw9
      have q := xA hw9.out.2 i
      rw [tL HIF.out,HCc.out] at q
      repeat go_step
      with_reducible refine RG.xB ?_
      exact ⟨xH,hw9⟩
     ·rfl
     apply RG.xJ
     ·rfl
     ·rfl
     ·intro L w9 h0 hcl xH hw9
      repeat go_step
      with_reducible refine RG.xB ?_
      exact ⟨xH,hw9⟩
     ·rfl
     rw [HVE.out]
     apply RG.xJ
     ·rfl
     ·rfl
     ·intro L w9 h0 hcl xH hw9
      repeat go_step
      with_reducible refine RG.xB ?_
      exact ⟨xH,hw9⟩
     ·rfl
     apply RG.xJ
     ·rfl
     ·rfl
     ·intro L w9 h0 hcl xH hw9
      have hs9 := hw9.out.1
      rw [h0,if_neg (by simp)] at hs9
      have q1 := hs9.out.cell (64 * k + i) HPL.out
      have q2 := hs9.out.free (64 * k + i) HPL.out
      generalize ((li.getD (64 * k + i) 0).toNat : Int) = old at q1
      have hp : Hid (TuI w g1 (g1 + 1) xk (li.set (64 * k + i) (oct v)) (w9.setCell ⟨g1 + 1,64 * k + i,none⟩ (.int .u8 v)) ∧ (w9.setCell ⟨g1 + 1,64 * k + i,none⟩ (.int .u8 v)).heap[g3]? = some (.cells (yJ fo) 235 (0,0))) := hI' ⟨hs9.put HPL.out HV.out.1 HV.out.2,xZ hw9.out.2 (p := ⟨g1 + 1,64 * k + i,none⟩) (by have := HG3.out; simp; omega) _⟩
      clear hs9
      repeat go_step
      with_reducible refine RG.xB ?_
      refine ⟨xH,?_⟩
      show Hid (TuI w g1 (g1 + 1) xk (if (true : Bool) = true then li.set (64 * k + i) (oct v) else li) _ ∧ _)
      rw [if_pos rfl]
      with_reducible exact hp
     ·rfl
     refine RG.yP (fun w9 hw9 => ?_)
     rw [if_pos rfl,← HXI.out] at hw9
     go_wp2
     exact ⟨⟨i + 1,by omega,by go_num,hw9⟩,by simp [intOf]; omega⟩
    ·have hie : i = z := by omega
     have HR : Hid (TuI w g1 (g1 + 1) xk lk1 wi) := hI' (by rw [HTSz.out,← hie]; exact hr.out.1)
     have hneg : ¬ ((i : Int) < (z : Int)) := by omega
     clear hr hlt hi hie
     have q1 := xA HR.out.st 12
     rw [uV (by rw [HXL16.out]; decide)] at q1
     have q2 := xK HR.out.st 12
     obtain ⟨y,hy⟩ : ∃ y,xk.getD 12 0 = y := ⟨_,rfl⟩
     rw [hy] at q1 HXSk
     have HN : Hid (TuI w g1 (g1 + 1) xk1 lk1 (wi.setCell ⟨g1,12,none⟩ (.int .u32 ((y + 1) % 4294967296)))) := hI' (by rw [HXSk.out]; exact HR.out.step _)
     clear HR hy
     have hzm := HZM.out.1
     go_wp2
     refine ⟨⟨k + 1,64 * k + z,c2 - z,by have := HMS.out; have := HZM.out; omega,by have := HKL.out; omega,⟨_,by rw [show s.size - (64 * k + z) = m - z by have := HMS.out; omega],by have := HMS.out; omega,fun hlt => if_neg (by have := HMS.out; omega)⟩,hI' (by rw [HXK.out,HLK.out]; exact HN.out)⟩,?_⟩
     show m - z < m
     have := HZM.out
     omega
  ·have hoff2 : off = s.size := by omega
   have HPk := hI' (HP.out k (by omega))
   have HTLk := HTL.out k
   have hz0 : s.size - off = 0 := by omega
   rw [hz0]
   generalize xBq s.data.toList xs k = lf at hr HPk HTLk
   have ht := hr.out.out.text s.size cap HTLk
   have HBl := hI' hr.out.bel
   clear hr hA hc2 hk hlt HTLk hoff2 hz0 hoff hsl hs
   rw [← HPk.out] at ht
   go_wp2
   go_ret2
   exact ⟨rfl,HBl.out⟩
end Go.Proofs.SH
namespace Mailsack
def xAr (pw xO : ByteArray) : Nat → ByteArray
 | 0 => bsA (xSb pw (xO ++ bsA [0,0,0,1]))
 | k + 1 => bsA (xSb pw (xAr pw xO k))
def xH4 (l : Bs) (t : ByteArray) : Nat → Bs
 | 0 => l
 | i + 1 => (xH4 l t i).set i (oct (Go.bits .xor .u8 (((xH4 l t i).getD i 0).toNat : Int) (yZ t i)))
theorem xFb (l : Bs) (t : ByteArray) : ∀ i,(xH4 l t i).length = l.length
 | 0 => rfl
 | i + 1 => by simp [xH4,xFb l t i]
def rC (pw xO : ByteArray) : Nat → Bs
 | 0 => (xAr pw xO 0).data.toList
 | k + 1 => xH4 (rC pw xO k) (xAr pw xO (k + 1)) 32
theorem xBi (pw xO : ByteArray) : ∀ k,(xAr pw xO k).size = 32
 | 0 => by rw [xAr,yO,xFk]
 | k + 1 => by rw [xAr,yO,xFk]
theorem xG6 (pw xO : ByteArray) : ∀ k,(rC pw xO k).length = 32
 | 0 => by have := xBi pw xO 0; simpa [rC] using this
 | k + 1 => by rw [rC,xFb,xG6 pw xO k]
def xC9 (pw xO : ByteArray) (rounds : Nat) : ByteArray := bsA (rC (jR pw) xO (rounds - 1))
theorem xI0 (pw xO : ByteArray) (r : Nat) : (xC9 pw xO r).size = 32 := by rw [xC9,yO,xG6]
theorem yB8 (pw : ByteArray) : (jR pw).size ≤ 64 := by
 unfold jR
 split
 ·rw [yO,xA3]; decide
 ·omega
end Mailsack
namespace Go.Proofs.SH
open Go.RowKit Mailsack MM BB
structure PaI (w : World) (g : Nat) (l : Bs) (W : World) : Prop where
 out : xM7 W g l
 bel : Below w.heap.size w W
 lo : w.heap.size ≤ g
 hi : g < W.heap.size
theorem PaI.below {w : World} {g : Nat} {l : Bs} {W W' : World} (h : PaI w g l W) (hb : Below W.heap.size W W') : PaI w g l W' :=
 ⟨h.out.keep (hb.block g h.hi),h.bel.trans (hb.mono h.bel.size),h.lo,Nat.lt_of_lt_of_le h.hi hb.size⟩
theorem PaI.drew {w : World} {g : Nat} {l : Bs} {W : World} (h : PaI w g l W) : PaI w g l W.drew := ⟨⟨h.out.cell,h.out.free⟩,h.bel.drew,h.lo,h.hi⟩
theorem PaI.put {w : World} {g : Nat} {l : Bs} {W : World} (h : PaI w g l W) {p : Nat} (hp : p < l.length) {z : Int} (h0 : 0 ≤ z) (h1 : z < 256) : PaI w g (l.set p (oct z)) (W.setCell ⟨g,p,none⟩ (.int .u8 z)) :=
 ⟨h.out.put hp h0 h1,h.bel.setCell (p := ⟨g,p,none⟩) h.lo _,h.lo,by rw [size_set]; exact h.hi⟩
theorem xZd (pw xO : ByteArray) (r : Int) (w : World) (h : r < 1 ∨ 64 < r) :
  Calls Tryz.prog 78 #[.string pw,.string xO,.int .i64 r] w fun e w' => e = .returned (.tuple #[.string ⟨#[]⟩,.int .i64 1]) ∧ w' = w := by
 have hr := h
 go_enter Tryz.func78,Tryz.ntmps78
 rcases hr with h | h
 ·go_wp2
  go_ret2
  exact ⟨rfl,rfl⟩
 ·have h1 : ¬ (r < 1) := by omega
  go_wp2
  go_ret2
  exact ⟨rfl,rfl⟩
theorem xEt (pw xO : ByteArray) (r : Nat) (w : World) (h0 : 1 ≤ r) (h1 : r ≤ 64) (hp : pw.size ≤ 1099511627776) (hs : xO.size ≤ 1000000) (hT : vT w) :
  Calls Tryz.prog 78 #[.string pw,.string xO,.int .i64 r] w fun e w' => e = .returned (.tuple #[.string (xC9 pw xO r),.int .i64 0]) ∧ Below w.heap.size w w' := by
 have HT := hI' (fun W (h : Below w.heap.size w W) => hT.below h (Nat.le_refl _))
 have HPP : Hid (∀ k,k = r - 1 → xC9 pw xO r = bsA (rC (jR pw) xO k)) := hI' (fun k hk => by rw [hk]; rfl)
 have hkl := yB8 pw
 have HKP : Hid (∀ W,vT W → 64 < pw.size → Calls Tryz.prog 103 #[.string pw] W fun e w' => e = .returned (.string (jR pw)) ∧ Below W.heap.size W w') := hI' (fun W hW h => by
  unfold jR
  rw [if_pos h]
  exact xFv pw W (by omega) hW)
 have HKE : Hid (pw.size ≤ 64 → jR pw = pw) := hI' (fun h => by unfold jR; rw [if_neg (by omega)])
 generalize jR pw = kp at HPP hkl HKP HKE
 have HM0 : Hid (∀ W,vT W → Calls Tryz.prog 121 #[.string kp,.string (xO ++ bsA [0,0,0,1])] W fun e w' => e = .returned (.string (xAr kp xO 0)) ∧ Below W.heap.size W w') := hI' (fun W hW => by
  exact xFh kp _ W (by omega) (by rw [ByteArray.size_append,yO]; simp; omega) hW)
 have HMK : Hid (∀ k W,vT W → Calls Tryz.prog 121 #[.string kp,.string (xAr kp xO k)] W fun e w' => e = .returned (.string (xAr kp xO (k + 1))) ∧ Below W.heap.size W w') := hI' (fun k W hW => by
  exact xFh kp _ W (by omega) (by rw [xBi]; decide) hW)
 have HLZ := hI' (xBi kp xO)
 have HPL := hI' (xG6 kp xO)
 have nb1 : ¬ (9223372036854775807 < xO.size + 4) := by omega
 obtain ⟨l00,h00⟩ : ∃ x,xAr kp xO 0 = x := ⟨_,rfl⟩
 have hl00 := xBi kp xO 0
 rw [h00] at HM0 hl00
 have HP0 : Hid (l00.data.toList = rC kp xO 0) := hI' (by rw [← h00]; rfl)
 have H00 := hI' h00
 clear h00
 clear hkl hT
 go_enter Tryz.func78,Tryz.ntmps78
 go_upto_region 3 with fail
 by_cases h64 : 64 < pw.size
 ·have h64i : (64 : Int) < (pw.size : Int) := by omega
  go_wp2_with fail
  refine (HKP.out _ (HT.out _ (Below.refl _ _)) h64).mono ?_
  rintro e w1 ⟨rfl,hb1⟩
  have B1 := hI' hb1
  clear hb1 HKP HKE h64 h64i
  go_upto_region 5 with fail
  have nb2 : ¬ (9223372036854775807 < xO.size + (bsA [0,0,0,1]).size) := by rw [yO]; simp; omega
  have HB4 : Hid (Value.string ⟨#[0,0,0,1]⟩ = .string (bsA [0,0,0,1])) := hI' rfl
  go_wp2_with fail
  refine (HM0.out _ (HT.out _ B1.out)).mono ?_
  rintro e w2 ⟨rfl,hb2⟩
  have B2 := hI' (B1.out.trans (hb2.mono B1.out.size))
  clear hb2 HM0 nb1 nb2 HB4 B1
  have xNf := fun W => Lib.run_convert_string_bytes (P := Tryz.prog) W 9 113 5 l00 Tryz.underlying9 Tryz.underlying113 Tryz.underlying5
  have HPI : Hid (PaI w w2.heap.size l00.data.toList (Lib.bytesWorld w2 5 l00)) := hI' ⟨xM7.start w2 l00,B2.out.trans ⟨rfl,rfl,rfl,by rw [Lib.bytesWorld_size]; omega,fun k hk => Lib.bytesWorld_at_old _ _ _ k (by have := B2.out.size; omega)⟩,B2.out.size,by rw [Lib.bytesWorld_size]; omega⟩
  go_upto_region 7 with fail
  have hcap : 32 ≤ grownCap w2 32 0 5 := grownCap_ge _ _ _ _
  generalize grownCap w2 32 0 5 = cap at hcap ⊢
  generalize Lib.bytesWorld w2 5 l00 = w3 at HPI ⊢
  generalize w2.heap.size = g at HPI ⊢
  clear xNf hl00 B2
  go_wp2_with fail
  go_loopw [8,30] (fun lv iv wr => ∃ k : Nat,k ≤ r - 1 ∧ lv = .string (xAr kp xO k) ∧ iv = .int .i64 k ∧ Hid (PaI w g (rC kp xO k) wr)) (fun _ iv _ => r - (intOf iv).toNat)
  case atStart => exact ⟨0,Nat.zero_le _,by rw [H00.out],rfl,by rw [← HP0.out]; exact HPI⟩
  case round =>
   obtain ⟨k,hk,rfl,rfl,hr⟩ := hrel
   clear HPI
   by_cases hlt : k < r - 1
   ·have HSk := hI' (HMK.out k wr (HT.out _ hr.out.bel))
    have HR := hI' (And.intro h0 (And.intro h1 (And.intro hp hs)))
    clear h0 h1 hp hs
    go_wp2_with fail
    refine HSk.out.mono ?_
    rintro e w4 ⟨rfl,hb4⟩
    have H4 : Hid (PaI w g (xH4 (rC kp xO k) (xAr kp xO (k + 1)) 0) w4) := hI' (hr.out.below hb4)
    have HN : Hid (∀ n,n = 32 → rC kp xO (k + 1) = xH4 (rC kp xO k) (xAr kp xO (k + 1)) n) := hI' (fun n hn => by rw [hn]; rfl)
    have hlz := HLZ.out (k + 1)
    have HPLk := hI' (HPL.out k)
    clear hb4 hr HSk
    obtain ⟨l1,hl1⟩ : ∃ x,xAr kp xO (k + 1) = x := ⟨_,rfl⟩
    rw [hl1] at H4 HN hlz ⊢
    have HL1 := hI' hl1
    clear hl1
    obtain ⟨pk,hpk⟩ : ∃ pk,rC kp xO (k + 1) = pk := ⟨_,rfl⟩
    rw [hpk] at HN
    have HPK : Hid (∀ n,n = k + 1 → rC kp xO n = pk) := hI' (fun n hn => by rw [hn]; exact hpk)
    clear hpk
    generalize rC kp xO k = l0 at H4 HN HPLk
    go_wp2_with fail
    go_loopw [37] (fun jv W => ∃ i : Nat,i ≤ 32 ∧ jv = .int .i64 i ∧ Hid (PaI w g (xH4 l0 l1 i) W)) (fun jv _ => 32 - (intOf jv).toNat)
    case atStart => exact ⟨0,by omega,rfl,H4⟩
    case round =>
     clear H4
     rename World => wi
     obtain ⟨i,hi,rfl,hr⟩ := hrel
     by_cases hli : i < 32
     ·have HXI : Hid (xH4 l0 l1 (i + 1) = (xH4 l0 l1 i).set i (oct (bits .xor .u8 (((xH4 l0 l1 i).getD i 0).toNat : Int) (yZ l1 i)))) := hI' rfl
      have hil := xFb l0 l1 i
      generalize xH4 l0 l1 i = li at hr HXI hil
      have HIF : Hid (i < li.length) := hI' (by rw [hil,HPLk.out]; exact hli)
      have i1 := fun w => zU (P := Tryz.prog) Tryz.underlying9 l1 (i : Int) i rfl (by rw [hlz]; exact hli) w
      obtain ⟨a,ha⟩ : ∃ a : Int,((li.getD i 0).toNat : Int) = a := ⟨_,rfl⟩
      obtain ⟨c,hc⟩ : ∃ c : Int,yZ l1 i = c := ⟨_,rfl⟩
      have rc := zG l1 i
      rw [hc] at i1 rc
      rw [ha,hc] at HXI
      have HA := hI' ha
      obtain ⟨v,hv⟩ : ∃ v,bits .xor .u8 a c = v := ⟨_,rfl⟩
      have HV : Hid (0 ≤ v ∧ v < 256) := hI' (hv ▸ xBd _ _ _)
      rw [hv] at HXI
      have HVE := hI' hv
      have ra : 0 ≤ a ∧ a < 256 := by rw [← ha]; have := (li.getD i 0).toNat_lt; omega
      obtain ⟨ra0,ra1⟩ := ra
      obtain ⟨rc0,rc1⟩ := rc
      have HLT := hI' hlt
      have HK := hI' hk
      have HI := hI' hi
      have HLZ1 := hI' hlz
      clear ha hc hv hil hlt hk hlz
      go_upto_region 13 with fail
      refine RG.yN 10 (fun L W => Hid (PaI w g (if L 9 then li.set i (oct v) else li) W)) (fun L L' W h hI => by rw [← h 9 (by decide)]; exact hI) (by kernel_rfl) (by kernel_rfl) rfl (hI' hr.out.drew) ?_
      iterate 3
       apply RG.xJ
       ·rfl
       ·rfl
       ·intro L w9 h0 hcl xH hw9
        repeat go_step
        with_reducible refine RG.xB ?_
        exact ⟨xH,hw9⟩
       ·rfl
      apply RG.xJ
      ·rfl
      ·rfl
      ·intro L w9 h0 hcl xH hw9
       have e1 := hcl.not 6 (i := 9) h0 (by kernel_rfl)
       have hs9 := hw9.out
       rw [e1,if_neg (by simp)] at hs9
       have q := hs9.out.cell i HIF.out
       rw [HA.out] at q
       clear e1 hs9
       repeat go_step
       with_reducible refine RG.xB ?_
       exact ⟨xH,hw9⟩
      ·rfl
      iterate 4
       apply RG.xJ
       ·rfl
       ·rfl
       ·intro L w9 h0 hcl xH hw9
        repeat go_step
        with_reducible refine RG.xB ?_
        exact ⟨xH,hw9⟩
       ·rfl
      rw [HVE.out]
      apply RG.xJ
      ·rfl
      ·rfl
      ·intro L w9 h0 hcl xH hw9
       repeat go_step
       with_reducible refine RG.xB ?_
       exact ⟨xH,hw9⟩
      ·rfl
      apply RG.xJ
      ·rfl
      ·rfl
      ·intro L w9 h0 hcl xH hw9
       have hs9 := hw9.out
       rw [h0,if_neg (by simp)] at hs9
       have q1 := hs9.out.cell i HIF.out
       have q2 := hs9.out.free i HIF.out
       generalize ((li.getD i 0).toNat : Int) = old at q1
       have hp : Hid (PaI w g (li.set i (oct v)) (w9.setCell ⟨g,i,none⟩ (.int .u8 v))) := hI' (hs9.put HIF.out HV.out.1 HV.out.2)
       clear hs9
       repeat go_step
       with_reducible refine RG.xB ?_
       refine ⟨xH,?_⟩
       show Hid (PaI w g (if (true : Bool) = true then li.set i (oct v) else li) _)
       rw [if_pos rfl]
       with_reducible exact hp
      ·rfl
      refine RG.yP (fun w9 hw9 => ?_)
      rw [if_pos rfl,← HXI.out] at hw9
      go_wp2
      exact ⟨⟨i + 1,by have := HI.out; omega,by go_num,hw9⟩,by simp [intOf]; omega⟩
     ·have HXE : Hid (xH4 l0 l1 i = pk) := hI' ((HN.out i (by omega)).symm)
      rw [HXE.out] at hr
      go_wp2
      exact ⟨⟨k + 1,by omega,by rw [HL1.out],by go_num,by rw [HPK.out _ rfl]; exact hr⟩,by simp [intOf]; omega⟩
   ·have HPk := hI' (HPP.out k (by omega))
    have ht := hr.out.out.text 32 cap (HPL.out k)
    rw [← HPk.out] at ht
    have HBl := hI' hr.out.bel
    clear hr
    go_wp2
    go_ret2
    exact ⟨rfl,HBl.out⟩
 ·have h64i : ¬ (64 : Int) < (pw.size : Int) := by omega
  have hkp := HKE.out (by omega)
  subst hkp
  have B1 := hI' (Below.refl w.heap.size w)
  clear HKP HKE h64
  go_upto_region 5 with fail
  clear h64i
  have nb2 : ¬ (9223372036854775807 < xO.size + (bsA [0,0,0,1]).size) := by rw [yO]; simp; omega
  have HB4 : Hid (Value.string ⟨#[0,0,0,1]⟩ = .string (bsA [0,0,0,1])) := hI' rfl
  go_wp2_with fail
  refine (HM0.out _ (HT.out _ B1.out)).mono ?_
  rintro e w2 ⟨rfl,hb2⟩
  have B2 := hI' (B1.out.trans (hb2.mono B1.out.size))
  clear hb2 HM0 nb1 nb2 HB4 B1
  have xNf := fun W => Lib.run_convert_string_bytes (P := Tryz.prog) W 9 113 5 l00 Tryz.underlying9 Tryz.underlying113 Tryz.underlying5
  have HPI : Hid (PaI w w2.heap.size l00.data.toList (Lib.bytesWorld w2 5 l00)) := hI' ⟨xM7.start w2 l00,B2.out.trans ⟨rfl,rfl,rfl,by rw [Lib.bytesWorld_size]; omega,fun k hk => Lib.bytesWorld_at_old _ _ _ k (by have := B2.out.size; omega)⟩,B2.out.size,by rw [Lib.bytesWorld_size]; omega⟩
  go_upto_region 7 with fail
  have hcap : 32 ≤ grownCap w2 32 0 5 := grownCap_ge _ _ _ _
  generalize grownCap w2 32 0 5 = cap at hcap ⊢
  generalize Lib.bytesWorld w2 5 l00 = w3 at HPI ⊢
  generalize w2.heap.size = g at HPI ⊢
  clear xNf hl00 B2
  go_wp2_with fail
  go_loopw [8,30] (fun lv iv wr => ∃ k : Nat,k ≤ r - 1 ∧ lv = .string (xAr kp xO k) ∧ iv = .int .i64 k ∧ Hid (PaI w g (rC kp xO k) wr)) (fun _ iv _ => r - (intOf iv).toNat)
  case atStart => exact ⟨0,Nat.zero_le _,by rw [H00.out],rfl,by rw [← HP0.out]; exact HPI⟩
  case round =>
   obtain ⟨k,hk,rfl,rfl,hr⟩ := hrel
   clear HPI
   by_cases hlt : k < r - 1
   ·have HSk := hI' (HMK.out k wr (HT.out _ hr.out.bel))
    have HR := hI' (And.intro h0 (And.intro h1 (And.intro hp hs)))
    clear h0 h1 hp hs
    go_wp2_with fail
    refine HSk.out.mono ?_
    rintro e w4 ⟨rfl,hb4⟩
    have H4 : Hid (PaI w g (xH4 (rC kp xO k) (xAr kp xO (k + 1)) 0) w4) := hI' (hr.out.below hb4)
    have HN : Hid (∀ n,n = 32 → rC kp xO (k + 1) = xH4 (rC kp xO k) (xAr kp xO (k + 1)) n) := hI' (fun n hn => by rw [hn]; rfl)
    have hlz := HLZ.out (k + 1)
    have HPLk := hI' (HPL.out k)
    clear hb4 hr HSk
    obtain ⟨l1,hl1⟩ : ∃ x,xAr kp xO (k + 1) = x := ⟨_,rfl⟩
    rw [hl1] at H4 HN hlz ⊢
    have HL1 := hI' hl1
    clear hl1
    obtain ⟨pk,hpk⟩ : ∃ pk,rC kp xO (k + 1) = pk := ⟨_,rfl⟩
    rw [hpk] at HN
    have HPK : Hid (∀ n,n = k + 1 → rC kp xO n = pk) := hI' (fun n hn => by rw [hn]; exact hpk)
    clear hpk
    generalize rC kp xO k = l0 at H4 HN HPLk
    go_wp2_with fail
    go_loopw [37] (fun jv W => ∃ i : Nat,i ≤ 32 ∧ jv = .int .i64 i ∧ Hid (PaI w g (xH4 l0 l1 i) W)) (fun jv _ => 32 - (intOf jv).toNat)
    case atStart => exact ⟨0,by omega,rfl,H4⟩
    case round =>
     clear H4
     rename World => wi
     obtain ⟨i,hi,rfl,hr⟩ := hrel
     by_cases hli : i < 32
     ·have HXI : Hid (xH4 l0 l1 (i + 1) = (xH4 l0 l1 i).set i (oct (bits .xor .u8 (((xH4 l0 l1 i).getD i 0).toNat : Int) (yZ l1 i)))) := hI' rfl
      have hil := xFb l0 l1 i
      generalize xH4 l0 l1 i = li at hr HXI hil
      have HIF : Hid (i < li.length) := hI' (by rw [hil,HPLk.out]; exact hli)
      have i1 := fun w => zU (P := Tryz.prog) Tryz.underlying9 l1 (i : Int) i rfl (by rw [hlz]; exact hli) w
      obtain ⟨a,ha⟩ : ∃ a : Int,((li.getD i 0).toNat : Int) = a := ⟨_,rfl⟩
      obtain ⟨c,hc⟩ : ∃ c : Int,yZ l1 i = c := ⟨_,rfl⟩
      have rc := zG l1 i
      rw [hc] at i1 rc
      rw [ha,hc] at HXI
      have HA := hI' ha
      obtain ⟨v,hv⟩ : ∃ v,bits .xor .u8 a c = v := ⟨_,rfl⟩
      have HV : Hid (0 ≤ v ∧ v < 256) := hI' (hv ▸ xBd _ _ _)
      rw [hv] at HXI
      have HVE := hI' hv
      have ra : 0 ≤ a ∧ a < 256 := by rw [← ha]; have := (li.getD i 0).toNat_lt; omega
      obtain ⟨ra0,ra1⟩ := ra
      obtain ⟨rc0,rc1⟩ := rc
      have HLT := hI' hlt
      have HK := hI' hk
      have HI := hI' hi
      have HLZ1 := hI' hlz
      clear ha hc hv hil hlt hk hlz
      go_upto_region 13 with fail
      refine RG.yN 10 (fun L W => Hid (PaI w g (if L 9 then li.set i (oct v) else li) W)) (fun L L' W h hI => by rw [← h 9 (by decide)]; exact hI) (by kernel_rfl) (by kernel_rfl) rfl (hI' hr.out.drew) ?_
      iterate 3
       apply RG.xJ
       ·rfl
       ·rfl
       ·intro L w9 h0 hcl xH hw9
        repeat go_step
        with_reducible refine RG.xB ?_
        exact ⟨xH,hw9⟩
       ·rfl
      apply RG.xJ
      ·rfl
      ·rfl
      ·intro L w9 h0 hcl xH hw9
       have e1 := hcl.not 6 (i := 9) h0 (by kernel_rfl)
       have hs9 := hw9.out
       rw [e1,if_neg (by simp)] at hs9
       have q := hs9.out.cell i HIF.out
       rw [HA.out] at q
       clear e1 hs9
       repeat go_step
       with_reducible refine RG.xB ?_
       exact ⟨xH,hw9⟩
      ·rfl
      iterate 4
       apply RG.xJ
       ·rfl
       ·rfl
       ·intro L w9 h0 hcl xH hw9
        repeat go_step
        with_reducible refine RG.xB ?_
        exact ⟨xH,hw9⟩
       ·rfl
      rw [HVE.out]
      apply RG.xJ
      ·rfl
      ·rfl
      ·intro L w9 h0 hcl xH hw9
       repeat go_step
       with_reducible refine RG.xB ?_
       exact ⟨xH,hw9⟩
      ·rfl
      apply RG.xJ
      ·rfl
      ·rfl
      ·intro L w9 h0 hcl xH hw9
       have hs9 := hw9.out
       rw [h0,if_neg (by simp)] at hs9
       have q1 := hs9.out.cell i HIF.out
       have q2 := hs9.out.free i HIF.out
       generalize ((li.getD i 0).toNat : Int) = old at q1
       have hp : Hid (PaI w g (li.set i (oct v)) (w9.setCell ⟨g,i,none⟩ (.int .u8 v))) := hI' (hs9.put HIF.out HV.out.1 HV.out.2)
       clear hs9
       repeat go_step
       with_reducible refine RG.xB ?_
       refine ⟨xH,?_⟩
       show Hid (PaI w g (if (true : Bool) = true then li.set i (oct v) else li) _)
       rw [if_pos rfl]
       with_reducible exact hp
      ·rfl
      refine RG.yP (fun w9 hw9 => ?_)
      rw [if_pos rfl,← HXI.out] at hw9
      go_wp2
      exact ⟨⟨i + 1,by have := HI.out; omega,by go_num,hw9⟩,by simp [intOf]; omega⟩
     ·have HXE : Hid (xH4 l0 l1 i = pk) := hI' ((HN.out i (by omega)).symm)
      rw [HXE.out] at hr
      go_wp2
      exact ⟨⟨k + 1,by omega,by rw [HL1.out],by go_num,by rw [HPK.out _ rfl]; exact hr⟩,by simp [intOf]; omega⟩
   ·have HPk := hI' (HPP.out k (by omega))
    have ht := hr.out.out.text 32 cap (HPL.out k)
    rw [← HPk.out] at ht
    have HBl := hI' hr.out.bel
    clear hr
    go_wp2
    go_ret2
    exact ⟨rfl,HBl.out⟩
end Go.Proofs.SH
