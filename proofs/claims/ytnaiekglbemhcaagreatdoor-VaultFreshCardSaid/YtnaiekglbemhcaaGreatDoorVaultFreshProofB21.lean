/- Contracts of functions of the program. Conditions: those that each theorem states. -/
import Derived.Test.YtnaiekglbemhcaaGreatDoorVaultFreshProofB20
import Derived.Test.YtnaiekglbemhcaaGreatDoorVaultFreshProofB07
import Derived.Test.YtnaiekglbemhcaaGreatDoorVaultFreshProofB17
import Derived.Test.YtnaiekglbemhcaaGreatDoorVaultFreshProofB14
set_option maxHeartbeats 8000000
set_option maxRecDepth 100000
namespace Mailsack
theorem or_big (n b : Nat) (hn : n < 1099511627776) (hb : b < 256) : Go.bits .or .i64 ((n : Int) * 256) (b : Int) = (n : Int) * 256 + b := by
 have hx : n * 256 ||| b = n * 256 + b := by
  have := Nat.two_pow_add_eq_or_of_lt (i := 8) (b := b) (by omega) n
  rw [show 2 ^ 8 * n = n * 256 by omega] at this
  exact this.symm
 have h2 : (BitVec.ofInt 64 (b : Int)).toNat = b := by
  rw [BitVec.ofInt_natCast,BitVec.toNat_ofNat]; exact Nat.mod_eq_of_lt (by omega)
 have h1 : (BitVec.ofInt 64 ((n : Int) * 256)).toNat = n * 256 := by
  rw [show (n : Int) * 256 = ((n * 256 : Nat) : Int) by omega,BitVec.ofInt_natCast,BitVec.toNat_ofNat]; exact Nat.mod_eq_of_lt (by omega)
 show Go.IntKind.i64.wrap ((BitVec.ofInt 64 ((n : Int) * 256) ||| BitVec.ofInt 64 (b : Int)).toNat : Int) = _
 rw [BitVec.toNat_or,h1,h2,hx,Go.IntKind.wrap_i64]
 omega
theorem xP0 : ∀ (l : Bs),l.length ≤ 4 → leN l < 256 ^ l.length
 | [],_ => by simp [leN]
 | b :: l,h => by
  have ih := xP0 l (by simp at h; omega)
  have hb := UInt8.toNat_lt b
  simp only [leN,List.length_cons,Nat.pow_succ]
  omega
theorem xY0 {l : Bs} {k : Nat} {b : UInt8} (h : l[k]? = some b) : leN (l.drop k) = b.toNat + 256 * leN (l.drop (k + 1)) := by
 obtain ⟨hk,rfl⟩ := List.getElem?_eq_some_iff.1 h
 rw [List.drop_eq_getElem_cons hk]
 rfl
theorem xMs (r : RdP) (n : Nat) : (rdB r n).length ≤ n := by
 unfold rdB
 split
 ·exact Nat.zero_le _
 ·exact List.length_take_le _ _
theorem vM (r : RdP) (n : Nat) : (rdR r n).rest.length ≤ r.rest.length := by
 unfold rdR
 split
 ·exact Nat.le_refl _
 ·simp
end Mailsack
namespace Go.Proofs.IX
open Go.RowKit Mailsack MM BB SH SV
abbrev rdO (r : RdP) : Obj := .cells #[xU r.rest,.bool r.bad] 191
structure Turn (g : Nat) (r : RdP) (w w' : World) : Prop where
 b : w'.heap[g]? = some (rdO r)
 tn : Tn (fun k => k = g) w w'
theorem Turn.trans {g : Nat} {r r' : RdP} {w w1 w2 : World} (h : Turn g r w w1) (k : Turn g r' w1 w2) : Turn g r' w w2 := ⟨k.b,h.tn.trans k.tn⟩
theorem xHv (g : Nat) (r : RdP) (n : Nat) (w : World) (h : w.heap[g]? = some (rdO r)) (hl : r.rest.length ≤ 1000000) :
  Calls Tryz.prog 169 #[.pointer (some ⟨g,0,none⟩),.int .i64 n] w fun e w' => e = .returned (xU (rdB r n)) ∧ Turn g (rdR r n) w w' := by
 obtain ⟨s,b⟩ := r
 have HB : Hid (rdB ⟨s,b⟩ n = if (b || decide (s.length < n)) = true then [] else s.take n) := hI' rfl
 have HR : Hid (rdR ⟨s,b⟩ n = if (b || decide (s.length < n)) = true then ⟨s,true⟩ else ⟨s.drop n,false⟩) := hI' rfl
 have c0 := xA h 0
 have c1 := xA h 1
 have f0 := xK h 0
 have f1 := xK h 1
 simp only [gA,gB,gC] at c0 c1
 have HH := hI' h
 simp only at hl
 clear h
 have HT : Hid (Turn g ⟨s,true⟩ w (w.setCell ⟨g,1,none⟩ (.bool true))) := hI' ⟨by have := yB HH.out 1 (.bool true); simpa using this,(Tn.refl (fun k => k = g) w).set (p := ⟨g,1,none⟩) (.inl rfl) _⟩
 cases b with
 | true =>
  rw [if_pos (by simp)] at HB HR
  rw [HB.out,HR.out]
  go_enter Tryz.func169,Tryz.ntmps169
  go_wp2
  go_ret
  exact ⟨rfl,HT.out⟩
 | false =>
  by_cases hs : s.length < n
  ·have hsi : (s.length : Int) < (n : Int) := by omega
   rw [if_pos (by simp [hs])] at HB HR
   rw [HB.out,HR.out]
   clear hs
   go_enter Tryz.func169,Tryz.ntmps169
   go_wp2
   go_ret
   exact ⟨rfl,HT.out⟩
  ·have hsi : ¬ ((s.length : Int) < (n : Int)) := by omega
   rw [if_neg (by simp; omega)] at HB HR
   rw [HB.out,HR.out]
   obtain ⟨sb,hsb⟩ : ∃ sb : ByteArray,(⟨s.toArray⟩ : ByteArray) = sb := ⟨_,rfl⟩
   have hss : sb.size = s.length := by rw [← hsb]; simp [ByteArray.size]
   have HTK : Hid (xU (s.take n) = .string (sb.extract 0 n) ∧ xU (s.drop n) = .string (sb.extract n sb.size)) := hI' (by
    rw [← hsb]
    constructor
    ·show Value.string _ = Value.string _
     congr 1
     apply ByteArray.ext
     rw [ByteArray.data_extract]
     apply Array.ext'
     simp
    ·show Value.string _ = Value.string _
     congr 1
     apply ByteArray.ext
     rw [ByteArray.data_extract]
     apply Array.ext'
     simp [ByteArray.size]
     rw [List.take_of_length_le (by simp)])
   have HT2 : Hid (Turn g ⟨s.drop n,false⟩ w (w.setCell ⟨g,0,none⟩ (.string (sb.extract n sb.size)))) := hI' ⟨by
    have := yB HH.out 0 (.string (sb.extract n sb.size))
    rw [this]
    simp [HTK.out.2],(Tn.refl (fun k => k = g) w).set (p := ⟨g,0,none⟩) (.inl rfl) _⟩
   rw [show xU s = .string sb from by rw [← hsb]] at c0
   have hni : (n : Int) ≤ (sb.size : Int) := by omega
   have hsi2 : ¬ ((sb.size : Int) < (n : Int)) := by omega
   clear hsb hs HT HH hss hsi
   go_enter Tryz.func169,Tryz.ntmps169
   go_wp2
   go_ret
   exact ⟨by rw [HTK.out.1]; rfl,HT2.out⟩
theorem xC6 (g : Nat) (r : RdP) (c : Nat) (w : World) (h : w.heap[g]? = some (rdO r)) (hl : r.rest.length ≤ 1000000) (hc : c ≤ 4) :
  Calls Tryz.prog 122 #[.pointer (some ⟨g,0,none⟩),.int .i64 c] w fun e w' => e = .returned (.int .i64 (zY r c)) ∧ Turn g (rdR r c) w w' := by
 have HB := hI' (xHv g r c w h hl)
 have HN : Hid (zY r c = leN (rdB r c)) := hI' rfl
 have hlen := xMs r c
 have HLT := hI' (xP0 (rdB r c) (by omega))
 obtain ⟨nv,hnv⟩ : ∃ nv,zY r c = nv := ⟨_,rfl⟩
 rw [hnv] at HN ⊢
 obtain ⟨l,hll⟩ : ∃ l,rdB r c = l := ⟨_,rfl⟩
 rw [hll] at HB HN hlen HLT
 have hl4 : l.length ≤ 4 := by omega
 clear h hl hc hnv hll hlen
 go_enter Tryz.func122,Tryz.ntmps122
 go_wp2_with fail
 refine HB.out.mono ?_
 rintro e w1 ⟨rfl,ht⟩
 have HT := hI' ht
 clear ht HB
 go_wp2_with fail
 go_loopw [6,7] (fun nv iv wr => ∃ (i : Int) (k : Nat),-1 ≤ i ∧ i < l.length ∧ i + 1 = k ∧ iv = .int .i64 i ∧ nv = .int .i64 (leN (l.drop k)) ∧ wr = w1) (fun _ iv _ => (intOf iv + 1).toNat)
 case atStart => exact ⟨_,l.length,by omega,by omega,by omega,rfl,by simp [leN],rfl⟩
 case round =>
  obtain ⟨i,k,hi0,hi1,hik,rfl,rfl,rfl⟩ := hrel
  by_cases hlt : 0 ≤ i
  ·obtain ⟨j,rfl⟩ : ∃ j : Nat,i = j := ⟨i.toNat,by omega⟩
   obtain rfl : k = j + 1 := by omega
   obtain ⟨x,hx⟩ : ∃ x,l[j]? = some x := ⟨_,List.getElem?_eq_getElem (by omega)⟩
   have HD := hI' (xY0 hx)
   have hix := fun w => zU (P := Tryz.prog) Tryz.underlying9 ⟨l.toArray⟩ (j : Int) j rfl (by show j < l.toArray.size; simp; omega) w
   have hby : yZ ⟨l.toArray⟩ j = (x.toNat : Int) := by
    unfold yZ
    show ((l.getD j 0).toNat : Int) = _
    rw [List.getD_eq_getElem?_getD,hx]; rfl
   rw [hby] at hix
   have hb := UInt8.toNat_lt x
   have hdl : (l.drop (j + 1)).length ≤ 3 := by rw [List.length_drop]; omega
   have hlt4 := xP0 (l.drop (j + 1)) (by omega)
   have hpow : 256 ^ (l.drop (j + 1)).length ≤ 256 ^ 3 := Nat.pow_le_pow_right (by omega) hdl
   have HOR := or_big (leN (l.drop (j + 1))) x.toNat (by omega) hb
   have hm : leN (l.drop (j + 1)) < 16777216 := by omega
   generalize leN (l.drop (j + 1)) = m at HD HOR hm
   clear hdl hlt4 hpow hx hby
   go_wp2
   exact ⟨⟨(j : Int) - 1,j,by omega,by omega,by omega,rfl,by rw [HD.out]; congr 1; omega,trivial⟩,by simp [intOf]⟩
  ·obtain rfl : k = 0 := by omega
   obtain rfl : i = -1 := by omega
   go_wp2
   go_ret
   exact ⟨by rw [HN.out]; rfl,HT.out⟩
theorem xKr (g : Nat) (r : RdP) (w : World) (h : w.heap[g]? = some (rdO r)) (hl : r.rest.length ≤ 1000000) :
  Calls Tryz.prog 124 #[.pointer (some ⟨g,0,none⟩)] w fun e w' => e = .returned (xU (xQi r)) ∧ Turn g (xH6 r) w w' := by
 have HN := hI' (xC6 g r 1 w h hl (by omega))
 rw [show (((1 : Nat)) : Int) = 1 from rfl] at HN
 have HB := hI' (fun W (h : Turn g (rdR r 1) w W) => xHv g (rdR r 1) (zY r 1) W h.b (Nat.le_trans (vM r 1) hl))
 have HV : Hid (xQi r = rdB (rdR r 1) (zY r 1) ∧ xH6 r = rdR (rdR r 1) (zY r 1)) := hI' ⟨rfl,rfl⟩
 rw [HV.out.1,HV.out.2]
 generalize zY r 1 = n at HN HB ⊢
 generalize rdR r 1 = r1 at HN HB ⊢
 clear h hl HV
 go_enter Tryz.func124,Tryz.ntmps124
 go_wp2_with fail
 refine HN.out.mono ?_
 rintro e w1 ⟨rfl,ht⟩
 have HT := hI' ht
 clear ht HN
 go_wp2_with fail
 refine (HB.out _ HT.out).mono ?_
 rintro e w2 ⟨rfl,ht⟩
 have HT2 := hI' (HT.out.trans ht)
 clear ht HT HB
 go_wp2
 go_ret
 exact ⟨rfl,HT2.out⟩
end Go.Proofs.IX
namespace Mailsack
def xFa {α : Type} (v : RdP → α) (t : RdP → RdP) (r0 : RdP) (k : Nat) (L : List α) (r : RdP) : Prop := ∀ m,xAz v t (k + m) r0 = L ++ xAz v t m r ∧ xB0 t (k + m) r0 = xB0 t m r
section
variable {α : Type} {v : RdP → α} {t : RdP → RdP} {r0 r : RdP} {k n : Nat} {L : List α}
theorem xD3 (v : RdP → α) (t : RdP → RdP) (r0 : RdP) : xFa v t r0 0 [] r0 := fun m => by rw [Nat.zero_add]; exact ⟨rfl,rfl⟩
theorem xD4 (h : xFa v t r0 k L r) (hb : r.bad = false) : xFa v t r0 (k + 1) (L ++ [v r]) (t r) := fun m => by
 have := h (m + 1)
 rw [show k + 1 + m = k + (m + 1) by omega,this.1,this.2]
 have e1 : xAz v t (m + 1) r = v r :: xAz v t m (t r) := by rw [xAz,hb,if_neg (by simp)]
 have e2 : xB0 t (m + 1) r = xB0 t m (t r) := by rw [xB0,hb,if_neg (by simp)]
 rw [e1,e2,List.append_assoc]
 exact ⟨rfl,rfl⟩
theorem xD5 (h : xFa v t r0 n L r) : xAz v t n r0 = L ∧ xB0 t n r0 = r := by
 have := h 0
 rw [Nat.add_zero] at this
 rw [this.1,this.2]
 exact ⟨by simp [xAz],rfl⟩
theorem xFj (h : xFa v t r0 k L r) (hk : k ≤ n) (hb : r.bad = true) : xAz v t n r0 = L ∧ xB0 t n r0 = r := by
 obtain ⟨m,rfl⟩ : ∃ m,n = k + m := ⟨n - k,by omega⟩
 rw [(h m).1,(h m).2]
 cases m with
 | zero => exact ⟨by simp [xAz],rfl⟩
 | succ m =>
  unfold xAz xB0
  rw [if_pos hb,if_pos hb]
  exact ⟨by simp,rfl⟩
end
theorem xJg (r : RdP) : zY r 1 < 256 := by
 have h := xP0 (rdB r 1) (by have := xMs r 1; omega)
 have h2 := xMs r 1
 have : 256 ^ (rdB r 1).length ≤ 256 ^ 1 := Nat.pow_le_pow_right (by omega) h2
 unfold zY
 omega
theorem xL4 (r : RdP) : (xJn r).rest.length ≤ r.rest.length := by
 unfold xJn
 have h1 := vM r 4
 have h2 := vM (rdR r 4) 1
 have h3 := vM (rdR (rdR r 4) 1) 4
 have h4 := vM (rdR (rdR (rdR r 4) 1) 4) 2
 omega
end Mailsack
namespace Go.Proofs.IX
open Go.RowKit Mailsack MM BB SH SV RK DS
abbrev maF (m : wN) : List Value := [.int .i64 m.uid,.int .i64 m.flags,.int .i64 m.object,.int .i64 m.size]
theorem xCb (m : wN) : (maF m).length = 4 := rfl
theorem yAz (x : wN) : ∀ u ∈ maF x,u.oneCell' = true := by
 intro u hu
 simp only [maF,List.mem_cons,List.not_mem_nil,or_false] at hu
 rcases hu with rfl | rfl | rfl | rfl <;> rfl
theorem infoMa : (Tryz.prog.info? 65).map (fun i => (i.zero,i.size,i.bytes)) = some (some (.agg #[.int .i64 0,.int .i64 0,.int .i64 0,.int .i64 0]),4,32) := by kernel_rfl
theorem tyMa : xWm Tryz.prog 45 65 4 32 maF := by
 obtain ⟨i,hi,hz,hs,hb⟩ := wH infoMa
 exact ⟨Tryz.underlying45,⟨i,_,hi,hz,hs,hb,rfl⟩,by omega,by omega,xCb,yAz⟩
theorem xD6 {w : World} {B : Nat} {v : Value} {l : List wN} (h : RdR 4 maF w B v l) : kZ w B v l := by
 obtain ⟨A,c,h1,h2,h3⟩ := h
 refine ⟨A,c,h1,h2,fun hn => ?_⟩
 obtain ⟨b,off,h4,h5,h6⟩ := h3 hn
 exact ⟨b,off,h4,h5,fun j x hx => ⟨h6 j x hx 0 _ rfl,h6 j x hx 1 _ rfl,h6 j x hx 2 _ rfl,h6 j x hx 3 _ rfl⟩⟩
abbrev xZu (n : Bs) (v x : Int) (mv : Value) : Obj := .cells #[xU n,.int .i64 v,.int .i64 x,mv] 47
abbrev maO (m : wN) : Obj := .cells #[.int .i64 m.uid,.int .i64 m.flags,.int .i64 m.object,.int .i64 m.size] 65
structure BxM (w : World) (g bb : Nat) (n : Bs) (v x : Int) (mv : Value) (cv : Value) (L : List wN) (r : RdP) (W : World) : Prop where
 o : W.heap[w.heap.size]? = some (xZu [] 0 0 (.slice none 0 0))
 b : W.heap[bb]? = some (xZu n v x cv)
 rd : W.heap[g]? = some (rdO r)
 own : xX 65 4 maF W w.heap.size mv L
 tn : Tn (fun k => k = g) w W
 hg : g < w.heap.size
 hb : w.heap.size < bb
section
variable {w W W' : World} {g bb : Nat} {n : Bs} {v x : Int} {mv cv : Value} {L : List wN} {r r' : RdP}
theorem BxM.turn (h : BxM w g bb n v x mv cv L r W) (ht : Turn g r' W W') : BxM w g bb n v x mv cv L r' W' := by
 have h1 := h.hg; have h2 := h.hb
 exact ⟨ht.tn.blk h.o (by omega),ht.tn.blk h.b (by omega),ht.b,h.own.tn ht.tn (fun q hq e => xX.neT h.own h.rd (by decide) (by rw [hq,e])),h.tn.trans ht.tn,h.hg,h.hb⟩
theorem BxM.below (h : BxM w g bb n v x mv cv L r W) (hb : Below W.heap.size W W') : BxM w g bb n v x mv cv L r W' :=
 ⟨xE h.o hb (xI h.o),xE h.b hb (xI h.b),xE h.rd hb (xI h.rd),h.own.below hb,h.tn.call hb,h.hg,h.hb⟩
theorem BxM.xHb (h : BxM w g bb n v x mv cv L r W) (z : Int) : BxM w g bb n z x mv cv L r (W.setCell ⟨bb,1,none⟩ (.int .i64 z)) := by
 have h1 := h.hg; have h2 := h.hb
 have e := yB h.b 1 (.int .i64 z)
 simp only [List.setIfInBounds_toArray,List.set_cons_zero,List.set_cons_succ] at e
 exact ⟨xZ h.o (p := ⟨bb,1,none⟩) (by show w.heap.size ≠ bb; omega) _,e,xZ h.rd (p := ⟨bb,1,none⟩) (by show g ≠ bb; omega) _,h.own.xBx (p := ⟨bb,1,none⟩) _ (xX.neT h.own h.b (by decide)),h.tn.set (p := ⟨bb,1,none⟩) (.inr (by show w.heap.size ≤ bb; omega)) _,h.hg,h.hb⟩
theorem BxM.put2 (h : BxM w g bb n v x mv cv L r W) (z : Int) : BxM w g bb n v z mv cv L r (W.setCell ⟨bb,2,none⟩ (.int .i64 z)) := by
 have h1 := h.hg; have h2 := h.hb
 have e := yB h.b 2 (.int .i64 z)
 simp only [List.setIfInBounds_toArray,List.set_cons_zero,List.set_cons_succ] at e
 exact ⟨xZ h.o (p := ⟨bb,2,none⟩) (by show w.heap.size ≠ bb; omega) _,e,xZ h.rd (p := ⟨bb,2,none⟩) (by show g ≠ bb; omega) _,h.own.xBx (p := ⟨bb,2,none⟩) _ (xX.neT h.own h.b (by decide)),h.tn.set (p := ⟨bb,2,none⟩) (.inr (by show w.heap.size ≤ bb; omega)) _,h.hg,h.hb⟩
theorem BxM.put3 (h : BxM w g bb n v x mv cv L r W) (z : Value) : BxM w g bb n v x mv z L r (W.setCell ⟨bb,3,none⟩ z) := by
 have h1 := h.hg; have h2 := h.hb
 have e := yB h.b 3 z
 simp only [List.setIfInBounds_toArray,List.set_cons_zero,List.set_cons_succ] at e
 exact ⟨xZ h.o (p := ⟨bb,3,none⟩) (by show w.heap.size ≠ bb; omega) _,e,xZ h.rd (p := ⟨bb,3,none⟩) (by show g ≠ bb; omega) _,h.own.xBx (p := ⟨bb,3,none⟩) _ (xX.neT h.own h.b (by decide)),h.tn.set (p := ⟨bb,3,none⟩) (.inr (by show w.heap.size ≤ bb; omega)) _,h.hg,h.hb⟩
theorem xWw {P : Nat → Prop} {a b c : World} {row : Option Nat} (h : Tn P a b) (hg : b.grownBy c row) (hr : ∀ k,row = some k → a.heap.size ≤ k) : Tn P a c :=
 ⟨hg.os.trans h.os,hg.tape.trans h.tape,hg.output.trans h.output,Nat.le_trans h.size hg.size,fun i hi hp => (hg.block i (Nat.lt_of_lt_of_le hi h.size) (fun e => by have := hr i e.symm; omega)).trans (h.block i hi hp)⟩
theorem BxM.app {L' : List wN} {mv' : Value} (h : BxM w g bb n v x mv cv L r W) (ha : xHn 65 4 maF W W' w.heap.size mv mv' L') : BxM w g bb n v x mv' cv L' r W' :=
 ⟨ha.keep h.o (xX.neT h.own h.o (by decide)),ha.keep h.b (xX.neT h.own h.b (by decide)),ha.keep h.rd (xX.neT h.own h.rd (by decide)),ha.own,xWw h.tn ha.grown (fun k hk => (World.ownsRow.lt h.own.row k hk).1),h.hg,h.hb⟩
end
structure MbM (w : World) (g bb : Nat) (n : Bs) (v x : Int) (mv cv : Value) (L : List wN) (mb : Nat) (m : wN) (r : RdP) (W : World) : Prop where
 bx : BxM w g bb n v x mv cv L r W
 m : W.heap[mb]? = some (maO m)
 hm : bb < mb
 ne : mv.ownBlock ≠ some mb
section
variable {w W W' : World} {g bb mb : Nat} {n : Bs} {v x : Int} {mv cv : Value} {L : List wN} {r r' : RdP} {m : wN}
theorem MbM.turn (h : MbM w g bb n v x mv cv L mb m r W) (ht : Turn g r' W W') : MbM w g bb n v x mv cv L mb m r' W' := by
 have h1 := h.bx.hg; have h2 := h.bx.hb; have h3 := h.hm
 exact ⟨h.bx.turn ht,ht.tn.blk h.m (by omega),h.hm,h.ne⟩
theorem MbM.put (h : MbM w g bb n v x mv cv L mb m r W) (i : Nat) (z : Value) (m' : wN) (e : (#[Value.int .i64 m.uid,.int .i64 m.flags,.int .i64 m.object,.int .i64 m.size] : Array Value).setIfInBounds i z = #[.int .i64 m'.uid,.int .i64 m'.flags,.int .i64 m'.object,.int .i64 m'.size]) :
  MbM w g bb n v x mv cv L mb m' r (W.setCell ⟨mb,i,none⟩ z) := by
 have h1 := h.bx.hg; have h2 := h.bx.hb; have h3 := h.hm
 exact ⟨⟨xZ h.bx.o (p := ⟨mb,i,none⟩) (by show w.heap.size ≠ mb; omega) _,xZ h.bx.b (p := ⟨mb,i,none⟩) (by show bb ≠ mb; omega) _,xZ h.bx.rd (p := ⟨mb,i,none⟩) (by show g ≠ mb; omega) _,h.bx.own.xBx (p := ⟨mb,i,none⟩) _ h.ne,h.bx.tn.set (p := ⟨mb,i,none⟩) (.inr (by show w.heap.size ≤ mb; omega)) _,h.bx.hg,h.bx.hb⟩,
  by have := yB h.m i z; rw [e] at this; exact this,h.hm,h.ne⟩
end
theorem xX.qJ {α : Type} {e : TypeId} {k : Nat} {f : α → List Value} {w : World} {base : Nat} {v : Value} {l : List α} (h : xX e k f w base v l) {g : Nat} (xs : List Value) (i : Nat) (hg : v.ownBlock ≠ some g) : xX e k f (SV.yR g i xs w) base v l := by
 refine ⟨h.1,?_⟩
 rcases h.2 with hn | ⟨g',cap,cur,h1,h2,h3,h4⟩
 ·exact .inl hn
 ·exact .inr ⟨g',cap,cur,h1,h2,yQ (fun e => hg (by rw [h1,e]; rfl)) xs i _ h3,h4⟩
theorem xXc (g : Nat) (r : RdP) (w : World) (h : w.heap[g]? = some (rdO r)) (hl : r.rest.length ≤ 1000000) :
  Calls Tryz.prog 123 #[.pointer (some ⟨g,0,none⟩)] w fun e w' => ∃ A c,e = .returned (.agg #[xU (xM6 r).name,.int .i64 (xM6 r).validity,.int .i64 (xM6 r).next,.slice A (xM6 r).zA.length c]) ∧ xX 65 4 maF w' w.heap.size (.slice A (xM6 r).zA.length c) (xM6 r).zA ∧ Turn g (xK5 r) w w' := by
 have hg := xI h
 have HO : Hid ((w.alloc (xZu [] 0 0 (.slice none 0 0))).heap[w.heap.size]? = some (xZu [] 0 0 (.slice none 0 0)) ∧ (w.alloc (xZu [] 0 0 (.slice none 0 0))).heap[g]? = some (rdO r) ∧ Tn (fun k => k = g) w (w.alloc (xZu [] 0 0 (.slice none 0 0)))) := hI' ⟨xM _ _,xP h _,(Tn.refl _ _).alloc _⟩
 have HTX := hI' (fun W (h : W.heap[g]? = some (rdO r)) => xKr g r W h hl)
 have HNU := hI' (fun (r' : RdP) (c : Nat) W (h : W.heap[g]? = some (rdO r')) (hl' : r'.rest.length ≤ r.rest.length) (hc : c ≤ 4) => xC6 g r' c W h (Nat.le_trans hl' hl) hc)
 have HV : Hid (xM6 r = ⟨xQi r,zY (xH6 r) 4,zY (rdR (xH6 r) 4) 4,xAz xR8 xJn (zY (xWk r) 1) (rdR (xWk r) 1)⟩ ∧ xK5 r = xB0 xJn (zY (xWk r) 1) (rdR (xWk r) 1) ∧ xWk r = rdR (rdR (xH6 r) 4) 4) := hI' ⟨rfl,rfl,rfl⟩
 have HL1 : Hid ((xH6 r).rest.length ≤ r.rest.length) := hI' (Nat.le_trans (vM _ _) (vM _ _))
 have HGG := hI' hg
 obtain ⟨bv,hbv⟩ : ∃ bv,xM6 r = bv := ⟨_,rfl⟩
 obtain ⟨br,hbr⟩ : ∃ br,xK5 r = br := ⟨_,rfl⟩
 rw [hbv,hbr]
 rw [hbv,hbr] at HV
 generalize xH6 r = r1 at HTX HV HL1
 generalize xQi r = nm at HTX HV
 clear h hl hg hbv hbr
 go_enter Tryz.func123,Tryz.ntmps123
 go_upto_region 1 with fail
 go_wp2_with fail
 refine (HTX.out _ HO.out.2.1).mono ?_
 rintro e w1 ⟨rfl,ht⟩
 have hB1 : BxM w g w1.heap.size nm 0 0 (.slice none 0 0) (.slice none 0 0) [] r1 (w1.alloc (xZu nm 0 0 (.slice none 0 0))) := by
  have hgg := HGG.out
  have hsz := ht.tn.size
  simp at hsz
  exact ⟨xP (ht.tn.blk HO.out.1 (by omega)) _,xM _ _,xP ht.b _,xX.nil _ _,(HO.out.2.2.trans ht.tn).alloc _,hgg,by omega⟩
 have HB1 := hI' hB1
 clear hB1 ht HO HTX HGG
 go_upto_region 2 with fail
 obtain ⟨bb,hbb⟩ : ∃ bb,w1.heap.size = bb := ⟨_,rfl⟩
 rw [hbb] at HB1 ⊢
 generalize w1.alloc (.cells #[xU nm,.int .i64 0,.int .i64 0,.slice none 0 0] 47) = w2 at HB1 ⊢
 clear hbb
 have HN := hI' (HNU.out r1 4 w2 HB1.out.rd HL1.out (by omega))
 rw [show (((4 : Nat)) : Int) = 4 from rfl] at HN
 go_wp2_with fail
 refine HN.out.mono ?_
 rintro e wa ⟨rfl,ht⟩
 have HA := hI' (HB1.out.turn ht)
 clear ht HN HB1
 have c0 := xA HA.out.b 1
 have y0 := xK HA.out.b 1
 simp only [gA,gB,gC] at c0
 go_upto_region 3 with fail
 have HB3 := hI' (HA.out.xHb ((zY r1 4 : Nat) : Int))
 clear c0 y0 HA
 generalize wa.setCell ⟨bb,1,none⟩ (.int .i64 ((zY r1 4 : Nat) : Int)) = w3 at HB3 ⊢
 have HL2 : Hid ((rdR r1 4).rest.length ≤ r.rest.length) := hI' (Nat.le_trans (vM _ _) HL1.out)
 have HN := hI' (HNU.out (rdR r1 4) 4 w3 HB3.out.rd HL2.out (by omega))
 rw [show (((4 : Nat)) : Int) = 4 from rfl] at HN
 go_wp2_with fail
 refine HN.out.mono ?_
 rintro e wa ⟨rfl,ht⟩
 have HA := hI' (HB3.out.turn ht)
 clear ht HN HB3
 have c0 := xA HA.out.b 2
 have y0 := xK HA.out.b 2
 simp only [gA,gB,gC] at c0
 go_upto_region 4 with fail
 have HB4 := hI' (HA.out.put2 ((zY (rdR r1 4) 4 : Nat) : Int))
 clear c0 y0 HA
 generalize wa.setCell ⟨bb,2,none⟩ (.int .i64 ((zY (rdR r1 4) 4 : Nat) : Int)) = w4 at HB4 ⊢
 have HL3 : Hid ((rdR (rdR r1 4) 4).rest.length ≤ r.rest.length) := hI' (Nat.le_trans (vM _ _) HL2.out)
 rw [HV.out.2.2] at HV
 generalize zY r1 4 = va at HB4 HV
 generalize zY (rdR r1 4) 4 = vx at HB4 HV
 generalize rdR (rdR r1 4) 4 = r3 at HB4 HV HL3
 have HN := hI' (HNU.out r3 1 w4 HB4.out.rd HL3.out (by omega))
 rw [show (((1 : Nat)) : Int) = 1 from rfl] at HN
 go_wp2_with fail
 refine HN.out.mono ?_
 rintro e w5 ⟨rfl,ht⟩
 have HB5 := hI' (HB4.out.turn ht)
 have HL5 : Hid ((rdR r3 1).rest.length ≤ r.rest.length) := hI' (Nat.le_trans (vM _ _) HL3.out)
 have hcn := xJg r3
 clear ht HN HB4 HL2 HL1
 generalize zY r3 1 = cn at HV hcn
 generalize rdR r3 1 = r5 at HB5 HL5 HV
 go_wp2_with fail
 go_loopw [16] (fun iv wr => ∃ (k : Nat) (u_ : Value) (L : List wN) (rk : RdP),k ≤ cn ∧ iv = .int .i64 k ∧ Hid (BxM w g bb nm va vx u_ u_ L rk wr ∧ xFa xR8 xJn r5 k L rk ∧ rk.rest.length ≤ r.rest.length ∧ L.length ≤ k)) (fun iv _ => cn - (intOf iv).toNat)
 case atStart => exact ⟨0,_,[],r5,Nat.zero_le _,rfl,hI' ⟨HB5.out,xD3 _ _ _,HL5.out,Nat.le_refl _⟩⟩
 case round =>
  obtain ⟨k,u_,L,rk,hk,rfl,HI⟩ := hrel
  clear HB5
  by_cases hlt : k < cn
  ·cases hbad : rk.bad with
   | true =>
    have hr := xA HI.out.1.rd 1
    simp only [gA,gB,gC] at hr
    rw [hbad] at hr
    have HE := hI' (And.intro HI.out.1 (xFj HI.out.2.1 hk hbad))
    clear hbad HI
    go_upto_region 13 with fail
    clear hr
    obtain ⟨wz,hwz⟩ : ∃ wz,wz = wr := ⟨_,rfl⟩
    rw [← hwz] at HE ⊢
    clear hwz
    obtain ⟨A7,c7,hmv,_⟩ := HE.out.1.own.form
    subst hmv
    have hbb := HE.out.1.b
    obtain ⟨d0,d1,d2,d3⟩ := xM5 hbb
    obtain ⟨o0,y0,f0,o1,y1,f1,o2,y2,f2,o3,y3,f3,HB⟩ := cpl4 HE.out.1.o ((Below.refl w.heap.size wz)) (by omega) (xU nm) (.int .i64 (va : Nat)) (.int .i64 (vx : Nat)) (.slice A7 L.length c7) _ rfl
    have HTN := hI' (xG0 (P := fun k => k = g) (a := w) (b := w.heap.size) (.inr (Nat.le_refl _)) [xU nm,.int .i64 (va : Nat),.int .i64 (vx : Nat),.slice A7 L.length c7] 0 wz HE.out.1.tn)
    have HRB := hI' (yQ (b := w.heap.size) (g := g) (by have := HE.out.1.hg; omega) [xU nm,.int .i64 (va : Nat),.int .i64 (vx : Nat),.slice A7 L.length c7] 0 wz HE.out.1.rd)
    have HOW := hI' (xX.qJ HE.out.1.own (g := w.heap.size) [xU nm,.int .i64 (va : Nat),.int .i64 (vx : Nat),.slice A7 L.length c7] 0 (xX.neT HE.out.1.own HE.out.1.o (by decide)))
    simp only [yR,Nat.reduceAdd] at HTN HRB HOW
    have HMV := HE.out.2
    rw [HMV.1] at HV
    rw [HMV.2] at HV
    clear HE hbb HMV
    go_wp2
    refine bodyPost_ret (v := .agg #[xU nm,.int .i64 (va : Nat),.int .i64 (vx : Nat),.slice A7 L.length c7]) (by simp [results,Tryz.results123,go_sem,f0,f1,f2,f3]) rfl ?_
    rw [HV.out.1,HV.out.2.1]
    exact ⟨_,_,rfl,HOW.out,HRB.out,HTN.out⟩
   | false =>
    have HN := hI' (HNU.out rk 4 wr HI.out.1.rd HI.out.2.2.1 (by omega))
    rw [show (((4 : Nat)) : Int) = 4 from rfl] at HN
    have hr := xA HI.out.1.rd 1
    simp only [gA,gB,gC] at hr
    rw [hbad] at hr
    have HBD := hI' hbad
    clear hbad
    go_wp2_with fail
    clear hr
    refine HN.out.mono ?_
    rintro e wa ⟨rfl,ht⟩
    have hA := HI.out.1.turn ht
    have HM0 := hI' (show MbM w g bb nm va vx u_ u_ L wa.heap.size ⟨((zY rk 4 : Nat) : Int),0,0,0⟩ (rdR rk 4) (wa.alloc (maO ⟨((zY rk 4 : Nat) : Int),0,0,0⟩)) from ⟨hA.below ((Below.refl _ _).alloc (Nat.le_refl _) _),xM _ _,xI hA.b,fun e => by have := (World.ownsRow.lt hA.own.row _ e).2; omega⟩)
    have HI2 := hI' HI.out.2
    clear ht HN HI hA
    go_upto_region 8 with fail
    obtain ⟨mb,hmb⟩ : ∃ mb,wa.heap.size = mb := ⟨_,rfl⟩
    rw [hmb] at HM0 ⊢
    generalize wa.alloc (.cells #[.int .i64 ((zY rk 4 : Nat) : Int),.int .i64 0,.int .i64 0,.int .i64 0] 65) = wb at HM0 ⊢
    clear hmb
    have HR1 : Hid ((rdR rk 4).rest.length ≤ r.rest.length) := hI' (Nat.le_trans (vM _ _) HI2.out.2.1)
    have HR2 : Hid ((rdR (rdR rk 4) 1).rest.length ≤ r.rest.length) := hI' (Nat.le_trans (vM _ _) HR1.out)
    have HR3 : Hid ((rdR (rdR (rdR rk 4) 1) 4).rest.length ≤ r.rest.length) := hI' (Nat.le_trans (vM _ _) HR2.out)
    have HN := hI' (HNU.out (rdR rk 4) 1 wb HM0.out.bx.rd HR1.out (by omega))
    rw [show (((1 : Nat)) : Int) = 1 from rfl] at HN
    go_wp2_with fail
    refine HN.out.mono ?_
    rintro e wa ⟨rfl,ht⟩
    have HA := hI' (HM0.out.turn ht)
    clear ht HN HM0
    have c0 := xA HA.out.m 1
    have y0 := xK HA.out.m 1
    simp only [gA,gB,gC] at c0
    go_upto_region 9 with fail
    have HM1 := hI' (HA.out.put 1 (.int .i64 ((zY (rdR rk 4) 1 : Nat) : Int)) ⟨((zY rk 4 : Nat) : Int),((zY (rdR rk 4) 1 : Nat) : Int),0,0⟩ rfl)
    clear c0 y0 HA
    generalize wa.setCell ⟨mb,1,none⟩ (.int .i64 ((zY (rdR rk 4) 1 : Nat) : Int)) = wc at HM1 ⊢
    have HN := hI' (HNU.out (rdR (rdR rk 4) 1) 4 wc HM1.out.bx.rd HR2.out (by omega))
    rw [show (((4 : Nat)) : Int) = 4 from rfl] at HN
    go_wp2_with fail
    refine HN.out.mono ?_
    rintro e wa ⟨rfl,ht⟩
    have HA := hI' (HM1.out.turn ht)
    clear ht HN HM1
    have c0 := xA HA.out.m 2
    have y0 := xK HA.out.m 2
    simp only [gA,gB,gC] at c0
    go_upto_region 10 with fail
    have HM2 := hI' (HA.out.put 2 (.int .i64 ((zY (rdR (rdR rk 4) 1) 4 : Nat) : Int)) ⟨((zY rk 4 : Nat) : Int),((zY (rdR rk 4) 1 : Nat) : Int),((zY (rdR (rdR rk 4) 1) 4 : Nat) : Int),0⟩ rfl)
    clear c0 y0 HA
    generalize wa.setCell ⟨mb,2,none⟩ (.int .i64 ((zY (rdR (rdR rk 4) 1) 4 : Nat) : Int)) = wd at HM2 ⊢
    have HN := hI' (HNU.out (rdR (rdR (rdR rk 4) 1) 4) 2 wd HM2.out.bx.rd HR3.out (by omega))
    rw [show (((2 : Nat)) : Int) = 2 from rfl] at HN
    go_wp2_with fail
    refine HN.out.mono ?_
    rintro e wa ⟨rfl,ht⟩
    have HA := hI' (HM2.out.turn ht)
    clear ht HN HM2
    have c0 := xA HA.out.m 3
    have y0 := xK HA.out.m 3
    simp only [gA,gB,gC] at c0
    go_upto_region 11 with fail
    have HM3 := hI' (HA.out.put 3 (.int .i64 ((zY (rdR (rdR (rdR rk 4) 1) 4) 2 : Nat) : Int)) ⟨((zY rk 4 : Nat) : Int),((zY (rdR rk 4) 1 : Nat) : Int),((zY (rdR (rdR rk 4) 1) 4 : Nat) : Int),((zY (rdR (rdR (rdR rk 4) 1) 4) 2 : Nat) : Int)⟩ rfl)
    clear c0 y0 HA
    generalize wa.setCell ⟨mb,3,none⟩ (.int .i64 ((zY (rdR (rdR (rdR rk 4) 1) 4) 2 : Nat) : Int)) = we at HM3 ⊢
    have HNX := hI' (xD4 HI2.out.1 HBD.out)
    have HLN := hI' (Nat.le_trans (xL4 rk) HI2.out.2.1)
    have HVV : Hid (xR8 rk = ⟨((zY rk 4 : Nat) : Int),((zY (rdR rk 4) 1 : Nat) : Int),((zY (rdR (rdR rk 4) 1) 4 : Nat) : Int),((zY (rdR (rdR (rdR rk 4) 1) 4) 2 : Nat) : Int)⟩ ∧ xJn rk = rdR (rdR (rdR (rdR rk 4) 1) 4) 2) := hI' ⟨rfl,rfl⟩
    rw [← HVV.out.1,← HVV.out.2] at HM3
    have hme := HM3.out.m
    rw [HVV.out.1] at hme
    simp only [maO] at hme
    obtain ⟨e0,e1,e2,e3⟩ := xM5 hme
    have hbb := HM3.out.bx.b
    have b3 := xA hbb 3
    simp only [gA,gB,gC] at b3
    have HMF : Hid (maF (xR8 rk) = [.int .i64 ((zY rk 4 : Nat) : Int),.int .i64 ((zY (rdR rk 4) 1 : Nat) : Int),.int .i64 ((zY (rdR (rdR rk 4) 1) 4 : Nat) : Int),.int .i64 ((zY (rdR (rdR (rdR rk 4) 1) 4) 2 : Nat) : Int)]) := hI' (by rw [HVV.out.1])
    generalize xR8 rk = mk at HNX HM3 HMF
    generalize xJn rk = rn at HNX HM3 HLN
    generalize zY rk 4 = n0 at e0 HMF
    generalize zY (rdR rk 4) 1 = n1 at e1 HMF
    generalize zY (rdR (rdR rk 4) 1) 4 = n2 at e2 HMF
    generalize zY (rdR (rdR (rdR rk 4) 1) 4) 2 = n3 at e3 HMF
    have HB := hI' HM3.out.bx
    have HLL := hI' HI2.out.2.2
    clear hme hbb HM3 HVV HR1 HR2 HR3 HI2 HBD
    obtain ⟨A6,c6,hu,_⟩ := HB.out.own.form
    have HAD : Hid (∀ v8 w8,xHn 65 4 maF (we.alloc (.cells #[.int .i64 (n0 : Nat),.int .i64 (n1 : Nat),.int .i64 (n2 : Nat),.int .i64 (n3 : Nat)] 65)) w8 w.heap.size u_ v8 (L ++ [mk]) → Hid (BxM w g bb nm va vx v8 v8 (L ++ [mk]) rn (w8.setCell ⟨bb,3,none⟩ v8) ∧ w8.heap[bb]? = some (xZu nm va vx u_))) := hI' fun v8 w8 h8 => hI' (by
     have ha := BxM.app (HB.out.below ((Below.refl we.heap.size we).alloc (Nat.le_refl _) _)) h8
     exact ⟨ha.put3 v8,ha.b⟩)
    have HO := hI' (And.intro HB.out.own HB.out.tn.size)
    subst hu
    clear HB
    go_wp2_with (at_builtin; refine vS tyMa rfl _ _ rfl rfl rfl (HO.out.1.alloc _) (RdR.lit (m := [mk]) xCb _ _ (by rw [List.flatMap_cons,List.flatMap_nil,List.append_nil,HMF.out])) (by have := HLL.out; simp; omega) (by have := HO.out.2; simp; omega) ?_; intro v8 w8 h8; obtain ⟨A8,c8,hv8,_⟩ := h8.own.form; rw [show (L ++ [mk]).length = L.length + 1 by simp] at hv8; subst hv8; have HA8 := HAD.out _ _ h8; have s8 := xA HA8.out.2 3; have y8 := xK HA8.out.2 3; simp only [gA,gB,gC] at s8; clear h8)
    exact ⟨⟨k + 1,_,L ++ [mk],rn,by omega,by go_num,hI' ⟨HA8.out.1,HNX.out,HLN.out,by have := HLL.out; simp; omega⟩⟩,by simp [intOf]; omega⟩
  ·obtain rfl : k = cn := by omega
   have HE := hI' (And.intro HI.out.1 (xD5 HI.out.2.1))
   clear HI
   go_upto_region 13 with fail
   obtain ⟨wz,hwz⟩ : ∃ wz,wz = wr := ⟨_,rfl⟩
   rw [← hwz] at HE ⊢
   clear hwz
   obtain ⟨A7,c7,hmv,_⟩ := HE.out.1.own.form
   subst hmv
   have hbb := HE.out.1.b
   obtain ⟨d0,d1,d2,d3⟩ := xM5 hbb
   obtain ⟨o0,y0,f0,o1,y1,f1,o2,y2,f2,o3,y3,f3,HB⟩ := cpl4 HE.out.1.o ((Below.refl w.heap.size wz)) (by omega) (xU nm) (.int .i64 (va : Nat)) (.int .i64 (vx : Nat)) (.slice A7 L.length c7) _ rfl
   have HTN := hI' (xG0 (P := fun k => k = g) (a := w) (b := w.heap.size) (.inr (Nat.le_refl _)) [xU nm,.int .i64 (va : Nat),.int .i64 (vx : Nat),.slice A7 L.length c7] 0 wz HE.out.1.tn)
   have HRB := hI' (yQ (b := w.heap.size) (g := g) (by have := HE.out.1.hg; omega) [xU nm,.int .i64 (va : Nat),.int .i64 (vx : Nat),.slice A7 L.length c7] 0 wz HE.out.1.rd)
   have HOW := hI' (xX.qJ HE.out.1.own (g := w.heap.size) [xU nm,.int .i64 (va : Nat),.int .i64 (vx : Nat),.slice A7 L.length c7] 0 (xX.neT HE.out.1.own HE.out.1.o (by decide)))
   simp only [yR,Nat.reduceAdd] at HTN HRB HOW
   have HMV := HE.out.2
   rw [HMV.1] at HV
   rw [HMV.2] at HV
   clear HE hbb HMV
   go_wp2
   refine bodyPost_ret (v := .agg #[xU nm,.int .i64 (va : Nat),.int .i64 (vx : Nat),.slice A7 L.length c7]) (by simp [results,Tryz.results123,go_sem,f0,f1,f2,f3]) rfl ?_
   rw [HV.out.1,HV.out.2.1]
   exact ⟨_,_,rfl,HOW.out,HRB.out,HTN.out⟩
end Go.Proofs.IX
namespace Go.Proofs.IX
open Go.RowKit Mailsack MM BB SH SV RK DS
structure xSi where
 b : xGy
 A : Option Addr
 c : Nat
abbrev xSi.mv (p : xSi) : Value := .slice p.A p.b.zA.length p.c
abbrev bxF (p : xSi) : List Value := [xU p.b.name,.int .i64 p.b.validity,.int .i64 p.b.next,p.mv]
abbrev bxV (p : xSi) : Value := .agg #[xU p.b.name,.int .i64 p.b.validity,.int .i64 p.b.next,p.mv]
theorem xCg (p : xSi) : (bxF p).length = 4 := rfl
theorem yC1 (x : xSi) : ∀ u ∈ bxF x,u.oneCell' = true := by
 intro u hu
 simp only [bxF,List.mem_cons,List.not_mem_nil,or_false] at hu
 rcases hu with rfl | rfl | rfl | rfl <;> rfl
theorem infoBx : (Tryz.prog.info? 47).map (fun i => (i.zero,i.size,i.bytes)) = some (some (.agg #[.string ⟨#[]⟩,.int .i64 0,.int .i64 0,.slice none 0 0]),4,56) := by kernel_rfl
theorem tyBx : xWm Tryz.prog 38 47 4 56 bxF := by
 obtain ⟨i,hi,hz,hs,hb⟩ := wH infoBx
 exact ⟨Tryz.underlying38,⟨i,_,hi,hz,hs,hb,rfl⟩,by omega,by omega,xCg,yC1⟩
abbrev txF (s : Bs) : List Value := [xU s]
theorem rZ (s : Bs) : (txF s).length = 1 := rfl
theorem yA8 (x : Bs) : ∀ u ∈ txF x,u.oneCell' = true := by
 intro u hu; rw [List.mem_singleton.1 hu]; rfl
theorem infoTx : (Tryz.prog.info? 9).map (fun i => (i.zero,i.size,i.bytes)) = some (some (.string ⟨#[]⟩),1,16) := by kernel_rfl
theorem tyTx : xWm Tryz.prog 25 9 1 16 txF := by
 obtain ⟨i,hi,hz,hs,hb⟩ := wH infoTx
 exact ⟨Tryz.underlying25,⟨i,_,hi,hz,hs,hb,rfl⟩,by omega,by omega,rZ,yA8⟩
theorem xCq {w : World} {B : Nat} {v : Value} {l : List Bs} (h : RdR 1 txF w B v l) : RdS w B v l := by
 obtain ⟨A,c,h1,h2,h3⟩ := h
 refine ⟨A,c,h1,h2,fun hn => ?_⟩
 obtain ⟨b,off,h4,h5,h6⟩ := h3 hn
 refine ⟨b,off,h4,h5,fun j x hx => ?_⟩
 have := h6 j x hx 0 _ rfl
 rw [Nat.mul_one,Nat.add_zero] at this
 exact this
theorem xDk {w : World} {B : Nat} {v : Value} {l : List xSi} (h : RdR 4 bxF w B v l) (hm : ∀ p ∈ l,kZ w B p.mv p.b.zA) : qW w B v (l.map (·.b)) := by
 obtain ⟨A,c,h1,h2,h3⟩ := h
 refine ⟨A,c,by rw [List.length_map]; exact h1,by rw [List.length_map]; exact h2,fun hn => ?_⟩
 obtain ⟨b,off,h4,h5,h6⟩ := h3 (by simpa using hn)
 refine ⟨b,off,h4,h5,fun j x hx => ?_⟩
 rw [List.getElem?_map] at hx
 obtain ⟨p,hp,rfl⟩ := Option.map_eq_some_iff.1 hx
 exact ⟨p.mv,h6 j p hp 0 _ rfl,h6 j p hp 1 _ rfl,h6 j p hp 2 _ rfl,h6 j p hp 3 _ rfl,hm p (List.mem_of_getElem? hp)⟩
theorem xX.xG9 {α : Type} {e : TypeId} {k : Nat} {f : α → List Value} {w w' : World} {base : Nat} {v : Value} {l : List α} (h : xX e k f w base v l) (hk : ∀ (g : Nat) cs,w.heap[g]? = some (.cells cs e (0,0)) → w'.heap[g]? = some (.cells cs e (0,0))) : xX e k f w' base v l := by
 refine ⟨h.1,?_⟩
 rcases h.2 with hn | ⟨g,cap,cur,h1,h2,h3,h4⟩
 ·exact .inl hn
 ·exact .inr ⟨g,cap,cur,h1,h2,hk g _ h3,h4⟩
abbrev ixO (a b : Value) (n : Int) : Obj := .cells #[a,b,.int .i64 n] 40
structure TkI (w : World) (g xb : Nat) (cb cs ob os : Value) (bl : List xSi) (sl : List Bs) (n : Int) (r : RdP) (W : World) : Prop where
 o : W.heap[w.heap.size]? = some (ixO (.slice none 0 0) (.slice none 0 0) 0)
 x : W.heap[xb]? = some (ixO cb cs n)
 rd : W.heap[g]? = some (rdO r)
 bo : xX 47 4 bxF W w.heap.size ob bl
 ma : ∀ p ∈ bl,xX 65 4 maF W w.heap.size p.mv p.b.zA
 su : xX 9 1 txF W w.heap.size os sl
 bel : Below w.heap.size w W
 hg : w.heap.size < g
 hx : g < xb
section
variable {w W W' : World} {g xb : Nat} {cb cs ob os : Value} {bl : List xSi} {sl : List Bs} {n : Int} {r r' : RdP}
theorem TkI.below (h : TkI w g xb cb cs ob os bl sl n r W) (hb : Below W.heap.size W W') : TkI w g xb cb cs ob os bl sl n r W' :=
 ⟨xE h.o hb (xI h.o),xE h.x hb (xI h.x),xE h.rd hb (xI h.rd),h.bo.below hb,fun p hp => (h.ma p hp).below hb,h.su.below hb,h.bel.trans (hb.mono h.bel.size),h.hg,h.hx⟩
theorem TkI.turn (h : TkI w g xb cb cs ob os bl sl n r W) (ht : Turn g r' W W') : TkI w g xb cb cs ob os bl sl n r' W' := by
 have h1 := h.hg; have h2 := h.hx
 have hne : ∀ (e : TypeId) (q : Nat) cs',e ≠ 191 → W.heap[q]? = some (.cells cs' e (0,0)) → q ≠ g := fun e q cs' he hq hqg => by
  subst hqg
  rw [h.rd] at hq
  injection hq with hq
  injection hq with _ hq
  exact he hq.symm
 exact ⟨ht.tn.blk h.o (by omega),ht.tn.blk h.x (by omega),ht.b,xX.xG9 h.bo fun q cs' hq => ht.tn.blk hq (hne _ q cs' (by decide) hq),fun p hp => xX.xG9 (h.ma p hp) fun q cs' hq => ht.tn.blk hq (hne _ q cs' (by decide) hq),xX.xG9 h.su fun q cs' hq => ht.tn.blk hq (hne _ q cs' (by decide) hq),h.bel.trans (ht.tn.below (fun k hk => by omega) h.bel.size),h.hg,h.hx⟩
theorem TkI.cell (h : TkI w g xb cb cs ob os bl sl n r W) (i : Nat) (v cb' cs' : Value) (e : (#[cb,cs,Value.int .i64 n] : Array Value).setIfInBounds i v = #[cb',cs',.int .i64 n]) : TkI w g xb cb' cs' ob os bl sl n r (W.setCell ⟨xb,i,none⟩ v) := by
 have h1 := h.hg; have h2 := h.hx
 have hne : ∀ (e : TypeId) (q : Nat) cs',e ≠ 40 → W.heap[q]? = some (.cells cs' e (0,0)) → q ≠ xb := fun e q cs' he hq hqg => by
  subst hqg
  rw [h.x] at hq
  injection hq with hq
  injection hq with _ hq
  exact he hq.symm
 have hs := yB h.x i v
 rw [e] at hs
 exact ⟨xZ h.o (p := ⟨xb,i,none⟩) (by show w.heap.size ≠ xb; omega) _,hs,xZ h.rd (p := ⟨xb,i,none⟩) (by show g ≠ xb; omega) _,xX.xG9 h.bo fun q cs' hq => xZ hq (p := ⟨xb,i,none⟩) (hne _ q cs' (by decide) hq) _,fun p hp => xX.xG9 (h.ma p hp) fun q cs' hq => xZ hq (p := ⟨xb,i,none⟩) (hne _ q cs' (by decide) hq) _,xX.xG9 h.su fun q cs' hq => xZ hq (p := ⟨xb,i,none⟩) (hne _ q cs' (by decide) hq) _,h.bel.setCell (p := ⟨xb,i,none⟩) (by show w.heap.size ≤ xb; omega) _,h.hg,h.hx⟩
theorem TkI.appB {p : xSi} {ob' : Value} (h : TkI w g xb cb cs ob os bl sl n r W) (ha : xHn 47 4 bxF W W' w.heap.size ob ob' (bl ++ [p])) (hp : xX 65 4 maF W w.heap.size p.mv p.b.zA) : TkI w g xb cb cs ob' os (bl ++ [p]) sl n r W' :=
 ⟨ha.keep h.o (xX.neT h.bo h.o (by decide)),ha.keep h.x (xX.neT h.bo h.x (by decide)),ha.keep h.rd (xX.neT h.bo h.rd (by decide)),ha.own,fun q hq => by
  rcases List.mem_append.1 hq with hq | hq
  ·exact xX.xG9 (h.ma q hq) fun q cs' hq => ha.keep hq (xX.neT h.bo hq (by decide))
  ·rw [List.mem_singleton.1 hq]; exact xX.xG9 hp fun q cs' hq => ha.keep hq (xX.neT h.bo hq (by decide)),xX.xG9 h.su fun q cs' hq => ha.keep hq (xX.neT h.bo hq (by decide)),ha.bel h.bo (Nat.le_refl _) h.bel h.bel.size,h.hg,h.hx⟩
theorem TkI.appS {s : Bs} {os' : Value} (h : TkI w g xb cb cs ob os bl sl n r W) (ha : xHn 9 1 txF W W' w.heap.size os os' (sl ++ [s])) : TkI w g xb cb cs ob os' bl (sl ++ [s]) n r W' :=
 ⟨ha.keep h.o (xX.neT h.su h.o (by decide)),ha.keep h.x (xX.neT h.su h.x (by decide)),ha.keep h.rd (xX.neT h.su h.rd (by decide)),xX.xG9 h.bo fun q cs' hq => ha.keep hq (xX.neT h.su hq (by decide)),fun q hq => xX.xG9 (h.ma q hq) fun q cs' hq => ha.keep hq (xX.neT h.su hq (by decide)),ha.own,ha.bel h.su (Nat.le_refl _) h.bel h.bel.size,h.hg,h.hx⟩
end
structure wR (base : Nat) (w : World) (bv sv : Value) (x : jU) : Prop where
 bo : ∃ bl : List xSi,x.boxes = bl.map (·.b) ∧ xX 47 4 bxF w base bv bl ∧ ∀ p ∈ bl,xX 65 4 maF w base p.mv p.b.zA
 su : xX 9 1 txF w base sv x.subs
section
variable {w w' : World} {base : Nat} {bv sv : Value} {x : jU}
theorem wR.rd (h : wR base w bv sv x) : xQ6 w w.heap.size bv sv x := by
 obtain ⟨bl,e,h1,h2⟩ := h.bo
 refine ⟨?_,xCq (h.su.rd rZ)⟩
 rw [e]
 exact xDk (h1.rd xCg) (fun p hp => xD6 ((h2 p hp).rd xCb))
theorem wR.below (h : wR base w bv sv x) (hb : Below w.heap.size w w') : wR base w' bv sv x := by
 obtain ⟨bl,e,h1,h2⟩ := h.bo
 exact ⟨⟨bl,e,h1.below hb,fun p hp => (h2 p hp).below hb⟩,h.su.below hb⟩
theorem wR.less {base' : Nat} (h : wR base w bv sv x) (hb : base' ≤ base) : wR base' w bv sv x := by
 obtain ⟨bl,e,h1,h2⟩ := h.bo
 exact ⟨⟨bl,e,h1.less hb,fun p hp => (h2 p hp).less hb⟩,h.su.less hb⟩
theorem wR.set (h : wR base w bv sv x) {g : Nat} {cs : Array Value} {T : TypeId} {fr : Nat × Nat} (hg : w.heap[g]? = some (.cells cs T fr)) (h1 : T ≠ 47) (h2 : T ≠ 65) (h3 : T ≠ 9) (xs : List Value) (i : Nat) : wR base (SV.yR g i xs w) bv sv x := by
 obtain ⟨bl,e,k1,k2⟩ := h.bo
 exact ⟨⟨bl,e,xX.qJ k1 xs i (xX.neT k1 hg h1),fun p hp => xX.qJ (k2 p hp) xs i (xX.neT (k2 p hp) hg h2)⟩,xX.qJ h.su xs i (xX.neT h.su hg h3)⟩
theorem wR.form (h : wR base w bv sv x) : ∃ A1 n1 c1 A2 n2 c2,bv = .slice A1 n1 c1 ∧ sv = .slice A2 n2 c2 := by
 obtain ⟨bl,e,h1,h2⟩ := h.bo
 obtain ⟨A1,c1,e1,_⟩ := h1.form
 obtain ⟨A2,c2,e2,_⟩ := h.su.form
 exact ⟨A1,_,c1,A2,_,c2,e1,e2⟩
theorem wR.zero (w : World) (base : Nat) : wR base w (.slice none 0 0) (.slice none 0 0) ix0 := ⟨⟨[],rfl,xX.nil w base,fun _ h => nomatch h⟩,xX.nil w base⟩
end
end Go.Proofs.IX
