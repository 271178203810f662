/- Contracts of functions of the program. Conditions: those that each theorem states. -/
import Derived.Test.YtnaiekglbemhcaaGreatDoorVaultFreshProofB41
import Derived.Test.YtnaiekglbemhcaaGreatDoorVaultFreshProofB16
import Derived.Test.YtnaiekglbemhcaaGreatDoorVaultFreshProofB11
set_option maxHeartbeats 8000000
set_option maxRecDepth 100000
namespace Mailsack
def xNb (C : List Wr) (i : Nat) : Nat → Option Bs
 | 0 => none
 | m + 1 => if (C.getD m ⟨0,[]⟩).at_ = (i : Int) then some (C.getD m ⟨0,[]⟩).data else xNb C i m
def xJ5 (d : Dk) (i : Nat) : Bs := match xNb d.cache i d.cache.length with
 | some x => x
 | none => d.secs.getD i []
end Mailsack
namespace Go.Proofs.VA
open Go.RowKit Mailsack MM BB SH SV RK DS IX Go.Proofs.ST
theorem xOi (va vb : Value) (d : Dk) (i : Nat) (w : World) (h : RdD w w.heap.size va vb d) (hr : zC d = true) (hi : i < d.secs.length) :
  Calls Tryz.prog 33 #[.agg #[va,vb],.int .i64 i] w fun e w' => e = .returned (.tuple #[xU (xJ5 d i),.int .i64 0]) ∧ Below w.heap.size w w' := by
 obtain ⟨A1,c1,A2,c2,rfl,rfl⟩ := yH h
 have HR := hI' (fun W (hb : Below w.heap.size w W) => wV (.slice A1 d.secs.length c1) (.slice A2 d.cache.length c2) d W ((h.below hb (Nat.le_refl _)).more hb.size))
 rw [hr] at HR
 have HD : Hid (∀ W,Below w.heap.size w W → RdD W w.heap.size (.slice A1 d.secs.length c1) (.slice A2 d.cache.length c2) d) := hI' (fun W hb => h.below hb (Nat.le_refl _))
 have HE : Hid (∀ x,xNb d.cache i d.cache.length = x → xJ5 d i = match x with | some x => x | none => d.secs.getD i []) := hI' (fun x e => by rw [← e]; rfl)
 generalize xJ5 d i = rp at HE ⊢
 have hi1 : ¬ (d.secs.length ≤ i) := by omega
 have hi2 : ¬ ((d.secs.length : Int) ≤ (i : Int)) := by omega
 have hi3 : ¬ ((i : Int) < 0) := by omega
 clear h hr
 go_enter Tryz.func33,Tryz.ntmps33
 go_upto_region 1 with fail
 have H1 := hI' (And.intro (xM w (yD (.slice A1 d.secs.length c1) (.slice A2 d.cache.length c2))) ((Below.refl w.heap.size w).alloc (Nat.le_refl _) (yD (.slice A1 d.secs.length c1) (.slice A2 d.cache.length c2))))
 obtain ⟨w1,hw1⟩ : ∃ w1,w.alloc (yD (.slice A1 d.secs.length c1) (.slice A2 d.cache.length c2)) = w1 := ⟨_,rfl⟩
 rw [hw1] at H1
 rw [hw1]
 clear hw1
 have hb := H1.out.1
 obtain ⟨e0,e1⟩ := uG hb
 clear hb
 go_wp2_with fail
 refine (HR.out _ H1.out.2).mono ?_
 rintro e w2 ⟨rfl,hb2⟩
 have H2 := hI' (And.intro (xE H1.out.1 hb2 (xI H1.out.1)) (H1.out.2.trans (hb2.mono H1.out.2.size)))
 clear H1 HR hb2 e0 e1
 have hb := H2.out.1
 obtain ⟨e0,e1⟩ := uG hb
 clear hb
 have hlc : d.cache.length ≤ 1000000 := (HD.out _ H2.out.2).lc
 go_wp2_with fail
 clear e0 e1
 go_loopw [6] (fun iv wr => ∃ m : Nat,m ≤ d.cache.length ∧ iv = .int .i64 ((m : Int) - 1) ∧ Hid (xNb d.cache i d.cache.length = xNb d.cache i m ∧ wr.heap[w.heap.size]? = some (yD (.slice A1 d.secs.length c1) (.slice A2 d.cache.length c2)) ∧ Below w.heap.size w wr)) (fun iv _ => (intOf iv + 1).toNat)
 case atStart => exact ⟨_,Nat.le_refl _,rfl,hI' ⟨rfl,H2.out.1,H2.out.2⟩⟩
 case round =>
  obtain ⟨m,hm,rfl,HI⟩ := hrel
  rcases m with _ | k
  ·rw [show (((0 : Nat) : Int) - 1) = -1 from rfl]
   have HE2 := hI' (HE.out _ HI.out.1)
   simp only [xNb] at HE2
   obtain ⟨b,off,rfl,hbw,hcs⟩ : ∃ b off,A1 = some ⟨b,off,none⟩ ∧ b < w.heap.size ∧ wr.cell? ⟨b,off + i,none⟩ = some (xU (d.secs.getD i [])) := by
    obtain ⟨A,c,e1,_,h3⟩ := (HD.out _ HI.out.2.2).s
    obtain ⟨b,off,h4,h5,h6⟩ := h3 (by omega)
    injection e1 with e1 _ e3
    subst e1 e3
    exact ⟨b,off,h4,h5,by rw [List.getD_eq_getElem?_getD,List.getElem?_eq_getElem hi]; exact h6 i _ (List.getElem?_eq_getElem hi)⟩
   have hb := HI.out.2.1
   obtain ⟨e0,e1⟩ := uG hb
   have HB := hI' HI.out.2.2
   clear hb HI
   rw [← HE2.out] at hcs
   go_wp2
   go_ret2
   exact ⟨rfl,HB.out⟩
  ·rw [show (((k + 1 : Nat) : Int) - 1) = (k : Int) by omega]
   have hx : d.cache[k]? = some d.cache[k] := List.getElem?_eq_getElem (by omega)
   have HI3 := HI.out.1
   simp only [xNb] at HI3
   rw [show d.cache.getD k ⟨0,[]⟩ = d.cache[k] by rw [List.getD_eq_getElem?_getD,hx]; rfl] at HI3
   generalize d.cache[k] = x at hx HI3
   obtain ⟨b,off,rfl,hbw,hc1,hc2⟩ : ∃ b off,A2 = some ⟨b,off,none⟩ ∧ b < w.heap.size ∧ wr.cell? ⟨b,off + k * 2,none⟩ = some (.int .i64 x.at_) ∧ wr.cell? ⟨b,off + k * 2 + 1,none⟩ = some (xU x.data) := by
    obtain ⟨A,c,e1,_,h3⟩ := (HD.out _ HI.out.2.2).c
    obtain ⟨b,off,h4,h5,h6⟩ := h3 (by omega)
    injection e1 with e1 _ e3
    subst e1 e3
    exact ⟨b,off,h4,h5,(h6 k x hx).1,(h6 k x hx).2⟩
   have hb := HI.out.2.1
   obtain ⟨e0,e1⟩ := uG hb
   have HB := hI' HI.out.2.2
   have HBK := hI' HI.out.2.1
   have hk1 : k < d.cache.length := by omega
   clear hb HI hx
   by_cases hxi : x.at_ = (i : Int)
   ·rw [if_pos hxi] at HI3
    have HE2 := hI' (HE.out _ HI3)
    have hxe : (x.at_ == (i : Int)) = true := by simpa using hxi
    have HXD : Hid (rp = x.data) := hI' HE2.out
    rw [← HXD.out] at hc2
    clear HE2 HXD HI3 hxi
    go_wp2
    go_ret2
    exact ⟨rfl,HB.out⟩
   ·rw [if_neg hxi] at HI3
    have hxe : (x.at_ == (i : Int)) = false := by simpa using hxi
    have HI4 := hI' HI3
    clear HI3
    go_wp2
    exact ⟨⟨k,by omega,rfl,hI' ⟨HI4.out,HBK.out,HB.out⟩⟩,by simp only [intOf]; omega⟩
end Go.Proofs.VA
namespace Go.Proofs.VA
open Go.RowKit Mailsack MM BB SH SV RK DS IX Go.Proofs.ST
theorem xCy (va vb ua ub : Value) (d : Dk) (w : World) (h : RdD w w.heap.size va vb d) (h2 : RdD w w.heap.size ua ub d) (hr : zC d = true) :
  Calls Tryz.prog 11 #[.agg #[va,vb],.agg #[ua,ub]] w fun e w' => e = .returned (.bool true) ∧ Below w.heap.size w w' := by
 obtain ⟨A1,c1,A2,c2,rfl,rfl⟩ := yH h
 obtain ⟨A3,c3,A4,c4,rfl,rfl⟩ := yH h2
 have HR := hI' (fun (i : Nat) W (hb : Below w.heap.size w W) (hi : i < d.secs.length) => xOi (.slice A1 d.secs.length c1) (.slice A2 d.cache.length c2) d i W ((h.below hb (Nat.le_refl _)).more hb.size) hr hi)
 have HS := hI' (fun (i : Nat) W (hb : Below w.heap.size w W) (hi : i < d.secs.length) => xOi (.slice A3 d.secs.length c3) (.slice A4 d.cache.length c4) d i W ((h2.below hb (Nat.le_refl _)).more hb.size) hr hi)
 have hls : d.secs.length ≤ 1000000 := h.ls
 have hb0 := ((Below.refl w.heap.size w).alloc (Nat.le_refl _) (yD (.slice A1 d.secs.length c1) (.slice A2 d.cache.length c2))).alloc (by simp) (yD (.slice A3 d.secs.length c3) (.slice A4 d.cache.length c4))
 have H1 : Hid (((w.alloc (yD (.slice A1 d.secs.length c1) (.slice A2 d.cache.length c2))).alloc (yD (.slice A3 d.secs.length c3) (.slice A4 d.cache.length c4))).heap[w.heap.size]? = some (yD (.slice A1 d.secs.length c1) (.slice A2 d.cache.length c2)) ∧ ((w.alloc (yD (.slice A1 d.secs.length c1) (.slice A2 d.cache.length c2))).alloc (yD (.slice A3 d.secs.length c3) (.slice A4 d.cache.length c4))).heap[w.heap.size + 1]? = some (yD (.slice A3 d.secs.length c3) (.slice A4 d.cache.length c4)) ∧ Below w.heap.size w ((w.alloc (yD (.slice A1 d.secs.length c1) (.slice A2 d.cache.length c2))).alloc (yD (.slice A3 d.secs.length c3) (.slice A4 d.cache.length c4)))) := hI' ⟨zQ _ _ _,zM _ _ _,hb0⟩
 clear h h2 hr hb0
 go_enter Tryz.func11,Tryz.ntmps11
 go_upto_region 1 with fail
 obtain ⟨w1,hw1⟩ : ∃ w1,(w.alloc (yD (.slice A1 d.secs.length c1) (.slice A2 d.cache.length c2))).alloc (yD (.slice A3 d.secs.length c3) (.slice A4 d.cache.length c4)) = w1 := ⟨_,rfl⟩
 rw [hw1] at H1
 rw [hw1]
 clear hw1
 have hb := H1.out.1
 have hd := H1.out.2.1
 obtain ⟨e0,e1⟩ := uG hb
 obtain ⟨o0,o1⟩ := uG hd
 clear hb hd
 go_upto_region 3 with fail
 go_wp2_with fail
 clear e0 e1 o0 o1
 go_loopw [20] (fun iv wr => ∃ k : Nat,k ≤ d.secs.length ∧ iv = .int .i64 k ∧ Hid (wr.heap[w.heap.size]? = some (yD (.slice A1 d.secs.length c1) (.slice A2 d.cache.length c2)) ∧ wr.heap[w.heap.size + 1]? = some (yD (.slice A3 d.secs.length c3) (.slice A4 d.cache.length c4)) ∧ Below w.heap.size w wr)) (fun iv _ => d.secs.length - (intOf iv).toNat)
 case atStart => exact ⟨0,Nat.zero_le _,rfl,H1⟩
 case round =>
  obtain ⟨k,hk,rfl,HI⟩ := hrel
  by_cases hlt : k < d.secs.length
  ·have hb := HI.out.1
   obtain ⟨e0,e1⟩ := uG hb
   clear hb
   have hlt2 : ((k : Int) < (d.secs.length : Int)) := by omega
   go_wp2_with fail
   refine (HR.out k _ HI.out.2.2 hlt).mono ?_
   rintro e w2 ⟨rfl,hb2⟩
   have H2 := hI' (And.intro (xE HI.out.1 hb2 (xI HI.out.1)) (And.intro (xE HI.out.2.1 hb2 (xI HI.out.2.1)) (HI.out.2.2.trans (hb2.mono HI.out.2.2.size))))
   clear HI hb2 e0 e1
   have hb := H2.out.2.1
   obtain ⟨e0,e1⟩ := uG hb
   clear hb
   go_wp2_with fail
   refine (HS.out k _ H2.out.2.2 hlt).mono ?_
   rintro e w3 ⟨rfl,hb3⟩
   have H3 := hI' (And.intro (xE H2.out.1 hb3 (xI H2.out.1)) (And.intro (xE H2.out.2.1 hb3 (xI H2.out.2.1)) (H2.out.2.2.trans (hb3.mono H2.out.2.2.size))))
   clear H2 hb3 e0 e1
   generalize xJ5 d k = rk
   go_wp2
   exact ⟨⟨k + 1,by omega,by simp,H3⟩,by simp only [intOf]; omega⟩
  ·have hlt2 : ¬ ((k : Int) < (d.secs.length : Int)) := by omega
   have HB := hI' HI.out.2.2
   clear HI
   go_wp2
   go_ret
   exact ⟨rfl,HB.out⟩
end Go.Proofs.VA
namespace Mailsack
open Go.Proofs.SH
theorem kS {x y : ByteArray} {n : Nat} (h : x.size = n) : uT (x ++ y) n = x := by
 unfold uT
 apply ByteArray.ext
 rw [ByteArray.data_extract,ByteArray.data_append]
 have : x.data.size = n := h
 simp [Array.extract_append,this]
theorem jT {x y : ByteArray} {n : Nat} (h : x.size = n) : yE (x ++ y) n = y := by
 unfold yE
 apply ByteArray.ext
 rw [ByteArray.data_extract,ByteArray.data_append]
 have : x.data.size = n := h
 have h2 : (x ++ y).size = n + y.data.size := by rw [ByteArray.size_append,h]; rfl
 rw [h2,Array.extract_append,this]
 have e1 : x.data.extract n (n + y.data.size) = #[] := by simp; omega
 have e2 : n - n = 0 := by omega
 have e3 : n + y.data.size - n = y.data.size := by omega
 rw [e1,e2,e3]
 simp
theorem xWz {a : vR} (h : uI a = true) : xAj (tJ a) = true ∧ xA2 (tJ a) = a := by
 have h' := h
 obtain ⟨u,s,r,ep,pb,n,wr,o⟩ := a
 unfold uI yS vN at h'
 simp only [Bool.and_eq_true,Bool.or_eq_true,decide_eq_true_eq] at h'
 obtain ⟨⟨⟨⟨⟨⟨⟨h1,h2⟩,-⟩,⟨⟨h3,h4⟩,h5⟩,h6⟩,h7⟩,h8⟩,h9⟩,h10⟩ := h'
 have e : tJ ⟨u,s,r,ep,pb,n,wr,o⟩ = bsA [oct u.size] ++ (u ++ (s ++ (bsA [oct r] ++ (bsA [oct ep] ++ (pb ++ (n ++ (wr ++ o))))))) := by
  unfold tJ
  simp only [ByteArray.append_assoc]
  rw [show bsA [oct r,oct ep] = bsA [oct r] ++ bsA [oct ep] from rfl]
  simp only [ByteArray.append_assoc]
 have hsz : (tJ ⟨u,s,r,ep,pb,n,wr,o⟩).size = u.size + 111 + o.size := by
  unfold tJ
  simp only [ByteArray.size_append,yO,List.length_cons,List.length_nil]
  omega
 have hu : xIw (tJ ⟨u,s,r,ep,pb,n,wr,o⟩) = u.size := by
  rw [e]
  unfold xIw yZ
  rw [ByteArray.data_append]
  simp [bsA,oct]
  omega
 have a1 : yE (tJ ⟨u,s,r,ep,pb,n,wr,o⟩) 1 = u ++ (s ++ (bsA [oct r] ++ (bsA [oct ep] ++ (pb ++ (n ++ (wr ++ o)))))) := by
  rw [e]; exact jT rfl
 have a2 := jT (y := s ++ (bsA [oct r] ++ (bsA [oct ep] ++ (pb ++ (n ++ (wr ++ o)))))) (rfl : u.size = u.size)
 have a3 : xYy (tJ ⟨u,s,r,ep,pb,n,wr,o⟩) = bsA [oct r] ++ (bsA [oct ep] ++ (pb ++ (n ++ (wr ++ o)))) := by
  unfold xYy
  rw [hu,a1,a2,jT h3]
 have ht : xA2 (tJ ⟨u,s,r,ep,pb,n,wr,o⟩) = ⟨u,s,r,ep,pb,n,wr,o⟩ := by
  have b1 : yZ (bsA [oct r]) 0 = r := by
   unfold yZ bsA oct
   simp
   omega
  have b2 : yZ (bsA [oct ep]) 0 = ep := by
   unfold yZ bsA oct
   simp
   omega
  have p1 : (bsA [oct r]).size = 1 := rfl
  have p2 : (bsA [oct ep]).size = 1 := rfl
  unfold xA2
  rw [hu,a1,a2,a3,kS (rfl : u.size = u.size),kS h3,kS p1,jT p1,kS p2,jT p2,kS h8,jT h8,kS h4,jT h4,kS h9,jT h9,b1,b2]
 refine ⟨?_,ht⟩
 unfold xAj
 rw [ht,h,hu,hsz]
 simp
theorem xOg {k n ad s : ByteArray} (hs : s.size = 32) : w32 (wL k n ad s) = bsA (vF k n 1 s) := by
 have h1 : (bsA (vF k n 1 s)).size = 32 := by rw [yO,jZ,hs]
 exact kS (x := bsA (vF k n 1 s)) h1
theorem xX6 {k n ad s : ByteArray} (hs : s.size = 32) : w16 (wL k n ad s) = wM k n ad (bsA (vF k n 1 s)) := by
 have h1 : (bsA (vF k n 1 s)).size = 32 := by rw [yO,jZ,hs]
 have h2 : (wL k n ad s).size = 48 := by rw [tN,hs]
 unfold w16
 rw [← h2]
 exact jT (x := bsA (vF k n 1 s)) h1
theorem xWt {u pw xO xD priv : ByteArray} {r : Nat} (hp : priv.size = 32) (hr : uI (rF u (zX priv) 0 pw xO xD r priv) = true) :
  xS7 (rF u (zX priv) 0 pw xO xD r priv) pw = 0 ∧ xWg (rF u (zX priv) 0 pw xO xD r priv) pw = [priv] := by
 have e1 : unlK (rF u (zX priv) 0 pw xO xD r priv) pw = xC9 pw xO r := rfl
 have e2 : xMf (rF u (zX priv) 0 pw xO xD r priv) pw = true := by
  unfold xMf
  rw [e1]
  simp only [rF]
  rw [xOg hp,xX6 hp,xDw]
 have e3 : jL (rF u (zX priv) 0 pw xO xD r priv) pw = priv := by
  unfold jL
  rw [e1]
  simp only [rF]
  rw [xOg hp,xIg]
 have e4 : xS7 (rF u (zX priv) 0 pw xO xD r priv) pw = 0 := by
  unfold xS7
  have e6 : (⟨#[]⟩ : ByteArray) = ByteArray.empty := rfl
  rw [hr,e2,e3]
  simp [rF,xDw,e6]
 refine ⟨e4,?_⟩
 unfold xWg
 have e6 : (⟨#[]⟩ : ByteArray) = ByteArray.empty := rfl
 rw [e4,e3]
 simp [rF,e6]
def kM : Dk := ⟨List.replicate 381 (xQ 64),[]⟩
theorem xGe : xY kM = kM := xEd rfl
theorem xGd : yG kM.secs = List.replicate 32 noSlot := by
 unfold yG kM
 simp only [List.drop_replicate,List.take_replicate,List.map_replicate]
 rw [show decP (xQ 64) = noSlot by rfl]
 rfl
theorem xPh : vV kM = true := by
 unfold vV
 have h1 : kM.secs.length = 381 := List.length_replicate ..
 rw [h1,xAw.2 ⟨by rw [h1]; omega,by rw [h1]; omega,fun s hs => by rw [List.eq_of_mem_replicate hs]; exact yT _,fun x hx => by cases hx⟩]
 rfl
theorem xLe : Store kM := by
 refine ⟨xPh,?_⟩
 unfold qX
 rw [xGe,xGd]
 intro i j t u ht _ htu
 rw [List.eq_of_mem_replicate (List.mem_of_getElem? ht)] at htu
 cases htu
theorem xPg (n : Bs) : xAa kM n = none := by
 unfold xAa qX
 rw [xGe,xGd,xB1]
 intro t ht htu
 rw [List.eq_of_mem_replicate ht] at htu
 cases htu
structure Fr (s : StS) (i : Nat) : Prop where
 len : s.slots.length = 32
 un : ∀ (j : Nat) t,i ≤ j → s.slots[j]? = some t → t.used = false
 f0 : s.wB.length + i = 24
 wr : s.writes.length = 5 * i
theorem xYf {s : StS} {i : Nat} (h : Fr s i) (hi : i < 24) (n : Bs) : ∃ k : Nat,qY s.slots n = k ∧ k ≤ i := by
 unfold qY
 rcases jF s.slots n with ⟨h1,_⟩ | ⟨k,t,h1,h2,h3,_,_⟩
 ·rw [if_pos (by omega)]
  rcases qE (fun t : Slot => !t.used) s.slots with ⟨_,g2⟩ | ⟨k,t,g1,g2,g3,g4⟩
  ·have hlt : i < s.slots.length := by rw [h.len]; omega
   have e := g2 _ (List.getElem_mem hlt)
   have e2 := h.un i _ (Nat.le_refl _) (List.getElem?_eq_getElem hlt)
   rw [e2] at e
   cases e
  ·refine ⟨k,g1,?_⟩
   rcases Nat.lt_or_ge i k with hlt | hge
   ·have hil : i < s.slots.length := by rw [h.len]; omega
    have e := g4 i _ hlt (List.getElem?_eq_getElem hil)
    rw [h.un i _ (Nat.le_refl _) (List.getElem?_eq_getElem hil)] at e
    cases e
   ·exact hge
 ·rw [if_neg (by omega)]
  refine ⟨k,h1,?_⟩
  rcases Nat.lt_or_ge k i with hlt | hge
  ·omega
  ·rw [h.un k _ hge h2] at h3
   cases h3
structure ChOk (c : Ch) : Prop where
 gone : c.gone = false
 lo : 1 ≤ c.name.length
 hi : c.name.length ≤ 24
 dat : c.data.length ≤ 256
theorem yBk {s : StS} {i : Nat} (h : Fr s i) (hi : i < 24) {c : Ch} (hc : ChOk c) : jH s c = 0 ∧ Fr (jG s c) (i + 1) := by
 obtain ⟨k,hk,hki⟩ := xYf h hi c.name
 have hcl : yU c.data = 0 := by unfold yU; rw [if_neg (by have := hc.dat; omega)]
 have hf : s.free (yU c.data) = s.wB := by rw [hcl]; rfl
 have h0 : s.wB.length ≠ 0 := by have := h.f0; omega
 constructor
 ·unfold jH
  rw [if_neg (by have := hc.lo; have := hc.hi; omega),hc.gone,if_neg (by simp),if_neg (by have := hc.dat; omega),hk,if_neg (by omega),hf,if_neg h0]
 ·have hw := xGu s c
  have hx : jG s c = putAt { vY s 0 with writes := (vY s 0).writes ++ uE 0 (s.wB.getD 0 0) c.data } k (zI c (s.wB.getD 0 0)) := by
   unfold jG
   rw [hc.gone,if_neg (by simp),hcl,hk]
   rfl
  have hpl := xTw h0
  rw [hx]
  refine ⟨?_,fun j t hj ht => ?_,?_,?_⟩
  ·simp [putAt,vY,h.len]
  ·have ht' : (s.slots.set k (zI c (s.wB.getD 0 0)))[j]? = some t := ht
   rcases xAv ht' with ⟨rfl,_⟩ | ⟨_,g⟩
   ·omega
   ·exact h.un j t (by omega) g
  ·show (qP s.wB).length + (i + 1) = 24
   have := h.f0
   omega
  ·show ((s.writes ++ uE 0 (s.wB.getD 0 0) c.data) ++ [setW k (zI c (s.wB.getD 0 0))]).length = 5 * (i + 1)
   rw [List.length_append,List.length_append,h.wr,show (uE 0 (s.wB.getD 0 0) c.data).length = 4 by simp [uE,countP]]
   simp
   omega
theorem xZr : ∀ (l : List Ch) (s : StS) (i : Nat),Fr s i → i + l.length < 24 → (∀ c ∈ l,ChOk c) → (zS s l).2 = 0 ∧ Fr (zS s l).1 (i + l.length)
 | [],s,i,h,_,_ => ⟨rfl,h⟩
 | c :: l,s,i,h,hi,hl => by
  simp only [List.length_cons] at hi
  obtain ⟨h1,h2⟩ := yBk h (by omega) (hl c (List.mem_cons_self ..))
  have := xZr l (jG s c) (i + 1) h2 (by omega) (fun x hx => hl x (List.mem_cons_of_mem _ hx))
  unfold zS
  rw [if_pos h1,List.length_cons,show i + (l.length + 1) = i + 1 + l.length by omega]
  exact this
theorem yBj : Fr (stS kM) 0 := by
 unfold stS
 rw [xGe,xGd]
 refine ⟨List.length_replicate ..,fun j t _ ht => ?_,?_,rfl⟩
 ·have ht2 : (List.replicate 32 noSlot)[j]? = some t := ht
  rw [List.eq_of_mem_replicate (List.mem_of_getElem? ht2)]
  rfl
 ·have : uD (List.replicate 32 noSlot) 0 = [] := by unfold uD; simp [noSlot]
  simp only [this]
  unfold xB4
  rw [(xE8 _).length_eq]
  rfl
theorem xAd {l : List Ch} (hl : l.length ≤ 6) (hc : ∀ c ∈ l,ChOk c) : wQ kM l = 0 ∧ xDm kM l = 0 ∧ Store (tZ kM l) ∧ ∀ n,xAa (tZ kM l) n = xR9 (fun _ => none) l n := by
 obtain ⟨h1,h2⟩ := xZr l _ 0 yBj (by omega) hc
 have he : wQ kM l = 0 := by
  unfold wQ
  have := h2.wr
  rw [if_pos xPh,if_pos h1,if_neg (by omega)]
 obtain ⟨a1,a2,a3⟩ := xWa xLe he
 refine ⟨he,a1,a2,fun n => ?_⟩
 rw [a3,show xAa kM = fun _ => none from funext xPg]
theorem xWs {d : Dk} {n : Bs} : n ∈ usedNames (qX d) ↔ xAa d n ≠ none := by
 rw [xOv]
 unfold xAa
 rw [Ne,xB1]
 constructor
 ·rintro ⟨t,h1,h2,h3⟩ h
  exact h t h1 h2 h3
 ·intro h
  refine Classical.byContradiction fun hn => h fun t h1 h2 h3 => hn ⟨t,h1,h2,h3⟩
theorem xQg {l : List Slot} (h : xF9 l) : (usedNames l).Nodup := by
 unfold usedNames
 rw [List.nodup_iff_pairwise_ne,List.pairwise_map,List.pairwise_filter,List.pairwise_iff_getElem]
 intro i j hi hj hij u1 u2 e
 have := h i j _ _ (List.getElem?_eq_getElem hi) (List.getElem?_eq_getElem hj) u1 u2 e
 omega
theorem xOr {d : Dk} (h : Store d) {L : List Bs} (hs : L.Pairwise (· < ·)) (hm : ∀ n,n ∈ L ↔ xAa d n ≠ none) : qZ d = L := by
 have hn : L.Nodup := hs.imp fun {a b} hab e => by subst e; exact List.lt_irrefl _ hab
 have hp : (usedNames (qX d)).Perm L := (List.perm_ext_iff_of_nodup (xQg h.uniq) hn).2 fun n => by rw [xWs,hm]
 have e : wK (usedNames (qX d)) = L := by
  unfold wK
  refine List.Perm.eq_of_pairwise (le := fun x y => decide (x ≤ y) = true) ?_ (List.pairwise_mergeSort ?_ ?_ _) ?_ ((List.mergeSort_perm _ _).trans hp)
  ·intro a b _ _ h1 h2
   exact List.le_antisymm (of_decide_eq_true h1) (of_decide_eq_true h2)
  ·intro a b c h1 h2
   exact decide_eq_true (List.le_trans (of_decide_eq_true h1) (of_decide_eq_true h2))
  ·intro a b
   rcases List.le_total a b with h | h
   ·simp [h]
   ·simp [h]
  ·exact hs.imp fun {a b} h => decide_eq_true (List.le_of_lt h)
 unfold qZ
 rw [if_pos h.cont]
 show Go.Lib.compact (wK (usedNames (qX d))) = L
 rw [e]
 refine Go.Lib.compact_all _ fun j hj => ?_
 by_cases h0 : j = 0
 ·simp [Go.Lib.keeps,h0]
 ·refine Go.Lib.keeps_pos ?_
  rw [getElem!_pos L.toArray j (by simpa using hj),getElem!_pos L.toArray (j - 1) (by simp; omega)]
  intro e
  have := (List.pairwise_iff_getElem.1 hs) (j - 1) j (by omega) hj (by omega)
  simp only [List.getElem_toArray] at e
  rw [e] at this
  exact List.lt_irrefl _ this
end Mailsack
namespace Mailsack
open Go.Proofs.VA Go.Proofs.SH
def alB : Bs := [97,108]
def awL : List Ch := [⟨[109,47,97,108,47,49,50],[120],false⟩,⟨[109,47,97,108,47,51],[],false⟩,⟨[109,47,97,108,47,48,51],[],false⟩,⟨[113,47,97,108,47,55],[],false⟩]
theorem yC3 : ∀ c ∈ awL,ChOk c := by
 intro c hc
 simp only [awL,List.mem_cons,List.not_mem_nil,or_false] at hc
 rcases hc with rfl | rfl | rfl | rfl <;> exact ⟨rfl,by decide,by decide,by decide⟩
theorem xW9 (n : Bs) : xR9 (fun _ => none) awL n = if n = [113,47,97,108,47,55] then some [] else if n = [109,47,97,108,47,48,51] then some [] else if n = [109,47,97,108,47,51] then some [] else if n = [109,47,97,108,47,49,50] then some [120] else none := by
 simp [xR9,awL,xHd]
theorem xYu : qZ (tZ kM awL) = [[109,47,97,108,47,48,51],[109,47,97,108,47,49,50],[109,47,97,108,47,51],[113,47,97,108,47,55]] := by
 obtain ⟨_,_,hs,hl⟩ := xAd (l := awL) (by decide) yC3
 refine xOr hs (by decide) fun n => ?_
 rw [hl n,xW9]
 simp only [List.mem_cons,List.not_mem_nil,or_false]
 constructor
 ·rintro (rfl | rfl | rfl | rfl) <;> decide
 ·intro h
  split at h
  ·simp_all
  ·split at h
   ·simp_all
   ·split at h
    ·simp_all
    ·split at h
     ·simp_all
     ·exact absurd rfl h
theorem xS2 : tK (tZ kM awL) [109] alB = [3,12] := by
 unfold tK
 rw [xYu]
 rw [show List.flatMap (numberOf (xGb [109] alB)) [[109,47,97,108,47,48,51],[109,47,97,108,47,49,50],[109,47,97,108,47,51],[113,47,97,108,47,55]] = [12,3] by decide]
 unfold xDu
 simp [List.mergeSort,List.MergeSort.Internal.splitInTwo]
theorem yC4 : xCh (tZ kM awL) ⟨#[97,108]⟩ = 6 := by
 obtain ⟨_,_,hs,hl⟩ := xAd (l := awL) (by decide) yC3
 have := xJt hs.cont (vO [117] [97,108])
 have h2 := hl (vO [117] [97,108])
 rw [xW9] at h2
 unfold xCh
 rw [show (⟨#[97,108]⟩ : ByteArray).data.toList = [97,108] from rfl]
 rcases this with h | h
 ·rw [h.1,if_neg (by decide)]
 ·rw [h.2] at h2
  exact absurd h2 (by decide)
section
variable {u pw xO xD priv : ByteArray} {r : Nat}
theorem xTu {a : vR} : (tJ a).size = 3 + a.user.size + a.xO.size + a.pub.size + a.xD.size + a.wrapped.size + a.old.size := by
 unfold tJ
 simp only [ByteArray.size_append,yO,List.length_cons,List.length_nil]
 omega
theorem fr_ok (hu : yS u = true) (hf : yY xO xD priv (r : Int) = true) : ∀ c ∈ xSg u pw xO xD priv r,ChOk c := by
 have hr := tO (pw := pw) hu hf
 obtain ⟨h1,h2,h3,h4,h5,h6,h7,h8,h9,h10,h11⟩ := kL hr
 have hs := xTu (a := xHc u pw xO xD priv r)
 have hn : xD.size = 12 := h9
 have hol : (xHc u pw xO xD priv r).old.size = 0 := rfl
 have hu8 : u.size ≤ 8 := h2
 have hus : (xHc u pw xO xD priv r).user.size = u.size := rfl
 have hul : u.data.toList.length = u.size := Array.length_toList
 have ho : ∀ k : UInt8,(vO [k] u.data.toList).length = u.size + 2 := fun k => by
  unfold vO
  rw [List.length_append,List.length_append,hul]
  show 1 + 1 + u.size = u.size + 2
  omega
 have hse := tN (yC priv) xD u (bsA (kE newP))
 have hen : (bsA (kE newP)).size ≤ 100 := by decide
 intro c hc
 simp only [xSg,List.mem_cons,List.not_mem_nil,or_false] at hc
 rcases hc with rfl | rfl
 ·refine ⟨rfl,?_,?_,?_⟩
  ·show 1 ≤ (vO [117] u.data.toList).length
   rw [ho]
   omega
  ·show (vO [117] u.data.toList).length ≤ 24
   rw [ho]
   omega
  ·show (tJ (xHc u pw xO xD priv r)).data.toList.length ≤ 256
   rw [Array.length_toList]
   show (tJ (xHc u pw xO xD priv r)).size ≤ 256
   omega
 ·refine ⟨rfl,?_,?_,?_⟩
  ·show 1 ≤ (vO [120] u.data.toList).length
   rw [ho]
   omega
  ·show (vO [120] u.data.toList).length ≤ 24
   rw [ho]
   omega
  ·show (xD ++ wL (yC priv) xD u (bsA (kE newP))).data.toList.length ≤ 256
   rw [Array.length_toList]
   show (xD ++ wL (yC priv) xD u (bsA (kE newP))).size ≤ 256
   rw [ByteArray.size_append]
   omega
abbrev frD (u pw xO xD priv : ByteArray) (r : Nat) : Dk := tZ kM (xSg u pw xO xD priv r)
theorem xJf {k k' : UInt8} {a b : Bs} : (vO [k] a = vO [k'] b) ↔ (k = k' ∧ a = b) := by simp [vO]
theorem xEc (hu : yS u = true) (hf : yY xO xD priv (r : Int) = true) : xDm kM (xSg u pw xO xD priv r) = 0 ∧ Store (frD u pw xO xD priv r) ∧ ∀ n,xAa (frD u pw xO xD priv r) n = if n = vO [120] u.data.toList then some (xD ++ wL (yC priv) xD u (bsA (kE newP))).data.toList else if n = vO [117] u.data.toList then some (tJ (xHc u pw xO xD priv r)).data.toList else none := by
 obtain ⟨_,h1,h2,h3⟩ := xAd (l := xSg u pw xO xD priv r) (show 2 ≤ 6 by decide) (fr_ok hu hf)
 refine ⟨h1,h2,fun n => ?_⟩
 rw [h3 n]
 simp [xR9,xSg,xHd,xO4,xMq]
 rfl
theorem xZq {d : Dk} (h : Store d) {n x : Bs} (hl : xAa d n = some x) : xJu d n = 0 ∧ xPb d n = x := by
 rcases xJt h.cont n with g | g
 ·rw [g.2.1] at hl; cases hl
 ·rw [g.2] at hl; exact ⟨g.1,Option.some.inj hl⟩
theorem xVe {d : Dk} (h : Store d) {n : Bs} (hl : xAa d n = none) : xJu d n = 6 := by
 rcases xJt h.cont n with g | g
 ·exact g.1
 ·rw [g.2] at hl; cases hl
theorem xPy (s : ByteArray) : bsA s.data.toList = s := by
 unfold bsA
 apply ByteArray.ext
 simp
theorem yBn (hu : yS u = true) (hf : yY xO xD priv (r : Int) = true) : xCh (frD u pw xO xD priv r) u = 0 ∧ xBu (frD u pw xO xD priv r) u = xHc u pw xO xD priv r := by
 obtain ⟨_,hs,hl⟩ := xEc (pw := pw) hu hf
 have h1 := hl (vO [117] u.data.toList)
 rw [if_neg (by rw [xJf]; rintro ⟨e,_⟩; exact absurd e (by decide)),if_pos rfl] at h1
 obtain ⟨h2,h3⟩ := xZq hs h1
 obtain ⟨h4,h5⟩ := xWz (tO (pw := pw) hu hf)
 have hg : qV (frD u pw xO xD priv r) u = tJ (xHc u pw xO xD priv r) := by
  unfold qV
  rw [h3,xPy]
 have hfit : xEq (frD u pw xO xD priv r) u = true := by
  unfold xEq
  rw [hg,h4,h5]
  exact decide_eq_true rfl
 have he : xCh (frD u pw xO xD priv r) u = 0 := by
  unfold xCh
  rw [h2,if_pos rfl,hfit,if_pos rfl]
 refine ⟨he,?_⟩
 unfold xBu
 rw [he,if_pos rfl,hg,h5]
theorem xYg (hu : yS u = true) (hf : yY xO xD priv (r : Int) = true) {o : ByteArray} (ho : o ≠ u) : xCh (frD u pw xO xD priv r) o = 6 := by
 obtain ⟨_,hs,hl⟩ := xEc (pw := pw) hu hf
 have h1 := hl (vO [117] o.data.toList)
 rw [if_neg (by rw [xJf]; simp),if_neg (by
  rw [xJf]
  rintro ⟨_,e⟩
  exact ho (ByteArray.ext (Array.toList_inj.1 e)))] at h1
 unfold xCh
 rw [xVe hs h1,if_neg (by decide)]
theorem xVx {a b : ByteArray} {n : Nat} (h : a.size = n) : (a ++ b).extract 0 n = a ∧ (a ++ b).extract n (a ++ b).size = b := by
 exact ⟨kS h,jT h⟩
theorem xX0 : xMi (kE newP) = 0 ∧ xKg (kE newP) = newP := by
 constructor
 ·decide
 ·rfl
theorem yBm (hu : yS u = true) (hf : yY xO xD priv (r : Int) = true) : xR2 (frD u pw xO xD priv r) u priv = 0 ∧ xJd (frD u pw xO xD priv r) u priv = newP := by
 obtain ⟨_,hs,hl⟩ := xEc (pw := pw) hu hf
 have hn : xD.size = 12 := (kL (tO (pw := pw) hu hf)).2.2.2.2.2.2.2.2.1
 have h1 := hl (vO [120] u.data.toList)
 rw [if_pos rfl] at h1
 obtain ⟨h2,h3⟩ := xZq hs h1
 have hg : zW (frD u pw xO xD priv r) u = xD ++ wL (yC priv) xD u (bsA (kE newP)) := by
  unfold zW
  rw [h3,xPy]
 obtain ⟨k1,k2⟩ := xVx (b := wL (yC priv) xD u (bsA (kE newP))) hn
 have h16 : 16 ≤ (wL (yC priv) xD u (bsA (kE newP))).size := by rw [tN]; omega
 have ht : xF8 (wL (yC priv) xD u (bsA (kE newP))) = bsA (vF (yC priv) xD 1 (bsA (kE newP))) ∧ xC3 (wL (yC priv) xD u (bsA (kE newP))) = wM (yC priv) xD u (bsA (vF (yC priv) xD 1 (bsA (kE newP)))) := by
  have hsz : (bsA (vF (yC priv) xD 1 (bsA (kE newP)))).size = (wL (yC priv) xD u (bsA (kE newP))).size - 16 := by
   rw [tN,yO,jZ]
   omega
  unfold xF8 xC3
  have := xVx (b := wM (yC priv) xD u (bsA (vF (yC priv) xD 1 (bsA (kE newP))))) hsz
  exact this
 have hok : aOk (yC priv) xD u (wL (yC priv) xD u (bsA (kE newP))) = true := by
  unfold aOk
  rw [ht.1,ht.2,decide_eq_true h16,Bool.true_and]
  exact xDw _
 have htx : aTx (yC priv) xD u (wL (yC priv) xD u (bsA (kE newP))) = bsA (kE newP) := by
  unfold aTx
  rw [hok,if_pos rfl,ht.1]
  exact xIg _ _ _ _
 have hoo : xEu (frD u pw xO xD priv r) u priv = true := by
  unfold xEu
  rw [h2,hg,k1,k2,hok,decide_eq_true rfl,decide_eq_true (by rw [ByteArray.size_append]; omega)]
  rfl
 have hot : xAy (frD u pw xO xD priv r) u priv = kE newP := by
  unfold xAy
  rw [hg,k1,k2,htx]
  simp [bsA]
 unfold xR2 xJd
 rw [hoo,if_pos rfl,if_pos rfl,hot]
 exact xX0
theorem xKz {k k' : UInt8} (hk : k ≠ k') (a b : Bs) : numberOf (xGb [k] a) (vO [k'] b) = [] := by
 unfold numberOf
 rw [if_neg]
 unfold xGb vO
 simp only [List.cons_append,List.length_cons,List.take_succ_cons,List.cons.injEq,not_and]
 intro e
 exact absurd e.symm hk
theorem xI8 (hu : yS u = true) (hf : yY xO xD priv (r : Int) = true) {k : UInt8} (h7 : k ≠ 117) (h8 : k ≠ 120) (o : Bs) : tK (frD u pw xO xD priv r) [k] o = [] := by
 obtain ⟨_,hs,hl⟩ := xEc (pw := pw) hu hf
 have hn : qZ (frD u pw xO xD priv r) = [vO [117] u.data.toList,vO [120] u.data.toList] := by
  refine xOr hs ?_ fun n => ?_
  ·rw [List.pairwise_cons]
   refine ⟨fun y hy => ?_,List.pairwise_singleton _ _⟩
   rw [List.mem_singleton.1 hy]
   exact List.Lex.rel (by decide)
  ·rw [hl n]
   simp only [List.mem_cons,List.not_mem_nil,or_false]
   constructor
   ·rintro (rfl | rfl)
    ·rw [if_neg (by rw [xJf]; rintro ⟨e,_⟩; exact absurd e (by decide)),if_pos rfl]
     simp
    ·rw [if_pos rfl]
     simp
   ·intro h
    split at h
    ·rename_i e; exact .inr e
    ·split at h
     ·rename_i e; exact .inl e
     ·exact absurd rfl h
 unfold tK
 rw [hn]
 simp only [List.flatMap_cons,List.flatMap_nil,List.append_nil,xKz h7,xKz h8]
 simp [xDu]
theorem fr_unl (hu : yS u = true) (hf : yY xO xD priv (r : Int) = true) : xS7 (xHc u pw xO xD priv r) pw = 0 ∧ xWg (xHc u pw xO xD priv r) pw = [priv] := by
 have hp : priv.size = 32 := by
  unfold yY at hf
  simp only [Bool.and_eq_true,decide_eq_true_eq] at hf
  exact hf.2
 exact xWt hp (tO hu hf)
theorem yBq (n : Bs) : xJu kM n ≠ 0 := by
 rw [xVe xLe (xPg n)]
 decide
end
end Mailsack
namespace Go.Proofs.VA
open Go.RowKit Mailsack MM BB SH SV RK DS IX Go.Proofs.ST
theorem xVg (w : World) : Calls Tryz.prog 7 #[] w fun e w' => ∃ va vb,e = .returned (.agg #[va,vb]) ∧ RdD w' w'.heap.size va vb kM ∧ Below w.heap.size w w' := by
 refine (xRm (xQ 64) w (fun W => ?_)).mono ?_
 ·exact xIr 64 W (by decide)
 ·rintro e w' ⟨g,n,rfl,rfl,h1,h2,h3⟩
  have hl : kM.secs.length = 381 := List.length_replicate
  refine ⟨_,_,rfl,⟨?_,⟨none,0,rfl,Nat.le_refl _,fun h => absurd h (by decide)⟩,by rw [hl]; decide,Nat.zero_le _⟩,h3⟩
  have := (jB.rd h1 381 (by rw [List.length_replicate]; decide)).more (B' := w'.heap.size) h1.lt
  rw [List.length_replicate] at this
  exact this
theorem xLv (w : World) (hT : vT w) : Calls Tryz.prog 5 #[] w fun e w' => e = .returned (.bool true) ∧ Below w.heap.size w w' := by
 have HT := hI' hT
 have HF := hI' (xVg w)
 obtain ⟨_,hap,hst,_⟩ := xAd (l := awL) (by decide) yC3
 have HAP := hI' (fun W va vb lv (h : RdD W W.heap.size va vb kM) (hb : Below w.heap.size w W) (hl : RdR 3 chF W W.heap.size lv awL) => xLw va vb lv kM awL W h hl (by decide) (by decide) (HT.out.below hb (Nat.le_refl _)))
 rw [hap] at HAP
 have HNU := xS2
 have HAC := yC4
 generalize tZ kM awL = D at HAP HNU HAC hst
 have HNB := hI' (fun W va vb (h : RdD W W.heap.size va vb D) => xCa va vb D ⟨#[109]⟩ ⟨#[97,108]⟩ W h (by decide) (by decide))
 rw [show (⟨#[109]⟩ : ByteArray).data.toList = [109] from rfl,show (⟨#[97,108]⟩ : ByteArray).data.toList = alB from rfl,HNU] at HNB
 have HAA := hI' (fun W va vb (h : RdD W W.heap.size va vb D) => xAh va vb D ⟨#[97,108]⟩ W h (by decide))
 rw [HAC] at HAA
 have hacr : xBu D ⟨#[97,108]⟩ = zP := by unfold xBu; rw [HAC,if_neg (by decide)]
 rw [hacr] at HAA
 simp only [pF,zP] at HAA
 have HLG := hI' (fun W va vb (h : RdD W W.heap.size va vb D) => xN8 va vb D ⟨#[97,108]⟩ ⟨#[]⟩ ⟨#[115,104,111,114,116]⟩ W h (by decide))
 clear hT hap hst HNU HAC hacr
 go_enter Tryz.func5,Tryz.ntmps5
 go_wp2_with fail
 refine HF.out.mono ?_
 rintro e w1 ⟨va,vb,rfl,hr1,hb1⟩
 obtain ⟨A1,c1,A2,c2,rfl,rfl⟩ := yH hr1
 have H1 := hI' (And.intro hr1 hb1)
 clear hr1 hb1 HF
 go_wp2_with fail
 have hba := (Below.refl w1.heap.size w1).alloc (Nat.le_refl _) (.cells #[.string ⟨#[109,47,97,108,47,49,50]⟩,.string ⟨#[120]⟩,.bool false,.string ⟨#[109,47,97,108,47,51]⟩,.string ⟨#[]⟩,.bool false,.string ⟨#[109,47,97,108,47,48,51]⟩,.string ⟨#[]⟩,.bool false,.string ⟨#[113,47,97,108,47,55]⟩,.string ⟨#[]⟩,.bool false] 70)
 refine (HAP.out _ _ _ _ ((H1.out.1.below hba (Nat.le_refl _)).more hba.size) (H1.out.2.trans (hba.mono H1.out.2.size)) (by
  rw [World.size_alloc]
  exact RdR.lit (m := awL) (f := chF) (fun _ => rfl) w1 #[.string ⟨#[109,47,97,108,47,49,50]⟩,.string ⟨#[120]⟩,.bool false,.string ⟨#[109,47,97,108,47,51]⟩,.string ⟨#[]⟩,.bool false,.string ⟨#[109,47,97,108,47,48,51]⟩,.string ⟨#[]⟩,.bool false,.string ⟨#[113,47,97,108,47,55]⟩,.string ⟨#[]⟩,.bool false] rfl)).mono ?_
 rintro e w2 ⟨va',vb',rfl,hr2,hb2⟩
 obtain ⟨A3,c3,A4,c4,rfl,rfl⟩ := yH hr2
 have hb := H1.out.2.trans ((hba.trans (hb2.mono hba.size)).mono H1.out.2.size)
 have H2 := hI' (And.intro (hr2.below ((Below.refl w2.heap.size w2).alloc (Nat.le_refl _) (yD (.slice A3 D.secs.length c3) (.slice A4 D.cache.length c4))) (Nat.le_refl _)) (And.intro (xM w2 (yD (.slice A3 D.secs.length c3) (.slice A4 D.cache.length c4))) (hb.alloc hb.size (yD (.slice A3 D.secs.length c3) (.slice A4 D.cache.length c4)))))
 clear hba hr2 hb2 hb H1 HAP HT
 go_upto_region 2 with fail
 obtain ⟨w3,hw3⟩ : ∃ w3,w2.alloc (yD (.slice A3 D.secs.length c3) (.slice A4 D.cache.length c4)) = w3 := ⟨_,rfl⟩
 rw [hw3] at H2
 rw [hw3]
 have hlt : w2.heap.size < w3.heap.size := by rw [← hw3]; simp
 clear hw3
 generalize w2.heap.size = g at H2 hlt ⊢
 have H3 := hI' (And.intro (H2.out.1.more (Nat.le_of_lt hlt)) H2.out.2)
 clear H2 hlt
 have hb := H3.out.2.1
 obtain ⟨e0,e1⟩ := uG hb
 clear hb
 go_wp2_with fail
 refine (HNB.out _ _ _ H3.out.1).mono ?_
 rintro e w4 ⟨v,rfl,hr4,hb4⟩
 obtain ⟨A5,c5,rfl,hc5,hcl⟩ := hr4
 obtain ⟨b5,f5,rfl,hbl,hcl⟩ := hcl (by decide)
 have HC := hI' (And.intro hbl (And.intro (hcl 0 3 rfl 0 _ rfl) (hcl 1 12 rfl 0 _ rfl)))
 have H4 := hI' (And.intro ((H3.out.1.below hb4 (Nat.le_refl _)).more hb4.size) (And.intro (xE H3.out.2.1 hb4 (xI H3.out.2.1)) (H3.out.2.2.trans (hb4.mono H3.out.2.2.size))))
 clear hb4 hcl hbl H3 HNB e0 e1
 have hb := H4.out.2.1
 obtain ⟨e0,e1⟩ := uG hb
 clear hb
 go_wp2_with fail
 refine (HAA.out _ _ _ H4.out.1).mono ?_
 rintro e w5 ⟨rfl,hb5⟩
 have hb6 := hb5.alloc hb5.size (yI zP)
 have H6 := hI' (And.intro ((H4.out.1.below hb6 (Nat.le_refl _)).more hb6.size) (And.intro (xE H4.out.2.1 hb6 (xI H4.out.2.1)) (And.intro (H4.out.2.2.trans (hb6.mono H4.out.2.2.size)) hb6)))
 clear hb5 hb6 HAA e0 e1
 go_upto_region 4 with fail
 obtain ⟨w6,hw6⟩ : ∃ w6,w5.alloc (yI zP) = w6 := ⟨_,rfl⟩
 rw [hw6] at H6
 simp only [yI,zP] at hw6
 rw [hw6]
 clear hw6
 have hb := H6.out.2.1
 obtain ⟨e0,e1⟩ := uG hb
 clear hb
 go_wp2_with fail
 refine (HLG.out _ _ _ H6.out.1).mono ?_
 rintro e w7 ⟨rfl,hb7⟩
 go_upto_region 5 with fail
 have hbz := ((hb7.alloc hb7.size kC).alloc (Nat.le_trans hb7.size (by simp)) xIc)
 have H8 := hI' (And.intro (H6.out.2.2.2.trans (hbz.mono H6.out.2.2.2.size)) (H6.out.2.2.1.trans (hbz.mono H6.out.2.2.1.size)))
 have c0 := (H8.out.1.cell (p := ⟨b5,f5 + 0 * 1 + 0,none⟩) HC.out.1).trans HC.out.2.1
 have c1' := (H8.out.1.cell (p := ⟨b5,f5 + 1 * 1 + 0,none⟩) HC.out.1).trans HC.out.2.2
 simp only [Nat.zero_mul,Nat.one_mul,Nat.add_zero] at c0 c1'
 obtain ⟨w8,hw8⟩ : ∃ w8,(w7.alloc kC).alloc xIc = w8 := ⟨_,rfl⟩
 rw [hw8] at H8 c0 c1'
 simp only [xH9,kC,xIc] at hw8
 rw [hw8]
 have HB := hI' H8.out.2
 clear hw8 hbz hb7 H8 HC H6 H4 HLG
 go_wp2
 go_ret
 exact ⟨rfl,HB.out⟩
end Go.Proofs.VA
