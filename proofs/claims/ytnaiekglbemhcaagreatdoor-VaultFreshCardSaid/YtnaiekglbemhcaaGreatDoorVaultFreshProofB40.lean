/- Contracts of functions of the program. Conditions: those that each theorem states. -/
import Derived.Test.YtnaiekglbemhcaaGreatDoorVaultFreshProofB33
import Derived.Test.YtnaiekglbemhcaaGreatDoorVaultFreshProofB35
import Derived.Test.YtnaiekglbemhcaaGreatDoorVaultFreshProofB39
import Derived.Test.YtnaiekglbemhcaaGreatDoorVaultFreshProofB10
import Derived.Test.YtnaiekglbemhcaaGreatDoorVaultFreshProofB26
set_option maxHeartbeats 8000000
set_option maxRecDepth 100000
namespace Mailsack
theorem xU8 {d : Dk} {x : Bs} (h : x ∈ qZ d) : x.length ≤ 24 := by
 obtain ⟨t,h1,h2,rfl⟩ := xU7 h
 obtain ⟨i,hi⟩ := List.mem_iff_getElem?.1 h1
 rw [vX] at hi
 split at hi
 ·obtain ⟨s,_,rfl⟩ := Option.map_eq_some_iff.1 hi
  rcases xGr s with e | ⟨_,h3⟩
  ·rw [e] at h2; cases h2
  ·exact h3.n2
 ·cases hi
theorem xMv (s p : Bs) : Go.Lib.hasPrefix s p = decide (s.take p.length = p) := by
 unfold Go.Lib.hasPrefix
 rw [Bool.eq_iff_iff,List.isPrefixOf_iff_prefix,decide_eq_true_eq,List.prefix_iff_eq_take]
 exact ⟨fun h => h.symm,fun h => h.symm⟩
theorem xKy {l : List Bs} {k : Nat} {x : Bs} (h : l[k]? = some x) (hd : Bs) : (l.take (k + 1)).flatMap (numberOf hd) = (l.take k).flatMap (numberOf hd) ++ numberOf hd x := by
 rw [List.take_add_one,h,List.flatMap_append]
 simp
theorem xE4 (hd : Bs) : ∀ (l : List Bs),(l.flatMap (numberOf hd)).length ≤ l.length
 | [] => Nat.le_refl _
 | x :: l => by
  have ih := xE4 hd l
  have : (numberOf hd x).length ≤ 1 := by
   unfold numberOf
   split
   ·split <;> simp
   ·simp
  rw [List.flatMap_cons,List.length_append,List.length_cons]
  omega
theorem xN3 (d : Dk) : (qZ d).length ≤ 1000 := by
 unfold qZ
 split
 ·have h1 : (Go.Lib.compact (wK (usedNames (yG (xY d).secs)))).length ≤ (wK (usedNames (yG (xY d).secs))).length := by
   unfold Go.Lib.compact Go.Lib.compactUpTo
   rw [List.length_map]
   have := List.length_filter_le (Go.Lib.keeps (wK (usedNames (yG (xY d).secs))).toArray) (List.range (wK (usedNames (yG (xY d).secs))).length)
   simpa using this
  have h2 : (wK (usedNames (yG (xY d).secs))).length = (usedNames (yG (xY d).secs)).length := by unfold wK; exact List.length_mergeSort _
  have h3 : (usedNames (yG (xY d).secs)).length ≤ 32 := by
   unfold usedNames
   rw [List.length_map]
   have := List.length_filter_le (fun t : Slot => t.used) (yG (xY d).secs)
   have h4 : (yG (xY d).secs).length ≤ 32 := by unfold yG; simp; omega
   omega
  omega
 ·simp
end Mailsack
namespace Go.Proofs.VA
open Go.RowKit Go.Lib Mailsack MM BB SH SV RK DS Go.Proofs.ST
abbrev xUw (z : Int) : List Value := [.int .i64 z]
theorem xJq (z : Int) : (xUw z).length = 1 := rfl
theorem xY7 (x : Int) : ∀ u ∈ xUw x,u.oneCell' = true := by
 intro u hu; rw [List.mem_singleton.1 hu]; rfl
theorem tyInt : xWm Tryz.prog 49 3 1 8 xUw := by
 obtain ⟨i,hi,hz,hs,hb⟩ := wH xP7
 exact ⟨Tryz.underlying49,⟨i,_,hi,hz,hs,hb,rfl⟩,by omega,by omega,xJq,xY7⟩
theorem xTd {w : World} {base : Nat} {v : Value} {xs : List Int} (h : xX 3 1 xUw w base v xs) (hl : xs.length ≤ 1000000) :
  Calls Tryz.prog 37 #[v] w fun e w' => e = .returned (.tuple #[]) ∧ Below base w w' ∧ RdR 1 xUw w' w'.heap.size v (xDu xs) := by
 have hls : (xDu xs).length = xs.length := by unfold xDu; exact List.length_mergeSort _
 rcases h.2 with ⟨hv,hn⟩ | ⟨g,cap,cur,h1,hb,hg,hnc,_,_,htake⟩
 ·have : xs = [] := List.eq_nil_of_length_eq_zero hn
  subst this
  subst hv
  refine (Tryz.slices_Sort_int_none none 0 w).mono ?_
  rintro e w' ⟨rfl,rfl⟩
  exact ⟨rfl,Below.refl _ _,none,0,by simp [xDu],by simp [xDu],fun h => by simp [xDu] at h⟩
 ·subst h1
  have hH : Sort.Holds (Value.int .i64) w g 0 xs.toArray := fun j hj => ⟨by
   have hj2 : j < xs.length := by simpa using hj
   have := World.ownsRow.cells h.row (g := g) rfl (j * 1 + 0) (.int .i64 (xs.toArray[j]!)) (flat_get xJq xs j 0 xs[j] _ (List.getElem?_eq_getElem hj2) (by rw [getElem!_pos xs.toArray j (by simpa using hj2)]; rfl))
   have hadd : (⟨g,0,none⟩ : Addr).add (j * 1 + 0) = ⟨g,0 + j,none⟩ := by unfold Addr.add; split <;> simp_all
   rw [hadd] at this
   exact this,xK hg _⟩
  refine (Tryz.slices_Sort_int g 0 cap xs w hH (xI hg) (by omega)).mono ?_
  rintro e w' ⟨rfl,n,os,rfl⟩
  have hH2 := Sort.holds_grow (Value.int .i64) _ os g 0 (xDu xs).toArray (by simpa using xI hg) (Sort.holds_putRow (Value.int .i64) (Sort.ahead w n) g 0 xs.toArray (xDu xs).toArray (Sort.holds_ahead _ _ n _ _ _ hH) (by simpa using hls))
  refine ⟨rfl,xGx (Below.refl _ _) hb (xI hg),_,cap,by rw [hls],by rw [hls]; exact hnc,fun _ => ⟨g,0,rfl,by have := xI hg; simp; omega,fun j x hx i u hu => ?_⟩⟩
  have hi := (List.getElem?_eq_some_iff.1 hu).1
  obtain rfl : i = 0 := by simp at hi; omega
  obtain ⟨hj,rfl⟩ := List.getElem?_eq_some_iff.1 hx
  have := (hH2 j (by simpa using hj)).1
  rw [show 0 + j * 1 + 0 = 0 + j by omega]
  refine this.trans ?_
  rw [getElem!_pos (xDu xs).toArray j (by simpa using hj)]
  simpa using hu
theorem xCa (va vb : Value) (d : Dk) (kd us : ByteArray) (w : World) (h : RdD w w.heap.size va vb d) (hk : kd.size ≤ 100) (hu : us.size ≤ 1000000) :
  Calls Tryz.prog 12 #[.agg #[va,vb],.string kd,.string us] w fun e w' => ∃ v,e = .returned v ∧ RdR 1 xUw w' w'.heap.size v (tK d kd.data.toList us.data.toList) ∧ Below w.heap.size w w' := by
 obtain ⟨A1,c1,A2,c2,rfl,rfl⟩ := yH h
 have HA := hI' ((Below.refl w.heap.size w).alloc (Nat.le_refl _) (yD (.slice A1 d.secs.length c1) (.slice A2 d.cache.length c2)))
 have hD0 := xM w (yD (.slice A1 d.secs.length c1) (.slice A2 d.cache.length c2))
 obtain ⟨d0,d1⟩ := uG hD0
 clear hD0
 have HNM := hI' (xU9 _ _ d _ ((h.below HA.out (Nat.le_refl _)).more HA.out.size))
 have HNP : Hid (tK d kd.data.toList us.data.toList = xDu ((qZ d).flatMap (numberOf (xGb kd.data.toList us.data.toList)))) := hI' rfl
 have HNL := hI' (fun x (hx : x ∈ qZ d) => xU8 hx)
 have HNC := hI' (xN3 d)
 obtain ⟨np,hnp⟩ : ∃ np,tK d kd.data.toList us.data.toList = np := ⟨_,rfl⟩
 rw [hnp] at HNP ⊢
 obtain ⟨hp,hhp⟩ : ∃ hp : ByteArray,kd ++ ⟨#[47]⟩ ++ us ++ ⟨#[47]⟩ = hp := ⟨_,rfl⟩
 have HHP : Hid (xGb kd.data.toList us.data.toList = hp.data.toList) := hI' (by
  rw [← hhp]
  simp [xGb,slash,ByteArray.data_append])
 rw [HHP.out] at HNP
 have n1 : ¬ (9223372036854775807 < kd.size + 1) := by omega
 have n2 : ¬ (9223372036854775807 < (kd ++ ⟨#[47]⟩).size + us.size) := by rw [ByteArray.size_append]; show ¬ (_ < kd.size + 1 + us.size); omega
 have n3 : ¬ (9223372036854775807 < (kd ++ ⟨#[47]⟩ ++ us).size + 1) := by rw [ByteArray.size_append,ByteArray.size_append]; show ¬ (_ < kd.size + 1 + us.size + 1); omega
 have n4 : ¬ (9223372036854775807 < kd.size + 1 + us.size + 1) := by omega
 generalize qZ d = names at HNM HNP HNL HNC
 have HHQ := hI' hhp
 clear h hk hu hnp hhp HHP
 go_enter Tryz.func12,Tryz.ntmps12
 go_wp2_with fail
 refine HNM.out.mono ?_
 rintro e w1 ⟨v1,rfl,hr1,hb1⟩
 have HB1 := hI' (HA.out.trans (hb1.mono HA.out.size))
 have HR1 := hI' hr1
 obtain ⟨A5,c5,rfl,hc5,hcell⟩ := hr1
 have HCL := hI' hcell
 clear hb1 hcell hc5 HNM HA d0 d1
 go_wp2_with fail
 go_loopw [7,17] (fun tv iv wr => ∃ k : Nat,k ≤ names.length ∧ iv = .int .i64 k ∧ Hid (xX 3 1 xUw wr w1.heap.size tv ((names.take k).flatMap (numberOf hp.data.toList)) ∧ Below w1.heap.size w1 wr)) (fun _ iv _ => names.length - (intOf iv).toNat)
 case atStart => exact ⟨0,Nat.zero_le _,rfl,hI' ⟨xX.nil _ _,Below.refl _ _⟩⟩
 case round =>
  obtain ⟨k,hk,rfl,HI⟩ := hrel
  have hnc : names.length ≤ 1000 := HNC.out
  by_cases hlt : k < names.length
  ·obtain ⟨x,hx⟩ : ∃ x,names[k]? = some x := ⟨_,List.getElem?_eq_getElem hlt⟩
   obtain ⟨b,off,rfl,hbw,hcs⟩ := HCL.out (by omega)
   have q := (HI.out.2.cell (p := ⟨b,off + k,none⟩) hbw).trans (hcs k x hx)
   have HXL : Hid (x.length ≤ 24) := hI' (HNL.out x (List.mem_of_getElem? hx))
   have HST := hI' (xKy hx hp.data.toList)
   have HNO : Hid (numberOf hp.data.toList x = if x.take hp.data.toList.length = hp.data.toList then (if qQ (x.drop hp.data.toList.length) = true then [(numOf (x.drop hp.data.toList.length) : Int)] else []) else []) := hI' rfl
   have HCP := hI' (fun W => Tryz.strings_CutPrefix ⟨x.toArray⟩ hp W)
   rw [show (⟨x.toArray⟩ : ByteArray).data.toList = x from rfl] at HCP
   have HTR : Hid (trimPrefix x hp.data.toList = if hasPrefix x hp.data.toList = true then x.drop hp.data.toList.length else x) := hI' rfl
   have HPT := hI' (xMv x hp.data.toList)
   have HTL : Hid (((names.take k).flatMap (numberOf hp.data.toList)).length ≤ 1000) := hI' (by have := xE4 hp.data.toList (names.take k); have := List.length_take_le k names; omega)
   generalize trimPrefix x hp.data.toList = tp at HCP HTR
   cases hpf : hasPrefix x hp.data.toList with
   | false =>
    rw [hpf] at HCP HTR HPT
    have hne : ¬ (x.take hp.data.toList.length = hp.data.toList) := of_decide_eq_false HPT.out.symm
    rw [if_neg hne] at HNO
    rw [HNO.out,List.append_nil] at HST
    clear hcs hx hpf hne HNO HPT
    rw [← HHQ.out] at HCP
    have HI2 : Hid (xX 3 1 xUw wr w1.heap.size u7 ((names.take (k + 1)).flatMap (numberOf hp.data.toList)) ∧ Below w1.heap.size w1 wr) := hI' (by rw [HST.out]; exact HI.out)
    clear HI HST HTL HTR HXL HNL
    go_wp2_with fail
    refine (HCP.out _).mono ?_
    rintro e w3 ⟨rfl,hw3⟩
    rw [hw3]
    clear hw3 w3 q
    go_wp2
    exact ⟨⟨k + 1,by omega,by go_num,HI2⟩,by simp [intOf]; omega⟩
   | true =>
    rw [hpf] at HCP HTR HPT
    have hye : x.take hp.data.toList.length = hp.data.toList := of_decide_eq_true HPT.out.symm
    rw [if_pos hye] at HNO
    rw [if_pos rfl] at HTR
    rw [← HTR.out] at HNO
    have HPA := hI' (fun W => xU0 tp W (by rw [HTR.out,List.length_drop]; have := HXL.out; omega))
    rw [← HHQ.out] at HCP
    clear hcs hx hpf hye HPT HTR HXL HNL
    go_wp2_with fail
    refine (HCP.out _).mono ?_
    rintro e w3 ⟨rfl,hw3⟩
    rw [hw3]
    clear hw3 w3 q HCP
    go_wp2_with fail
    refine (HPA.out _).mono ?_
    rintro e w3 ⟨z,rfl,hz,hw3⟩
    rw [hw3]
    clear hw3 w3 HPA
    cases hpo : qQ tp with
    | false =>
     rw [hpo,if_neg (by simp)] at HNO
     rw [HNO.out,List.append_nil] at HST
     have HI2 : Hid (xX 3 1 xUw wr w1.heap.size u7 ((names.take (k + 1)).flatMap (numberOf hp.data.toList)) ∧ Below w1.heap.size w1 wr) := hI' (by rw [HST.out]; exact HI.out)
     clear hz hpo HI HNO HST HTL
     go_wp2
     exact ⟨⟨k + 1,by omega,by go_num,HI2⟩,by simp [intOf]; omega⟩
    | true =>
     have hz2 := hz hpo
     rw [hpo,if_pos rfl,← hz2] at HNO
     rw [HNO.out] at HST
     have HO := hI' HI.out
     generalize (names.take k).flatMap (numberOf hp.data.toList) = T at HO HST HTL
     have HAD : Hid (∀ v8 w8,xHn 3 1 xUw (wr.alloc (.cells #[.int .i64 z] 3)) w8 w1.heap.size u7 v8 (T ++ [z]) → Hid (xX 3 1 xUw w8 w1.heap.size v8 ((names.take (k + 1)).flatMap (numberOf hp.data.toList)) ∧ Below w1.heap.size w1 w8)) := hI' fun v8 w8 h8 => hI' ⟨by rw [HST.out]; exact h8.own,h8.bel (HO.out.1.alloc _) (Nat.le_refl _) (HO.out.2.alloc HO.out.2.size _) (by have := HO.out.2.size; simp; omega)⟩
     clear hz hz2 hpo HI HNO
     go_wp2_with (at_builtin; refine vS tyInt rfl _ _ rfl rfl rfl (HO.out.1.alloc _) (RdR.lit (m := [z]) xJq _ _ rfl) (by have := HTL.out; simp; omega) (by have := HO.out.2.size; simp; omega) ?_; intro v8 w8 h8; have HA8 := HAD.out _ _ h8; clear h8)
     exact ⟨⟨k + 1,by omega,by go_num,HA8⟩,by simp [intOf]; omega⟩
  ·obtain rfl : k = names.length := by omega
   rw [List.take_length] at HI
   have HUL : Hid ((names.flatMap (numberOf hp.data.toList)).length ≤ 1000) := hI' (by have := xE4 hp.data.toList names; omega)
   generalize names.flatMap (numberOf hp.data.toList) = ns at HI HNP HUL
   have HSS := hI' (xTd HI.out.1 (by have := HUL.out; omega))
   have HBI := hI' HI.out.2
   obtain ⟨A6,c6,hu7,_⟩ := HI.out.1.form
   subst hu7
   clear HI hlt hk
   go_wp2_with fail
   refine HSS.out.mono ?_
   rintro e w4 ⟨rfl,hb4,hr4⟩
   have H4 := hI' (And.intro hr4 (HB1.out.trans ((HBI.out.trans hb4).mono HB1.out.size)))
   clear hb4 hr4 HSS HBI
   go_wp2
   go_ret
   exact ⟨_,rfl,by rw [HNP.out]; exact H4.out.1,H4.out.2⟩
end Go.Proofs.VA
namespace Go.Proofs.VA
open Go.RowKit Mailsack MM BB SH SV RK DS IX Go.Proofs.ST
abbrev xH9 (u p o : ByteArray) (ep : Int) (bv sv : Value) (g : Int) : Obj := .cells #[.string u,.string p,.string o,.int .i64 ep,bv,sv,.int .i64 g] 42
abbrev sesV (u p o : ByteArray) (ep : Int) (bv sv : Value) (g : Int) : Value := .agg #[.string u,.string p,.string o,.int .i64 ep,bv,sv,.int .i64 g]
abbrev kC : Obj := xH9 ⟨#[]⟩ ⟨#[]⟩ ⟨#[]⟩ 0 (.slice none 0 0) (.slice none 0 0) 0
abbrev xIc : Obj := yD (.slice none 0 0) (.slice none 0 0)
structure MgN (w : World) (va vb : Value) (so : Obj) (b1 b2 : Bool) (W : World) : Prop where
 d : W.heap[w.heap.size]? = some (yD va vb)
 s : W.heap[w.heap.size + 1]? = some so
 o1 : W.heap[w.heap.size + 2]? = some (if b1 = true then so else kC)
 o2 : W.heap[w.heap.size + 3]? = some (if b2 = true then yD va vb else xIc)
 bel : Below w.heap.size w W
theorem MgN.below {w W W' : World} {va vb : Value} {so : Obj} {b1 b2 : Bool} (h : MgN w va vb so b1 b2 W) (hb : Below W.heap.size W W') : MgN w va vb so b1 b2 W' :=
 ⟨xE h.d hb (xI h.d),xE h.s hb (xI h.s),xE h.o1 hb (xI h.o1),xE h.o2 hb (xI h.o2),h.bel.trans (hb.mono h.bel.size)⟩
theorem MgN.drew {w W : World} {va vb : Value} {so : Obj} {b1 b2 : Bool} (h : MgN w va vb so b1 b2 W) : MgN w va vb so b1 b2 W.drew := h.below (Below.refl _ W).drew
theorem xXu (w : World) (va vb : Value) (so : Obj) : MgN w va vb so false false ((((w.alloc (yD va vb)).alloc so).alloc kC).alloc xIc) := by
 have hb := ((((Below.refl w.heap.size w).alloc (Nat.le_refl _) (yD va vb)).alloc (by simp) so).alloc (by simp; omega) kC).alloc (by simp; omega) xIc
 have h1 := xM ((w.alloc (yD va vb)).alloc so) kC
 have h2 := xM (((w.alloc (yD va vb)).alloc so).alloc kC) xIc
 simp only [World.size_alloc] at h1 h2
 exact ⟨xP (xP (zQ _ _ _) _) _,xP (xP (zM _ _ _) _) _,xP h1 _,h2,hb⟩
theorem MgN.xHb {w W : World} {va vb : Value} {so : Obj} {b2 : Bool} {l : List Value} (h : MgN w va vb so false b2 W) (hl : l.length = 7) (e : so = .cells l.toArray 42 (0,0)) : MgN w va vb so true b2 (yR (w.heap.size + 2) 0 l W) := by
 have h1 := h.o1
 rw [if_neg (by simp)] at h1
 exact ⟨yQ (by omega) l 0 W h.d,yQ (by omega) l 0 W h.s,by rw [if_pos rfl,e]; exact uS h1 hl,yQ (by omega) l 0 W h.o2,zZ (by omega) l 0 W h.bel⟩
theorem MgN.put2 {w W : World} {va vb : Value} {so : Obj} {b1 : Bool} (h : MgN w va vb so b1 false W) : MgN w va vb so b1 true (yR (w.heap.size + 3) 0 [va,vb] W) := by
 have h1 := h.o2
 rw [if_neg (by simp)] at h1
 exact ⟨yQ (by omega) _ 0 W h.d,yQ (by omega) _ 0 W h.s,yQ (by omega) _ 0 W h.o1,by rw [if_pos rfl]; exact uS h1 rfl,zZ (by omega) _ 0 W h.bel⟩
theorem xR7 (va vb : Value) (d : Dk) (u p o xD : ByteArray) (ep gv : Int) (A3 A4 : Option Addr) (n3 k3 n4 k4 : Nat) (w : World) (h : RdD w w.heap.size va vb d) (hu : u.size ≤ 1000000) (hn : tK d [113] u.data.toList = []) :
  Calls Tryz.prog 32 #[.agg #[va,vb],sesV u p o ep (.slice A3 n3 k3) (.slice A4 n4 k4) gv,.string xD] w fun e w' => e = .returned (.tuple #[sesV u p o ep (.slice A3 n3 k3) (.slice A4 n4 k4) gv,.agg #[va,vb]]) ∧ Below w.heap.size w w' := by
 obtain ⟨A1,c1,A2,c2,rfl,rfl⟩ := yH h
 have H0 := hI' (xXu w (.slice A1 d.secs.length c1) (.slice A2 d.cache.length c2) (xH9 u p o ep (.slice A3 n3 k3) (.slice A4 n4 k4) gv))
 have HNB := hI' (fun W (hb : Below w.heap.size w W) => xCa (.slice A1 d.secs.length c1) (.slice A2 d.cache.length c2) d ⟨#[113]⟩ u W ((h.below hb (Nat.le_refl _)).more hb.size) (by decide) hu)
 rw [show (⟨#[113]⟩ : ByteArray).data.toList = [113] from rfl,hn] at HNB
 clear h hu hn
 go_enter Tryz.func32,Tryz.ntmps32
 go_upto_region 1 with fail
 obtain ⟨w1,hw1⟩ : ∃ w1,(((w.alloc (yD (.slice A1 d.secs.length c1) (.slice A2 d.cache.length c2))).alloc (xH9 u p o ep (.slice A3 n3 k3) (.slice A4 n4 k4) gv)).alloc kC).alloc xIc = w1 := ⟨_,rfl⟩
 rw [hw1] at H0
 simp only [xH9,kC,xIc] at hw1
 rw [hw1]
 clear hw1
 have hb := H0.out.s
 obtain ⟨s0,s1,s2,s3,s4,s5,s6⟩ := xPx hb
 clear hb
 go_upto_region 3 with fail
 have H1 := hI' (H0.out.below ((Below.refl _ _).alloc (Nat.le_refl _) (ixO (.slice A3 n3 k3) (.slice A4 n4 k4) gv)))
 obtain ⟨w2,hw2⟩ : ∃ w2,w1.alloc (ixO (.slice A3 n3 k3) (.slice A4 n4 k4) gv) = w2 := ⟨_,rfl⟩
 rw [hw2] at H1
 simp only [ixO] at hw2
 rw [hw2]
 clear hw2 H0 s1 s2 s3 s4 s5 s6 s0
 have hb := H1.out.s
 have s0 := xA hb 0
 have hd := H1.out.d
 have e0 := xA hd 0
 have e1 := xA hd 1
 simp only [gA,gB,gC] at e0 e1
 simp only [gA,gC] at s0
 clear hb hd
 go_wp2_with fail
 refine (HNB.out _ H1.out.bel).mono ?_
 rintro e w3 ⟨v,rfl,hr,hb3⟩
 have H3 := hI' (H1.out.below hb3)
 obtain ⟨A5,k5,rfl,_⟩ := hr
 clear H1 HNB s0 e0 e1 hb3
 go_wp2_with fail
 refine wp_loop_once ?_
 go_upto_region 14 with fail
 refine RG.vE [2,3] (fun L W => Hid (MgN w (.slice A1 d.secs.length c1) (.slice A2 d.cache.length c2) (xH9 u p o ep (.slice A3 n3 k3) (.slice A4 n4 k4) gv) (L 2) (L 3) W)) (fun L L' W hl h => by rw [← hl 2 (by simp),← hl 3 (by simp)]; exact h) (by kernel_rfl) (by kernel_rfl) (by kernel_rfl) (hI' H3.out.drew) ?_
 apply RG.zL
 ·rfl
 ·intro L w9 hw9
  have hb := hw9.out.s
  obtain ⟨s0,s1,s2,s3,s4,s5,s6⟩ := xPx hb
  repeat go_step
  with_reducible exact RG.xB hw9
 ·rfl
 apply RG.zL
 ·rfl
 ·intro L w9 hw9
  have hd := hw9.out.d
  obtain ⟨s0,s1⟩ := uG hd
  repeat go_step
  with_reducible exact RG.xB hw9
 ·rfl
 apply RG.uJ
 ·rfl
 ·intro L w9 h0 _ hw9
  have h9 := hw9.out
  rw [h0] at h9
  have hx := h9.o1
  rw [if_neg (by simp)] at hx
  have HP := hI' (MgN.xHb h9 (l := [.string u,.string p,.string o,.int .i64 ep,.slice A3 n3 k3,.slice A4 n4 k4,.int .i64 gv]) rfl rfl)
  simp only [yR,Nat.reduceAdd] at HP
  obtain ⟨o0,y0,f0,o1,y1,f1,o2,y2,f2,o3,y3,f3,o4,y4,f4,o5,y5,f5,o6,y6,f6,HB⟩ := cpl7 hx h9.bel (by omega) (.string u) (.string p) (.string o) (.int .i64 ep) (.slice A3 n3 k3) (.slice A4 n4 k4) (.int .i64 gv) _ rfl
  clear hx h9 hw9
  repeat go_step
  with_reducible refine RG.xB ?_
  exact HP
 ·rfl
 apply RG.uJ
 ·rfl
 ·intro L w9 h0 _ hw9
  have h9 := hw9.out
  rw [h0] at h9
  have hx := h9.o2
  rw [if_neg (by simp)] at hx
  have HP := hI' (MgN.put2 h9)
  simp only [yR,Nat.reduceAdd] at HP
  obtain ⟨o0,y0,f0,o1,y1,f1,HB⟩ := xNv hx h9.bel (by omega) (.slice A1 d.secs.length c1) (.slice A2 d.cache.length c2) _ rfl
  clear hx h9 hw9
  repeat go_step
  with_reducible refine RG.xB ?_
  exact HP
 ·rfl
 refine RG.yP (fun w4 hw4 => ?_)
 have h1 := hw4.out.o1
 have h2 := hw4.out.o2
 rw [if_pos rfl] at h1 h2
 obtain ⟨f0,f1,f2,f3,f4,f5,f6⟩ := xPx h1
 obtain ⟨g0,g1⟩ := uG h2
 have HB := hI' hw4.out.bel
 clear h1 h2 hw4 H3
 go_wp2
 refine bodyPost_ret (v := .tuple #[sesV u p o ep (.slice A3 n3 k3) (.slice A4 n4 k4) gv,.agg #[.slice A1 d.secs.length c1,.slice A2 d.cache.length c2]]) (by simp [results,Tryz.results32,go_sem,f0,f1,f2,f3,f4,f5,f6,g0,g1]) rfl ?_
 exact ⟨rfl,HB.out⟩
end Go.Proofs.VA
namespace Mailsack
theorem xSj (a b : Nat) (ha : a < 256) (hb : b < 256) : Go.bits .xor .u8 (a : Int) (b : Int) = ((a ^^^ b : Nat) : Int) := by
 have hx : a ^^^ b < 2 ^ 8 := Nat.xor_lt_two_pow (by omega) (by omega)
 have h1 : (BitVec.ofInt 8 (a : Int)).toNat = a := by
  rw [BitVec.ofInt_natCast,BitVec.toNat_ofNat]; exact Nat.mod_eq_of_lt (by omega)
 have h2 : (BitVec.ofInt 8 (b : Int)).toNat = b := by
  rw [BitVec.ofInt_natCast,BitVec.toNat_ofNat]; exact Nat.mod_eq_of_lt (by omega)
 show Go.IntKind.u8.wrap ((BitVec.ofInt 8 (a : Int) ^^^ BitVec.ofInt 8 (b : Int)).toNat : Int) = _
 rw [BitVec.toNat_xor,h1,h2,Go.IntKind.wrap_u8]
 omega
theorem xU4 (n : Nat) (h : n < 256) : (oct (n : Int)).toNat = n := by
 have := kT (n : Int)
 omega
theorem xWp (a b : UInt8) : oct (Go.bits .xor .u8 ((oct (Go.bits .xor .u8 (a.toNat : Int) (b.toNat : Int))).toNat : Int) (b.toNat : Int)) = a := by
 have ha := a.toNat_lt
 have hb := b.toNat_lt
 have hx : a.toNat ^^^ b.toNat < 256 := Nat.xor_lt_two_pow (n := 8) ha hb
 rw [xSj _ _ ha hb,xU4 _ hx,xSj _ _ hx hb,Nat.xor_assoc,Nat.xor_self,Nat.xor_zero]
 exact UInt8.toNat_inj.1 (xU4 _ ha)
theorem xIs (l : Bs) (off : Nat) (blk : Bs) : ∀ i,off + i ≤ l.length → ∀ j,(xMa l off blk i).getD j 0 = if off ≤ j ∧ j < off + i then oct (Go.bits .xor .u8 ((l.getD j 0).toNat : Int) ((blk.getD (j - off) 0).toNat : Int)) else l.getD j 0
 | 0,_,j => by rw [xMa,if_neg (by omega)]
 | i + 1,h,j => by
  rw [xMa,List.getD_eq_getElem?_getD,List.getElem?_set]
  by_cases hj : off + i = j
  ·subst hj
   rw [if_pos rfl,if_pos (by rw [xFc]; omega),Option.getD_some,xIs l off blk i (by omega) (off + i),if_neg (by omega),if_pos (by omega),show off + i - off = i by omega]
  ·rw [if_neg hj,← List.getD_eq_getElem?_getD,xIs l off blk i (by omega) j]
   by_cases h2 : off ≤ j ∧ j < off + i
   ·rw [if_pos h2,if_pos (by omega)]
   ·rw [if_neg h2,if_neg (by omega)]
theorem xFu (l : Bs) (xs : List Int) : ∀ k,64 * k < l.length + 64 → ∀ j,(xBq l xs k).getD j 0 = if j < 64 * k ∧ j < l.length then oct (Go.bits .xor .u8 ((l.getD j 0).toNat : Int) (((qU (qD xs (j / 64))).getD (j % 64) 0).toNat : Int)) else l.getD j 0
 | 0,_,j => by rw [xBq,if_neg (by omega)]
 | k + 1,h,j => by
  rw [xBq,xIs _ _ _ _ (by rw [xCn]; omega) j,xFu l xs k (by omega) j]
  by_cases h1 : 64 * k ≤ j ∧ j < 64 * k + min 64 (l.length - 64 * k)
  ·rw [if_pos h1,if_neg (by omega),if_pos (by omega),show j / 64 = k by omega,show j % 64 = j - 64 * k by omega]
  ·rw [if_neg h1]
   by_cases h2 : j < 64 * k ∧ j < l.length
   ·rw [if_pos h2,if_pos (by omega)]
   ·rw [if_neg h2,if_neg (by omega)]
theorem xIg (key xD : ByteArray) (c : Int) (s : ByteArray) : bsA (vF key xD c (bsA (vF key xD c s))) = s := by
 have hl : s.data.toList.length = s.size := by simp
 have h : vF key xD c (bsA (vF key xD c s)) = s.data.toList := by
  have hsz : (bsA (vF key xD c s)).size = s.size := by rw [yO,jZ]
  have hd : (bsA (vF key xD c s)).data.toList = vF key xD c s := by simp [bsA]
  apply List.ext_getElem?
  intro j
  by_cases hj : j < s.size
  ·have e1 : (vF key xD c (bsA (vF key xD c s)))[j]? = some ((vF key xD c (bsA (vF key xD c s))).getD j 0) := by
    rw [List.getD_eq_getElem?_getD,List.getElem?_eq_getElem (by rw [jZ,hsz]; exact hj)]
    rfl
   have e2 : s.data.toList[j]? = some (s.data.toList.getD j 0) := by
    rw [List.getD_eq_getElem?_getD,List.getElem?_eq_getElem (by rw [hl]; exact hj)]
    rfl
   rw [e1,e2]
   congr 1
   have g1 : (vF key xD c (bsA (vF key xD c s))).getD j 0 = oct (Go.bits .xor .u8 (((vF key xD c s).getD j 0).toNat : Int) (((qU (qD (tC key xD c) (j / 64))).getD (j % 64) 0).toNat : Int)) := by
    rw [vF,hd,hsz,xFu _ _ _ (by rw [jZ]; omega) j,if_pos ⟨by omega,by rw [jZ]; exact hj⟩]
   have g2 : (vF key xD c s).getD j 0 = oct (Go.bits .xor .u8 ((s.data.toList.getD j 0).toNat : Int) (((qU (qD (tC key xD c) (j / 64))).getD (j % 64) 0).toNat : Int)) := by
    rw [vF,xFu _ _ _ (by rw [hl]; omega) j,if_pos ⟨by omega,by rw [hl]; exact hj⟩]
   rw [g1,g2]
   exact xWp _ _
  ·rw [List.getElem?_eq_none (by rw [jZ,hsz]; omega),List.getElem?_eq_none (by rw [hl]; omega)]
 rw [h]
 rfl
end Mailsack
namespace Mailsack
open Go.Proofs.SH
theorem xM9 (a : Nat) (ha : a < 256) : Go.bits .xor .u8 (a : Int) (a : Int) = 0 := by
 rw [xSj _ _ ha ha,Nat.xor_self]
 rfl
theorem xIe (a : ByteArray) : ∀ k,xEj a a k = 0
 | 0 => rfl
 | k + 1 => by
  rw [xEj,xIe a k]
  obtain ⟨h0,h1⟩ := zG a k
  obtain ⟨n,hn⟩ := Int.eq_ofNat_of_zero_le h0
  rw [hn,xM9 n (by omega)]
  decide
theorem xDw (a : ByteArray) : rA a a = true := by
 unfold rA
 rw [xIe]
 simp
end Mailsack
