/- Contracts of functions of the program. Conditions: those that each theorem states. -/
import Derived.Test.YtnaiekglbemhcaaGreatDoorVaultFreshProofB27
import Derived.Laws.Bits64
import Derived.Laws.Bits64b
import Derived.Test.YtnaiekglbemhcaaGreatDoorVaultFreshProofB08
set_option maxHeartbeats 8000000
set_option maxRecDepth 100000
namespace Mailsack
theorem xWq {a b : Int} (ha : U64 a) (hb : U64 b) : Go.bits .xor .u64 a (Go.bits .xor .u64 a b) = b := by
 obtain ⟨a0,a1⟩ := ha
 obtain ⟨b0,b1⟩ := hb
 obtain ⟨x,rfl⟩ := Int.eq_ofNat_of_zero_le a0
 obtain ⟨y,rfl⟩ := Int.eq_ofNat_of_zero_le b0
 have hx : x < 18446744073709551616 := by omega
 have hy : y < 18446744073709551616 := by omega
 have hz : x ^^^ y < 18446744073709551616 := Nat.xor_lt_two_pow (n := 64) hx hy
 rw [Go.bits_xor_u64_nat x y hx hy,Go.bits_xor_u64_nat x (x ^^^ y) hx hz,← Nat.xor_assoc,Nat.xor_self,Nat.zero_xor]
theorem xSk {a b : Int} (ha : U64 a) (hb : U64 b) : Go.bits .xor .u64 b (Go.bits .xor .u64 a b) = a := by
 obtain ⟨a0,a1⟩ := ha
 obtain ⟨b0,b1⟩ := hb
 obtain ⟨x,rfl⟩ := Int.eq_ofNat_of_zero_le a0
 obtain ⟨y,rfl⟩ := Int.eq_ofNat_of_zero_le b0
 have hx : x < 18446744073709551616 := by omega
 have hy : y < 18446744073709551616 := by omega
 have hz : x ^^^ y < 18446744073709551616 := Nat.xor_lt_two_pow (n := 64) hx hy
 rw [Go.bits_xor_u64_nat x y hx hy,Go.bits_xor_u64_nat y (x ^^^ y) hy hz,Nat.xor_comm x y,← Nat.xor_assoc,Nat.xor_self,Nat.zero_xor]
theorem xWc {a : Int} (ha : U64 a) : Go.bits .and .u64 a 18446744073709551615 = a := by
 obtain ⟨a0,a1⟩ := ha
 obtain ⟨x,rfl⟩ := Int.eq_ofNat_of_zero_le a0
 have hx : x < 18446744073709551616 := by omega
 have h := Go.bits_and_u64_nat x 18446744073709551615 hx (by decide)
 rw [show ((18446744073709551615 : Nat) : Int) = 18446744073709551615 by rfl] at h
 rw [h,show (18446744073709551615 : Nat) = 2 ^ 64 - 1 by decide,Nat.and_two_pow_sub_one_eq_mod,Nat.mod_eq_of_lt hx]
theorem xYv {a : Int} (ha : U64 a) : Go.bits .and .u64 a 0 = 0 := by
 obtain ⟨a0,a1⟩ := ha
 obtain ⟨x,rfl⟩ := Int.eq_ofNat_of_zero_le a0
 have hx : x < 18446744073709551616 := by omega
 have h := Go.bits_and_u64_nat x 0 hx (by decide)
 rw [show ((0 : Nat) : Int) = 0 by rfl] at h
 rw [h,Nat.and_zero]
 rfl
theorem xO7 {a : Int} (ha : U64 a) : Go.bits .xor .u64 a 0 = a := by
 obtain ⟨a0,a1⟩ := ha
 obtain ⟨x,rfl⟩ := Int.eq_ofNat_of_zero_le a0
 have hx : x < 18446744073709551616 := by omega
 have h := Go.bits_xor_u64_nat x 0 hx (by decide)
 rw [show ((0 : Nat) : Int) = 0 by rfl] at h
 rw [h,Nat.xor_zero]
def swI (a b : List Int) : Nat → List Int
 | 0 => a
 | i + 1 => (swI a b i).set i (b.getD i 0)
theorem xMj (a b : List Int) : ∀ i,(swI a b i).length = a.length
 | 0 => rfl
 | i + 1 => by rw [swI,List.length_set,xMj a b i]
theorem xTa (a b : List Int) : ∀ i j,i ≤ j → (swI a b i).getD j 0 = a.getD j 0
 | 0,_,_ => rfl
 | i + 1,j,h => by
  rw [swI,List.getD_eq_getElem?_getD,List.getElem?_set,if_neg (by omega),← List.getD_eq_getElem?_getD]
  exact xTa a b i j (by omega)
theorem xTb {a b : List Int} (h : a.length = 5) (h2 : b.length = 5) : swI a b 5 = b := by
 obtain ⟨x0,x1,x2,x3,x4,rfl⟩ := xEe h
 obtain ⟨y0,y1,y2,y3,y4,rfl⟩ := xEe h2
 rfl
end Mailsack
namespace Go.Proofs.FE
open Go.RowKit Mailsack MM BB SH
theorem jV {P : Program} {fn : Func} {p q : Tmp} {ty : TypeId} (h : fn.results = #[.cell p ty,.cell q ty]) (tmps : Array Value) (w : World) (g k : Nat) (t t' : TypeId) (cs ds : Array Value) (fr fr' : Nat × Nat) (d : TypeDesc)
  (hp : tmps.getD p undef = .pointer (some ⟨g,0,none⟩)) (hq : tmps.getD q undef = .pointer (some ⟨k,0,none⟩)) (hg : w.heap[g]? = some (.cells cs t fr)) (hk : w.heap[k]? = some (.cells ds t' fr'))
  (hu : P.underlying ty = some d) (hd : (match d with | .struct _ | .array _ _ => true | _ => false) = true) (hi : (P.info? ty).map (·.size) = some cs.size) (hi2 : (P.info? ty).map (·.size) = some ds.size) :
  (results fn tmps).run P w = .ok (.tuple #[.agg cs,.agg ds]) w := by
 have hp' : tmps[p]?.getD undef = .pointer (some ⟨g,0,none⟩) := by simpa using hp
 have hq' : tmps[q]?.getD undef = .pointer (some ⟨k,0,none⟩) := by simpa using hq
 simp [results,h,hp',hq',asAddr,run_loadVar_row w g t ty cs fr d hg hu hd hi,run_loadVar_row w k t' ty ds fr' d hk hu hd hi2]
structure SwM (w : World) (ax bx rx sx : List Int) (W : World) : Prop where
 ba : uY 210 W w.heap.size ax
 bb : uY 210 W (w.heap.size + 1) bx
 br : uY 210 W (w.heap.size + 2) rx
 bs : uY 210 W (w.heap.size + 3) sx
 bel : Below w.heap.size w W
section
variable {w W W' : World} {ax bx rx sx : List Int}
theorem SwM.start (ax bx : List Int) : SwM w ax bx (List.replicate 5 0) (List.replicate 5 0) ((((w.alloc (.cells (xG ax) 210)).alloc (.cells (xG bx) 210)).alloc (.cells (xG (List.replicate 5 0)) 210)).alloc (.cells (xG (List.replicate 5 0)) 210)) := by
 have h := wD.start (w := w) ax bx
 have hz : (((w.alloc (.cells (xG ax) 210)).alloc (.cells (xG bx) 210)).alloc (.cells (xG (List.replicate 5 0)) 210)).heap.size = w.heap.size + 3 := by simp
 have hn := xM (((w.alloc (.cells (xG ax) 210)).alloc (.cells (xG bx) 210)).alloc (.cells (xG (List.replicate 5 0)) 210)) (.cells (xG (List.replicate 5 0)) 210)
 rw [hz] at hn
 exact ⟨xP h.ba _,xP h.bb _,xP h.bz _,hn,h.bel.alloc (by rw [hz]; omega) _⟩
theorem SwM.drew (h : SwM w ax bx rx sx W) : SwM w ax bx rx sx W.drew := ⟨h.ba,h.bb,h.br,h.bs,h.bel.drew⟩
theorem SwM.tJ (h : SwM w ax bx rx sx W) (i : Nat) (x : Int) : SwM w (ax.set i x) bx rx sx (W.setCell ⟨w.heap.size,i,none⟩ (.int .u64 x)) :=
 ⟨h.ba.put i x,h.bb.far (p := ⟨w.heap.size,i,none⟩) (by simp) _,h.br.far (p := ⟨w.heap.size,i,none⟩) (by simp) _,h.bs.far (p := ⟨w.heap.size,i,none⟩) (by simp) _,h.bel.setCell (p := ⟨w.heap.size,i,none⟩) (Nat.le_refl _) _⟩
theorem SwM.xZc (h : SwM w ax bx rx sx W) (i : Nat) (x : Int) : SwM w ax (bx.set i x) rx sx (W.setCell ⟨w.heap.size + 1,i,none⟩ (.int .u64 x)) :=
 ⟨h.ba.far (p := ⟨w.heap.size + 1,i,none⟩) (by simp) _,h.bb.put i x,h.br.far (p := ⟨w.heap.size + 1,i,none⟩) (by simp) _,h.bs.far (p := ⟨w.heap.size + 1,i,none⟩) (by simp) _,h.bel.setCell (p := ⟨w.heap.size + 1,i,none⟩) (by simp) _⟩
theorem SwM.rowR (h : SwM w ax bx rx sx W) (xs : List Int) : SwM w ax bx xs sx (W.setRow (w.heap.size + 2) (xG xs)) :=
 ⟨(setRow_other _ _ _ _ (by omega)).trans h.ba,(setRow_other _ _ _ _ (by omega)).trans h.bb,setRow_heap _ _ _ _ _ _ h.br,(setRow_other _ _ _ _ (by omega)).trans h.bs,below_setRow h.bel (by omega) _⟩
theorem SwM.rowS (h : SwM w ax bx rx sx W) (xs : List Int) : SwM w ax bx rx xs (W.setRow (w.heap.size + 3) (xG xs)) :=
 ⟨(setRow_other _ _ _ _ (by omega)).trans h.ba,(setRow_other _ _ _ _ (by omega)).trans h.bb,(setRow_other _ _ _ _ (by omega)).trans h.br,setRow_heap _ _ _ _ _ _ h.bs,below_setRow h.bel (by omega) _⟩
end
theorem xX2 (ax bx : List Int) (w : World) (hl : ax.length = 5) (hu : yV ax) (hl2 : bx.length = 5) (hu2 : yV bx) :
  Calls Tryz.prog 189 #[.agg (xG ax),.agg (xG bx),.bool true] w fun e w' => e = .returned (.tuple #[.agg (xG bx),.agg (xG ax)]) ∧ Below w.heap.size w w' := by
 have H0 : Hid (SwM w (swI ax bx 0) (swI bx ax 0) (List.replicate 5 0) (List.replicate 5 0) _) := hI' (SwM.start (w := w) ax bx)
 have HL := hI' (fun i => xMj ax bx i)
 have HL2 := hI' (fun i => xMj bx ax i)
 have HE : Hid (∀ n,n = 5 → swI ax bx n = bx ∧ swI bx ax n = ax) := hI' (fun n hn => by rw [hn]; exact ⟨xTb hl hl2,xTb hl2 hl⟩)
 have HA := hI' (fun i => xTa ax bx i i (Nat.le_refl _))
 have HA2 := hI' (fun i => xTa bx ax i i (Nat.le_refl _))
 go_enter Tryz.func189,Tryz.ntmps189
 go_upto_region 1 with fail
 refine (fun (h : ∀ W3,Hid (SwM w (swI ax bx 0) (swI bx ax 0) (List.replicate 5 0) (List.replicate 5 0) W3) → Code.wp _ _ _ _ W3) => h _ H0) ?_
 clear H0
 intro W0 H0
 go_wp2_with fail
 rw [show bits .xor .u64 IntKind.u64.max 0 = 18446744073709551615 by decide]
 go_loopw [14] (fun iv W => ∃ i : Nat,i ≤ 5 ∧ iv = .int .i64 i ∧ Hid (SwM w (swI ax bx i) (swI bx ax i) (List.replicate 5 0) (List.replicate 5 0) W)) (fun iv _ => 5 - (intOf iv).toNat)
 case atStart => exact ⟨0,by decide,rfl,H0⟩
 case round =>
  clear H0
  obtain ⟨i,hi,rfl,hr⟩ := hrel
  by_cases hlt : i < 5
  ·have hll := HL.out i
   have hll2 := HL2.out i
   have HPX := hI' (HA.out i)
   have HQX := hI' (HA2.out i)
   obtain ⟨x0,x1⟩ := hu i
   obtain ⟨y0,y1⟩ := hu2 i
   have HS : Hid (swI ax bx (i + 1) = (swI ax bx i).set i (bx.getD i 0) ∧ swI bx ax (i + 1) = (swI bx ax i).set i (ax.getD i 0)) := hI' ⟨rfl,rfl⟩
   obtain ⟨s1,hs1⟩ : ∃ s,swI ax bx (i + 1) = s := ⟨_,rfl⟩
   obtain ⟨s2,hs2⟩ : ∃ s,swI bx ax (i + 1) = s := ⟨_,rfl⟩
   rw [hs1,hs2] at HS
   have HS0 := HS
   have HS1 := hI' hs1
   have HS2 := hI' hs2
   clear hs1 hs2
   generalize swI ax bx i = p at hr hll HS HS0 HPX
   generalize swI bx ax i = q at hr hll2 HS HS0 HQX
   generalize ax.getD i 0 = x at x0 x1 HS HS0 HPX
   generalize bx.getD i 0 = y at y0 y1 HS HS0 HQX
   obtain ⟨d,hd⟩ : ∃ d,bits .and .u64 (bits .xor .u64 x y) 18446744073709551615 = d := ⟨_,rfl⟩
   have hd1 : bits .xor .u64 x d = y := by rw [← hd,xWc (zH _ _ _)]; exact xWq ⟨x0,x1⟩ ⟨y0,y1⟩
   have hd2 : bits .xor .u64 y d = x := by rw [← hd,xWc (zH _ _ _)]; exact xSk ⟨x0,x1⟩ ⟨y0,y1⟩
   obtain ⟨d0,d3⟩ := hd ▸ zH .and (bits .xor .u64 x y) 18446744073709551615
   have hpl := hll.trans hl
   have hql := hll2.trans hl2
   clear HS
   go_upto_region 7 with fail
   refine RG.xR (fun W => Hid (SwM w p q (List.replicate 5 0) (List.replicate 5 0) W)) (by kernel_rfl) (by kernel_rfl) (hI' hr.out.drew) ?_
   iterate 10
    apply RG.xC
    ·intro w9 hw9
     have q1 := hw9.out.ba.cell (i := i) (by omega)
     have q2 := hw9.out.bb.cell (i := i) (by omega)
     rw [HPX.out] at q1
     rw [HQX.out] at q2
     repeat go_step
     with_reducible exact RG.xB hw9
    ·rfl
   refine RG.xW (fun w9 hw9 => ?_)
   have HP := hI' ((hw9.out.tJ i y).xZc i x)
   rw [← HS0.out.1,← HS0.out.2] at HP
   have q0 := hw9.out.ba.cell (i := i) (by omega)
   have q1 := hw9.out.bb.cell (i := i) (by omega)
   rw [HPX.out] at q0
   rw [HQX.out] at q1
   have f0 := hw9.out.ba.free i
   have f1 := hw9.out.bb.free i
   clear hw9 hr
   go_wp2
   exact ⟨⟨i + 1,by omega,by go_num,by rw [HS1.out,HS2.out]; exact HP⟩,by simp [intOf]; omega⟩
  ·have hie : i = 5 := by omega
   obtain ⟨e1,e2⟩ := HE.out i hie
   rw [e1,e2] at hr
   have HIa := hI' (uN hl2)
   have HIb := hI' (uN hl)
   have HZa : Hid ((xG (List.replicate 5 0)).size = (xG bx).size) := hI' (xAq (by simp) hl2)
   have HZb : Hid ((xG (List.replicate 5 0)).size = (xG ax).size) := hI' (xAq (by simp) hl)
   clear HA HA2 HL HL2 HE hie e1 e2 hu hu2 hl hl2
   go_upto_region 11 with fail
   refine RG.yN 4 (fun L W => Hid (SwM w bx ax (if L 2 then bx else List.replicate 5 0) (if L 3 then ax else List.replicate 5 0) W)) (fun L L' W h hI => by rw [← h 2 (by decide),← h 3 (by decide)]; exact hI) (by kernel_rfl) (by kernel_rfl) rfl (hI' hr.out.drew) ?_
   clear hr
   apply RG.xJ
   ·rfl
   ·rfl
   ·intro L w9 h0 hcl xH hw9
    refine wpList_load_row rfl _ _ rfl w.heap.size rfl _ (xG bx) (0,0) _ hw9.out.ba Tryz.underlying210 rfl HIa.out ?_
    repeat go_step
    with_reducible refine RG.xB ?_
    exact ⟨xH,hw9⟩
   ·rfl
   apply RG.xJ
   ·rfl
   ·rfl
   ·intro L w9 h0 hcl xH hw9
    refine wpList_load_row rfl _ _ rfl (w.heap.size + 1) rfl _ (xG ax) (0,0) _ hw9.out.bb Tryz.underlying210 rfl HIb.out ?_
    repeat go_step
    with_reducible refine RG.xB ?_
    exact ⟨xH,hw9⟩
   ·rfl
   apply RG.xJ
   ·rfl
   ·rfl
   ·intro L w9 h0 hcl xH hw9
    have hs9 := hw9.out
    rw [h0,if_neg (by simp)] at hs9
    refine wpList_store_row rfl _ _ _ rfl (w.heap.size + 2) (xG bx) rfl rfl _ _ hs9.br HIa.out HZa.out (xS _) ?_
    repeat go_step
    with_reducible refine RG.xB ?_
    exact ⟨xH,hI' (hs9.rowR bx)⟩
   ·rfl
   apply RG.xJ
   ·rfl
   ·rfl
   ·intro L w9 h0 hcl xH hw9
    have hs9 := hw9.out
    rw [h0,if_neg (c := false = true) (by simp)] at hs9
    refine wpList_store_row rfl _ _ _ rfl (w.heap.size + 3) (xG ax) rfl rfl _ _ hs9.bs HIb.out HZb.out (xS _) ?_
    repeat go_step
    with_reducible refine RG.xB ?_
    exact ⟨xH,hI' (hs9.rowS ax)⟩
   ·rfl
   refine RG.yP (fun w9 hw9 => ?_)
   rw [if_pos rfl,if_pos rfl] at hw9
   go_wp2
   refine bodyPost_ret (jV rfl _ _ (w.heap.size + 2) (w.heap.size + 3) _ _ _ _ (0,0) (0,0) _ rfl rfl hw9.out.br hw9.out.bs Tryz.underlying210 rfl HIa.out HIb.out) rfl ?_
   exact ⟨rfl,hw9.out.bel⟩
theorem set_self {l : List Int} {i : Nat} {x : Int} (h : i < l.length) (hx : l.getD i 0 = x) : l.set i x = l := by
 rw [← hx,List.getD_eq_getElem?_getD,List.getElem?_eq_getElem h]
 exact List.set_getElem_self h
theorem yAc (ax bx : List Int) (w : World) (hl : ax.length = 5) (hu : yV ax) (hl2 : bx.length = 5) (hu2 : yV bx) :
  Calls Tryz.prog 189 #[.agg (xG ax),.agg (xG bx),.bool false] w fun e w' => e = .returned (.tuple #[.agg (xG ax),.agg (xG bx)]) ∧ Below w.heap.size w w' := by
 have H0 := hI' (SwM.start (w := w) ax bx)
 go_enter Tryz.func189,Tryz.ntmps189
 go_upto_region 1 with fail
 refine (fun (h : ∀ W3,Hid (SwM w ax bx (List.replicate 5 0) (List.replicate 5 0) W3) → Code.wp _ _ _ _ W3) => h _ H0) ?_
 clear H0
 intro W0 H0
 go_wp2_with fail
 go_loopw [14] (fun iv W => ∃ i : Nat,i ≤ 5 ∧ iv = .int .i64 i ∧ Hid (SwM w ax bx (List.replicate 5 0) (List.replicate 5 0) W)) (fun iv _ => 5 - (intOf iv).toNat)
 case atStart => exact ⟨0,by decide,rfl,H0⟩
 case round =>
  clear H0
  obtain ⟨i,hi,rfl,hr⟩ := hrel
  by_cases hlt : i < 5
  ·obtain ⟨x,hx⟩ : ∃ x,ax.getD i 0 = x := ⟨_,rfl⟩
   obtain ⟨y,hy⟩ : ∃ y,bx.getD i 0 = y := ⟨_,rfl⟩
   obtain ⟨x0,x1⟩ := hx ▸ hu i
   obtain ⟨y0,y1⟩ := hy ▸ hu2 i
   have HSX := hI' (set_self (by omega) hx)
   have HSY := hI' (set_self (by omega) hy)
   have HPX := hI' hx
   have HQX := hI' hy
   have hd : bits .and .u64 (bits .xor .u64 x y) 0 = 0 := xYv (zH _ _ _)
   have hd1 : bits .xor .u64 x 0 = x := xO7 ⟨x0,x1⟩
   have hd2 : bits .xor .u64 y 0 = y := xO7 ⟨y0,y1⟩
   clear hx hy
   go_upto_region 7 with fail
   refine RG.xR (fun W => Hid (SwM w ax bx (List.replicate 5 0) (List.replicate 5 0) W)) (by kernel_rfl) (by kernel_rfl) (hI' hr.out.drew) ?_
   iterate 10
    apply RG.xC
    ·intro w9 hw9
     have q1 := hw9.out.ba.cell (i := i) (by omega)
     have q2 := hw9.out.bb.cell (i := i) (by omega)
     rw [HPX.out] at q1
     rw [HQX.out] at q2
     repeat go_step
     with_reducible exact RG.xB hw9
    ·rfl
   refine RG.xW (fun w9 hw9 => ?_)
   have HP := hI' ((hw9.out.tJ i x).xZc i y)
   rw [HSX.out,HSY.out] at HP
   have q0 := hw9.out.ba.cell (i := i) (by omega)
   have q1 := hw9.out.bb.cell (i := i) (by omega)
   rw [HPX.out] at q0
   rw [HQX.out] at q1
   have f0 := hw9.out.ba.free i
   have f1 := hw9.out.bb.free i
   clear hw9 hr
   go_wp2
   exact ⟨⟨i + 1,by omega,by go_num,HP⟩,by simp [intOf]; omega⟩
  ·have hie : i = 5 := by omega
   have HIa := hI' (uN hl)
   have HIb := hI' (uN hl2)
   have HZa : Hid ((xG (List.replicate 5 0)).size = (xG ax).size) := hI' (xAq (by simp) hl)
   have HZb : Hid ((xG (List.replicate 5 0)).size = (xG bx).size) := hI' (xAq (by simp) hl2)
   clear hie hu hu2 hl hl2
   go_upto_region 11 with fail
   refine RG.yN 4 (fun L W => Hid (SwM w ax bx (if L 2 then ax else List.replicate 5 0) (if L 3 then bx else List.replicate 5 0) W)) (fun L L' W h hI => by rw [← h 2 (by decide),← h 3 (by decide)]; exact hI) (by kernel_rfl) (by kernel_rfl) rfl (hI' hr.out.drew) ?_
   clear hr
   apply RG.xJ
   ·rfl
   ·rfl
   ·intro L w9 h0 hcl xH hw9
    refine wpList_load_row rfl _ _ rfl w.heap.size rfl _ (xG ax) (0,0) _ hw9.out.ba Tryz.underlying210 rfl HIa.out ?_
    repeat go_step
    with_reducible refine RG.xB ?_
    exact ⟨xH,hw9⟩
   ·rfl
   apply RG.xJ
   ·rfl
   ·rfl
   ·intro L w9 h0 hcl xH hw9
    refine wpList_load_row rfl _ _ rfl (w.heap.size + 1) rfl _ (xG bx) (0,0) _ hw9.out.bb Tryz.underlying210 rfl HIb.out ?_
    repeat go_step
    with_reducible refine RG.xB ?_
    exact ⟨xH,hw9⟩
   ·rfl
   apply RG.xJ
   ·rfl
   ·rfl
   ·intro L w9 h0 hcl xH hw9
    have hs9 := hw9.out
    rw [h0,if_neg (by simp)] at hs9
    refine wpList_store_row rfl _ _ _ rfl (w.heap.size + 2) (xG ax) rfl rfl _ _ hs9.br HIa.out HZa.out (xS _) ?_
    repeat go_step
    with_reducible refine RG.xB ?_
    exact ⟨xH,hI' (hs9.rowR ax)⟩
   ·rfl
   apply RG.xJ
   ·rfl
   ·rfl
   ·intro L w9 h0 hcl xH hw9
    have hs9 := hw9.out
    rw [h0,if_neg (c := false = true) (by simp)] at hs9
    refine wpList_store_row rfl _ _ _ rfl (w.heap.size + 3) (xG bx) rfl rfl _ _ hs9.bs HIb.out HZb.out (xS _) ?_
    repeat go_step
    with_reducible refine RG.xB ?_
    exact ⟨xH,hI' (hs9.rowS bx)⟩
   ·rfl
   refine RG.yP (fun w9 hw9 => ?_)
   rw [if_pos rfl,if_pos rfl] at hw9
   go_wp2
   refine bodyPost_ret (jV rfl _ _ (w.heap.size + 2) (w.heap.size + 3) _ _ _ _ (0,0) (0,0) _ rfl rfl hw9.out.br hw9.out.bs Tryz.underlying210 rfl HIa.out HIb.out) rfl ?_
   exact ⟨rfl,hw9.out.bel⟩
end Go.Proofs.FE
namespace Mailsack
def rH (l : List Int) : List Int := [Go.bits .or .u64 (l.getD 0 0) (Go.IntKind.u64.wrap (l.getD 1 0 * 2251799813685248)),Go.bits .or .u64 (l.getD 1 0 / 8192) (Go.IntKind.u64.wrap (l.getD 2 0 * 274877906944)),Go.bits .or .u64 (l.getD 2 0 / 67108864) (Go.IntKind.u64.wrap (l.getD 3 0 * 33554432)),Go.bits .or .u64 (l.getD 3 0 / 549755813888) (Go.IntKind.u64.wrap (l.getD 4 0 * 4096))]
theorem xWr (l : List Int) : yV (rH l) := by
 intro i
 match i with
 | 0 => unfold rH; simp only [List.getD_cons_zero]; exact zH _ _ _
 | 1 => unfold rH; simp only [List.getD_cons_zero,List.getD_cons_succ]; exact zH _ _ _
 | 2 => unfold rH; simp only [List.getD_cons_zero,List.getD_cons_succ]; exact zH _ _ _
 | 3 => unfold rH; simp only [List.getD_cons_zero,List.getD_cons_succ]; exact zH _ _ _
 | n + 4 =>
  rw [List.getD_eq_getElem?_getD,List.getElem?_eq_none (by simp [rH])]
  exact ⟨by decide,by decide⟩
def xS9 (ws : List Int) : Nat → Bs
 | 0 => xQ 32
 | i + 1 => (xS9 ws i).set i (oct (ws.getD (i / 8) 0 / 2 ^ (8 * (i % 8))))
theorem xJ9 (ws : List Int) : ∀ i,(xS9 ws i).length = 32
 | 0 => yT 32
 | i + 1 => by rw [xS9,List.length_set,xJ9 ws i]
def xCf (a : List Int) : ByteArray := bsA (xS9 (rH (xAf a)) 32)
theorem xLf (a : List Int) : (xCf a).size = 32 := by rw [xCf,yO,xJ9]
def wI (s : ByteArray) : Nat → List Int
 | 0 => List.replicate 4 0
 | i + 1 => (wI s i).set (i / 8) (Go.bits .or .u64 ((wI s i).getD (i / 8) 0) (Go.IntKind.u64.wrap (yZ s i * 2 ^ (8 * (i % 8)))))
theorem xZ4 (s : ByteArray) : ∀ i,(wI s i).length = 4
 | 0 => by simp [wI]
 | i + 1 => by rw [wI,List.length_set,xZ4 s i]
theorem wI_u (s : ByteArray) : ∀ i,yV (wI s i)
 | 0 => xC4 4
 | i + 1 => (wI_u s i).set _ (zH _ _ _)
def xUf (w : List Int) : List Int := [Go.bits .and .u64 (w.getD 0 0) 2251799813685247,Go.bits .and .u64 (Go.bits .or .u64 (w.getD 0 0 / 2251799813685248) (Go.IntKind.u64.wrap (w.getD 1 0 * 8192))) 2251799813685247,Go.bits .and .u64 (Go.bits .or .u64 (w.getD 1 0 / 274877906944) (Go.IntKind.u64.wrap (w.getD 2 0 * 67108864))) 2251799813685247,Go.bits .and .u64 (Go.bits .or .u64 (w.getD 2 0 / 33554432) (Go.IntKind.u64.wrap (w.getD 3 0 * 549755813888))) 2251799813685247,Go.bits .and .u64 (w.getD 3 0 / 4096) 2251799813685247]
def xZs (s : ByteArray) : List Int := xUf (wI s 32)
theorem xYi (s : ByteArray) : (xZs s).length = 5 := rfl
theorem xXx (w : List Int) : yV (xUf w) := xDn (zH _ _ _) (zH _ _ _) (zH _ _ _) (zH _ _ _) (zH _ _ _)
theorem feOf_u (s : ByteArray) : yV (xZs s) := xXx _
theorem yBp {ws : List Int} (h : ws.length = 4) : ∃ a b c d,ws = [a,b,c,d] := by
 match ws,h with
 | [a,b,c,d],_ => exact ⟨a,b,c,d,rfl⟩
end Mailsack
namespace Go.Proofs.FE
open Go.RowKit Mailsack MM BB SH
structure ByM (w : World) (ax : List Int) (W : World) : Prop where
 ba : uY 210 W w.heap.size ax
 bel : Below w.heap.size w W
structure ByL (w : World) (g : Nat) (ws : List Int) (l : Bs) (W : World) : Prop where
 bw : uY 258 W g ws
 bo : W.heap[g + 1]? = some (.cells (yJ l) 231 (0,0))
 bel : Below w.heap.size w W
 ge : w.heap.size ≤ g
theorem ByL.put {w W : World} {g : Nat} {ws : List Int} {l : Bs} (h : ByL w g ws l W) (i : Nat) (z : Int) : ByL w g ws (l.set i (oct z)) (W.setCell ⟨g + 1,i,none⟩ (.int .u8 (z % 256))) := by
 have hg := h.ge
 have h2 := yB h.bo i (.int .u8 (z % 256))
 rw [xDf] at h2
 exact ⟨h.bw.far (p := ⟨g + 1,i,none⟩) (by simp) _,h2,h.bel.setCell (p := ⟨g + 1,i,none⟩) (by simp only []; omega) _,hg⟩
theorem xW5 (ax : List Int) (w : World) (hl : ax.length = 5) (hu : yV ax) :
  Calls Tryz.prog 146 #[.agg (xG ax)] w fun e w' => e = .returned (.string (xCf ax)) ∧ Below w.heap.size w w' := by
 have HN := hI' (fun W => xNp ax W hl hu)
 have HIa := hI' (uN hl)
 have HIn := hI' (uN (xCe ax))
 have HZa := hI' (xAq hl (xCe ax))
 have hnl := xCe ax
 have hnu := xVn ax
 have H0 : Hid (ByM w ax (w.alloc (.cells (xG ax) 210))) := hI' ⟨xM _ _,(Below.refl w.heap.size w).alloc (Nat.le_refl _) _⟩
 have HR : Hid (∀ n,n = 32 → xCf ax = bsA (xS9 (rH (xAf ax)) n)) := hI' (fun n hn => by rw [hn]; rfl)
 generalize xCf ax = res at HR ⊢
 generalize xAf ax = na at HN HIn HZa hnl hnu HR
 clear hl hu
 go_enter Tryz.func146,Tryz.ntmps146
 go_upto_region 1 with fail
 refine (fun (h : ∀ W3,Hid (ByM w ax W3) → Code.wp _ _ _ _ W3) => h _ H0) ?_
 clear H0
 intro W0 H0
 refine wp_region_lit ?_
 refine wpList_load_row rfl _ _ rfl w.heap.size rfl _ (xG ax) (0,0) _ H0.out.ba Tryz.underlying210 rfl HIa.out ?_
 repeat go_step
 refine (HN.out _).mono ?_
 rintro e w7 ⟨rfl,hb7⟩
 have h7 : ByM w ax w7 := ⟨H0.out.ba.below hb7,H0.out.bel.trans (hb7.mono H0.out.bel.size)⟩
 have H8 : Hid (ByM w na (w7.setRow w.heap.size (xG na))) := hI' ⟨setRow_heap _ _ _ _ _ _ h7.ba,below_setRow h7.bel (Nat.le_refl _) _⟩
 clear H0 hb7
 obtain ⟨a,b,c,d,e,rfl⟩ := xEe hnl
 have ha := hnu 0
 have hb := hnu 1
 have hc := hnu 2
 have hd := hnu 3
 have he := hnu 4
 simp only [List.getD_cons_zero,List.getD_cons_succ] at ha hb hc hd he
 obtain ⟨a0,a1⟩ := ha
 obtain ⟨b0,b1⟩ := hb
 obtain ⟨c0,c1⟩ := hc
 obtain ⟨d0,d1⟩ := hd
 obtain ⟨e0,e1⟩ := he
 have q0 : (w7.setRow w.heap.size (xG [a,b,c,d,e])).cell? ⟨w.heap.size,0,none⟩ = some (.int .u64 a) := H8.out.ba.cell (i := 0) (by simp)
 have q1 : (w7.setRow w.heap.size (xG [a,b,c,d,e])).cell? ⟨w.heap.size,1,none⟩ = some (.int .u64 b) := H8.out.ba.cell (i := 1) (by simp)
 have q2 : (w7.setRow w.heap.size (xG [a,b,c,d,e])).cell? ⟨w.heap.size,2,none⟩ = some (.int .u64 c) := H8.out.ba.cell (i := 2) (by simp)
 have q3 : (w7.setRow w.heap.size (xG [a,b,c,d,e])).cell? ⟨w.heap.size,3,none⟩ = some (.int .u64 d) := H8.out.ba.cell (i := 3) (by simp)
 have q4 : (w7.setRow w.heap.size (xG [a,b,c,d,e])).cell? ⟨w.heap.size,4,none⟩ = some (.int .u64 e) := H8.out.ba.cell (i := 4) (by simp)
 clear hnu hnl HN
 generalize hrow : xG [a,b,c,d,e] = row at *
 go_wp2_with (refine wpList_store_row rfl _ _ _ rfl w.heap.size row rfl rfl _ _ h7.ba HIn.out HZa.out (by rw [← hrow]; exact xS _) ?_)
 clear q0 q1 q2 q3 q4 HIn HZa HIa
 have hz : (w7.setRow w.heap.size row).heap.size = w7.heap.size := setRow_size _ _ _
 have h1 := xP (xM (w7.setRow w.heap.size row) (.cells (xG (rH [a,b,c,d,e])) 258)) (.cells (yJ (xQ 32)) 231)
 have h2 := xM ((w7.setRow w.heap.size row).alloc (.cells (xG (rH [a,b,c,d,e])) 258)) (.cells (yJ (xQ 32)) 231)
 rw [vD] at h2
 rw [hz] at h1 h2
 refine (fun (h : ∀ W3,Hid (ByL w w7.heap.size (rH [a,b,c,d,e]) (xQ 32) W3) → Code.wp _ _ _ _ W3) => h _ (hI' ⟨h1,h2,(H8.out.bel.alloc (by rw [hz]; exact h7.bel.size) _).alloc (by rw [vD,hz]; have := h7.bel.size; omega) _,h7.bel.size⟩)) ?_
 clear H8 h7 hz h1 h2 hrow
 have hwu := xWr [a,b,c,d,e]
 have hwl : (rH [a,b,c,d,e]).length = 4 := rfl
 generalize rH [a,b,c,d,e] = ws at hwu hwl HR ⊢
 generalize w7.heap.size = g
 clear a0 a1 b0 b1 c0 c1 d0 d1 e0 e1
 intro W1 H1
 have H2 : Hid (ByL w g ws (xS9 ws 0) W1) := H1
 clear H1
 have HL := hI' (fun i => xJ9 ws i)
 go_loopw [36] (fun iv W => ∃ i : Nat,i ≤ 32 ∧ iv = .int .i64 i ∧ Hid (ByL w g ws (xS9 ws i) W)) (fun iv _ => 32 - (intOf iv).toNat)
 case atStart => exact ⟨0,by decide,rfl,H2⟩
 case round =>
  clear H2
  obtain ⟨i,hi,rfl,hr⟩ := hrel
  by_cases hlt : i < 32
  ·have HS : Hid (∀ q r,q = i / 8 → r = i % 8 → xS9 ws (i + 1) = (xS9 ws i).set i (oct (ws.getD q 0 / 2 ^ (8 * r)))) := hI' (fun q r hq hr => by rw [hq,hr]; rfl)
   have hll := HL.out i
   obtain ⟨q,hq⟩ : ∃ q,q = i / 8 := ⟨_,rfl⟩
   obtain ⟨r,hrr⟩ : ∃ r,r = i % 8 := ⟨_,rfl⟩
   replace HS := hI' (HS.out q r hq hrr)
   have hq4 : q < 4 := by omega
   have hr8 : r < 8 := by omega
   have hiq : (i : Int) / 8 = (q : Int) := by omega
   have hir : (i : Int) % 8 = (r : Int) := by omega
   obtain ⟨s1,hs1⟩ : ∃ s,xS9 ws (i + 1) = s := ⟨_,rfl⟩
   rw [hs1] at HS
   have HS1 := hI' hs1
   clear hs1 hq hrr
   generalize xS9 ws i = l at hr hll HS
   obtain ⟨x0,x1⟩ := hwu q
   have q0 := hr.out.bw.cell (i := q) (by omega)
   generalize ws.getD q 0 = x at q0 x0 x1 HS
   have q1 := xA hr.out.bo i
   rw [tL (by omega)] at q1
   have q2 := xK hr.out.bo i
   generalize ((l.getD i 0).toNat : Int) = old at q1
   have HP := hI' (hr.out.put i (x / 2 ^ (8 * r)))
   rw [← HS.out] at HP
   clear hr HS
   go_wp2
   exact ⟨⟨i + 1,by omega,by go_num,by rw [HS1.out]; exact HP⟩,by simp [intOf]; omega⟩
  ·have hie : i = 32 := by omega
   have HRi := hI' (HR.out i hie)
   have HT := xCr (t := 231) hr.out.bo 32 32 (HL.out i)
   have hneg : ¬ ((i : Int) < 32) := by omega
   clear HR HL hie hlt hi
   generalize xS9 ws i = l at hr HRi HT
   go_wp2
   go_ret
   rw [HRi.out]
   exact ⟨rfl,hr.out.bel⟩
structure OfM (w : World) (ws : List Int) (W : World) : Prop where
 bz : uY 210 W w.heap.size (List.replicate 5 0)
 bw : uY 258 W (w.heap.size + 1) ws
 bel : Below w.heap.size w W
theorem OfM.drew {w W : World} {ws : List Int} (h : OfM w ws W) : OfM w ws W.drew := ⟨h.bz,h.bw,h.bel.drew⟩
theorem OfM.put {w W : World} {ws : List Int} (h : OfM w ws W) (i : Nat) (x : Int) : OfM w (ws.set i x) (W.setCell ⟨w.heap.size + 1,i,none⟩ (.int .u64 x)) :=
 ⟨h.bz.far (p := ⟨w.heap.size + 1,i,none⟩) (by simp) _,h.bw.put i x,h.bel.setCell (p := ⟨w.heap.size + 1,i,none⟩) (by simp) _⟩
theorem of_any (s : ByteArray) (w : World) (hs : s.size = 32) :
  Calls Tryz.prog 143 #[.string s] w fun e w' => e = .returned (.tuple #[.agg (xG (xZs s)),.bool true]) ∧ Below w.heap.size w w' := by
 have hsi : (s.size : Int) = 32 := by omega
 have H0 : Hid (OfM w (wI s 0) ((w.alloc (.cells (xG (List.replicate 5 0)) 210)).alloc (.cells (xG (List.replicate 4 0)) 258))) := hI' ⟨zQ _ _ _,zM _ _ _,((Below.refl w.heap.size w).alloc (Nat.le_refl _) _).alloc (by simp) _⟩
 have HR : Hid (∀ n,n = 32 → xZs s = xUf (wI s n)) := hI' (fun n hn => by rw [hn]; rfl)
 have HL := hI' (fun i => xZ4 s i)
 have HU := hI' (fun i => wI_u s i)
 obtain ⟨res,hres⟩ : ∃ x,xZs s = x := ⟨_,rfl⟩
 have hrl : res.length = 5 := by rw [← hres]; rfl
 rw [hres] at HR ⊢
 have HS := hI' hs
 clear hres hs
 go_enter Tryz.func143,Tryz.ntmps143
 go_upto_region 4 with fail
 refine (fun (h : ∀ W3,Hid (OfM w (wI s 0) W3) → Code.wp _ _ _ _ W3) => h _ H0) ?_
 clear H0
 intro W0 H0
 go_wp2_with fail
 go_loopw [12] (fun iv W => ∃ i : Nat,i ≤ 32 ∧ iv = .int .i64 i ∧ Hid (OfM w (wI s i) W)) (fun iv _ => 32 - (intOf iv).toNat)
 case atStart => exact ⟨0,by decide,rfl,H0⟩
 case round =>
  clear H0
  obtain ⟨i,hi,rfl,hr⟩ := hrel
  by_cases hlt : i < 32
  ·have HSt : Hid (∀ q r,q = i / 8 → r = i % 8 → wI s (i + 1) = (wI s i).set q (bits .or .u64 ((wI s i).getD q 0) (IntKind.u64.wrap (yZ s i * 2 ^ (8 * r))))) := hI' (fun q r hq hr => by rw [hq,hr]; rfl)
   have hll := HL.out i
   obtain ⟨q,hq⟩ : ∃ q,q = i / 8 := ⟨_,rfl⟩
   obtain ⟨r,hrr⟩ : ∃ r,r = i % 8 := ⟨_,rfl⟩
   replace HSt := hI' (HSt.out q r hq hrr)
   have hq4 : q < 4 := by omega
   have hr8 : r < 8 := by omega
   have hiq : (i : Int) / 8 = (q : Int) := by omega
   have hir : (i : Int) % 8 = (r : Int) := by omega
   obtain ⟨s1,hs1⟩ : ∃ z,wI s (i + 1) = z := ⟨_,rfl⟩
   rw [hs1] at HSt
   have HS1 := hI' hs1
   have hu := HU.out i q
   have ix := fun w => zU (P := Tryz.prog) Tryz.underlying9 s (i : Int) i rfl (by rw [HS.out]; exact hlt) w
   obtain ⟨b0,b1⟩ := zG s i
   clear hs1 hq hrr
   generalize wI s i = l at hr hll hu HSt
   obtain ⟨x,hx⟩ : ∃ x,l.getD q 0 = x := ⟨_,rfl⟩
   rw [hx] at hu HSt
   obtain ⟨x0,x1⟩ := hu
   have HX := hI' hx
   generalize yZ s i = b at ix b0 b1 HSt
   obtain ⟨z,hz⟩ : ∃ z,bits .or .u64 x (IntKind.u64.wrap (b * 2 ^ (8 * r))) = z := ⟨_,rfl⟩
   rw [hz] at HSt
   have HZ := hI' hz
   clear hx
   go_upto_region 7 with fail
   refine RG.yN 15 (fun L W => Hid (OfM w (if L 14 then l.set q z else l) W)) (fun L L' W h hI => by rw [← h 14 (by decide)]; exact hI) (by kernel_rfl) (by kernel_rfl) rfl (hI' hr.out.drew) ?_
   iterate 3
    apply RG.xJ
    ·rfl
    ·rfl
    ·intro L w9 h0 hcl xH hw9
     repeat go_step
     with_reducible refine RG.xB ?_
     exact ⟨xH,hw9⟩
    ·rfl
   apply RG.xJ
   ·rfl
   ·rfl
   ·intro L w9 h0 hcl xH hw9
    have e1 := hcl.not 15 (i := 14) h0 (by kernel_rfl)
    have hs9 := hw9.out
    rw [e1,if_neg (by simp)] at hs9
    have q := hs9.bw.cell (i := q) (by omega)
    rw [HX.out] at q
    clear e1 hs9
    repeat go_step
    with_reducible refine RG.xB ?_
    exact ⟨xH,hw9⟩
   ·rfl
   iterate 10
    apply RG.xJ
    ·rfl
    ·rfl
    ·intro L w9 h0 hcl xH hw9
     repeat go_step
     with_reducible refine RG.xB ?_
     exact ⟨xH,hw9⟩
    ·rfl
   apply RG.xJ
   ·rfl
   ·rfl
   ·intro L w9 h0 hcl xH hw9
    have hs9 := hw9.out
    rw [h0,if_neg (by simp)] at hs9
    have q1 := hs9.bw.cell (i := q) (by omega)
    have q2 := hs9.bw.free q
    rw [HX.out] at q1
    have hp : Hid (OfM w (l.set q z) (w9.setCell ⟨w.heap.size + 1,q,none⟩ (.int .u64 z))) := hI' (hs9.put q z)
    clear hs9
    repeat go_step
    with_reducible refine RG.xB ?_
    refine ⟨xH,?_⟩
    show Hid (OfM w (if (true : Bool) = true then l.set q z else l) _)
    rw [if_pos rfl]
    with_reducible exact hp
   ·rfl
   refine RG.yP (fun w9 hw9 => ?_)
   rw [if_pos rfl,← HSt.out] at hw9
   clear hr
   go_wp2
   exact ⟨⟨i + 1,by omega,by go_num,by rw [HS1.out]; exact hw9⟩,by simp [intOf]; omega⟩
  ·have hie : i = 32 := by omega
   have HRi := hI' (HR.out i hie)
   obtain ⟨a,b,c,d,habcd⟩ := yBp (HL.out i)
   have hu := HU.out i
   rw [habcd] at hr HRi hu
   have ha := hu 0
   have hb := hu 1
   have hc := hu 2
   have hd := hu 3
   simp only [List.getD_cons_zero,List.getD_cons_succ] at ha hb hc hd
   obtain ⟨a0,a1⟩ := ha
   obtain ⟨b0,b1⟩ := hb
   obtain ⟨c0,c1⟩ := hc
   obtain ⟨d0,d1⟩ := hd
   have q0 : wr.cell? ⟨w.heap.size + 1,0,none⟩ = some (.int .u64 a) := hr.out.bw.cell (i := 0) (by simp)
   have q1 : wr.cell? ⟨w.heap.size + 1,1,none⟩ = some (.int .u64 b) := hr.out.bw.cell (i := 1) (by simp)
   have q2 : wr.cell? ⟨w.heap.size + 1,2,none⟩ = some (.int .u64 c) := hr.out.bw.cell (i := 2) (by simp)
   have q3 : wr.cell? ⟨w.heap.size + 1,3,none⟩ = some (.int .u64 d) := hr.out.bw.cell (i := 3) (by simp)
   have hneg : ¬ ((i : Int) < 32) := by omega
   have HBZ := hI' hr.out.bz
   have HBE := hI' hr.out.bel
   clear HR HL HU hu habcd hr hie hlt hi
   go_wp2_with (refine wpList_store_row rfl _ _ _ rfl w.heap.size _ rfl rfl _ _ HBZ.out (show (Tryz.prog.info? 210).map (·.size) = some 5 by kernel_rfl) rfl (by simp [Value.oneCell']) ?_)
   refine bodyPost_ret (SH.results_cell_tmp rfl _ _ w.heap.size _ _ (0,0) _ rfl (setRow_heap _ _ _ _ _ _ HBZ.out) Tryz.underlying210 rfl (show (Tryz.prog.info? 210).map (·.size) = some 5 by kernel_rfl)) rfl ?_
   rw [HRi.out]
   exact ⟨rfl,below_setRow HBE.out (Nat.le_refl _) _⟩
end Go.Proofs.FE
namespace Go.Proofs.FE
open Go.RowKit Mailsack MM BB SH
def Bag (w : World) (B : List (Nat × TypeId × List Int)) (W : World) : Prop := Below w.heap.size w W ∧ ∀ g t ws,(g,t,ws) ∈ B → w.heap.size ≤ g ∧ uY t W g ws
section
variable {w W W' : World} {B : List (Nat × TypeId × List Int)}
theorem Bag.get (h : Bag w B W) {g : Nat} {t : TypeId} {ws : List Int} (hm : (g,t,ws) ∈ B) : uY t W g ws := (h.2 g t ws hm).2
theorem Bag.lt (h : Bag w B W) {g : Nat} {t : TypeId} {ws : List Int} (hm : (g,t,ws) ∈ B) : g < W.heap.size := xI (h.get hm).blk
theorem Bag.below (h : Bag w B W) (hb : Below W.heap.size W W') : Bag w B W' := ⟨h.1.trans (hb.mono h.1.size),fun g t ws hm => ⟨(h.2 g t ws hm).1,(h.2 g t ws hm).2.below hb⟩⟩
theorem Bag.drew (h : Bag w B W) : Bag w B W.drew := ⟨h.1.drew,h.2⟩
theorem Bag.alloc (h : Bag w B W) (o : Obj) : Bag w B (W.alloc o) := h.below ((Below.refl _ W).alloc (Nat.le_refl _) o)
theorem Bag.cons (h : Bag w B W) {g : Nat} {t : TypeId} {ws : List Int} (hg : w.heap.size ≤ g) (hb : uY t W g ws) : Bag w ((g,t,ws) :: B) W :=
 ⟨h.1,fun g' t' ws' hm => by
  rcases List.mem_cons.1 hm with e | e
  ·injection e with e1 e2
   injection e2 with e2 e3
   subst e1 e2 e3
   exact ⟨hg,hb⟩
  ·exact h.2 g' t' ws' e⟩
theorem Bag.new (h : Bag w B W) (t : TypeId) (ws : List Int) : Bag w ((W.heap.size,t,ws) :: B) (W.alloc (.cells (xG ws) t)) := (h.alloc _).cons h.1.size (xM _ _)
theorem Bag.far (h : Bag w B W) {g : Nat} (hg : w.heap.size ≤ g) (hf : ∀ g' t ws,(g',t,ws) ∈ B → g' ≠ g) (cs : Array Value) : Bag w B (W.setRow g cs) :=
 ⟨below_setRow h.1 hg _,fun g' t ws hm => ⟨(h.2 g' t ws hm).1,(setRow_other _ _ _ _ (hf g' t ws hm)).trans (h.get hm)⟩⟩
end
def J1 (w : World) (B : List (Nat × TypeId × List Int)) (n s : Nat) (t : TypeId) (zs v : List Int) (L : Nat → Bool) (α : RG.Pl) (W : World) : Prop :=
 Bag w B W ∧ (L n = true → (∀ g t ws,(g,t,ws) ∈ B → g ≠ α n) ∧ w.heap.size ≤ α n ∧ uY t W (α n) (if L s = true then v else zs))
section
variable {w W W' : World} {B : List (Nat × TypeId × List Int)} {n s : Nat} {t : TypeId} {zs v : List Int} {L : Nat → Bool} {α : RG.Pl}
theorem J1.congr {L' : Nat → Bool} {α' : RG.Pl} (hn : L n = L' n) (hs : L s = L' s) (ha : L n = true → α n = α' n) (h : J1 w B n s t zs v L α W) : J1 w B n s t zs v L' α' W :=
 ⟨h.1,fun h1 => by rw [← hn] at h1; rw [← hs,← ha h1]; exact h.2 h1⟩
theorem J1.start (h : Bag w B W) : J1 w B n s t zs v (fun _ => false) α W.drew := ⟨h.drew,fun h => by cases h⟩
theorem J1.below (h : J1 w B n s t zs v L α W) (hb : Below W.heap.size W W') : J1 w B n s t zs v L α W' := ⟨h.1.below hb,fun h1 => ⟨(h.2 h1).1,(h.2 h1).2.1,(h.2 h1).2.2.below hb⟩⟩
theorem J1.new (h : J1 w B n s t zs v L α W) (hs : L s = false) (hns : s ≠ n) : J1 w B n s t zs v (fun j => j == n || L j) (RG.xHb α n W.heap.size) (W.alloc (.cells (xG zs) t)) := by
 refine ⟨h.1.alloc _,fun _ => ?_⟩
 rw [RG.xAx]
 refine ⟨fun g t ws hm e => ?_,h.1.1.size,?_⟩
 ·have := h.1.lt hm
  omega
 ·rw [if_neg (by simp [hs,hns])]
  exact xM _ _
theorem J1.fill (h : J1 w B n s t zs v L α W) (hn : L n = true) : J1 w B n s t zs v (fun j => j == s || L j) α (W.setRow (α n) (xG v)) := by
 obtain ⟨h1,h2,h3⟩ := h.2 hn
 refine ⟨h.1.far h2 h1 _,fun _ => ⟨h1,h2,?_⟩⟩
 rw [if_pos (by simp)]
 exact setRow_heap _ _ _ _ _ _ h3
theorem J1.done (h : J1 w B n s t zs v (fun _ => true) α W) : Bag w ((α n,t,v) :: B) W := by
 obtain ⟨h1,h2,h3⟩ := h.2 rfl
 rw [if_pos rfl] at h3
 exact h.1.cons h2 h3
end
end Go.Proofs.FE
