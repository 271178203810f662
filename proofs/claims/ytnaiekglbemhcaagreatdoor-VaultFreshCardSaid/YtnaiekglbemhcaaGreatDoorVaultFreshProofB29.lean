/- Contracts of functions of the program. Conditions: those that each theorem states. -/
import Derived.Test.YtnaiekglbemhcaaGreatDoorVaultFreshProofB28
import Derived.Test.YtnaiekglbemhcaaGreatDoorVaultFreshProofB10
import Derived.Laws.CopyRow
set_option maxHeartbeats 8000000
set_option maxRecDepth 100000
namespace Mailsack
def xW2 (l : Bs) : Bs := ((l.set 0 (oct (Go.bits .and .u8 ((l.getD 0 0).toNat : Int) 248))).set 31 (oct (Go.bits .and .u8 ((l.getD 31 0).toNat : Int) 127))).set 31 (oct (Go.bits .or .u8 (Go.bits .and .u8 ((l.getD 31 0).toNat : Int) 127) 64))
def xDh (s : ByteArray) : ByteArray := bsA (xW2 s.data.toList)
theorem xRv (l : Bs) : (xW2 l).length = l.length := by simp [xW2]
theorem xNy (s : ByteArray) : (xDh s).size = s.size := by rw [xDh,yO,xRv]; rfl
def xLu : ByteArray := bsA ((xQ 32).set 0 9)
theorem xS0 : xLu.size = 32 := by rw [xLu,yO]; rfl
end Mailsack
namespace Go.Proofs.FE
open Go.RowKit Mailsack MM BB SH
section
variable {P : Program}
theorem xF6 (w : World) (b off : Nat) (ty : TypeId) (cs : Array Value) (d : TypeDesc) (hc : ∀ j v,cs.toList[j]? = some v → w.cell? ⟨b,off + j,none⟩ = some v)
  (hu : P.underlying ty = some d) (hd : (match d with | .struct _ | .array _ _ => true | _ => false) = true) (hi : (P.info? ty).map (·.size) = some cs.size) :
  (loadVar ty ⟨b,off,none⟩).run P w = .ok (.agg cs) w := by
 have hl : (loadCells ⟨b,off,none⟩ cs.toList.length).run P w = .ok cs.toList.toArray w :=
  run_loadCells_list (P := P) w ⟨b,off,none⟩ cs.toList (fun j v hv => by
   have hadd : (⟨b,off,none⟩ : Addr).add j = ⟨b,off + j,none⟩ := by unfold Addr.add; split <;> simp_all
   rw [hadd]
   exact hc j v hv)
 cases hq : P.info? ty with
 | none => simp [hq] at hi
 | some i =>
  have hs : i.size = cs.size := by simpa [hq] using hi
  have hagg : (isAgg ty).run P w = .ok true w := by
   unfold isAgg
   rw [Sem.run_bind,run_underlying hu w]
   cases d <;> simp_all
  simp only [Array.length_toList,Array.toArray_toList] at hl
  simp [loadVar,Sem.run_bind,hagg,sizeOf,typeInfo,hq,hs,hl]
theorem zF {ops : Array Oper} {rest : List Oper} {o : Oper} {a : Act} {w : World} {Q : Exit → Act → World → Prop} (hgd : o.guard = none) (ty : TypeId) (x : Operand) (ho : o.op = .load ty x)
  (b off : Nat) (hx : a.eval x = .pointer (some ⟨b,off,none⟩)) (cs : Array Value) (d : TypeDesc) (hc : ∀ j v,cs.toList[j]? = some v → w.cell? ⟨b,off + j,none⟩ = some v)
  (hu : P.underlying ty = some d) (hd : (match d with | .struct _ | .array _ _ => true | _ => false) = true) (hi : (P.info? ty).map (·.size) = some cs.size)
  (h : wpList P ops Q rest (a.put o.dst (.agg cs)) w) : wpList P ops Q (o :: rest) a w :=
 wpList_plain hgd fun _ hK => by
  unfold Oper.wp execOp
  simp only [ho,hx,Instr.loadAt,Instr.sureAddr,Sem.run_bind,Sem.run_pure,Result.andThen_ok,xF6 w b off ty cs d hc hu hd hi]
  exact hK _ _ h
theorem xDx (w : World) (g o : Nat) (t ty : TypeId) (old cells : Array Value) (hg : w.heap[g]? = some (.cells old t (0,0))) (hi : (P.info? ty).map (·.size) = some cells.size)
  (ho : o + cells.size ≤ old.size) (h1 : cells.all (·.oneCell') = true) :
  (storeVar ty ⟨g,o,none⟩ (.agg cells)).run P w = .ok () (w.setRow g (old.toList.take o ++ cells.toList ++ old.toList.drop (o + cells.size)).toArray) := by
 have := run_storeCells_at P g o t cells.toList 0 old w hg (by simp; omega) (fun v hv => (Array.all_eq_true_iff_forall_mem.1 h1) v (by simpa using hv))
 cases hq : P.info? ty with
 | none => simp [hq] at hi
 | some i =>
  have hs : cells.size = i.size := by simp [hq] at hi; omega
  simp [storeVar,sizeOf,typeInfo,hq,Value.cells,hs,this]
theorem jC {ops : Array Oper} {rest : List Oper} {o : Oper} {a : Act} {w : World} {Q : Exit → Act → World → Prop} (hgd : o.guard = none) (ty : TypeId) (x y : Operand) (ho : o.op = .store ty x y)
  (g off : Nat) (cells : Array Value) (hx : a.eval x = .pointer (some ⟨g,off,none⟩)) (hy : a.eval y = .agg cells)
  (t : TypeId) (old : Array Value) (hg : w.heap[g]? = some (.cells old t (0,0))) (hi : (P.info? ty).map (·.size) = some cells.size)
  (hold : off + cells.size ≤ old.size) (h1 : cells.all (·.oneCell') = true) (new : Array Value) (hn : (old.toList.take off ++ cells.toList ++ old.toList.drop (off + cells.size)).toArray = new)
  (h : wpList P ops Q rest (a.put o.dst undef) (w.setRow g new)) : wpList P ops Q (o :: rest) a w :=
 wpList_plain hgd fun _ hK => by
  subst hn
  unfold Oper.wp execOp
  simp only [ho,hx,hy,Instr.storeAt,Instr.sureAddr,Sem.run_bind,Sem.run_pure,Result.andThen_ok,xDx w g off t ty old cells hg hi hold h1]
  exact hK _ _ h
end
theorem rU (l : List Int) : (xG l).toList = l.map fun x => Value.int .u64 x := by simp [xG]
theorem xAc {t : TypeId} {W : World} {g : Nat} {x z : List Int} (h : uY t W g (x ++ z)) : ∀ j v,(xG x).toList[j]? = some v → W.cell? ⟨g,0 + j,none⟩ = some v := by
 intro j v hv
 rw [rU] at hv
 rw [Nat.zero_add,xA h.blk]
 simp only [xG,List.map_append,gA]
 rw [List.getElem?_append_left (by
  have := (List.getElem?_eq_some_iff.1 hv).1
  exact this)]
 exact hv
theorem xAb {t : TypeId} {W : World} {g : Nat} {x z : List Int} (h : uY t W g (x ++ z)) (hx : x.length = 5) : ∀ j v,(xG z).toList[j]? = some v → W.cell? ⟨g,5 + j,none⟩ = some v := by
 intro j v hv
 rw [rU] at hv
 rw [xA h.blk]
 simp only [xG,List.map_append,gA]
 rw [List.getElem?_append_right (by simp [hx])]
 simpa [hx] using hv
theorem xTt (x z x' : List Int) (hx : x.length = 5) (hx' : x'.length = 5) : ((xG (x ++ z)).toList.take 0 ++ (xG x').toList ++ (xG (x ++ z)).toList.drop (0 + (xG x').size)).toArray = xG (x' ++ z) := by
 rw [xV,hx',rU,rU]
 simp only [List.take_zero,List.nil_append,xG,List.map_append]
 rw [List.drop_append_of_le_length (by simp [hx]),List.drop_of_length_le (by simp [hx])]
 simp
theorem xTs (x z z' : List Int) (hx : x.length = 5) (hz : z.length = 5) (hz' : z'.length = 5) : ((xG (x ++ z)).toList.take 5 ++ (xG z').toList ++ (xG (x ++ z)).toList.drop (5 + (xG z').size)).toArray = xG (x ++ z') := by
 rw [xV,hz',rU,rU]
 simp only [xG,List.map_append]
 rw [List.take_append_of_le_length (by simp [hx]),List.take_of_length_le (by simp [hx]),List.drop_of_length_le (by simp [hx,hz])]
 simp
theorem infoP {x z : List Int} (h : x.length = 5) (h2 : z.length = 5) : (Tryz.prog.info? 214).map (·.size) = some (xG (x ++ z)).size := by rw [xV,List.length_append,h,h2]; kernel_rfl
theorem xYt (w : World) : Calls Tryz.prog 109 #[] w fun e w' => e = .returned (.string xLu) ∧ Below w.heap.size w w' := by
 have HB : Hid (Below w.heap.size w (w.alloc (.cells (yJ ((xQ 32).set 0 9)) 231))) := hI' ((Below.refl w.heap.size w).alloc (Nat.le_refl _) _)
 have HT := xCr (t := 231) (xM w (.cells (yJ ((xQ 32).set 0 9)) 231)) 32 32 rfl
 go_enter Tryz.func109,Tryz.ntmps109
 go_upto_region 3 with fail
 refine (fun (h : ∀ W3,Hid (Below w.heap.size w W3 ∧ (convert 113 9 (.slice (some ⟨w.heap.size,0,none⟩) 32 32)).run Tryz.prog W3 = .ok (.string xLu) W3) → Code.wp _ _ _ _ W3) => h _ (hI' ⟨HB.out,HT⟩)) ?_
 clear HB HT
 intro W3 H3
 have ht := H3.out.2
 go_wp2
 go_ret
 exact ⟨rfl,H3.out.1⟩
theorem xGt (s : ByteArray) (w : World) (hs : s.size = 32) :
  Calls Tryz.prog 142 #[.string s] w fun e w' => e = .returned (.tuple #[.string (xDh s),.bool true]) ∧ Below w.heap.size w w' := by
 have hsi : (s.size : Int) = 32 := by omega
 have xNf := fun W => Lib.run_convert_string_bytes (P := Tryz.prog) W 9 113 5 s Tryz.underlying9 Tryz.underlying113 Tryz.underlying5
 have H0 : Hid (PaI w w.heap.size s.data.toList (Lib.bytesWorld w 5 s)) := hI' ⟨xM7.start w s,(Below.refl w.heap.size w).trans ⟨rfl,rfl,rfl,by rw [Lib.bytesWorld_size]; omega,fun k hk => Lib.bytesWorld_at_old _ _ _ k hk⟩,Nat.le_refl _,by rw [Lib.bytesWorld_size]; omega⟩
 have HR : Hid (xDh s = bsA (((s.data.toList.set 0 (oct (bits .and .u8 ((s.data.toList.getD 0 0).toNat : Int) 248))).set 31 (oct (bits .and .u8 ((s.data.toList.getD 31 0).toNat : Int) 127))).set 31 (oct (bits .or .u8 (bits .and .u8 ((s.data.toList.getD 31 0).toNat : Int) 127) 64)))) := hI' rfl
 have hll : s.data.toList.length = 32 := by simpa using hs
 obtain ⟨res,hres⟩ : ∃ x,xDh s = x := ⟨_,rfl⟩
 rw [hres] at HR ⊢
 clear hres
 go_enter Tryz.func142,Tryz.ntmps142
 go_upto_region 4 with fail
 have hcap : 32 ≤ grownCap w 32 0 5 := grownCap_ge _ _ _ _
 generalize grownCap w 32 0 5 = cap at hcap ⊢
 generalize Lib.bytesWorld w 5 s = W0 at H0 ⊢
 generalize s.data.toList = l at H0 HR hll
 clear xNf hs hsi
 have q0 := H0.out.out.cell 0 (by omega)
 have f0 := H0.out.out.free 0 (by omega)
 have u0 := (l.getD 0 0).toNat_lt
 have u1 := (l.getD 31 0).toNat_lt
 have hz0 := xBd .and ((l.getD 0 0).toNat : Int) 248
 have H1 := hI' (H0.out.put (p := 0) (by omega) hz0.1 hz0.2)
 have hx31 : (l.set 0 (oct (bits .and .u8 ((l.getD 0 0).toNat : Int) 248))).getD 31 0 = l.getD 31 0 := by rw [List.getD_eq_getElem?_getD,List.getElem?_set,if_neg (by decide),← List.getD_eq_getElem?_getD]
 have hl1 : (l.set 0 (oct (bits .and .u8 ((l.getD 0 0).toNat : Int) 248))).length = 32 := by rw [List.length_set,hll]
 generalize l.set 0 (oct (bits .and .u8 ((l.getD 0 0).toNat : Int) 248)) = l1 at H1 HR hx31 hl1
 obtain ⟨a,ha⟩ : ∃ a : Int,((l.getD 0 0).toNat : Int) = a := ⟨_,rfl⟩
 obtain ⟨b,hb⟩ : ∃ b : Int,((l.getD 31 0).toNat : Int) = b := ⟨_,rfl⟩
 have a0 : 0 ≤ a := by omega
 have a1 : a < 256 := by omega
 have b0 : 0 ≤ b := by omega
 have b1 : b < 256 := by omega
 rw [ha] at q0 H1
 rw [hb] at HR
 have HB := hI' hb
 have HX := hI' hx31
 have HL1 := hI' hl1
 clear hz0 u0 u1 H0 ha hb hx31 hl1 hll
 go_upto_region 5 with fail
 clear q0 f0
 refine (fun (h : ∀ W3,Hid (PaI w w.heap.size l1 W3) → Code.wp _ _ _ _ W3) => h _ H1) ?_
 clear H1
 intro W1 H1
 have q0 := H1.out.out.cell 31 (by rw [HL1.out]; decide)
 rw [HX.out,HB.out] at q0
 have f0 := H1.out.out.free 31 (by rw [HL1.out]; decide)
 have hz1 := xBd .and b 127
 have H2 := hI' (H1.out.put (p := 31) (by rw [HL1.out]; decide) hz1.1 hz1.2)
 obtain ⟨c,hc⟩ : ∃ c,bits .and .u8 b 127 = c := ⟨_,rfl⟩
 rw [hc] at H2 HR hz1
 have HE : Hid ((((l1.set 31 (oct c)).getD 31 0).toNat : Int) = c) := hI' (by
  rw [List.getD_eq_getElem?_getD,List.getElem?_set,if_pos rfl,if_pos (by rw [HL1.out]; decide)]
  simp only [Option.getD_some]
  rw [kT]
  omega)
 have hl2 : (l1.set 31 (oct c)).length = 32 := by rw [List.length_set,HL1.out]
 generalize l1.set 31 (oct c) = l2 at H2 HR HE hl2
 have HL2 := hI' hl2
 obtain ⟨c0,c1⟩ := hz1
 clear hl2 H1
 go_upto_region 6 with fail
 clear q0 f0 hc
 refine (fun (h : ∀ W3,Hid (PaI w w.heap.size l2 W3) → Code.wp _ _ _ _ W3) => h _ H2) ?_
 clear H2
 intro W2 H2
 have q0 := H2.out.out.cell 31 (by rw [HL2.out]; decide)
 rw [HE.out] at q0
 have f0 := H2.out.out.free 31 (by rw [HL2.out]; decide)
 have hz2 := xBd .or c 64
 have H3 := hI' (H2.out.put (p := 31) (by rw [HL2.out]; decide) hz2.1 hz2.2)
 have hl3 : (l2.set 31 (oct (bits .or .u8 c 64))).length = 32 := by rw [List.length_set,HL2.out]
 generalize l2.set 31 (oct (bits .or .u8 c 64)) = l3 at H3 HR hl3
 have ht := H3.out.out.text 32 cap hl3
 rw [← HR.out] at ht
 clear H2 hz2 hl3
 go_wp2
 go_ret2
 exact ⟨rfl,H3.out.bel⟩
end Go.Proofs.FE
namespace Go.Proofs.FE
open Go.RowKit Mailsack MM BB SH
theorem xIa (ax bx : List Int) (yes : Bool) (w : World) (hl : ax.length = 5) (hu : yV ax) (hl2 : bx.length = 5) (hu2 : yV bx) :
  Calls Tryz.prog 189 #[.agg (xG ax),.agg (xG bx),.bool yes] w fun e w' => e = .returned (.tuple #[.agg (xG (if yes then bx else ax)),.agg (xG (if yes then ax else bx))]) ∧ Below w.heap.size w w' := by
 cases yes
 ·exact yAc ax bx w hl hu hl2 hu2
 ·exact xX2 ax bx w hl hu hl2 hu2
structure FoM (t : TypeId) (w : World) (ax bx rx sx : List Int) (W : World) : Prop where
 ba : uY t W w.heap.size ax
 bb : uY t W (w.heap.size + 1) bx
 br : uY t W (w.heap.size + 2) rx
 bs : uY t W (w.heap.size + 3) sx
 bel : Below w.heap.size w W
section
variable {t : TypeId} {w W W' : World} {ax bx rx sx : List Int}
theorem FoM.start (ax bx rx sx : List Int) : FoM t w ax bx rx sx ((((w.alloc (.cells (xG ax) t)).alloc (.cells (xG bx) t)).alloc (.cells (xG rx) t)).alloc (.cells (xG sx) t)) := by
 have h1 := zQ w (.cells (xG ax) t) (.cells (xG bx) t)
 have h2 := zM w (.cells (xG ax) t) (.cells (xG bx) t)
 have h3 := xM ((w.alloc (.cells (xG ax) t)).alloc (.cells (xG bx) t)) (.cells (xG rx) t)
 have h4 := xM (((w.alloc (.cells (xG ax) t)).alloc (.cells (xG bx) t)).alloc (.cells (xG rx) t)) (.cells (xG sx) t)
 simp only [vD] at h3 h4
 exact ⟨xP (xP h1 _) _,xP (xP h2 _) _,xP h3 _,h4,((((Below.refl w.heap.size w).alloc (Nat.le_refl _) _).alloc (by simp) _).alloc (by simp; omega) _).alloc (by simp; omega) _⟩
theorem FoM.drew (h : FoM t w ax bx rx sx W) : FoM t w ax bx rx sx W.drew := ⟨h.ba,h.bb,h.br,h.bs,h.bel.drew⟩
theorem FoM.below (h : FoM t w ax bx rx sx W) (hb : Below W.heap.size W W') : FoM t w ax bx rx sx W' := ⟨h.ba.below hb,h.bb.below hb,h.br.below hb,h.bs.below hb,h.bel.trans (hb.mono h.bel.size)⟩
theorem FoM.rowA (h : FoM t w ax bx rx sx W) (xs : List Int) : FoM t w xs bx rx sx (W.setRow w.heap.size (xG xs)) :=
 ⟨setRow_heap _ _ _ _ _ _ h.ba,(setRow_other _ _ _ _ (by omega)).trans h.bb,(setRow_other _ _ _ _ (by omega)).trans h.br,(setRow_other _ _ _ _ (by omega)).trans h.bs,below_setRow h.bel (by omega) _⟩
theorem FoM.rowB (h : FoM t w ax bx rx sx W) (xs : List Int) : FoM t w ax xs rx sx (W.setRow (w.heap.size + 1) (xG xs)) :=
 ⟨(setRow_other _ _ _ _ (by omega)).trans h.ba,setRow_heap _ _ _ _ _ _ h.bb,(setRow_other _ _ _ _ (by omega)).trans h.br,(setRow_other _ _ _ _ (by omega)).trans h.bs,below_setRow h.bel (by omega) _⟩
theorem FoM.rowR (h : FoM t w ax bx rx sx W) (xs : List Int) : FoM t w ax bx xs sx (W.setRow (w.heap.size + 2) (xG xs)) :=
 ⟨(setRow_other _ _ _ _ (by omega)).trans h.ba,(setRow_other _ _ _ _ (by omega)).trans h.bb,setRow_heap _ _ _ _ _ _ h.br,(setRow_other _ _ _ _ (by omega)).trans h.bs,below_setRow h.bel (by omega) _⟩
theorem FoM.rowS (h : FoM t w ax bx rx sx W) (xs : List Int) : FoM t w ax bx rx xs (W.setRow (w.heap.size + 3) (xG xs)) :=
 ⟨(setRow_other _ _ _ _ (by omega)).trans h.ba,(setRow_other _ _ _ _ (by omega)).trans h.bb,(setRow_other _ _ _ _ (by omega)).trans h.br,setRow_heap _ _ _ _ _ _ h.bs,below_setRow h.bel (by omega) _⟩
end
theorem xL6 (x1 z1 x2 z2 : List Int) (yes : Bool) (w : World) (lx1 : x1.length = 5) (ux1 : yV x1) (lz1 : z1.length = 5) (uz1 : yV z1) (lx2 : x2.length = 5) (ux2 : yV x2) (lz2 : z2.length = 5) (uz2 : yV z2) :
  Calls Tryz.prog 144 #[.agg (xG (x1 ++ z1)),.agg (xG (x2 ++ z2)),.bool yes] w fun e w' => e = .returned (.tuple #[.agg (xG (if yes then x2 ++ z2 else x1 ++ z1)),.agg (xG (if yes then x1 ++ z1 else x2 ++ z2))]) ∧ Below w.heap.size w w' := by
 have HX := hI' (fun W => xIa x1 x2 yes W lx1 ux1 lx2 ux2)
 have HZ := hI' (fun W => xIa z1 z2 yes W lz1 uz1 lz2 uz2)
 have HA : Hid ((if yes then x2 ++ z2 else x1 ++ z1) = (if yes then x2 else x1) ++ (if yes then z2 else z1) ∧ (if yes then x1 ++ z1 else x2 ++ z2) = (if yes then x1 else x2) ++ (if yes then z1 else z2)) := hI' (by cases yes <;> exact ⟨rfl,rfl⟩)
 rw [HA.out.1,HA.out.2]
 clear HA
 have la : (if yes then x2 else x1).length = 5 := by cases yes <;> assumption
 have lb : (if yes then x1 else x2).length = 5 := by cases yes <;> assumption
 have lc : (if yes then z2 else z1).length = 5 := by cases yes <;> assumption
 have ld : (if yes then z1 else z2).length = 5 := by cases yes <;> assumption
 generalize (if yes then x2 else x1) = a at HX la ⊢
 generalize (if yes then x1 else x2) = b at HX lb ⊢
 generalize (if yes then z2 else z1) = c at HZ lc ⊢
 generalize (if yes then z1 else z2) = d at HZ ld ⊢
 have H0 := hI' (FoM.start (w := w) (t := 214) (x1 ++ z1) (x2 ++ z2) (List.replicate 10 0) (List.replicate 10 0))
 have I1 := hI' (uN lx1)
 have I2 := hI' (uN lx2)
 have I3 := hI' (uN lz1)
 have I4 := hI' (uN lz2)
 have Ia := hI' (uN la)
 have Ib := hI' (uN lb)
 have Ic := hI' (uN lc)
 have Id := hI' (uN ld)
 have HL := hI' (And.intro (And.intro lx1 (And.intro lx2 (And.intro lz1 lz2))) (And.intro la (And.intro lb (And.intro lc ld))))
 clear ux1 uz1 ux2 uz2 lx1 lz1 lx2 lz2 la lb lc ld
 go_enter Tryz.func144,Tryz.ntmps144
 go_upto_region 1 with fail
 refine (fun (h : ∀ W3,Hid (FoM 214 w (x1 ++ z1) (x2 ++ z2) (List.replicate 10 0) (List.replicate 10 0) W3) → Code.wp _ _ _ _ W3) => h _ H0) ?_
 clear H0
 intro W0 H0
 obtain ⟨⟨lx1,lx2,lz1,lz2⟩,la,lb,lc,ld⟩ := HL.out
 refine wp_region_lit ?_
 iterate 3 go_step
 refine zF rfl _ _ rfl w.heap.size 0 rfl (xG x1) _ (xAc H0.out.ba) Tryz.underlying210 rfl I1.out ?_
 iterate 3 go_step
 refine zF rfl _ _ rfl (w.heap.size + 1) 0 rfl (xG x2) _ (xAc H0.out.bb) Tryz.underlying210 rfl I2.out ?_
 repeat go_step
 refine (HX.out _).mono ?_
 rintro e w1 ⟨rfl,hb1⟩
 have H1 := hI' (H0.out.below hb1)
 clear H0 hb1
 simp only []
 rename ∀ (a : Act) (w : World),wpList _ _ _ _ a w → _ => hk
 refine hk _ _ ?_
 clear hk
 iterate 12 go_step
 refine jC rfl _ _ _ rfl w.heap.size 0 (xG a) rfl rfl _ _ H1.out.ba Ia.out (by rw [xV,xV,List.length_append,la,lx1,lz1]; decide) (xS _) _ (xTt x1 z1 a lx1 la) ?_
 have H2 := hI' (H1.out.rowA (a ++ z1))
 refine (fun (h : ∀ W3,Hid (FoM 214 w (a ++ z1) (x2 ++ z2) (List.replicate 10 0) (List.replicate 10 0) W3) → wpList _ _ _ _ _ W3) => h _ H2) ?_
 clear H1 H2
 intro W2 H2
 iterate 3 go_step
 refine jC rfl _ _ _ rfl (w.heap.size + 1) 0 (xG b) rfl rfl _ _ H2.out.bb Ib.out (by rw [xV,xV,List.length_append,lb,lx2,lz2]; decide) (xS _) _ (xTt x2 z2 b lx2 lb) ?_
 have H3 := hI' (H2.out.rowB (b ++ z2))
 go_upto_region 2 with fail
 refine (fun (h : ∀ W3,Hid (FoM 214 w (a ++ z1) (b ++ z2) (List.replicate 10 0) (List.replicate 10 0) W3) → Code.wp _ _ _ _ W3) => h _ H3) ?_
 clear H2 H3
 intro W3 H3
 refine wp_region_lit ?_
 iterate 3 go_step
 refine zF rfl _ _ rfl w.heap.size 5 rfl (xG z1) _ (xAb H3.out.ba la) Tryz.underlying210 rfl I3.out ?_
 iterate 3 go_step
 refine zF rfl _ _ rfl (w.heap.size + 1) 5 rfl (xG z2) _ (xAb H3.out.bb lb) Tryz.underlying210 rfl I4.out ?_
 repeat go_step
 refine (HZ.out _).mono ?_
 rintro e w1 ⟨rfl,hb1⟩
 have H4 := hI' (H3.out.below hb1)
 clear H3 hb1
 simp only []
 rename ∀ (a : Act) (w : World),wpList _ _ _ _ a w → _ => hk
 refine hk _ _ ?_
 clear hk
 iterate 12 go_step
 refine jC rfl _ _ _ rfl w.heap.size 5 (xG c) rfl rfl _ _ H4.out.ba Ic.out (by rw [xV,xV,List.length_append,la,lc,lz1]; decide) (xS _) _ (xTs a z1 c la lz1 lc) ?_
 have H5 := hI' (H4.out.rowA (a ++ c))
 refine (fun (h : ∀ W3,Hid (FoM 214 w (a ++ c) (b ++ z2) (List.replicate 10 0) (List.replicate 10 0) W3) → wpList _ _ _ _ _ W3) => h _ H5) ?_
 clear H4 H5
 intro W2 H5
 iterate 3 go_step
 refine jC rfl _ _ _ rfl (w.heap.size + 1) 5 (xG d) rfl rfl _ _ H5.out.bb Id.out (by rw [xV,xV,List.length_append,lb,ld,lz2]; decide) (xS _) _ (xTs b z2 d lb lz2 ld) ?_
 have H6 := hI' (H5.out.rowB (b ++ d))
 go_upto_region 3 with fail
 refine (fun (h : ∀ W3,Hid (FoM 214 w (a ++ c) (b ++ d) (List.replicate 10 0) (List.replicate 10 0) W3) → Code.wp _ _ _ _ W3) => h _ H6) ?_
 clear H5 H6
 intro W6 H6
 have IA := hI' (infoP la lc)
 have IB := hI' (infoP lb ld)
 have ZA : Hid ((xG (List.replicate 10 0)).size = (xG (a ++ c)).size) := hI' (by rw [xV,xV,List.length_append,la,lc]; rfl)
 have ZB : Hid ((xG (List.replicate 10 0)).size = (xG (b ++ d)).size) := hI' (by rw [xV,xV,List.length_append,lb,ld]; rfl)
 clear HX HZ I1 I2 I3 I4 Ia Ib Ic Id lx1 lx2 lz1 lz2 la lb lc ld HL
 generalize hra : a ++ c = ra at H6 IA ZA ⊢
 generalize hrb : b ++ d = rb at H6 IB ZB ⊢
 have HE := hI' (And.intro hra hrb)
 clear hra hrb
 refine RG.yN 4 (fun L W => Hid (FoM 214 w ra rb (if L 2 then ra else List.replicate 10 0) (if L 3 then rb else List.replicate 10 0) W)) (fun L L' W h hI => by rw [← h 2 (by decide),← h 3 (by decide)]; exact hI) (by kernel_rfl) (by kernel_rfl) rfl (hI' H6.out.drew) ?_
 clear H6
 apply RG.xJ
 ·rfl
 ·rfl
 ·intro L w9 h0 hcl xH hw9
  refine wpList_load_row rfl _ _ rfl w.heap.size rfl _ (xG ra) (0,0) _ hw9.out.ba Tryz.underlying214 rfl IA.out ?_
  repeat go_step
  with_reducible refine RG.xB ?_
  exact ⟨xH,hw9⟩
 ·rfl
 apply RG.xJ
 ·rfl
 ·rfl
 ·intro L w9 h0 hcl xH hw9
  refine wpList_load_row rfl _ _ rfl (w.heap.size + 1) rfl _ (xG rb) (0,0) _ hw9.out.bb Tryz.underlying214 rfl IB.out ?_
  repeat go_step
  with_reducible refine RG.xB ?_
  exact ⟨xH,hw9⟩
 ·rfl
 apply RG.xJ
 ·rfl
 ·rfl
 ·intro L w9 h0 hcl xH hw9
  have hs9 := hw9.out
  rw [h0,if_neg (by simp)] at hs9
  refine wpList_store_row rfl _ _ _ rfl (w.heap.size + 2) (xG ra) rfl rfl _ _ hs9.br IA.out ZA.out (xS _) ?_
  repeat go_step
  with_reducible refine RG.xB ?_
  exact ⟨xH,hI' (hs9.rowR ra)⟩
 ·rfl
 apply RG.xJ
 ·rfl
 ·rfl
 ·intro L w9 h0 hcl xH hw9
  have hs9 := hw9.out
  rw [h0,if_neg (c := false = true) (by simp)] at hs9
  refine wpList_store_row rfl _ _ _ rfl (w.heap.size + 3) (xG rb) rfl rfl _ _ hs9.bs IB.out ZB.out (xS _) ?_
  repeat go_step
  with_reducible refine RG.xB ?_
  exact ⟨xH,hI' (hs9.rowS rb)⟩
 ·rfl
 refine RG.yP (fun w9 hw9 => ?_)
 rw [if_pos rfl,if_pos rfl] at hw9
 go_wp2
 refine bodyPost_ret (jV rfl _ _ (w.heap.size + 2) (w.heap.size + 3) _ _ _ _ (0,0) (0,0) _ rfl rfl hw9.out.br hw9.out.bs Tryz.underlying214 rfl IA.out IB.out) rfl ?_
 rw [HE.out.1,HE.out.2]
 exact ⟨rfl,hw9.out.bel⟩
end Go.Proofs.FE
