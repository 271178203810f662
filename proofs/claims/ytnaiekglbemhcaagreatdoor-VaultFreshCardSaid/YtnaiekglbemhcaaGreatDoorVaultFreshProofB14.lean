/- Contracts of functions of the program. Conditions: those that each theorem states. -/
import Derived.Test.YtnaiekglbemhcaaGreatDoorVaultFreshProofB13
import Derived.Lib.OthersKept
set_option maxHeartbeats 8000000
set_option maxRecDepth 100000
namespace Go.Proofs.BU
open Go.RowKit MM
def ByT (b : Nat) (w w' : World) : Prop := ∀ i o,w.heap[i]? = some o → i ≠ b → (∀ cs fr,o ≠ .cells cs 5 fr) → w'.heap[i]? = some o
theorem xHm (B b : Nat) (bs : List Value) (w : World) (h : Lib.IsBuilder 115 5 B b bs w) :
  Calls Tryz.prog 102 #[.pointer (some ⟨b,0,none⟩)] w fun e w' => e = .returned (.tuple #[]) ∧ (Lib.BuilderAt 115 5 B b (.pointer (some ⟨b,0,none⟩)) bs w' ∧ Below B w w' ∧ ∀ i,i ≠ b → w'.heap[i]? = w.heap[i]?) := by
 rcases h with h | h
 ·refine (xGs b w h.cell0 h.shape h.frozen0).mono ?_
  rintro e w' ⟨rfl,rfl⟩
  exact ⟨rfl,h.used _,(Below.refl B w).setCell (p := ⟨b,0,none⟩) h.1 _,fun i hi => Below.heap_setCell w ⟨b,0,none⟩ _ i hi⟩
 ·refine (xHk b w h.cell0).mono ?_
  rintro e w' ⟨rfl,rfl⟩
  exact ⟨rfl,h,Below.refl B _,fun _ _ => rfl⟩
theorem xAi (B b : Nat) (l : List UInt8) (s : ByteArray) (w : World) (h : Bld B b l w) (hl : l.length + s.size ≤ 1000000000) (hB : B ≤ w.heap.size) :
  Calls Tryz.prog 49 #[.pointer (some ⟨b,0,none⟩),.string s] w fun e w' => e = .returned (.tuple #[.int .i64 s.size,.nilIface]) ∧ Bld B b (l ++ s.data.toList) w' ∧ Below B w w' ∧ ByT b w w' := by
 obtain ⟨i0,hi,hz0,hz1,hz2⟩ := info_parts xUy
 have Hl := hI' (xW4 l)
 go_enter Tryz.func49,Tryz.ntmps49
 go_wp2_with fail
 refine (xHm B b _ _ h).mono ?_
 rintro e w1 ⟨rfl,⟨hBb,v,hbk,hown,hne⟩,hb1,hby⟩
 have Hown := hI' hown
 have Hne := hI' hne
 have Hbk := hI' hbk
 have Hby := hI' hby
 have k1 : w1.cell? ⟨b,1,none⟩ = some v := xA hbk 1
 have hlt := xI hbk
 have HB1 := hI' hb1
 have hz := hb1.size
 clear hown hne hbk hb1 hby
 go_wp2_with (at_builtin; refine Lib.wpList_append_own_string _ rfl _ _ 113 9 rfl B 5 i0 Tryz.underlying113 Tryz.underlying9 hi hz0 hz1 hz2 _ _ _ rfl Hown.out s rfl ?c3 ?c4 ?c5 ?_)
 case c3 => have := Hl.out; unfold maxLen; omega
 case c4 => have := Hl.out; omega
 case c5 => omega
 intro v' w2 hown' hgrow _
 have pk := hI' (kX Hbk.out hgrow (fun e => Hne.out e.symm))
 have k2 : w2.cell? ⟨b,1,none⟩ = some v := xA pk.out 1
 have y2 : w2.frozen? ⟨b,1,none⟩ = false := xK pk.out 1
 obtain ⟨ao,n',cap,rfl⟩ : ∃ ao n' cap,v' = .slice ao n' cap := by
  rcases hown'.2 with ⟨hv,_⟩ | ⟨g,cap,cur,hv,_⟩
  ·exact ⟨_,_,_,hv⟩
  ·exact ⟨_,_,_,hv⟩
 have Hown2 := hI' hown'
 have Hgrow := hI' hgrow
 clear hown' hgrow
 go_wp2
 go_ret2
 refine ⟨rfl,.inr ?_,?_,fun i o ho hib hty => ?_⟩
 ·refine Lib.BuilderAt.put (T := 115) (e := 5) hBb pk.out (bs' := Lib.byteCells (l ++ s.data.toList)) ?_ (by decide)
  rw [xLr,List.length_append]
  have := Hown2.out
  simpa [Lib.strCells,Lib.byteCells,Lib.strCells_length] using this
 ·refine Below.setCell ?_ (p := ⟨b,1,none⟩) hBb _
  exact HB1.out.grown Hgrow.out (by omega) (fun k hk => (World.ownsRow.lt Hown.out k hk).1)
 ·have h1 : w1.heap[i]? = some o := (Hby.out i hib).trans ho
  refine xZ (kX h1 Hgrow.out (fun e => ?_)) (p := ⟨b,1,none⟩) hib _
  rcases Hown.out.2 with ⟨hv,_⟩ | ⟨g,cap,cur,hv,_,hg,_⟩
  ·rw [hv] at e
   simp [Value.ownBlock] at e
  ·rw [hv] at e
   have e' : i = g := by simpa [Value.ownBlock] using e
   subst e'
   rw [hg] at h1
   injection h1 with h1
   exact hty _ _ h1.symm
end Go.Proofs.BU
namespace Mailsack
theorem xWe {l : List Wr} {k : Nat} {x : Wr} (h : l[k]? = some x) : qN (l.take (k + 1)) = qN (l.take k) ++ (xF7 x.at_ ++ x.data) := by
 unfold qN
 rw [List.take_add_one,h,List.map_append,List.flatten_append]
 simp [xVs]
theorem xK3 {n : Nat} : ∀ (l : List Wr),l.all (xCc n) = true → (qN l).length = 128 * l.length
 | [],_ => rfl
 | x :: l,h => by
  rw [List.all_cons,Bool.and_eq_true] at h
  have ih := xK3 l h.2
  have hx : x.data.length = 64 := by
   have := h.1
   unfold xCc at this
   simp at this
   exact this.2
  unfold qN at ih ⊢
  rw [List.map_cons,List.flatten_cons,List.length_append,ih,List.length_cons]
  simp [xVs,xGq,hx]
  omega
theorem xUq {l : List Wr} {k : Nat} {x : Wr} (h : l[k]? = some x) : qL 0 (l.take (k + 1)) = qL 0 (l.take k) ++ [wOp (1 + 2 * (k : Int)) (xF7 x.at_),wOp (2 + 2 * (k : Int)) x.data] := by
 have hk := (List.getElem?_eq_some_iff.1 h).1
 rw [List.take_add_one,h]
 show qL 0 (l.take k ++ [x]) = _
 rw [xLa,List.length_take,Nat.zero_add,show min k l.length = k by omega]
theorem xN5 {l : List Wr} {k : Nat} {x : Wr} (h : l[k]? = some x) : (l.take (k + 1)).map (fun x => (⟨false,x⟩ : Op)) = (l.take k).map (fun x => (⟨false,x⟩ : Op)) ++ [⟨false,x⟩] := by
 rw [List.take_add_one,h,List.map_append]
 rfl
end Mailsack
namespace Go.Proofs.DS
open Go.RowKit Mailsack MM BB SH SV RK BU
theorem xX.neT {α : Type} {e : TypeId} {k : Nat} {f : α → List Value} {w : World} {base : Nat} {v : Value} {l : List α} (h : xX e k f w base v l) {g : Nat} {cs : Array Value} {T : TypeId} {fr : Nat × Nat} (hb : w.heap[g]? = some (.cells cs T fr)) (hT : T ≠ e) : v.ownBlock ≠ some g := by
 rcases h.2 with ⟨h1,_⟩ | ⟨g',cap,cur,h1,_,h3,_⟩
 ·rw [h1]; intro e; cases e
 ·rw [h1]
  intro e2
  have : g' = g := by simpa [Value.ownBlock] using e2
  subst this
  rw [h3] at hb
  injection hb with hb
  injection hb with _ hb
  exact hT hb.symm
theorem xX.byT {α : Type} {e : TypeId} {k : Nat} {f : α → List Value} {w w' : World} {base : Nat} {v : Value} {l : List α} (h : xX e k f w base v l) {b : Nat} {cs : Array Value} {fr : Nat × Nat} (ht : ByT b w w') (hb : w.heap[b]? = some (.cells cs 115 fr)) (h1 : 115 ≠ e) (h2 : e ≠ 5) : xX e k f w' base v l := by
 have hne := xX.neT h hb h1
 refine ⟨h.1,?_⟩
 rcases h.2 with hn | ⟨g,cap,cur,k1,k2,k3,k4⟩
 ·exact .inl hn
 ·refine .inr ⟨g,cap,cur,k1,k2,ht g _ k3 (fun e => hne (by rw [k1,e]; rfl)) (fun cs fr e2 => ?_),k4⟩
  injection e2 with _ e2
  exact h2 e2
theorem byT_of {b : Nat} {w w' : World} (h : Lib.OthersKept 5 (some b) w w') : ByT b w w' := fun i o ho hi ht => h i o ho (fun e => hi (by injection e)) ht
theorem Bld.blk {B b : Nat} {l : Bs} {w : World} (h : Bld B b l w) : ∃ cs,w.heap[b]? = some (.cells cs 115 (0,0)) := by
 rcases h with ⟨_,v,h,_⟩ | ⟨_,v,h,_⟩
 ·exact ⟨_,h⟩
 ·exact ⟨_,h⟩
theorem Bld.keep {B b : Nat} {l : Bs} {w w' : World} (h : Bld B b l w) (hk : ∀ g o,w.heap[g]? = some o → (g = b ∨ ∃ cs fr,o = .cells cs 5 fr) → w'.heap[g]? = some o) : Bld B b l w' := by
 have key : ∀ p,Lib.BuilderAt 115 5 B b p (Lib.byteCells l) w → Lib.BuilderAt 115 5 B b p (Lib.byteCells l) w' := by
  rintro p ⟨h1,v,h2,h3,h4⟩
  refine ⟨h1,v,hk _ _ h2 (.inl rfl),⟨h3.1,?_⟩,h4⟩
  rcases h3.2 with hn | ⟨g,cap,cur,k1,k2,k3,k4⟩
  ·exact .inl hn
  ·exact .inr ⟨g,cap,cur,k1,k2,hk _ _ k3 (.inr ⟨_,_,rfl⟩),k4⟩
 rcases h with h | h
 ·exact .inl (key _ h)
 ·exact .inr (key _ h)
structure PlM (w : World) (b : Nat) (va vb : Value) (bs : Bs) (W : World) : Prop where
 d : W.heap[w.heap.size]? = some (yD va vb)
 bl : Bld b b bs W
 lo : w.heap.size < b
 bel : Below w.heap.size w W
section
variable {w W W' : World} {b : Nat} {va vb : Value} {bs bs' : Bs}
theorem PlM.below (h : PlM w b va vb bs W) (hb : Below W.heap.size W W') : PlM w b va vb bs W' :=
 ⟨xE h.d hb (xI h.d),Bld.keep h.bl fun _ _ ho _ => xE ho hb (xI ho),h.lo,h.bel.trans (hb.mono h.bel.size)⟩
theorem PlM.app (h : PlM w b va vb bs W) {v v' : Value} {l l' : List Mailsack.Op} (ho : xX 121 3 opF W (w.heap.size + 1) v l) (ha : xHn 121 3 opF W W' (w.heap.size + 1) v v' l') : PlM w b va vb bs W' := by
 obtain ⟨cs,hbk⟩ := Bld.blk h.bl
 refine ⟨ha.keep h.d (ho.far (by omega)),Bld.keep h.bl fun g o hg hor => ha.keep hg ?_,h.lo,ha.bel ho (by omega) h.bel h.bel.size⟩
 rcases hor with rfl | ⟨cs2,fr,rfl⟩
 ·exact xX.neT ho hbk (by decide)
 ·exact xX.neT ho hg (by decide)
end
theorem PlM.write {w W W' : World} {b : Nat} {va vb : Value} {bs bs' : Bs} (h : PlM w b va vb bs W) (hl : Bld b b bs' W') (hb : Below b W W') : PlM w b va vb bs' W' :=
 ⟨xE h.d hb h.lo,hl,h.lo,h.bel.trans (hb.mono (Nat.le_of_lt h.lo))⟩
structure PlX (w : World) (b : Nat) (va vb : Value) (bs : Bs) (xb : Nat) (x : Wr) (ov : Value) (ops : List Mailsack.Op) (W : World) : Prop where
 m : PlM w b va vb bs W
 x : W.heap[xb]? = some (.cells #[.int .i64 x.at_,xU x.data] 111 (0,0))
 o : xX 121 3 opF W (w.heap.size + 1) ov ops
section
variable {w W W' : World} {b xb : Nat} {va vb ov : Value} {bs bs' : Bs} {x : Wr} {ops : List Mailsack.Op}
theorem PlX.below (h : PlX w b va vb bs xb x ov ops W) (hb : Below W.heap.size W W') : PlX w b va vb bs xb x ov ops W' := ⟨h.m.below hb,xE h.x hb (xI h.x),h.o.below hb⟩
theorem PlX.drew (h : PlX w b va vb bs xb x ov ops W) : PlX w b va vb bs xb x ov ops W.drew := h.below (Below.refl _ W).drew
theorem PlX.write (h : PlX w b va vb bs xb x ov ops W) (hl : Bld b b bs' W') (hb : Below b W W') (ht : ByT b W W') : PlX w b va vb bs' xb x ov ops W' := by
 obtain ⟨cs,hbk⟩ := Bld.blk h.m.bl
 refine ⟨h.m.write hl hb,ht xb _ h.x (fun e => ?_) (fun cs fr e => ?_),xX.byT h.o ht hbk (by decide) (by decide)⟩
 ·subst e
  have := h.x
  rw [hbk] at this
  injection this with this
  injection this with _ this
  exact absurd this (by decide)
 ·injection e with _ e
  exact absurd e (by decide)
end
theorem jP {P : Program} {w w' : World} {ops : Array Oper} {rest : List Oper} {o : Oper} {a : Act} {Q : Exit → Act → World → Prop} {t : TypeId} {v vx v' : Value} (hgd : o.guard = none) (s x : Operand)
  (ho : o.op = .call { callee := .builtin .append,args := #[s,x],argTypes := #[t,t] }) (hs : a.eval s = v) (hx : a.eval x = vx)
  (hr : (Builtin.append_ #[t,t] o.type #[v,vx]).run P w = .ok v' w')
  (h : wpList P ops Q rest (a.put o.dst v') w') : wpList P ops Q (o :: rest) a w := by
 refine wpList_plain hgd fun K hK => ?_
 unfold Oper.wp
 simp [execOp,ho,resolve,invoke,builtin,hs,hx,hr,Result.andThen]
 exact hK _ _ h
theorem xHy {d : Dk} {l : List Wr} (h : rM d = false ∨ l.length = 0) : vI d l = 1 := by unfold vI; rw [if_pos h]
end Go.Proofs.DS
namespace Go.Proofs.DS
open Go.RowKit Mailsack MM BB SH SV RK BU
theorem yA3 {w : World} {B : Nat} {A : Option Addr} {n c : Nat} {l : List Wr} (h : RdW w B (.slice A n c) l) {j : Nat} {x : Wr} (hx : l[j]? = some x) : ∃ b off,A = some ⟨b,off,none⟩ ∧ b < B ∧ w.cell? ⟨b,off + j * 2,none⟩ = some (.int .i64 x.at_) ∧ w.cell? ⟨b,off + j * 2 + 1,none⟩ = some (xU x.data) := by
 obtain ⟨A',c',e,_,h3⟩ := h
 injection e with e1 e2 e3
 subst e1 e2
 obtain ⟨b,off,h4,h5,h6⟩ := h3 (by have := (List.getElem?_eq_some_iff.1 hx).1; omega)
 exact ⟨b,off,h4,h5,(h6 j x hx).1,(h6 j x hx).2⟩
theorem RdR.xOp {α : Type} {k : Nat} {f : α → List Value} (w : World) (B : Nat) : RdR k f w B (.slice none 0 0) ([] : List α) := ⟨none,0,rfl,Nat.le_refl _,fun h => by simp at h⟩
theorem xTz (va vb lv : Value) (d : Dk) (l : List Wr) (w : World) (h : RdD w w.heap.size va vb d) (hl : RdW w w.heap.size lv l) (hs : rM d = false ∨ l.length = 0) :
  Calls Tryz.prog 15 #[.agg #[va,vb],lv] w fun e w' => e = .returned (.tuple #[.slice none 0 0,.int .i64 1]) ∧ Below w.heap.size w w' := by
 obtain ⟨A1,c1,A2,c2,rfl,rfl⟩ := yH h
 obtain ⟨A3,c3,rfl,_,_⟩ := hl
 have HA := hI' ((Below.refl w.heap.size w).alloc (Nat.le_refl _) (yD (.slice A1 d.secs.length c1) (.slice A2 d.cache.length c2)))
 have HS := hI' (xKh _ _ d _ ((h.below HA.out (Nat.le_refl _)).more HA.out.size))
 rw [show (decide (61 < d.secs.length) && zC d) = rM d from rfl] at HS
 cases hsu : rM d with
 | false =>
  rw [hsu] at HS
  clear hs hsu h
  go_enter Tryz.func15,Tryz.ntmps15
  go_wp2_with fail
  refine HS.out.mono ?_
  rintro e w1 ⟨rfl,hb⟩
  have HB := hI' (HA.out.trans (hb.mono HA.out.size))
  clear hb HS HA
  go_wp2
  go_ret2
  exact ⟨rfl,HB.out⟩
 | true =>
  rw [hsu] at HS
  have h0 : l.length = 0 := hs.resolve_left (by rw [hsu]; simp)
  rw [h0]
  clear hs hsu h h0
  go_enter Tryz.func15,Tryz.ntmps15
  go_wp2_with fail
  refine HS.out.mono ?_
  rintro e w1 ⟨rfl,hb⟩
  have HB := hI' (HA.out.trans (hb.mono HA.out.size))
  clear hb HS HA
  go_wp2
  go_ret2
  exact ⟨rfl,HB.out⟩
theorem xXg (va vb lv : Value) (d : Dk) (l : List Wr) (w : World) (h : RdD w w.heap.size va vb d) (hl : RdW w w.heap.size lv l) (hll : l.length ≤ 100000) (hs : rM d = true) (h0 : l.length ≠ 0) (hT : vT w) :
  Calls Tryz.prog 15 #[.agg #[va,vb],lv] w fun e w' => ∃ ov,e = .returned (.tuple #[ov,.int .i64 (vI d l)]) ∧ RdR 3 opF w' w'.heap.size ov (if vI d l = 0 then kF l else []) ∧ Below w.heap.size w w' := by
 obtain ⟨A1,c1,A2,c2,rfl,rfl⟩ := yH h
 have HWR := hI' hl
 obtain ⟨A3,c3,rfl,_,_⟩ := hl
 have HA := hI' ((Below.refl w.heap.size w).alloc (Nat.le_refl _) (yD (.slice A1 d.secs.length c1) (.slice A2 d.cache.length c2)))
 have HD0 := hI' (xM w (yD (.slice A1 d.secs.length c1) (.slice A2 d.cache.length c2)))
 have HS := hI' (xKh _ _ d _ ((h.below HA.out (Nat.le_refl _)).more HA.out.size))
 rw [show (decide (61 < d.secs.length) && zC d) = rM d from rfl,hs] at HS
 have HPE : Hid (vI d l = if l.all (xCc d.secs.length) = false then 1 else if 30 < l.length then 4 else 0) := hI' (by unfold vI; rw [if_neg (by rw [hs]; simp [h0])])
 have HTT := hI' hT
 obtain ⟨pe,hpe⟩ : ∃ pe,vI d l = pe := ⟨_,rfl⟩
 obtain ⟨pl,hpl⟩ : ∃ pl,(if vI d l = 0 then kF l else []) = pl := ⟨_,rfl⟩
 rw [hpl,hpe]
 have HV := hI' (And.intro hpe hpl)
 clear hs h hT hpe hpl
 have h0i : ¬ ((l.length : Int) = 0) := by omega
 have h0b : ((l.length : Int) == 0) = false := by simpa using h0i
 go_enter Tryz.func15,Tryz.ntmps15
 go_wp2_with fail
 refine HS.out.mono ?_
 rintro e w1 ⟨rfl,hb⟩
 have HB := hI' (And.intro (HA.out.trans (hb.mono HA.out.size)) (xE HD0.out hb (xI HD0.out)))
 clear hb HS HA HD0
 go_wp2_with fail
 clear h0i h0b
 -- the first loop: each write goes
 go_loopw [25] (fun iv wr => ∃ k : Nat,k ≤ l.length ∧ iv = .int .i64 k ∧ Hid (Below w.heap.size w wr ∧ wr.heap[w.heap.size]? = some (yD (.slice A1 d.secs.length c1) (.slice A2 d.cache.length c2))) ∧ Hid (∀ r ∈ l.take k,xCc d.secs.length r = true)) (fun iv _ => l.length - (intOf iv).toNat)
 case atStart => exact ⟨0,Nat.zero_le _,rfl,HB,hI' (by simp)⟩
 case round =>
  obtain ⟨k,hk,rfl,HI,hok⟩ := hrel
  clear HB
  by_cases hlt : k < l.length
  ·obtain ⟨x,hx⟩ : ∃ x,l[k]? = some x := ⟨_,List.getElem?_eq_getElem hlt⟩
   obtain ⟨b,off,rfl,hbw,q0,q1⟩ := yA3 HWR.out hx
   have q0 := (HI.out.1.cell (p := ⟨b,off + k * 2,none⟩) hbw).trans q0
   have q1 := (HI.out.1.cell (p := ⟨b,off + k * 2 + 1,none⟩) hbw).trans q1
   have HX := hI' hx
   have HF : Hid (xCc d.secs.length x = (decide (61 ≤ x.at_) && decide (x.at_ < d.secs.length) && decide (x.data.length = 64))) := hI' rfl
   have HAL := hI' (And.intro (HI.out.1.alloc HI.out.1.size (.cells #[.int .i64 x.at_,xU x.data] 111)) (xP HI.out.2 (.cells #[.int .i64 x.at_,xU x.data] 111)))
   have hbn := xM wr (.cells #[.int .i64 x.at_,xU x.data] 111)
   have hbd := HAL.out.2
   obtain ⟨x0,x1⟩ := uG hbn
   obtain ⟨d0,d1⟩ := uG hbd
   obtain ⟨xa,xd⟩ := x
   obtain ⟨sb,hsb⟩ : ∃ sb : ByteArray,(⟨xd.toArray⟩ : ByteArray) = sb := ⟨_,rfl⟩
   have hsz : sb.size = xd.length := by rw [← hsb]; rfl
   simp only at q0 q1 HF HAL x0 x1 d0 d1
   simp only [xU] at q0 q1 HAL x0 x1 d0 d1
   rw [hsb] at q1 HAL x1 d0 d1 x0
   clear hx hbn hbd HI hsb
   by_cases g1 : xa < 61
   ·have HR : Hid (vI d l = 1) := hI' (by rw [HPE.out,if_pos (all_false HX.out (by rw [HF.out]; simp; omega))])
    clear HPE HF HWR
    go_wp2
    go_ret2
    exact ⟨_,by rw [← HV.out.1,HR.out]; rfl,by rw [← HV.out.2,HR.out,if_neg (by omega)]; exact RdR.xOp _ _,HAL.out.1⟩
   ·by_cases g2 : (d.secs.length : Int) ≤ xa
    ·have HR : Hid (vI d l = 1) := hI' (by rw [HPE.out,if_pos (all_false HX.out (by rw [HF.out]; simp; omega))])
     clear HPE HF HWR
     go_wp2
     go_ret2
     exact ⟨_,by rw [← HV.out.1,HR.out]; rfl,by rw [← HV.out.2,HR.out,if_neg (by omega)]; exact RdR.xOp _ _,HAL.out.1⟩
    ·by_cases g3 : sb.size = 64
     ·have g3i : (sb.size : Int) = 64 := by omega
      have g3b : ((sb.size : Int) != 64) = false := by simp [g3i]
      have HO := hI' (xK2 HX.out (by rw [HF.out]; simp; omega) hok.out)
      clear HF HX hok HPE
      go_wp2
      exact ⟨⟨k + 1,by omega,by go_num,HAL,HO⟩,by simp [intOf]; omega⟩
     ·have g3i : ¬ ((sb.size : Int) = 64) := by omega
      have g3b : ((sb.size : Int) != 64) = true := by simp [g3i]
      have HR : Hid (vI d l = 1) := hI' (by rw [HPE.out,if_pos (all_false HX.out (by rw [HF.out]; simp; omega))])
      clear HPE HF HWR
      go_wp2
      go_ret2
      exact ⟨_,by rw [← HV.out.1,HR.out]; rfl,by rw [← HV.out.2,HR.out,if_neg (by omega)]; exact RdR.xOp _ _,HAL.out.1⟩
  ·obtain rfl : k = l.length := by omega
   have HAL := hI' (all_true hok.out)
   have HLN := hI' (xK3 l HAL.out)
   rw [HAL.out,if_neg (by simp)] at HPE
   clear hok hlt
   by_cases h30 : 30 < l.length
   ·have HR : Hid (vI d l = 4) := hI' (by rw [HPE.out,if_pos h30])
    have h30i : 30 < (l.length : Int) := by omega
    clear HPE HWR
    go_wp2
    go_ret2
    exact ⟨_,by rw [← HV.out.1,HR.out]; rfl,by rw [← HV.out.2,HR.out,if_neg (by omega)]; exact RdR.xOp _ _,HI.out.1⟩
   ·have HR : Hid (vI d l = 0) := hI' (by rw [HPE.out,if_neg h30])
    have h30i : ¬ (30 < (l.length : Int)) := by omega
    rw [HR.out,if_pos rfl] at HV
    clear HPE HR
    obtain ⟨z,hzz,hmk⟩ := madeR tyOp wr (3 * l.length + 6) (by omega)
    rw [show ((3 * l.length + 6 : Nat) : Int) = 3 * (l.length : Int) + 6 by omega] at hmk
    have hzs := xI HI.out.2
    have HO2 : Hid (xX 121 3 opF ((wr.alloc (.cells z 121)).alloc (.cells #[.pointer none,.slice none 0 0] 115)) (w.heap.size + 1) (.slice (some ⟨wr.heap.size,0,none⟩) 0 (3 * l.length + 6)) (qL 0 (l.take 0)) ∧
      PlM w (wr.heap.size + 1) (.slice A1 d.secs.length c1) (.slice A2 d.cache.length c2) (qN (l.take 0)) ((wr.alloc (.cells z 121)).alloc (.cells #[.pointer none,.slice none 0 0] 115))) := hI' (by
     refine ⟨(xX.room z wr _ (by omega) (by omega) hzz).alloc _,xP (xP HI.out.2 _) _,?_,by omega,(HI.out.1.alloc HI.out.1.size _).alloc (by simp; omega) _⟩
     have := Lib.fresh_isBuilder 115 5 (wr.alloc (.cells z 121))
     rw [vD] at this
     exact this)
    go_upto_region 13 with fail
    clear hmk hzz HI
    obtain ⟨bb,hbb⟩ : ∃ bb,wr.heap.size + 1 = bb := ⟨_,rfl⟩
    rw [hbb] at HO2 ⊢
    generalize Value.slice (some ⟨wr.heap.size,0,none⟩) 0 (3 * l.length + 6) = ov at HO2 ⊢
    generalize (wr.alloc (.cells z 121)).alloc (.cells #[.pointer none,.slice none 0 0] 115) = w2 at HO2 ⊢
    clear hbb hzs
    go_wp2_with fail
    go_loopw [8,57] (fun ov iv wr => ∃ k : Nat,k ≤ l.length ∧ iv = .int .i64 k ∧ Hid (xX 121 3 opF wr (w.heap.size + 1) ov (qL 0 (l.take k)) ∧ PlM w bb (.slice A1 d.secs.length c1) (.slice A2 d.cache.length c2) (qN (l.take k)) wr)) (fun _ iv _ => l.length - (intOf iv).toNat)
    case atStart => exact ⟨0,Nat.zero_le _,rfl,HO2⟩
    case round =>
     obtain ⟨k,hk,rfl,HI⟩ := hrel
     clear HO2
     by_cases hlt : k < l.length
     ·obtain ⟨x,hx⟩ : ∃ x,l[k]? = some x := ⟨_,List.getElem?_eq_getElem hlt⟩
      obtain ⟨b,off,rfl,hbw,q0,q1⟩ := yA3 HWR.out hx
      have q0 := (HI.out.2.bel.cell (p := ⟨b,off + k * 2,none⟩) hbw).trans q0
      have q1 := (HI.out.2.bel.cell (p := ⟨b,off + k * 2 + 1,none⟩) hbw).trans q1
      have HSN := hI' (And.intro (xWe hx) (xUq hx))
      have HG : Hid (x.data.length = 64 ∧ (qN (l.take k)).length ≤ 100000 ∧ (qL 0 (l.take k)).length ≤ 100000) := hI' (by
       have g1 := List.all_eq_true.1 HAL.out x (List.mem_of_getElem? hx)
       have g2 := xK3 (l.take k) (List.all_eq_true.2 fun y hy => List.all_eq_true.1 HAL.out y (List.mem_of_mem_take hy))
       have g3 := List.length_take_le k l
       unfold xCc at g1
       simp at g1
       exact ⟨g1.2,by omega,by rw [xFm]; omega⟩)
      have HX2 : Hid (PlX w bb (.slice A1 d.secs.length c1) (.slice A2 d.cache.length c2) (qN (l.take k)) wr.heap.size x u8 (qL 0 (l.take k)) (wr.alloc (.cells #[.int .i64 x.at_,xU x.data] 111))) := hI' ⟨HI.out.2.below ((Below.refl _ _).alloc (Nat.le_refl _) _),xM _ _,HI.out.1.alloc _⟩
      generalize qN (l.take k) = bs at HX2 HSN HG
      generalize qL 0 (l.take k) = ops at HX2 HSN HG
      obtain ⟨xa,xd⟩ := x
      simp only at q0 q1 HX2 HSN HG
      clear hx HI
      go_upto_region 16 with fail
      clear q0 q1
      generalize wr.alloc (.cells #[.int .i64 xa,xU xd] 111) = w3 at HX2 ⊢
      generalize wr.heap.size = xb at HX2 ⊢
      obtain ⟨x0,x1⟩ := uG HX2.out.x
      have HDS := hI' (xYm xa w3)
      have HDL := hI' (xGq xa)
      generalize xF7 xa = ds at HDS HDL HSN
      go_wp2_with fail
      refine HDS.out.mono ?_
      rintro e w4 ⟨rfl,hb4⟩
      have HX4 := hI' (HX2.out.below hb4)
      clear HX2 hb4 x0 x1 HDS
      have HWS := hI' (xAi bb bb bs ⟨ds.toArray⟩ w4 HX4.out.m.bl (by have := HG.out.2.1; have := HDL.out; show bs.length + ds.toArray.size ≤ _; simp; omega) (Nat.le_of_lt (by obtain ⟨cs,h⟩ := Bld.blk HX4.out.m.bl; exact xI h)))
      go_wp2_with fail
      refine HWS.out.mono ?_
      rintro e w5 ⟨rfl,hl5,hb5,ht5⟩
      have HX5 := hI' (HX4.out.write hl5 hb5 ht5)
      rw [show bs ++ (⟨ds.toArray⟩ : ByteArray).data.toList = bs ++ ds from rfl] at HX5
      clear HX4 hl5 hb5 ht5 HWS
      obtain ⟨x0,x1⟩ := uG HX5.out.x
      have HWS := hI' (xAi bb bb (bs ++ ds) ⟨xd.toArray⟩ w5 HX5.out.m.bl (by have := HG.out.2.1; have := HDL.out; have := HG.out.1; show (bs ++ ds).length + xd.toArray.size ≤ _; simp; omega) (Nat.le_of_lt (by obtain ⟨cs,h⟩ := Bld.blk HX5.out.m.bl; exact xI h)))
      go_wp2_with fail
      refine HWS.out.mono ?_
      rintro e w6 ⟨rfl,hl6,hb6,ht6⟩
      have HX6 := hI' (HX5.out.write hl6 hb6 ht6)
      rw [show bs ++ ds ++ (⟨xd.toArray⟩ : ByteArray).data.toList = bs ++ (ds ++ xd) from by rw [← List.append_assoc]] at HX6
      rw [← HSN.out.1] at HX6
      clear HX5 hl6 hb6 ht6 HWS x0 x1
      go_upto_region 19 with fail
      have HW1 := hI' (fun W => xCi (1 + 2 * (k : Int)) ⟨ds.toArray⟩ W)
      have HW2 := hI' (fun W => xCi (2 + 2 * (k : Int)) ⟨xd.toArray⟩ W)
      have HJL : Hid (ops.length ≤ 100000) := hI' HG.out.2.2
      obtain ⟨BS,hBS⟩ : ∃ B,qN (l.take (k + 1)) = B := ⟨_,rfl⟩
      rw [hBS] at HX6 HSN
      have b1 : (k : Int) ≤ 100000 := by omega
      refine RG.uU [14] [12,13] (fun L α W => Hid (PlM w bb (.slice A1 d.secs.length c1) (.slice A2 d.cache.length c2) BS W ∧ W.heap[xb]? = some (.cells #[.int .i64 xa,xU xd] 111 (0,0)) ∧
       (L 12 = true → L 13 = false → RdR 3 opF W W.heap.size (α 12) [wOp (1 + 2 * (k : Int)) ds,wOp (2 + 2 * (k : Int)) xd]) ∧ (L 13 = false → xX 121 3 opF W (w.heap.size + 1) u8 ops) ∧
       (L 13 = true → xX 121 3 opF W (w.heap.size + 1) (α 13) (ops ++ [wOp (1 + 2 * (k : Int)) ds,wOp (2 + 2 * (k : Int)) xd]))))
       (fun L L' α α' W hl ha h => hI' ⟨h.out.1,h.out.2.1,fun e12 e13 => by
        have f12 : L 12 = true := by rw [hl 12 (by simp)]; exact e12
        rw [← ha 12 (by simp) f12]; exact h.out.2.2.1 f12 (by rw [hl 13 (by simp)]; exact e13),fun e13 => h.out.2.2.2.1 (by rw [hl 13 (by simp)]; exact e13),fun e13 => by
        have f13 : L 13 = true := by rw [hl 13 (by simp)]; exact e13
        rw [← ha 13 (by simp) f13]; exact h.out.2.2.2.2 f13⟩) (by kernel_rfl) (by kernel_rfl) (by kernel_rfl) (hI' ⟨HX6.out.drew.m,HX6.out.drew.x,fun e => (by cases e),fun _ => HX6.out.drew.o,fun e => (by cases e)⟩) ?_
      iterate 5
       apply RG.yL
       ·rfl
       ·rfl
       ·intro α L w9 h0 hcl xH hw9
        repeat go_step
        with_reducible exact RG.xB hw9
       ·intro α; rfl
      apply RG.yL
      ·rfl
      ·rfl
      ·intro α L w9 h0 hcl xH hw9
       repeat go_step
       refine (HW1.out _).mono ?_
       rintro e w10 ⟨rfl,yA⟩
       simp only []
       repeat go_step
       with_reducible refine RG.xB ?_
       exact hI' ⟨hw9.out.1.below yA,xE hw9.out.2.1 yA (xI hw9.out.2.1),fun e f => ((hw9.out.2.2.1 e f).below yA (Nat.le_refl _)).more yA.size,fun e => (hw9.out.2.2.2.1 e).below yA,fun e => (hw9.out.2.2.2.2 e).below yA⟩
      ·intro α; rfl
      iterate 5
       apply RG.yL
       ·rfl
       ·rfl
       ·intro α L w9 h0 hcl xH hw9
        have hb := hw9.out.2.1
        obtain ⟨c0,c1⟩ := uG hb
        repeat go_step
        with_reducible exact RG.xB hw9
       ·intro α; rfl
      apply RG.yL
      ·rfl
      ·rfl
      ·intro α L w9 h0 hcl xH hw9
       repeat go_step
       refine (HW2.out _).mono ?_
       rintro e w10 ⟨rfl,yA⟩
       simp only []
       repeat go_step
       with_reducible refine RG.xB ?_
       exact hI' ⟨hw9.out.1.below yA,xE hw9.out.2.1 yA (xI hw9.out.2.1),fun e f => ((hw9.out.2.2.1 e f).below yA (Nat.le_refl _)).more yA.size,fun e => (hw9.out.2.2.2.1 e).below yA,fun e => (hw9.out.2.2.2.2 e).below yA⟩
      ·intro α; rfl
      apply RG.kN
      ·rfl
      ·intro α L w9 h0 hcl xH hw9
       have h13 : L 13 = false := hcl.not 8 (i := 13) h0 (by kernel_rfl)
       refine ⟨.slice (some ⟨w9.heap.size,0,none⟩) 2 2,fun bv hbv => ?_⟩
       repeat go_step
       rw [← hbv]
       with_reducible refine RG.xB ?_
       exact hI' ⟨hw9.out.1.below ((Below.refl _ _).alloc (Nat.le_refl _) _),xP hw9.out.2.1 _,fun _ _ => by
        rw [show RG.xH0 α (0 + 1 + 1 + 1 + 1 + 1 + 1 + 1 + 1 + 1 + 1 + 1 + 1) bv 12 = bv from RG.uM _ _ _,hbv,vD]
        exact RdR.lit (m := [wOp (1 + 2 * (k : Int)) ds,wOp (2 + 2 * (k : Int)) xd]) xDz w9 _ rfl,fun _ => (hw9.out.2.2.2.1 h13).alloc _,fun e => by
        have : L 13 = true := by simpa using e
        rw [h13] at this; cases this⟩
      ·intro b α; rfl
      apply RG.kN
      ·rfl
      ·intro α L w9 h0 hcl xH hw9
       have h12 : L 12 = true := by
        have := xH.yes 8 (i := 13) (j := 12) (by simp) (by kernel_rfl)
        simpa using this
       obtain ⟨v',w',hr,ha⟩ := xBe (P := Tryz.prog) tyOp 57 (hw9.out.2.2.2.1 h0) (hw9.out.2.2.1 h12 h0) (by have := HJL.out; simp; omega) (by have := hw9.out.1.bel.size; have := xI hw9.out.1.d; omega)
       refine ⟨v',fun bv hbv => ?_⟩
       refine jP rfl _ _ rfl rfl rfl hr ?_
       rw [← hbv]
       repeat go_step
       with_reducible refine RG.xB ?_
       exact hI' ⟨hw9.out.1.app (hw9.out.2.2.2.1 h0) ha,ha.keep hw9.out.2.1 (xX.neT (hw9.out.2.2.2.1 h0) hw9.out.2.1 (by decide)),fun _ f => by simp at f,fun f => by simp at f,fun _ => by
        rw [show RG.xH0 α (0 + 1 + 1 + 1 + 1 + 1 + 1 + 1 + 1 + 1 + 1 + 1 + 1 + 1) bv 13 = bv from RG.uM _ _ _,hbv]
        exact ha.own⟩
      ·intro b α; rfl
      apply RG.xCk
      ·rfl
      ·kernel_rfl
      ·rfl
      ·intro α L w9 h0 hcl xH hw9
       repeat go_step
       with_reducible refine RG.xB ?_
       exact hI' ⟨hw9.out.1,hw9.out.2.1,fun e f => hw9.out.2.2.1 (by simpa using e) (by simpa using f),fun e => hw9.out.2.2.2.1 (by simpa using e),fun e => hw9.out.2.2.2.2 (by simpa using e)⟩
      ·intro α; rfl
      refine RG.rY (fun α w9 hw9 => ?_)
      have H9 : Hid (xX 121 3 opF w9 (w.heap.size + 1) (α 13) (qL 0 (l.take (k + 1))) ∧ PlM w bb (.slice A1 d.secs.length c1) (.slice A2 d.cache.length c2) (qN (l.take (k + 1))) w9) := hI' ⟨by rw [HSN.out.2]; exact hw9.out.2.2.2.2 rfl,by rw [hBS]; exact hw9.out.1⟩
      clear HX6 HW1 HW2 HJL HSN HG HDL hw9 hBS
      go_wp2
      exact ⟨⟨k + 1,by omega,by go_num,H9⟩,by simp [intOf]; omega⟩
     ·obtain rfl : k = l.length := by omega
      rw [List.take_length] at HI
      clear hlt
      have HWF := hI' (fun W => xQf W)
      go_upto_region 21 with fail
      go_wp2_with fail
      refine (HWF.out _).mono ?_
      rintro e w3 ⟨rfl,hb3⟩
      have HI3 := hI' (And.intro (HI.out.1.below hb3) (HI.out.2.below hb3))
      clear hb3 HI
      have HST := hI' (Tryz.Builder_String_k bb bb (qN l) w3 (Lib.IsBuilderF.of HI3.out.2.bl) (by intro e; have := HLN.out; rw [e] at this; simp at this; omega))
      go_wp2_with fail
      refine HST.out.mono ?_
      rintro e w4 ⟨rfl,_,hb4,ho4⟩
      have HI4 : Hid (xX 121 3 opF w4 (w.heap.size + 1) u8 (qL 0 l) ∧ Below w.heap.size w w4) := hI' (by
       obtain ⟨cs,hbk⟩ := Bld.blk HI3.out.2.bl
       exact ⟨xX.byT HI3.out.1 (byT_of ho4) hbk (by decide) (by decide),HI3.out.2.bel.trans (hb4.mono (Nat.le_of_lt HI3.out.2.lo))⟩)
      clear HST hb4 ho4 HI3
      have HHD := hI' (xRh l.length ⟨(qN l).toArray⟩ w4 (by omega) (by have := HLN.out; show (qN l).toArray.size ≤ _; simp; omega) (HTT.out.below HI4.out.2 (Nat.le_refl _)))
      rw [show (⟨(qN l).toArray⟩ : ByteArray).data.toList = qN l from rfl] at HHD
      obtain ⟨hd,hhd⟩ : ∃ hd,xD8 l.length (qN l) = hd := ⟨_,rfl⟩
      rw [hhd] at HHD
      have HHE := hI' hhd
      clear hhd
      have HJL : Hid ((qL 0 l).length ≤ 1000) := hI' (by rw [xFm]; omega)
      have HWR2 := hI' (fun W => xCi 0 ⟨hd.toArray⟩ W)
      go_wp2_with fail
      refine (HHD.out).mono ?_
      rintro e w5 ⟨rfl,hb⟩
      have HI5 := hI' (And.intro (HI4.out.1.below hb) (HI4.out.2.trans (hb.mono HI4.out.2.size)))
      clear hb HI4 HHD
      go_wp2_with fail
      refine (HWR2.out _).mono ?_
      rintro e w6 ⟨rfl,hb⟩
      have HI6 := hI' (And.intro (HI5.out.1.below hb) (HI5.out.2.trans (hb.mono HI5.out.2.size)))
      clear hb HI5 HWR2
      go_wp2_with fail
      refine (HWF.out _).mono ?_
      rintro e w7 ⟨rfl,hb⟩
      have HI7 := hI' (And.intro (HI6.out.1.below hb) (HI6.out.2.trans (hb.mono HI6.out.2.size)))
      clear hb HI6 
      go_upto_region 22 with (at_builtin; refine vS tyOp rfl _ _ rfl rfl rfl (HI7.out.1.alloc _) (RdR.lit (m := [fOp,wOp 0 hd,fOp]) xDz _ _ rfl) (by have := HJL.out; simp; omega) (by have := HI7.out.2.size; simp; omega) ?_; intro v8 w8 h8; have HA8 : Hid (xHn 121 3 opF (w7.alloc (.cells #[.bool true,.int .i64 0,.string ⟨#[]⟩,.bool false,.int .i64 0,.string ⟨hd.toArray⟩,.bool true,.int .i64 0,.string ⟨#[]⟩] 121)) w8 (w.heap.size + 1) u8 v8 (qL 0 l ++ [fOp,wOp 0 hd,fOp])) := hI' h8; clear h8)
      have HI8 : Hid (xX 121 3 opF w8 (w.heap.size + 1) v8 (qL 0 l ++ [fOp,wOp 0 hd,fOp] ++ (l.take 0).map (fun x => (⟨false,x⟩ : Mailsack.Op))) ∧ Below w.heap.size w w8) := hI' ⟨by simpa using HA8.out.own,HA8.out.bel (HI7.out.1.alloc _) (by omega) (HI7.out.2.alloc HI7.out.2.size _) (by have := HI7.out.2.size; simp; omega)⟩
      have HPL : Hid ((qL 0 l ++ [fOp,wOp 0 hd,fOp]).length ≤ 1010) := hI' (by have := HJL.out; simp; omega)
      have HPE2 : Hid (kF l = qL 0 l ++ [fOp,wOp 0 hd,fOp] ++ l.map (fun x => (⟨false,x⟩ : Mailsack.Op)) ++ [fOp,wOp 0 (xQ 64),fOp]) := hI' (by unfold kF; rw [HHE.out])
      generalize qL 0 l ++ [fOp,wOp 0 hd,fOp] = P0 at HI8 HPL HPE2
      clear HA8 HI7 HJL HHE
      go_wp2_with fail
      go_loopw [8,97] (fun ov iv wr => ∃ k : Nat,k ≤ l.length ∧ iv = .int .i64 k ∧ Hid (xX 121 3 opF wr (w.heap.size + 1) ov (P0 ++ (l.take k).map (fun x => (⟨false,x⟩ : Mailsack.Op))) ∧ Below w.heap.size w wr)) (fun _ iv _ => l.length - (intOf iv).toNat)
      case atStart => exact ⟨0,Nat.zero_le _,rfl,HI8⟩
      case round =>
       obtain ⟨k,hk,rfl,HI⟩ := hrel
       clear HI8
       by_cases hlt : k < l.length
       ·obtain ⟨x,hx⟩ : ∃ x,l[k]? = some x := ⟨_,List.getElem?_eq_getElem hlt⟩
        obtain ⟨b,off,rfl,hbw,q0,q1⟩ := yA3 HWR.out hx
        have q0 := (HI.out.2.cell (p := ⟨b,off + k * 2,none⟩) hbw).trans q0
        have q1 := (HI.out.2.cell (p := ⟨b,off + k * 2 + 1,none⟩) hbw).trans q1
        have HSN := hI' (xN5 hx)
        have HKL : Hid (((l.take k).map (fun x => (⟨false,x⟩ : Mailsack.Op))).length ≤ 1000) := hI' (by have := List.length_take_le k l; rw [List.length_map]; omega)
        generalize (l.take k).map (fun x => (⟨false,x⟩ : Mailsack.Op)) = P1 at HI HSN HKL
        have HXA := hI' (And.intro (HI.out.1.alloc (.cells #[.int .i64 x.at_,xU x.data] 111)) (HI.out.2.alloc HI.out.2.size (.cells #[.int .i64 x.at_,xU x.data] 111)))
        have hxb := xM wr (.cells #[.int .i64 x.at_,xU x.data] 111)
        obtain ⟨x0,x1⟩ := uG hxb
        clear hx hxb HI
        go_upto_region 25 with fail
        clear q0 q1
        generalize wr.alloc (.cells #[.int .i64 x.at_,xU x.data] 111) = w3 at HXA x0 x1 ⊢
        have HAD : ∀ v8 w8,xHn 121 3 opF (w3.alloc (.cells #[.bool false,.int .i64 x.at_,xU x.data] 121)) w8 (w.heap.size + 1) u8 v8 (P0 ++ P1 ++ [⟨false,x⟩]) → Hid (xX 121 3 opF w8 (w.heap.size + 1) v8 (P0 ++ (l.take (k + 1)).map (fun x => (⟨false,x⟩ : Mailsack.Op))) ∧ Below w.heap.size w w8) := fun v8 w8 h8 => hI' ⟨by rw [HSN.out,← List.append_assoc]; exact h8.own,h8.bel (HXA.out.1.alloc _) (by omega) (HXA.out.2.alloc HXA.out.2.size _) (by have := HXA.out.2.size; simp; omega)⟩
        have HAH := hI' HAD
        clear HAD
        go_wp2_with (at_builtin; refine vS tyOp rfl _ _ rfl rfl rfl (HXA.out.1.alloc _) (RdR.lit (m := [(⟨false,x⟩ : Mailsack.Op)]) xDz _ _ rfl) (by have := HPL.out; have := HKL.out; simp only [List.length_append,List.length_cons,List.length_nil]; omega) (by have := HXA.out.2.size; simp; omega) ?_; intro v8 w8 h8; have HA8 := HAH.out _ _ h8; clear h8)
        exact ⟨⟨k + 1,by omega,by go_num,HA8⟩,by simp [intOf]; omega⟩
       ·obtain rfl : k = l.length := by omega
        rw [List.take_length] at HI
        have HKL : Hid ((P0 ++ l.map (fun x => (⟨false,x⟩ : Mailsack.Op))).length ≤ 2000) := hI' (by have := HPL.out; simp only [List.length_append,List.length_map]; omega)
        rw [HPE2.out] at HV
        generalize P0 ++ l.map (fun x => (⟨false,x⟩ : Mailsack.Op)) = P2 at HI HKL HV
        have HI3 := HI
        clear HI hlt HPE2 HPL HLN HAL HWR
        go_upto_region 27 with fail
        go_wp2_with fail
        refine (HWF.out _).mono ?_
        rintro e w4 ⟨rfl,hb⟩
        have HI4 := hI' (And.intro (HI3.out.1.below hb) (HI3.out.2.trans (hb.mono HI3.out.2.size)))
        clear hb HI3 
        have HZZ := hI' (xK9 64 w4 (by omega))
        obtain ⟨zb,hzb⟩ : ∃ z,xQ 64 = z := ⟨_,rfl⟩
        rw [hzb] at HZZ HV
        clear hzb
        have HWR2 := hI' (fun W => xCi 0 ⟨zb.toArray⟩ W)
        go_wp2_with fail
        refine (HZZ.out).mono ?_
        rintro e w5 ⟨rfl,hb⟩
        have HI5 := hI' (And.intro (HI4.out.1.below hb) (HI4.out.2.trans (hb.mono HI4.out.2.size)))
        clear hb HI4 HZZ
        go_wp2_with fail
        refine (HWR2.out _).mono ?_
        rintro e w6 ⟨rfl,hb⟩
        have HI6 := hI' (And.intro (HI5.out.1.below hb) (HI5.out.2.trans (hb.mono HI5.out.2.size)))
        clear hb HI5 HWR2
        go_wp2_with fail
        refine (HWF.out _).mono ?_
        rintro e w7 ⟨rfl,hb⟩
        have HI7 := hI' (And.intro (HI6.out.1.below hb) (HI6.out.2.trans (hb.mono HI6.out.2.size)))
        clear hb HI6 HWF
        go_wp2_with (at_builtin; refine vS tyOp rfl _ _ rfl rfl rfl (HI7.out.1.alloc _) (RdR.lit (m := [fOp,wOp 0 zb,fOp]) xDz _ _ rfl) (by have := HKL.out; simp; omega) (by have := HI7.out.2.size; simp; omega) ?_; intro v8 w8 h8; have HA8 : Hid (xHn 121 3 opF (w7.alloc (.cells #[.bool true,.int .i64 0,.string ⟨#[]⟩,.bool false,.int .i64 0,.string ⟨zb.toArray⟩,.bool true,.int .i64 0,.string ⟨#[]⟩] 121)) w8 (w.heap.size + 1) u8 v8 (P2 ++ [fOp,wOp 0 zb,fOp])) := hI' h8; clear h8)
        go_ret2
        refine ⟨v8,by rw [← HV.out.1]; rfl,?_,HA8.out.bel (HI7.out.1.alloc _) (by omega) (HI7.out.2.alloc HI7.out.2.size _) (by have := HI7.out.2.size; simp; omega)⟩
        rw [← HV.out.2]
        exact HA8.out.own.rd xDz
end Go.Proofs.DS
