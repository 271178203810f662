/- Contracts of functions of the program. Conditions: those that each theorem states. -/
import Derived.Test.YtnaiekglbemhcaaGreatDoorVaultFreshProofB19
import Derived.Lib.AppendStr
set_option maxHeartbeats 8000000
set_option maxRecDepth 100000
namespace Mailsack
def byteOf (z : Int) : UInt8 := UInt8.ofNat (z % 256).toNat
theorem xIj (z : Int) : ((byteOf z).toNat : Int) = z % 256 := by
 unfold byteOf
 have h1 := Int.emod_nonneg z (b := 256) (by decide)
 have h2 := Int.emod_lt_of_pos z (b := 256) (by decide)
 rw [UInt8.toNat_ofNat',Nat.mod_eq_of_lt (by omega)]
 omega
def vZ (n : Int) (c : Nat) : Bs := (List.range c).map fun i => byteOf (n / 2 ^ (8 * i))
theorem xU5 (n : Int) (c : Nat) : vZ n (c + 1) = vZ n c ++ [byteOf (n / 2 ^ (8 * c))] := by
 unfold vZ; rw [List.range_succ,List.map_append]; rfl
def xAp (s : Bs) : Bs := byteOf s.length :: s
theorem vB (n : Int) (c : Nat) : (vZ n c).length = c := by unfold vZ; simp
end Mailsack
namespace Go.Proofs.IX
open Go.RowKit Mailsack MM BU VB
structure Ext (w : World) (v : Value) (w' : World) (v' : Value) : Prop where
 grown : w.grownBy w' v.ownBlock
 own : ∀ k,v'.ownBlock = some k → v.ownBlock = some k ∨ w.heap.size ≤ k
theorem Ext.refl (w : World) (v : Value) : Ext w v w v := ⟨⟨rfl,rfl,rfl,Nat.le_refl _,fun _ _ _ => rfl⟩,fun _ h => .inl h⟩
theorem Ext.trans {w w1 w2 : World} {v v1 v2 : Value} (h : Ext w v w1 v1) (k : Ext w1 v1 w2 v2) : Ext w v w2 v2 := by
 refine ⟨⟨k.grown.os.trans h.grown.os,k.grown.tape.trans h.grown.tape,k.grown.output.trans h.grown.output,Nat.le_trans h.grown.size k.grown.size,fun b hb hne => ?_⟩,fun b hb => ?_⟩
 ·refine (k.grown.block b (Nat.lt_of_lt_of_le hb h.grown.size) (fun e => ?_)).trans (h.grown.block b hb hne)
  rcases h.own b e.symm with h1 | h1
  ·exact hne h1.symm
  ·omega
 ·rcases k.own b hb with h1 | h1
  ·exact h.own b h1
  ·exact .inr (Nat.le_trans h.grown.size h1)
theorem Ext.push {w w1 : World} {v : Value} {o : Obj} {g n cap : Nat} (hg : (w.alloc o).grownBy w1 v.ownBlock) (hl : v.ownBlock = some g ∨ g = w.heap.size + 1) : Ext w v w1 (.slice (some ⟨g,0,none⟩) n cap) := by
 refine ⟨⟨hg.os,hg.tape,hg.output,Nat.le_trans (by simp) hg.size,fun b hb hne => ?_⟩,fun b hb => ?_⟩
 ·exact (hg.block b (by simp; omega) hne).trans (Below.heap_alloc w o b hb)
 ·have hb' : g = b := by simpa [Value.ownBlock] using hb
  subst hb'
  rcases hl with h | h
  ·exact .inl h
  ·exact .inr (by omega)
theorem Ext.away {w w' : World} {v v' : Value} (h : Ext w v w' v') {g : Nat} (hg : g < w.heap.size) (hne : v.ownBlock ≠ some g) : w'.heap[g]? = w.heap[g]? ∧ v'.ownBlock ≠ some g := by
 refine ⟨h.grown.block g hg (fun e => hne e.symm),fun e => ?_⟩
 rcases h.own g e with h1 | h1
 ·exact hne h1
 ·omega
theorem Ext.below {w w' : World} {v v' : Value} (h : Ext w v w' v') {base : Nat} {l : Bs} (ho : qB w base v l) (hb : base ≤ w.heap.size) : Below base w w' :=
 ⟨h.grown.os,h.grown.tape,h.grown.output,h.grown.size,fun k hk => h.grown.block k (by omega) (fun e => by
  have := (World.ownsRow.lt ho k e.symm).1
  omega)⟩
theorem xMr {P : Program} (w : World) (base : Nat) (t u ty e : TypeId) (i : TypeInfo) (ht : P.underlying t = some (.slice e)) (hu : P.underlying u = some .string) (hi : P.info? e = some i) (hz : i.zero = some (.int .u8 0))
  (hsize : i.size = 1) (hby : i.bytes = 1) (g n cap : Nat) (xs : List Value) (hown : w.ownsRow base e 1 (.slice (some ⟨g,0,none⟩) n cap) n xs) (s : ByteArray)
  (h63 : n + s.size ≤ maxLen) (hbytes : n + s.size ≤ 140737488355328) (hbase : base ≤ w.heap.size) :
  ∃ v' w',(Builtin.append_ #[t,u] ty #[.slice (some ⟨g,0,none⟩) n cap,.string s]).run P w = .ok v' w' ∧ w'.ownsRow base e 1 v' (n + s.size) (xs ++ Lib.strCells s) ∧ w.grownBy w' (some g) ∧
   (v'.ownBlock = some g ∨ v'.ownBlock = some w.heap.size) := by
 obtain ⟨v',w',hr,h2,h3,_⟩ := Lib.run_append_own_string (P := P) w base t u ty e i ht hu hi hz hsize hby _ n xs hown s h63 hbytes hbase
 refine ⟨v',w',hr,h2,h3,?_⟩
 have hsmall : n + s.size ≤ 9223372036854775807 := by simp only [maxLen] at h63; omega
 have hxl : xs.length = n := by simpa using hown.1
 rcases hown.2 with ⟨h,_⟩ | ⟨g',cap',cur,h,hbg,hg,hnc,hcm,hcs,htake⟩
 ·cases h
 ·injection h with h h' h''
  injection h with h
  injection h with h
  subst h h''
  by_cases hroom : n + s.size ≤ cap
  ·have hcs' : cur.size = cap := by simpa using hcs
   have hq := Lib.run_append_room_string (P := P) w t u ty e i ht hu hi hsize g n cap cur hg s hroom (by omega)
   rw [hq] at hr
   injection hr with hv hw
   exact .inl (by rw [← hv]; rfl)
  ·have holds : ∀ j u,xs[j]? = some u → w.cell? ((⟨g,0,none⟩ : Addr).add j) = some u := hown.cells (g := g) rfl
   have hq := Lib.run_append_grow_string (P := P) w t u ty e i (.int .u8 0) ht hu hi hz ⟨g,0,none⟩ n cap xs (by rw [hsize]; simpa using hxl) holds s (by omega) (by omega) (by rw [hby]; exact growslice_fits (by omega) (by omega))
   rw [hq] at hr
   injection hr with hv hw
   exact .inr (by rw [← hv]; rfl)
theorem xH5 {P : Program} {w : World} {ops : Array Oper} {rest : List Oper} {o : Oper} {a : Act} {Q : Exit → Act → World → Prop} (hgd : o.guard = none) (sl x : Operand) (t u : TypeId)
  (ho : o.op = .call { callee := .builtin .append,args := #[sl,x],argTypes := #[t,u] })
  (base : Nat) (e : TypeId) (i : TypeInfo) (ht : P.underlying t = some (.slice e)) (hu : P.underlying u = some .string) (hi : P.info? e = some i) (hz : i.zero = some (.int .u8 0))
  (hsize : i.size = 1) (hby : i.bytes = 1)
  (g n cap : Nat) (xs : List Value) (hs : a.eval sl = .slice (some ⟨g,0,none⟩) n cap) (hown : w.ownsRow base e 1 (.slice (some ⟨g,0,none⟩) n cap) n xs) (s : ByteArray) (hx : a.eval x = .string s)
  (h63 : n + s.size ≤ maxLen) (hbytes : n + s.size ≤ 140737488355328) (hbase : base ≤ w.heap.size)
  (h : ∀ v' w',w'.ownsRow base e 1 v' (n + s.size) (xs ++ Lib.strCells s) → w.grownBy w' (some g) → (v'.ownBlock = some g ∨ v'.ownBlock = some w.heap.size) → wpList P ops Q rest (a.put o.dst v') w') : wpList P ops Q (o :: rest) a w := by
 refine wpList_plain hgd fun K hK => ?_
 obtain ⟨v',w',hr,h2,h3,h4⟩ := xMr (P := P) w base t u o.type e i ht hu hi hz hsize hby g n cap xs hown s h63 hbytes hbase
 unfold Oper.wp execOp
 simp only [ho,resolve,invoke,builtin,Sem.run_bind,Sem.run_pure,Result.andThen_ok,List.map_toArray,List.map_cons,List.map_nil,hs,hx,hr]
 exact hK _ _ (h v' w' h2 h3 h4)
theorem Ext.spread {w w1 : World} {g n cap : Nat} {v' : Value} (hg : w.grownBy w1 (some g)) (hl : v'.ownBlock = some g ∨ v'.ownBlock = some w.heap.size) : Ext w (.slice (some ⟨g,0,none⟩) n cap) w1 v' := by
 refine ⟨hg,fun b hb => ?_⟩
 rcases hl with h | h
 ·exact .inl (by rw [← hb,h]; rfl)
 ·rw [h] at hb
  injection hb with hb
  exact .inr (by omega)
theorem xBh (n : Int) (c : Nat) (v : Value) (l : Bs) (w : World) (base : Nat) (ho : qB w base v l) (hb : base ≤ w.heap.size) (hl : l.length < 4294967281) (hc : c ≤ 4) :
  Calls Tryz.prog 71 #[v,.int .i64 n,.int .i64 c] w fun e w' => ∃ v',e = .returned v' ∧ qB w' base v' (l ++ vZ n c) ∧ Ext w v w' v' := by
 obtain ⟨i0,hi,hz0,hz1,hz2⟩ := info_parts xUy
 have HO := hI' ho
 clear ho
 go_enter Tryz.func71,Tryz.ntmps71
 go_wp2
 go_loopw [0,9] (fun lv iv wr => ∃ k : Nat,k ≤ c ∧ iv = .int .i64 k ∧ Hid (qB wr base lv (l ++ vZ n k)) ∧ Hid (Ext w v wr lv)) (fun _ iv _ => c - (intOf iv).toNat)
 case atStart => exact ⟨0,Nat.zero_le _,rfl,hI' (by rw [show vZ n 0 = [] from rfl,List.append_nil]; exact HO.out),hI' (Ext.refl _ _)⟩
 case round =>
  obtain ⟨k,hk,rfl,hown,hext⟩ := hrel
  by_cases hlt : k < c
  ·have HL0 := (show (l ++ vZ n k).length = l.length + k by rw [List.length_append,vB])
   obtain ⟨L,hL⟩ : ∃ L,l ++ vZ n k = L := ⟨_,rfl⟩
   rw [hL] at hown HL0
   have HL := hI' HL0
   have HLe := hI' hL
   clear HL0 hL
   have HS := hI' (xU5 n k)
   have HK := hI' (show k < 4 by omega)
   go_wp2_with (at_builtin; refine wpList_append_lies _ rfl _ _ 113 rfl base 5 i0 (.int .u8 0) 1 1 Tryz.underlying113 hi hz0 hz1 hz2 rfl (by decide) _ _ _ rfl (hown.out.alloc _) ⟨wr.heap.size,0,none⟩ 1 1 [.int .u8 (n / 2 ^ (8 * k) % 256)] rfl rfl (cell_one_new _ _ _) (xZf _) (by decide) (by have := HL.out; have := HK.out; unfold maxLen; omega) (by have := HL.out; have := HK.out; omega) (by have := hext.out.grown.size; simp; omega) (wr.heap.size + 1) (by simp) ?_; intro g cap w1 hown1 hgrow hat hlt1)
   have he2 := hext.out.trans (Ext.push (n := L.length + 1) (cap := cap) hgrow hat)
   have ho2 := hI' hown1
   clear hown1 hgrow hat
   go_roundw
   case rel => exact ⟨k + 1,by omega,by go_num,hI' (by
    rw [HS.out,← List.append_assoc,HLe.out]
    refine qB.of ?_
    rw [xIj]
    exact ho2.out),hI' he2⟩
   case measure => simp [intOf]; omega
  ·go_wp2
   go_ret
   refine ⟨_,rfl,?_,hext.out⟩
   rw [show c = k by omega]
   exact hown.out
theorem xOc (s : ByteArray) (v : Value) (l : Bs) (w : World) (base : Nat) (ho : qB w base v l) (hb : base ≤ w.heap.size) (hl : l.length < 4294967281) (hs : s.size ≤ 100) :
  Calls Tryz.prog 72 #[v,.string s] w fun e w' => ∃ v',e = .returned v' ∧ qB w' base v' (l ++ xAp s.data.toList) ∧ Ext w v w' v' := by
 obtain ⟨i0,hi,hz0,hz1,hz2⟩ := info_parts xUy
 have HO := hI' ho
 clear ho
 go_enter Tryz.func72,Tryz.ntmps72
 have hsl : s.data.toList.length = s.size := Array.length_toList
 have Hs8 : Hid ((((Mailsack.byteOf (s.data.toList.length : Int)).toNat : Int)) = (s.size : Int)) := hI' (by rw [hsl,xIj]; omega)
 have Hsl := hI' hsl
 clear hsl
 go_wp2_with (first | (at_builtin; refine wpList_append_lies _ rfl _ _ 113 rfl base 5 i0 (.int .u8 0) 1 1 Tryz.underlying113 hi hz0 hz1 hz2 rfl (by decide) _ _ _ rfl (HO.out.alloc _) ⟨w.heap.size,0,none⟩ 1 1 [.int .u8 (s.size : Int)] rfl rfl (cell_one_new _ _ _) (xZf _) (by decide) (by unfold maxLen; omega) (by omega) (by simp; omega) (w.heap.size + 1) (by simp) ?_; intro g cap w1 hown1 hgrow hat hlt1; have HE := hI' (Ext.push (n := l.length + 1) (cap := cap) hgrow hat); have HO1 := hI' hown1; clear hown1 hgrow hat hlt1) | (at_builtin; refine xH5 rfl _ _ 113 9 rfl base 5 i0 Tryz.underlying113 Tryz.underlying9 hi hz0 hz1 hz2 g _ cap _ rfl HO1.out s rfl (by unfold maxLen; omega) (by omega) (by have := HE.out.grown.size; omega) ?_; intro v2 w2 hown2 hgrow2 hat2; have HE2 := hI' (HE.out.trans (Ext.spread (n := l.length + 1) (cap := cap) hgrow2 hat2)); have HO2 := hI' hown2; clear hown2 hgrow2 hat2))
 go_ret
 refine ⟨_,rfl,?_,HE2.out⟩
 have h := HO2.out
 unfold qB
 rw [show (l ++ xAp s.data.toList).length = l.length + 1 + s.size by unfold xAp; rw [List.length_append,List.length_cons,Hsl.out]; omega]
 rw [show (l ++ xAp s.data.toList).map (fun c => Value.int .u8 c.toNat) = l.map (fun c => Value.int .u8 c.toNat) ++ [.int .u8 (s.size : Int)] ++ Lib.strCells s by
  unfold xAp Lib.strCells
  rw [List.map_append,List.map_cons,Hs8.out,List.append_assoc]
  rfl]
 exact h
end Go.Proofs.IX
namespace Mailsack
def xL5 (m : wN) : Bs := vZ m.uid 4 ++ vZ m.flags 1 ++ vZ m.object 4 ++ vZ m.size 2
def xV5 (b : xGy) : Bs := xAp b.name ++ vZ b.validity 4 ++ vZ b.next 4 ++ vZ b.zA.length 1
def yC2 (b : xGy) : Bs := xV5 b ++ (b.zA.map xL5).flatten
def xZc (x : jU) : Bs := vZ x.given 4 ++ vZ x.boxes.length 1 ++ (x.boxes.map yC2).flatten ++ vZ x.subs.length 1 ++ (x.subs.map xAp).flatten
def kE (x : jU) : Bs := if wY x = true then xZc x else []
def putE (x : jU) : Int := if wY x = true then 0 else 1
theorem xEx (m : wN) : (xL5 m).length = 11 := by unfold xL5; simp [vB]
theorem xAs (s : Bs) : (xAp s).length = s.length + 1 := rfl
theorem xEz (b : xGy) : (xV5 b).length = b.name.length + 10 := by unfold xV5; simp [vB,xAs]
theorem xD9 {α : Type} {L : List α} {k : Nat} {x : α} (h : L[k]? = some x) (f : α → Bs) : ((L.take (k + 1)).map f).flatten = ((L.take k).map f).flatten ++ f x := by
 rw [List.take_add_one,h]
 simp
theorem xAe {α : Type} {L : List α} (f : α → Bs) {c : Nat} (h : ∀ x ∈ L,(f x).length ≤ c) (k : Nat) : (((L.take k).map f).flatten).length ≤ c * k := by
 induction k with
 | zero => simp
 | succ k ih =>
  cases e : L[k]? with
  | none => rw [List.take_add_one,e]; simp only [Option.toList,List.append_nil]; rw [Nat.mul_succ]; omega
  | some x =>
   rw [xD9 e,List.length_append,Nat.mul_succ]
   have := h x (List.mem_of_getElem? e)
   omega
theorem xIk {given : Int} : ∀ {l : List xGy} {i : Nat} {p : Bs},rW given l i p = true → ∀ b ∈ l,xAn b = true
 | [],_,_,_,_,hb => by cases hb
 | b :: l,i,p,h,b',hb => by
  unfold rW at h
  simp only [Bool.and_eq_true] at h
  rcases List.mem_cons.1 hb with rfl | hb
  ·exact h.1.1.1.1
  ·exact xIk h.2 b' hb
theorem xKi : ∀ {l : List Bs} {i : Nat} {p : Bs},xCu l i p = true → ∀ s ∈ l,nameP s = true
 | [],_,_,_,_,hb => by cases hb
 | b :: l,i,p,h,b',hb => by
  unfold xCu at h
  simp only [Bool.and_eq_true] at h
  rcases List.mem_cons.1 hb with rfl | hb
  ·exact h.1.1
  ·exact xKi h.2 b' hb
theorem xL0 {s : Bs} (h : nameP s = true) : s.length ≤ 16 := by
 unfold nameP at h
 simp only [Bool.and_eq_true,decide_eq_true_eq] at h
 exact h.1.2
theorem xW6 {b : xGy} (h : xAn b = true) : b.name.length ≤ 16 ∧ b.zA.length ≤ 30 := by
 unfold xAn at h
 simp only [Bool.and_eq_true,decide_eq_true_eq] at h
 exact ⟨xL0 h.1.1.1.1,h.1.2⟩
theorem xTp {x : jU} (h : wY x = true) : x.boxes.length ≤ 6 ∧ x.subs.length ≤ 6 ∧ (∀ b ∈ x.boxes,b.name.length ≤ 16 ∧ b.zA.length ≤ 30) ∧ ∀ s ∈ x.subs,s.length ≤ 16 := by
 unfold wY at h
 simp only [Bool.and_eq_true,decide_eq_true_eq] at h
 exact ⟨h.1.1.1.1.1.1.2,h.1.1.1.1.2,fun b hb => xW6 (xIk h.1.1.2 b hb),fun s hs => xL0 (xKi h.1.2 s hs)⟩
theorem xO2 {b : xGy} (h : b.name.length ≤ 16 ∧ b.zA.length ≤ 30) : (yC2 b).length ≤ 400 := by
 unfold yC2
 rw [List.length_append,xEz]
 have := xAe (L := b.zA) xL5 (c := 11) (fun m _ => by rw [xEx]; exact Nat.le_refl _) b.zA.length
 rw [List.take_length] at this
 omega
end Mailsack
namespace Go.Proofs.IX
open Go.RowKit Mailsack MM BU VB
structure Hold (w1 : World) (base g : Nat) (o : Obj) (w : World) (v : Value) (l : Bs) : Prop where
 own : qB w base v l
 off : v.ownBlock ≠ some g
 blk : w.heap[g]? = some o
 below : Below base w1 w
 size : base ≤ w.heap.size
theorem Hold.step {w1 w w' : World} {base g : Nat} {o : Obj} {v v' : Value} {l l' : Bs} (h : Hold w1 base g o w v l) (ho : qB w' base v' l') (he : Ext w v w' v') : Hold w1 base g o w' v' l' := by
 have ha := he.away (xI h.blk) h.off
 exact ⟨ho,ha.2,ha.1.trans h.blk,h.below.trans (he.below h.own h.size),Nat.le_trans h.size he.grown.size⟩
theorem Hold.begin {w1 wr : World} {base : Nat} {v : Value} {l : Bs} (ho : qB wr base v l) (hb : Below base w1 wr) (hs : base ≤ wr.heap.size) (o : Obj) : Hold w1 base wr.heap.size o (wr.alloc o) v l :=
 ⟨ho.alloc o,fun e => by have := (World.ownsRow.lt ho _ e).2; omega,xM wr o,⟨hb.os,hb.tape,hb.output,Nat.le_trans hb.size (by simp),fun k hk => (Below.heap_alloc wr o k (by omega)).trans (hb.block k hk)⟩,by simp; omega⟩
theorem kH {w1 w : World} {base g : Nat} {o : Obj} {v : Value} {l : Bs} (n : Int) (c : Nat) (h : Hold w1 base g o w v l) (hl : l.length < 4294967281) (hc : c ≤ 4) :
  Calls Tryz.prog 71 #[v,.int .i64 n,.int .i64 c] w fun e w' => ∃ v',e = .returned v' ∧ Hold w1 base g o w' v' (l ++ vZ n c) := by
 refine (xBh n c v l w base h.own h.size hl hc).mono ?_
 rintro e w' ⟨v',rfl,h1,h2⟩
 exact ⟨v',rfl,h.step h1 h2⟩
theorem xT5 {w1 w : World} {base g : Nat} {o : Obj} {v : Value} {l : Bs} (s : Bs) (h : Hold w1 base g o w v l) (hl : l.length < 4294967281) (hs : s.length ≤ 100) :
  Calls Tryz.prog 72 #[v,xU s] w fun e w' => ∃ v',e = .returned v' ∧ Hold w1 base g o w' v' (l ++ xAp s) := by
 refine (xOc ⟨s.toArray⟩ v l w base h.own h.size hl hs).mono ?_
 rintro e w' ⟨v',rfl,h1,h2⟩
 exact ⟨v',rfl,h.step h1 h2⟩
theorem xMu (bv sv : Value) (x : jU) (w : World) (h : xQ6 w w.heap.size bv sv x) (hm : ∀ b ∈ x.boxes,b.zA.length ≤ 9223372036854775807) (hl : x.boxes.length ≤ 9223372036854775807) (hl2 : x.subs.length ≤ 9223372036854775807) :
  Calls Tryz.prog 25 #[.agg #[bv,sv,.int .i64 x.given]] w fun e w' => e = .returned (.tuple #[xU (kE x),.int .i64 (putE x)]) ∧ Below w.heap.size w w' := by
 have HB := hI' h.boxes
 have HS := hI' h.subs
 have H1 := hI' ((Below.refl w.heap.size w).alloc (Nat.le_refl _) (.cells #[bv,sv,.int .i64 x.given] 40))
 have P1 := hI' (xM w (.cells #[bv,sv,.int .i64 x.given] 40))
 have S1 := hI' (vD w (.cells #[bv,sv,.int .i64 x.given] 40))
 have HR : Hid (Calls Tryz.prog 70 #[.agg #[bv,sv,.int .i64 x.given]] (w.alloc (.cells #[bv,sv,.int .i64 x.given] 40)) fun e w' => e = .returned (.bool (wY x)) ∧ Below (w.alloc (.cells #[bv,sv,.int .i64 x.given] 40)).heap.size (w.alloc (.cells #[bv,sv,.int .i64 x.given] 40)) w') :=
  hI' (wV bv sv x _ ((h.below H1.out (Nat.le_refl _)).more H1.out.size) hm hl hl2)
 obtain ⟨A,c,rfl,hc,_⟩ := h.boxes
 obtain ⟨A2,c2,rfl,hc2,_⟩ := h.subs
 clear h hm
 have HT : Hid (kE x = if wY x = true then xZc x else []) := hI' rfl
 have HE : Hid (putE x = if wY x = true then 0 else 1) := hI' rfl
 generalize kE x = T at HT ⊢
 generalize putE x = E at HE ⊢
 have HL := hI' (xTp (x := x))
 generalize wY x = R at HR HT HE HL
 cases R with
 | false =>
  go_enter Tryz.func25,Tryz.ntmps25
  go_wp2_with (go_at_call 70; refine HR.out.mono ?_; rintro e w2 ⟨rfl,hb2⟩)
  go_ret2
  refine ⟨?_,H1.out.trans (hb2.mono H1.out.size)⟩
  rw [HT.out,HE.out]
  rfl
 | true =>
  obtain ⟨h6,h6',hbx,hsx⟩ := HL.out rfl
  replace HT : Hid (T = xZc x) := hI' (by rw [HT.out]; rfl)
  replace HE : Hid (E = 0) := hI' (by rw [HE.out]; rfl)
  clear HL
  have HBX := hI' hbx
  have HSX := hI' hsx
  clear hbx hsx
  obtain ⟨P,hP⟩ : ∃ P : Nat → Bs,∀ k,P k = vZ x.given 4 ++ vZ x.boxes.length 1 ++ ((x.boxes.take k).map yC2).flatten := ⟨_,fun _ => rfl⟩
  have HP0 : Hid (P 0 = vZ x.given 4 ++ vZ x.boxes.length 1) := hI' (by rw [hP]; simp)
  have HPS : Hid (∀ k b,x.boxes[k]? = some b → P (k + 1) = P k ++ yC2 b) := hI' (fun k b hb => by rw [hP,hP,xD9 hb]; simp only [List.append_assoc])
  have HPL : Hid (∀ k,(P k).length ≤ 5 + 400 * k) := hI' (fun k => by
   rw [hP,List.length_append,List.length_append,vB,vB]
   have := xAe (L := x.boxes) yC2 (c := 400) (fun b hb => xO2 (HBX.out b hb)) k
   omega)
  have HPE : Hid (xZc x = P x.boxes.length ++ vZ x.subs.length 1 ++ (x.subs.map xAp).flatten) := hI' (by rw [hP,List.take_length]; rfl)
  clear hP
  go_enter Tryz.func25,Tryz.ntmps25
  go_wp2_with fail
  refine HR.out.mono ?_
  rintro e w2 ⟨rfl,hb2⟩
  have p2 := xE P1.out hb2 (by rw [S1.out]; omega)
  have y2 : w2.cell? ⟨w.heap.size,2,none⟩ = some (.int .i64 x.given) := xA p2 2
  have HB2 := hI' hb2
  clear hb2
  have y0 : w2.cell? ⟨w.heap.size,0,none⟩ = some (.slice A x.boxes.length c) := xA p2 0
  clear p2 HR
  go_wp2_with fail
  refine (xBh x.given 4 _ [] w2 (w.alloc (.cells #[.slice A x.boxes.length c,.slice A2 x.subs.length c2,.int .i64 x.given] 40)).heap.size (qB.nil _ _) HB2.out.size (by decide) (by decide)).mono ?_
  rintro e w3 ⟨v3,rfl,ho3,he3⟩
  have hb3 := HB2.out.trans (he3.below (qB.nil _ _) HB2.out.size)
  have p3 := xE P1.out hb3 (by rw [S1.out]; omega)
  have y0' : w3.cell? ⟨w.heap.size,0,none⟩ = some (.slice A x.boxes.length c) := xA p3 0
  have HB3 := hI' hb3
  have HO3 := hI' ho3
  clear hb3 he3 ho3 p3 y0 y2 HB2
  go_wp2_with fail
  refine (xBh x.boxes.length 1 _ _ w3 (w.alloc (.cells #[.slice A x.boxes.length c,.slice A2 x.subs.length c2,.int .i64 x.given] 40)).heap.size HO3.out HB3.out.size (by simp [vB]) (by decide)).mono ?_
  rintro e w4 ⟨v4,rfl,ho4,he4⟩
  have hb4 := HB3.out.trans (he4.below HO3.out HB3.out.size)
  have p4 := xE P1.out hb4 (by rw [S1.out]; omega)
  have y0 : w4.cell? ⟨w.heap.size,0,none⟩ = some (.slice A x.boxes.length c) := xA p4 0
  have HB4 := hI' hb4
  have HO4 : Hid (qB w4 (w.alloc (.cells #[.slice A x.boxes.length c,.slice A2 x.subs.length c2,.int .i64 x.given] 40)).heap.size v4 (P 0)) := hI' (by rw [HP0.out]; exact ho4)
  clear hb4 he4 ho4 p4 y0' HB3 HO3
  go_wp2_with fail
  go_loopw [4,25] (fun lv iv wr => ∃ k : Nat,k ≤ x.boxes.length ∧ iv = .int .i64 k ∧ Hid (qB wr (w.alloc (.cells #[.slice A x.boxes.length c,.slice A2 x.subs.length c2,.int .i64 x.given] 40)).heap.size lv (P k)) ∧ Hid (Below (w.alloc (.cells #[.slice A x.boxes.length c,.slice A2 x.subs.length c2,.int .i64 x.given] 40)).heap.size (w.alloc (.cells #[.slice A x.boxes.length c,.slice A2 x.subs.length c2,.int .i64 x.given] 40)) wr)) (fun _ iv _ => x.boxes.length - (intOf iv).toNat)
  case atStart => exact ⟨0,Nat.zero_le _,rfl,HO4,HB4⟩
  case round =>
   obtain ⟨k,hk,rfl,hown,hbel⟩ := hrel
   clear HO4 HB4 y0
   by_cases hlt : k < x.boxes.length
   ·obtain ⟨b,hx⟩ : ∃ b,x.boxes[k]? = some b := ⟨_,List.getElem?_eq_getElem hlt⟩
    obtain ⟨g,off,c',mv,e0,hg,q0,q1,q2,q3,hmv⟩ := xFq HB.out hx
    injection e0 with e0 _ e0'
    subst e0 e0'
    have hwr : Below w.heap.size w wr := H1.out.trans (hbel.out.mono H1.out.size)
    have r0 := (hwr.cell (p := ⟨g,off + k * 4,none⟩) hg).trans q0
    have r1 := (hwr.cell (p := ⟨g,off + k * 4 + 1,none⟩) hg).trans q1
    have r2 := (hwr.cell (p := ⟨g,off + k * 4 + 2,none⟩) hg).trans q2
    have r3 := (hwr.cell (p := ⟨g,off + k * 4 + 3,none⟩) hg).trans q3
    obtain ⟨hbn,hbm⟩ := HBX.out b (List.mem_of_getElem? hx)
    have HSt := hI' (HPS.out k b hx)
    have HLk := hI' (HPL.out k)
    have hmv' := hmv
    obtain ⟨Am,cm,rfl,hcm,_⟩ := hmv'
    have HMv := hI' hmv
    have Hwr := hI' hwr
    have HH := hI' (Hold.begin hown.out hbel.out hbel.out.size (.cells #[xU b.name,.int .i64 b.validity,.int .i64 b.next,.slice Am b.zA.length cm] 47))
    clear q0 q1 q2 q3 hmv hwr hx
    go_wp2_with fail
    refine (xT5 b.name HH.out (by have := HLk.out; omega) (by omega)).mono ?_
    rintro e w5 ⟨v5,rfl,hh5⟩
    have HL5 : Hid ((P k ++ xAp b.name).length ≤ 5 + 400 * k + 17) := hI' (by rw [List.length_append,xAs]; have := HLk.out; omega)
    have HH5 := hI' hh5
    have z1 : w5.cell? ⟨wr.heap.size,1,none⟩ = some (.int .i64 b.validity) := xA hh5.blk 1
    clear hh5 HH r0 r1 r2 r3
    go_wp2_with fail
    refine (kH b.validity 4 HH5.out (by have := HL5.out; omega) (by decide)).mono ?_
    rintro e w6 ⟨v6,rfl,hh6⟩
    have HL6 : Hid ((P k ++ xAp b.name ++ vZ b.validity 4).length ≤ 5 + 400 * k + 21) := hI' (by rw [List.length_append,vB]; have := HL5.out; omega)
    have HH6 := hI' hh6
    have z2 : w6.cell? ⟨wr.heap.size,2,none⟩ = some (.int .i64 b.next) := xA hh6.blk 2
    clear hh6 HH5 z1 HL5
    go_wp2_with fail
    refine (kH b.next 4 HH6.out (by have := HL6.out; omega) (by decide)).mono ?_
    rintro e w7 ⟨v7,rfl,hh7⟩
    have HL7 : Hid ((P k ++ xAp b.name ++ vZ b.validity 4 ++ vZ b.next 4).length ≤ 5 + 400 * k + 25) := hI' (by rw [List.length_append,vB]; have := HL6.out; omega)
    have HH7 := hI' hh7
    have z3 : w7.cell? ⟨wr.heap.size,3,none⟩ = some (.slice Am b.zA.length cm) := xA hh7.blk 3
    clear hh7 HH6 z2 HL6
    go_wp2_with fail
    refine (kH b.zA.length 1 HH7.out (by have := HL7.out; omega) (by decide)).mono ?_
    rintro e w8 ⟨v8,rfl,hh8⟩
    have HH8 := hI' hh8
    have z3' : w8.cell? ⟨wr.heap.size,3,none⟩ = some (.slice Am b.zA.length cm) := xA hh8.blk 3
    clear hh8 HH7 z3 HL7
    obtain ⟨M,hM⟩ : ∃ M : Nat → Bs,∀ j,M j = P k ++ xV5 b ++ ((b.zA.take j).map xL5).flatten := ⟨_,fun _ => rfl⟩
    have HM0 : Hid (M 0 = P k ++ xAp b.name ++ vZ b.validity 4 ++ vZ b.next 4 ++ vZ b.zA.length 1) := hI' (by rw [hM]; unfold xV5; simp [List.append_assoc])
    have HMS : Hid (∀ j m,b.zA[j]? = some m → M (j + 1) = M j ++ xL5 m) := hI' (fun j m hm => by rw [hM,hM,xD9 hm]; simp only [List.append_assoc])
    have HML : Hid (∀ j,(M j).length ≤ 5 + 400 * k + 26 + 11 * j) := hI' (fun j => by
     rw [hM,List.length_append,List.length_append,xEz]
     have := xAe (L := b.zA) xL5 (c := 11) (fun m _ => by rw [xEx]; exact Nat.le_refl _) j
     have := HLk.out
     omega)
    have HME : Hid (P (k + 1) = M b.zA.length) := hI' (by rw [HSt.out,hM,List.take_length]; unfold yC2; simp only [List.append_assoc])
    clear hM
    have HB8 := hI' HH8.out.below
    have HO8 : Hid (qB w8 (w.alloc (.cells #[.slice (some ⟨g,off,none⟩) x.boxes.length c,.slice A2 x.subs.length c2,.int .i64 x.given] 40)).heap.size v8 (M 0)) := hI' (by rw [HM0.out]; exact HH8.out.own)
    clear HH8
    go_wp2_with fail
    go_loopw [4,49] (fun lv iv wr => ∃ j : Nat,j ≤ b.zA.length ∧ iv = .int .i64 j ∧ Hid (qB wr (w.alloc (.cells #[.slice (some ⟨g,off,none⟩) x.boxes.length c,.slice A2 x.subs.length c2,.int .i64 x.given] 40)).heap.size lv (M j)) ∧ Hid (Below (w.alloc (.cells #[.slice (some ⟨g,off,none⟩) x.boxes.length c,.slice A2 x.subs.length c2,.int .i64 x.given] 40)).heap.size (w.alloc (.cells #[.slice (some ⟨g,off,none⟩) x.boxes.length c,.slice A2 x.subs.length c2,.int .i64 x.given] 40)) wr)) (fun _ iv _ => b.zA.length - (intOf iv).toNat)
    case atStart => exact ⟨0,Nat.zero_le _,rfl,HO8,HB8⟩
    case round =>
     rename_i wq _
     obtain ⟨j,hj,rfl,hown2,xHe⟩ := hrel
     clear HO8 HB8 z3'
     by_cases hlt2 : j < b.zA.length
     ·obtain ⟨m,hxm⟩ : ∃ m,b.zA[j]? = some m := ⟨_,List.getElem?_eq_getElem hlt2⟩
      obtain ⟨A4,c4,e0,_,hrd⟩ := HMv.out
      injection e0 with e0 _ e0'
      subst e0 e0'
      obtain ⟨g4,off4,rfl,hg4,hcell⟩ := hrd (by omega)
      obtain ⟨q1,q2,q3,q4⟩ := hcell j m hxm
      have hwq : Below w.heap.size w wr := H1.out.trans (xHe.out.mono H1.out.size)
      have r1 := (hwq.cell (p := ⟨g4,off4 + j * 4,none⟩) hg4).trans q1
      have r2 := (hwq.cell (p := ⟨g4,off4 + j * 4 + 1,none⟩) hg4).trans q2
      have r3 := (hwq.cell (p := ⟨g4,off4 + j * 4 + 2,none⟩) hg4).trans q3
      have r4 := (hwq.cell (p := ⟨g4,off4 + j * 4 + 3,none⟩) hg4).trans q4
      have HK1 := hI' (Hold.begin hown2.out xHe.out xHe.out.size (.cells #[.int .i64 m.uid,.int .i64 m.flags,.int .i64 m.object,.int .i64 m.size] 65))
      have HMj := hI' (HML.out j)
      have HMs := hI' (HMS.out j m hxm)
      clear q1 q2 q3 q4 hcell hrd hxm hwq
      go_wp2_with fail
      refine (kH m.uid 4 HK1.out (by have := HMj.out; omega) (by decide)).mono ?_
      rintro e w9 ⟨v9,rfl,hk9⟩
      have HL9 : Hid ((M j ++ vZ m.uid 4).length ≤ 5 + 400 * k + 26 + 11 * j + 4) := hI' (by rw [List.length_append,vB]; have := HMj.out; omega)
      have HK9 := hI' hk9
      have z1 : w9.cell? ⟨wr.heap.size,1,none⟩ = some (.int .i64 m.flags) := xA hk9.blk 1
      clear hk9 HK1 r1 r2 r3 r4
      go_wp2_with fail
      refine (kH m.flags 1 HK9.out (by have := HL9.out; omega) (by decide)).mono ?_
      rintro e w10 ⟨v10,rfl,hk10⟩
      have HL10 : Hid ((M j ++ vZ m.uid 4 ++ vZ m.flags 1).length ≤ 5 + 400 * k + 26 + 11 * j + 5) := hI' (by rw [List.length_append,vB]; have := HL9.out; omega)
      have HK10 := hI' hk10
      have z2 : w10.cell? ⟨wr.heap.size,2,none⟩ = some (.int .i64 m.object) := xA hk10.blk 2
      clear hk10 HK9 z1 HL9
      go_wp2_with fail
      refine (kH m.object 4 HK10.out (by have := HL10.out; omega) (by decide)).mono ?_
      rintro e w11 ⟨v11,rfl,hk11⟩
      have HL11 : Hid ((M j ++ vZ m.uid 4 ++ vZ m.flags 1 ++ vZ m.object 4).length ≤ 5 + 400 * k + 26 + 11 * j + 9) := hI' (by rw [List.length_append,vB]; have := HL10.out; omega)
      have HK11 := hI' hk11
      have z3 : w11.cell? ⟨wr.heap.size,3,none⟩ = some (.int .i64 m.size) := xA hk11.blk 3
      clear hk11 HK10 z2 HL10
      go_wp2_with fail
      refine (kH m.size 2 HK11.out (by have := HL11.out; omega) (by decide)).mono ?_
      rintro e w12 ⟨v12,rfl,hk12⟩
      have HK12 := hI' hk12
      clear hk12 HK11 z3 HL11
      go_wp2
      exact ⟨⟨j + 1,by omega,by go_num,hI' (by rw [HMs.out]; unfold xL5; simp only [← List.append_assoc]; exact HK12.out.own),hI' HK12.out.below⟩,by simp [intOf]; omega⟩
     ·obtain rfl : j = b.zA.length := by omega
      have HOx : Hid (qB wr (w.alloc (.cells #[.slice (some ⟨g,off,none⟩) x.boxes.length c,.slice A2 x.subs.length c2,.int .i64 x.given] 40)).heap.size _ (P (k + 1))) := hI' (by rw [HME.out]; exact hown2.out)
      go_wp2
      exact ⟨⟨k + 1,by omega,by go_num,HOx,xHe⟩,by simp [intOf]; omega⟩
   ·obtain rfl : k = x.boxes.length := by omega
    have p5 := xE P1.out hbel.out (by rw [S1.out]; omega)
    have y1 : wr.cell? ⟨w.heap.size,1,none⟩ = some (.slice A2 x.subs.length c2) := xA p5 1
    have HLk := hI' (HPL.out x.boxes.length)
    have HPE1 : Hid (xZc x = P x.boxes.length ++ vZ x.subs.length 1 ++ (x.subs.map xAp).flatten) := HPE
    generalize P x.boxes.length = PB at hown HLk HPE1
    clear p5 HPS HPL HP0 HPE
    go_wp2_with fail
    refine (xBh x.subs.length 1 _ _ wr (w.alloc (.cells #[.slice A x.boxes.length c,.slice A2 x.subs.length c2,.int .i64 x.given] 40)).heap.size hown.out hbel.out.size (by have := HLk.out; omega) (by decide)).mono ?_
    rintro e w5 ⟨v5,rfl,ho5,he5⟩
    have hb5 := hbel.out.trans (he5.below hown.out hbel.out.size)
    have p5 := xE P1.out hb5 (by rw [S1.out]; omega)
    have y1' : w5.cell? ⟨w.heap.size,1,none⟩ = some (.slice A2 x.subs.length c2) := xA p5 1
    obtain ⟨M,hM⟩ : ∃ M : Nat → Bs,∀ j,M j = PB ++ vZ x.subs.length 1 ++ ((x.subs.take j).map xAp).flatten := ⟨_,fun _ => rfl⟩
    have HM0 : Hid (M 0 = PB ++ vZ x.subs.length 1) := hI' (by rw [hM]; simp)
    have HMS : Hid (∀ j s,x.subs[j]? = some s → M (j + 1) = M j ++ xAp s) := hI' (fun j m hm => by rw [hM,hM,xD9 hm]; simp only [List.append_assoc])
    have HML : Hid (∀ j,(M j).length ≤ 5 + 400 * x.boxes.length + 1 + 17 * j) := hI' (fun j => by
     rw [hM,List.length_append,List.length_append,vB]
     have := xAe (L := x.subs) xAp (c := 17) (fun m hm => by rw [xAs]; have := HSX.out m hm; omega) j
     have := HLk.out
     omega)
    have HME : Hid (T = M x.subs.length) := hI' (by rw [HT.out,HPE1.out,hM,List.take_length])
    clear hM
    have HB5 := hI' hb5
    have HO5 : Hid (qB w5 (w.alloc (.cells #[.slice A x.boxes.length c,.slice A2 x.subs.length c2,.int .i64 x.given] 40)).heap.size v5 (M 0)) := hI' (by rw [HM0.out]; exact ho5)
    clear hown hbel y1 ho5 he5 hb5 p5 HPE1 HLk HM0
    go_wp2_with fail
    go_loopw [4,79] (fun lv iv wr => ∃ j : Nat,j ≤ x.subs.length ∧ iv = .int .i64 j ∧ Hid (qB wr (w.alloc (.cells #[.slice A x.boxes.length c,.slice A2 x.subs.length c2,.int .i64 x.given] 40)).heap.size lv (M j)) ∧ Hid (Below (w.alloc (.cells #[.slice A x.boxes.length c,.slice A2 x.subs.length c2,.int .i64 x.given] 40)).heap.size (w.alloc (.cells #[.slice A x.boxes.length c,.slice A2 x.subs.length c2,.int .i64 x.given] 40)) wr)) (fun _ iv _ => x.subs.length - (intOf iv).toNat)
    case atStart => exact ⟨0,Nat.zero_le _,rfl,HO5,HB5⟩
    case round =>
     obtain ⟨j,hj,rfl,hown2,xHe⟩ := hrel
     clear HO5 HB5 y1'
     by_cases hlt2 : j < x.subs.length
     ·obtain ⟨s,hxm⟩ : ∃ s,x.subs[j]? = some s := ⟨_,List.getElem?_eq_getElem hlt2⟩
      obtain ⟨A4,c4,e0,_,hrd⟩ := HS.out
      injection e0 with e0 _ e0'
      subst e0 e0'
      obtain ⟨g,off,rfl,hg,hcell⟩ := hrd (by omega)
      have q1 := hcell j s hxm
      have hwq : Below w.heap.size w wr := H1.out.trans (xHe.out.mono H1.out.size)
      have r1 := (hwq.cell (p := ⟨g,off + j,none⟩) hg).trans q1
      have HMj := hI' (HML.out j)
      have HMs := hI' (HMS.out j s hxm)
      have hsl := HSX.out s (List.mem_of_getElem? hxm)
      clear q1 hcell hrd hxm hwq
      go_wp2_with fail
      refine (xOc ⟨s.toArray⟩ _ _ wr (w.alloc (.cells #[.slice A x.boxes.length c,.slice (some ⟨g,off,none⟩) x.subs.length c2,.int .i64 x.given] 40)).heap.size hown2.out xHe.out.size (by have := HMj.out; omega) (by show s.length ≤ 100; omega)).mono ?_
      rintro e w6 ⟨v6,rfl,ho6,he6⟩
      have HB6 := hI' (xHe.out.trans (he6.below hown2.out xHe.out.size))
      have HO6 := hI' ho6
      clear ho6 he6
      go_wp2
      exact ⟨⟨j + 1,by omega,by go_num,hI' (by rw [HMs.out]; exact HO6.out),HB6⟩,by simp [intOf]; omega⟩
     ·obtain rfl : j = x.subs.length := by omega
      have hcv := xW0 hown2.out
      go_wp2
      go_ret2
      exact ⟨by rw [HME.out,HE.out]; rfl,H1.out.trans (xHe.out.mono H1.out.size)⟩
end Go.Proofs.IX
namespace Mailsack
structure RdP where
 rest : Bs
 bad : Bool
def rdB (r : RdP) (n : Nat) : Bs := if (r.bad || decide (r.rest.length < n)) = true then [] else r.rest.take n
def rdR (r : RdP) (n : Nat) : RdP := if (r.bad || decide (r.rest.length < n)) = true then ⟨r.rest,true⟩ else ⟨r.rest.drop n,false⟩
def leN : Bs → Nat
 | [] => 0
 | b :: l => b.toNat + 256 * leN l
def zY (r : RdP) (c : Nat) : Nat := leN (rdB r c)
def xQi (r : RdP) : Bs := rdB (rdR r 1) (zY r 1)
def xH6 (r : RdP) : RdP := rdR (rdR r 1) (zY r 1)
def xR8 (r : RdP) : wN := ⟨zY r 4,zY (rdR r 4) 1,zY (rdR (rdR r 4) 1) 4,zY (rdR (rdR (rdR r 4) 1) 4) 2⟩
def xJn (r : RdP) : RdP := rdR (rdR (rdR (rdR r 4) 1) 4) 2
def xAz {α : Type} (v : RdP → α) (t : RdP → RdP) : Nat → RdP → List α
 | 0,_ => []
 | k + 1,r => if r.bad = true then [] else v r :: xAz v t k (t r)
def xB0 (t : RdP → RdP) : Nat → RdP → RdP
 | 0,r => r
 | k + 1,r => if r.bad = true then r else xB0 t k (t r)
def xWk (r : RdP) : RdP := rdR (rdR (xH6 r) 4) 4
def xM6 (r : RdP) : xGy := ⟨xQi r,zY (xH6 r) 4,zY (rdR (xH6 r) 4) 4,xAz xR8 xJn (zY (xWk r) 1) (rdR (xWk r) 1)⟩
def xK5 (r : RdP) : RdP := xB0 xJn (zY (xWk r) 1) (rdR (xWk r) 1)
def ixR1 (r : RdP) : RdP := rdR (rdR r 4) 1
def xWi (r : RdP) : RdP := xB0 xK5 (zY (rdR r 4) 1) (ixR1 r)
def ixV (r : RdP) : jU := ⟨xAz xM6 xK5 (zY (rdR r 4) 1) (ixR1 r),xAz xQi xH6 (zY (xWi r) 1) (rdR (xWi r) 1),zY r 4⟩
def ixR (r : RdP) : RdP := xB0 xH6 (zY (xWi r) 1) (rdR (xWi r) 1)
def ix0 : jU := ⟨[],[],0⟩
def ixOk (s : Bs) : Bool := !(ixR ⟨s,false⟩).bad && decide ((ixR ⟨s,false⟩).rest = []) && wY (ixV ⟨s,false⟩)
def xKg (s : Bs) : jU := if ixOk s = true then ixV ⟨s,false⟩ else ix0
def xMi (s : Bs) : Int := if ixOk s = true then 0 else 3
end Mailsack
