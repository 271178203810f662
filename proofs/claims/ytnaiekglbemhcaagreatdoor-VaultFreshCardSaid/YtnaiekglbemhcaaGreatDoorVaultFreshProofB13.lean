/- Contracts of functions of the program. Conditions: those that each theorem states. -/
import Derived.Test.YtnaiekglbemhcaaGreatDoorVaultFreshProofB00
import Derived.Test.YtnaiekglbemhcaaGreatDoorVaultFreshProofB07
import Derived.Deep.AppendLies
import Derived.Test.YtnaiekglbemhcaaGreatDoorVaultFreshProofB12
import Derived.Lib.Builder
import Derived.Laws.Externs
set_option maxHeartbeats 8000000
set_option maxRecDepth 100000
namespace Go.Proofs.RK
open Go.RowKit MM
section
variable {α : Type} {e : TypeId} {k : Nat} {f : α → List Value} {w w' : World} {base : Nat} {v : Value} {l : List α}
theorem xJw (hk : ∀ x,(f x).length = k) (l : List α) : (l.flatMap f).length = l.length * k := by
 induction l with
 | nil => simp
 | cons x l ih => rw [List.flatMap_cons,List.length_append,hk,ih,List.length_cons,Nat.succ_mul]; omega
theorem flat_get (hk : ∀ x,(f x).length = k) : ∀ (l : List α) (j i : Nat) (x : α) (u : Value),l[j]? = some x → (f x)[i]? = some u → (l.flatMap f)[j * k + i]? = some u
 | [],_,_,_,_,h,_ => by simp at h
 | y :: l,0,i,x,u,h,hu => by
  simp at h
  subst h
  have hi := (List.getElem?_eq_some_iff.1 hu).1
  rw [List.flatMap_cons,Nat.zero_mul,Nat.zero_add,List.getElem?_append_left hi]
  exact hu
 | y :: l,j + 1,i,x,u,h,hu => by
  have ih := flat_get hk l j i x u (by simpa using h) hu
  rw [List.flatMap_cons,List.getElem?_append_right (by rw [hk,Nat.succ_mul]; omega),hk,show (j + 1) * k + i - k = j * k + i by rw [Nat.succ_mul]; omega]
  exact ih
theorem xPj (hk : ∀ x,(f x).length = k) : ∀ (l : List α) (j : Nat) (u : Value),(l.flatMap f)[j]? = some u → ∃ q i x,j = q * k + i ∧ l[q]? = some x ∧ (f x)[i]? = some u
 | [],_,_,h => by simp at h
 | y :: l,j,u,h => by
  rw [List.flatMap_cons] at h
  by_cases hj : j < k
  ·rw [List.getElem?_append_left (by rw [hk]; exact hj)] at h
   exact ⟨0,j,y,by omega,rfl,h⟩
  ·rw [List.getElem?_append_right (by rw [hk]; omega),hk] at h
   obtain ⟨q,i,x,h1,h2,h3⟩ := xPj hk l (j - k) u h
   exact ⟨q + 1,i,x,by rw [Nat.succ_mul]; omega,by simpa using h2,h3⟩
def xX (e : TypeId) (k : Nat) (f : α → List Value) (w : World) (base : Nat) (v : Value) (l : List α) : Prop := w.ownsRow base e k v l.length (l.flatMap f)
def RdR (k : Nat) (f : α → List Value) (w : World) (B : Nat) (v : Value) (l : List α) : Prop :=
 ∃ A c,v = .slice A l.length c ∧ l.length ≤ c ∧ (0 < l.length → ∃ b off,A = some ⟨b,off,none⟩ ∧ b < B ∧ ∀ (j : Nat) x,l[j]? = some x → ∀ (i : Nat) u,(f x)[i]? = some u → w.cell? ⟨b,off + j * k + i,none⟩ = some u)
theorem xX.row (h : xX e k f w base v l) : w.ownsRow base e k v l.length (l.flatMap f) := h
theorem xX.nil (w : World) (base : Nat) : xX e k f w base (.slice none 0 0) [] := World.ownsRow_nil w base _ _
theorem xX.of {m : List α} (h : w.ownsRow base e k v (l.length + m.length) (l.flatMap f ++ m.flatMap f)) : xX e k f w base v (l ++ m) := by
 unfold xX; rw [List.length_append,List.flatMap_append]; exact h
theorem xX.alloc (h : xX e k f w base v l) (o : Obj) : xX e k f (w.alloc o) base v l := World.ownsRow.alloc h o
theorem xX.grown {row : Option Nat} (h : xX e k f w base v l) (hg : w.grownBy w' row) (hne : v.ownBlock = none ∨ v.ownBlock ≠ row) : xX e k f w' base v l := h.row.kept hg hne
theorem xX.below (h : xX e k f w base v l) (hb : Below w.heap.size w w') : xX e k f w' base v l := h.grown (xC1 hb none) (by cases v.ownBlock <;> simp)
theorem xX.form (h : xX e k f w base v l) : ∃ A c,v = .slice A l.length c ∧ l.length ≤ c := by
 rcases h.2 with ⟨h1,h2⟩ | ⟨g,cap,cur,h1,_,_,h2,_⟩
 ·exact ⟨none,0,by rw [h1,h2],by omega⟩
 ·exact ⟨_,_,h1,h2⟩
theorem xX.xBx (h : xX e k f w base v l) {p : Addr} (u : Value) (hne : v.ownBlock ≠ some p.block) : xX e k f (w.setCell p u) base v l := by
 refine ⟨h.1,?_⟩
 rcases h.2 with hn | ⟨g,cap,cur,h1,h2,h3,h4⟩
 ·exact .inl hn
 ·exact .inr ⟨g,cap,cur,h1,h2,xZ h3 (fun e => hne (by rw [h1,← e]; rfl)) u,h4⟩
theorem xX.tn {P : Nat → Prop} (h : xX e k f w base v l) (ht : SV.Tn P w w') (hP : ∀ g,v.ownBlock = some g → ¬ P g) : xX e k f w' base v l := by
 refine ⟨h.1,?_⟩
 rcases h.2 with hn | ⟨g,cap,cur,h1,h2,h3,h4⟩
 ·exact .inl hn
 ·exact .inr ⟨g,cap,cur,h1,h2,ht.blk h3 (hP g (by rw [h1]; rfl)),h4⟩
theorem xX.less {base' : Nat} (h : xX e k f w base v l) (hb : base' ≤ base) : xX e k f w base' v l := by
 refine ⟨h.1,?_⟩
 rcases h.2 with hn | ⟨g,cap,cur,h1,h2,h3⟩
 ·exact .inl hn
 ·exact .inr ⟨g,cap,cur,h1,by omega,h3⟩
theorem xX.rd (hk : ∀ x,(f x).length = k) (h : xX e k f w base v l) : RdR k f w w.heap.size v l := by
 rcases h.2 with ⟨h1,h2⟩ | ⟨g,cap,cur,h1,hb,hg,hnc,_,_,htake⟩
 ·exact ⟨none,0,by rw [h1,h2],by omega,fun h => by omega⟩
 ·refine ⟨_,cap,h1,hnc,fun _ => ⟨g,0,rfl,xI hg,fun j x hx i u hu => ?_⟩⟩
  have := World.ownsRow.cells h.row (g := g) (by rw [h1]; rfl) (j * k + i) u (flat_get hk l j i x u hx hu)
  have hadd : (⟨g,0,none⟩ : Addr).add (j * k + i) = ⟨g,j * k + i,none⟩ := by unfold Addr.add; split <;> simp_all
  rw [hadd] at this
  rw [Nat.zero_add]
  exact this
theorem RdR.keep {B : Nat} (h : RdR k f w B v l) (hc : ∀ p : Addr,p.block < B → w'.cell? p = w.cell? p) : RdR k f w' B v l := by
 obtain ⟨A,c,h1,h2,h3⟩ := h
 refine ⟨A,c,h1,h2,fun hn => ?_⟩
 obtain ⟨b,off,h4,h5,h6⟩ := h3 hn
 exact ⟨b,off,h4,h5,fun j x hx i u hu => (hc _ h5).trans (h6 j x hx i u hu)⟩
theorem RdR.below {B B' : Nat} (h : RdR k f w B v l) (hb : Below B' w w') (hB : B ≤ B') : RdR k f w' B v l := h.keep fun _ hp => hb.cell (by omega)
theorem RdR.more {B B' : Nat} (h : RdR k f w B v l) (hB : B ≤ B') : RdR k f w B' v l := by
 obtain ⟨A,c,h1,h2,h3⟩ := h
 refine ⟨A,c,h1,h2,fun hn => ?_⟩
 obtain ⟨b,off,h4,h5,h6⟩ := h3 hn
 exact ⟨b,off,h4,by omega,h6⟩
theorem RdR.src (hk : ∀ x,(f x).length = k) {B : Nat} {A : Option Addr} {n c : Nat} (h : RdR k f w B (.slice A n c) l) (hn : 0 < n) : ∃ ad,A = some ad ∧ ad.block < B ∧ ∀ j u,(l.flatMap f)[j]? = some u → w.cell? (ad.add j) = some u := by
 obtain ⟨A',c',h1,h2,h3⟩ := h
 injection h1 with e1 e2 e3
 subst e1 e2
 obtain ⟨b,off,rfl,h5,h6⟩ := h3 hn
 refine ⟨_,rfl,h5,fun j u hu => ?_⟩
 obtain ⟨q,i,x,rfl,hx,hi⟩ := xPj hk l j u hu
 have hadd : (⟨b,off,none⟩ : Addr).add (q * k + i) = ⟨b,off + (q * k + i),none⟩ := by unfold Addr.add; split <;> simp_all
 rw [hadd,← Nat.add_assoc]
 exact h6 q x hx i u hi
theorem xX.room (z : Array Value) (w : World) (c : Nat) (hb : base ≤ w.heap.size) (hc : c ≤ 9223372036854775807) (hz : z.size = c * k) : xX e k f (w.alloc (.cells z e)) base (.slice (some ⟨w.heap.size,0,none⟩) 0 c) [] :=
 ⟨by simp,.inr ⟨w.heap.size,c,_,rfl,hb,xM _ _,Nat.zero_le _,by unfold maxLen; exact hc,hz,by simp⟩⟩
end
end Go.Proofs.RK
namespace Go.Proofs.RK
open Go.RowKit MM
theorem xG3 {P : Program} {w : World} (base : Nat) (t ty e : TypeId) (i : TypeInfo) (size : Nat) (ht : P.underlying t = some (.slice e)) (hi : P.info? e = some i)
  (v : Value) (n : Nat) (xs : List Value) (hown : w.ownsRow base e size v n xs) (A : Option Addr) (c : Nat) :
  (Builtin.append_ #[t,t] ty #[v,.slice A 0 c]).run P w = .ok v w := by
 rcases hown.2 with ⟨rfl,rfl⟩ | ⟨g,cap,cur,rfl,_,_,hnc,_⟩
 ·cases A <;> simp [Builtin.append_,run_underlying ht,sizeOf,typeInfo,hi,Builtin.lenOf,Builtin.firstCells,loadCells,loadCellsFrom]
 ·cases A <;> simp [Builtin.append_,run_underlying ht,sizeOf,typeInfo,hi,Builtin.lenOf,Builtin.firstCells,hnc,storeCells,loadCells,loadCellsFrom]
structure xWm {α : Type} (P : Program) (t e : TypeId) (k bytes : Nat) (f : α → List Value) : Prop where
 und : P.underlying t = some (.slice e)
 info : ∃ i z,P.info? e = some i ∧ i.zero = some z ∧ i.size = k ∧ i.bytes = bytes ∧ z.cells.size = k
 pos : 0 < k
 bpos : 0 < bytes
 len : ∀ x,(f x).length = k
 one : ∀ x,∀ u ∈ f x,u.oneCell' = true
structure xHn {α : Type} (e : TypeId) (k : Nat) (f : α → List Value) (w w' : World) (base : Nat) (v v' : Value) (l : List α) : Prop where
 own : xX e k f w' base v' l
 grown : w.grownBy w' v.ownBlock
 at_ : v'.ownBlock = v.ownBlock ∨ v'.ownBlock = some w.heap.size
section
variable {P : Program} {w w' w0 : World} {α : Type} {t e : TypeId} {k bytes : Nat} {f : α → List Value} {base : Nat} {v v' vx : Value} {l m : List α}
theorem xX.far (h : xX e k f w base v l) {p : Nat} (hp : p < base) : v.ownBlock ≠ some p := by
 rcases h.2 with ⟨rfl,_⟩ | ⟨g,cap,cur,rfl,hb,_⟩
 ·intro e; cases e
 ·intro e
  have : g = p := by simpa [Value.ownBlock] using e
  omega
theorem xHn.keep (h : xHn e k f w w' base v v' l) {p : Nat} {o : Obj} (hp : w.heap[p]? = some o) (hne : v.ownBlock ≠ some p) : w'.heap[p]? = some o := kX hp h.grown (fun e => hne e.symm)
theorem xHn.bel (h : xHn e k f w w' base v v' l) {l0 : List α} (ho : xX e k f w base v l0) {B : Nat} (hB : B ≤ base) (hb : Below B w0 w) (hs : B ≤ w.heap.size) : Below B w0 w' :=
 hb.grown h.grown hs (fun g hg => by have := World.ownsRow.lt ho.row g hg; omega)
theorem xBe (ht : xWm P t e k bytes f) (ty : TypeId) (hown : xX e k f w base v l) {B : Nat} (hrd : RdR k f w B vx m) (hbytes : (l.length + m.length) * bytes ≤ 140737488355328) (hbase : base ≤ w.heap.size) :
  ∃ v' w',(Builtin.append_ #[t,t] ty #[v,vx]).run P w = .ok v' w' ∧ xHn e k f w w' base v v' (l ++ m) := by
 obtain ⟨i,z,hi,hz,hs,hby,hzs⟩ := ht.info
 have hrd' := hrd
 obtain ⟨A,c,rfl,hc,h3⟩ := hrd
 by_cases h0 : m.length = 0
 ·have : m = [] := List.eq_nil_of_length_eq_zero h0
  subst this
  refine ⟨v,w,xG3 base t ty e i k ht.und hi v _ _ hown.row A c,?_,World.grownBy.refl _ _,.inl rfl⟩
  rw [List.append_nil]
  exact hown
 ·obtain ⟨ad,rfl,_,hsrc⟩ := hrd'.src ht.len (by omega)
  have hlen : l.length + m.length ≤ maxLen := by
   have := Nat.le_mul_of_pos_right (l.length + m.length) ht.bpos
   unfold maxLen
   omega
  have h1 : ∀ u ∈ m.flatMap f,u.oneCell' = true := fun u hu => by
   obtain ⟨x,_,hx⟩ := List.mem_flatMap.1 hu
   exact ht.one x u hx
  obtain ⟨g,cap,w',h2,h4,h5,h6,h7⟩ := run_append_lies (P := P) (w := w) t ty base e i z k bytes ht.und hi hz hs hby hzs ht.pos v l.length _ hown.row ad m.length c _ (xJw ht.len m) hsrc h1 (by omega) hlen hbytes hbase w.heap.size rfl
  refine ⟨_,w',h2,xX.of h4,h5,?_⟩
  rcases h6 with h6 | h6
  ·exact .inl h6.symm
  ·exact .inr (by subst h6; rfl)
theorem vS {ops : Array Oper} {rest : List Oper} {o : Oper} {a : Act} {Q : Exit → Act → World → Prop} (ht : xWm P t e k bytes f) (hgd : o.guard = none) (s x : Operand)
  (ho : o.op = .call { callee := .builtin .append,args := #[s,x],argTypes := #[t,t] }) (hs : a.eval s = v) (hx : a.eval x = vx)
  (hown : xX e k f w base v l) {B : Nat} (hrd : RdR k f w B vx m) (hbytes : (l.length + m.length) * bytes ≤ 140737488355328) (hbase : base ≤ w.heap.size)
  (h : ∀ v' w',xHn e k f w w' base v v' (l ++ m) → wpList P ops Q rest (a.put o.dst v') w') : wpList P ops Q (o :: rest) a w := by
 obtain ⟨v',w',hr,ha⟩ := xBe (P := P) ht o.type hown hrd hbytes hbase
 refine wpList_plain hgd fun K hK => ?_
 unfold Oper.wp
 simp [execOp,ho,resolve,invoke,builtin,hs,hx,hr,Result.andThen]
 exact hK _ _ (h _ _ ha)
theorem RdR.lit (hk : ∀ x,(f x).length = k) (W : World) (cs : Array Value) (hcs : cs.toList = m.flatMap f) : RdR k f (W.alloc (.cells cs e)) (W.heap.size + 1) (.slice (some ⟨W.heap.size,0,none⟩) m.length m.length) m := by
 refine ⟨_,_,rfl,Nat.le_refl _,fun _ => ⟨W.heap.size,0,rfl,by omega,fun j x hx i u hu => ?_⟩⟩
 rw [Nat.zero_add,xA (xM W _)]
 have := flat_get hk m j i x u hx hu
 rw [← hcs] at this
 simpa using this
theorem madeR (ht : xWm P t e k bytes f) (W : World) (c : Nat) (hm : c * bytes ≤ 140737488355328) : ∃ z : Array Value,z.size = c * k ∧ (Instr.makeSlice t (.int .i64 0) (.int .i64 (c : Int))).run P W = .ok (.slice (some ⟨W.heap.size,0,none⟩) 0 c) (W.alloc (.cells z e)) := by
 obtain ⟨i,z,hi,hz,hs,hby,hzs⟩ := ht.info
 have hc := Nat.le_mul_of_pos_right c ht.bpos
 have h := run_make (P := P) (w := W) t e i z ht.und hi hz .i64 .i64 0 (c : Int) (by omega) (by omega) (by rw [hby,show (bytes : Int) * (c : Int) = ((c * bytes : Nat) : Int) by rw [Nat.mul_comm]; exact (Int.natCast_mul _ _).symm]; omega) (by omega)
 simp only [Int.toNat_natCast,Int.toNat_zero] at h
 refine ⟨_,?_,h⟩
 rw [size_madeCells,hs]
end
end Go.Proofs.RK
namespace Go.Proofs.DS
open Go.RowKit Mailsack MM BB SH SV RK
abbrev wrF (x : Wr) : List Value := [.int .i64 x.at_,xU x.data]
theorem xDq (x : Wr) : (wrF x).length = 2 := rfl
theorem yA4 (x : Wr) : ∀ u ∈ wrF x,u.oneCell' = true := by
 intro u hu
 simp only [wrF,List.mem_cons,List.not_mem_nil,or_false] at hu
 rcases hu with rfl | rfl <;> rfl
theorem infoWr : (Tryz.prog.info? 111).map (fun i => (i.zero,i.size,i.bytes)) = some (some (.agg #[.int .i64 0,.string ⟨#[]⟩]),2,24) := by kernel_rfl
theorem tyWr : xWm Tryz.prog 26 111 2 24 wrF := by
 obtain ⟨i,hi,hz,hs,hb⟩ := wH infoWr
 exact ⟨Tryz.underlying26,⟨i,_,hi,hz,hs,hb,rfl⟩,by omega,by omega,xDq,yA4⟩
theorem xZb {w : World} {B : Nat} {v : Value} {l : List Wr} (h : RdR 2 wrF w B v l) : RdW w B v l := by
 obtain ⟨A,c,h1,h2,h3⟩ := h
 refine ⟨A,c,h1,h2,fun hn => ?_⟩
 obtain ⟨b,off,h4,h5,h6⟩ := h3 hn
 exact ⟨b,off,h4,h5,fun j x hx => ⟨h6 j x hx 0 _ rfl,h6 j x hx 1 _ rfl⟩⟩
theorem rdW_to {w : World} {B : Nat} {v : Value} {l : List Wr} (h : RdW w B v l) : RdR 2 wrF w B v l := by
 obtain ⟨A,c,h1,h2,h3⟩ := h
 refine ⟨A,c,h1,h2,fun hn => ?_⟩
 obtain ⟨b,off,h4,h5,h6⟩ := h3 hn
 refine ⟨b,off,h4,h5,fun j x hx i u hu => ?_⟩
 have hi := (List.getElem?_eq_some_iff.1 hu).1
 simp at hi
 rcases (show i = 0 ∨ i = 1 by omega) with rfl | rfl
 ·injection hu with hu; subst hu; exact (h6 j x hx).1
 ·injection hu with hu; subst hu; exact (h6 j x hx).2
structure PuM (w : World) (va vb : Value) (x : Wr) (W : World) : Prop where
 d : W.heap[w.heap.size]? = some (yD va vb)
 x : W.heap[w.heap.size + 1]? = some (.cells #[.int .i64 x.at_,xU x.data] 111 (0,0))
 o : W.heap[w.heap.size + 1 + 1]? = some (yD (.slice none 0 0) (.slice none 0 0))
 bel : Below w.heap.size w W
theorem PuM.below {w W W' : World} {va vb : Value} {x : Wr} (h : PuM w va vb x W) (hb : Below W.heap.size W W') : PuM w va vb x W' :=
 ⟨xE h.d hb (xI h.d),xE h.x hb (xI h.x),xE h.o hb (xI h.o),h.bel.trans (hb.mono h.bel.size)⟩
theorem xMu (va vb : Value) (d : Dk) (x : Wr) (w : World) (h : RdD w w.heap.size va vb d) (hc : d.cache.length + 1 ≤ 1000000) :
  Calls Tryz.prog 60 #[.agg #[va,vb],.agg #[.int .i64 x.at_,xU x.data]] w fun e w' => ∃ va' vb',e = .returned (.tuple #[.agg #[va',vb'],.int .i64 (if (zC d && vU x d.secs.length) = true then 0 else 1)]) ∧
   RdD w' w'.heap.size va' vb' (if (zC d && vU x d.secs.length) = true then xS8 d x else ⟨[],[]⟩) ∧ Below w.heap.size w w' := by
 have HRT := hI' (fun W (hb : Below w.heap.size w W) => wV va vb d W ((h.below hb (Nat.le_refl _)).more hb.size))
 have HFT := hI' (fun W => xPk x d.secs.length W)
 have HD := hI' h
 have H0 : Hid (PuM w va vb x (((w.alloc (yD va vb)).alloc (.cells #[.int .i64 x.at_,xU x.data] 111)).alloc (yD (.slice none 0 0) (.slice none 0 0)))) := hI' (by
  refine ⟨xP (zQ w _ _) _,xP (zM w _ _) _,?_,(((Below.refl w.heap.size w).alloc (Nat.le_refl _) _).alloc (by simp) _).alloc (by simp; omega) _⟩
  have := xM ((w.alloc (yD va vb)).alloc (.cells #[.int .i64 x.at_,xU x.data] 111)) (yD (.slice none 0 0) (.slice none 0 0))
  simpa using this)
 have hsl : ∃ A1 c1,va = .slice A1 d.secs.length c1 := by
  obtain ⟨A1,c1,e,_⟩ := h.s
  exact ⟨A1,c1,e⟩
 obtain ⟨A1,c1,rfl⟩ := hsl
 have hsl2 : ∃ A2 c2,vb = .slice A2 d.cache.length c2 := by
  obtain ⟨A2,c2,e,_⟩ := h.c
  exact ⟨A2,c2,e⟩
 obtain ⟨A2,c2,rfl⟩ := hsl2
 obtain ⟨sn,hsn⟩ : ∃ sn,d.secs.length = sn := ⟨_,rfl⟩
 obtain ⟨cn,hcn⟩ : ∃ cn,d.cache.length = cn := ⟨_,rfl⟩
 rw [hsn] at HRT HFT H0 HD ⊢
 rw [hcn] at HRT H0 HD hc ⊢
 have HLS := hI' (And.intro hsn hcn)
 clear h hsn hcn
 cases hr : zC d with
 | false =>
  rw [hr] at HRT
  rw [Bool.false_and,if_neg (by simp),if_neg (by simp)]
  clear hr HFT HD HLS
  go_enter Tryz.func60,Tryz.ntmps60
  go_wp2_with fail
  refine (HRT.out _ H0.out.bel).mono ?_
  rintro e w1 ⟨rfl,hb1⟩
  have H1 := hI' (H0.out.below hb1)
  clear H0 hb1 HRT
  obtain ⟨o0,y0,f0,o1,y1,f1,HB⟩ := xNv H1.out.o H1.out.bel (by omega) (.slice none 0 0) (.slice none 0 0) _ rfl
  clear H1
  go_wp2
  refine bodyPost_ret (v := .tuple #[.agg #[.slice none 0 0,.slice none 0 0],.int .i64 1]) (by simp [results,Tryz.results60,go_sem,f0,f1]) rfl ?_
  exact ⟨_,_,rfl,⟨⟨_,_,rfl,Nat.le_refl _,fun h => by simp at h⟩,RdW.xOp _ _,by simp,by simp⟩,HB.out⟩
 | true =>
  rw [hr] at HRT
  rw [Bool.true_and]
  cases hf : vU x sn with
  | false =>
   rw [hf] at HFT
   rw [if_neg (by simp),if_neg (by simp)]
   clear hr hf HD HLS
   go_enter Tryz.func60,Tryz.ntmps60
   go_wp2_with fail
   refine (HRT.out _ H0.out.bel).mono ?_
   rintro e w1 ⟨rfl,hb1⟩
   have H1 := hI' (H0.out.below hb1)
   clear H0 hb1 HRT
   obtain ⟨d0,d1⟩ := uG H1.out.d
   obtain ⟨x0,x1⟩ := uG H1.out.x
   go_wp2_with fail
   clear d0 d1 x0 x1
   refine (HFT.out _).mono ?_
   rintro e w2 ⟨rfl,hb2⟩
   have H2 := hI' (H1.out.below hb2)
   clear H1 hb2 HFT
   obtain ⟨o0,y0,f0,o1,y1,f1,HB⟩ := xNv H2.out.o H2.out.bel (by omega) (.slice none 0 0) (.slice none 0 0) _ rfl
   clear H2
   go_wp2
   refine bodyPost_ret (v := .tuple #[.agg #[.slice none 0 0,.slice none 0 0],.int .i64 1]) (by simp [results,Tryz.results60,go_sem,f0,f1]) rfl ?_
   exact ⟨_,_,rfl,⟨⟨_,_,rfl,Nat.le_refl _,fun h => by simp at h⟩,RdW.xOp _ _,by simp,by simp⟩,HB.out⟩
  | true =>
   rw [hf] at HFT
   rw [if_pos rfl,if_pos rfl]
   clear hr hf
   go_enter Tryz.func60,Tryz.ntmps60
   go_wp2_with fail
   refine (HRT.out _ H0.out.bel).mono ?_
   rintro e w1 ⟨rfl,hb1⟩
   have H1 := hI' (H0.out.below hb1)
   clear H0 hb1 HRT
   obtain ⟨d0,d1⟩ := uG H1.out.d
   obtain ⟨x0,x1⟩ := uG H1.out.x
   go_wp2_with fail
   clear d0 d1 x0 x1
   refine (HFT.out _).mono ?_
   rintro e w2 ⟨rfl,hb2⟩
   have H2 := hI' (H1.out.below hb2)
   clear H1 hb2 HFT
   obtain ⟨d0,d1⟩ := uG H2.out.d
   obtain ⟨z,hzz,hmk⟩ := madeR tyWr w2 (cn + 1) (by omega)
   rw [show ((cn + 1 : Nat) : Int) = (cn : Int) + 1 by omega] at hmk
   have H2L := hI' (xI H2.out.o)
   have HO3 : Hid (xX 111 2 wrF (w2.alloc (.cells z 111)) (w.heap.size + 1 + 1 + 1) (.slice (some ⟨w2.heap.size,0,none⟩) 0 (cn + 1)) []) := hI' (xX.room z w2 (cn + 1) H2L.out (by omega) hzz)
   have H3 := hI' (H2.out.below ((Below.refl _ w2).alloc (Nat.le_refl _) (.cells z 111)))
   go_upto_region 4 with fail
   clear hmk hzz d0 d1
   generalize w2.alloc (.cells z 111) = w3 at HO3 H3 ⊢
   generalize Value.slice (some ⟨w2.heap.size,0,none⟩) 0 (cn + 1) = v3 at HO3 ⊢
   have H3L := hI' (xI H3.out.o)
   have HRD3 := hI' ((rdW_to HD.out.c).below H3.out.bel (Nat.le_refl _))
   obtain ⟨d0,d1⟩ := uG H3.out.d
   go_upto_region 5 with (at_builtin; refine vS tyWr rfl _ _ rfl rfl rfl HO3.out HRD3.out (by have := HLS.out.2; simp; omega) (by have := H3L.out; omega) ?_; intro v5 w5 h5; have HA5 := hI' h5; clear h5)
   clear d0 d1
   have H5 : Hid (PuM w (.slice A1 sn c1) (.slice A2 cn c2) x w5) := hI' ⟨HA5.out.keep H3.out.d (HO3.out.far (by omega)),HA5.out.keep H3.out.x (HO3.out.far (by omega)),HA5.out.keep H3.out.o (HO3.out.far (by omega)),HA5.out.bel HO3.out (by omega) H3.out.bel H3.out.bel.size⟩
   have HO5 : Hid (xX 111 2 wrF w5 (w.heap.size + 1 + 1 + 1) v5 d.cache) := hI' HA5.out.own
   clear HA5 HO3 H3 HRD3
   obtain ⟨x0,x1⟩ := uG H5.out.x
   go_upto_region 6 with (at_builtin; refine vS tyWr rfl _ _ rfl rfl rfl (HO5.out.alloc _) (RdR.lit (m := [x]) xDq _ _ rfl) (by have := HLS.out.2; simp; omega) (by have := xI H5.out.o; simp; omega) ?_; intro v6 w6 h6; have HA6 : Hid (xHn 111 2 wrF (w5.alloc (.cells #[.int .i64 x.at_,xU x.data] 111)) w6 (w.heap.size + 1 + 1 + 1) v5 v6 (d.cache ++ [x])) := hI' h6; clear h6)
   clear x0 x1
   obtain ⟨A6,c6,hv6,hc6⟩ := HA6.out.own.form
   have hl6 : (d.cache ++ [x]).length = cn + 1 := by simp [HLS.out.2]
   rw [hl6] at hv6
   have q0 := HA6.out.keep (xP H5.out.d _) (HO5.out.far (by omega))
   have q1 := HA6.out.keep (xP H5.out.o _) (HO5.out.far (by omega))
   have q2 := HA6.out.bel (w0 := w) (B := w.heap.size) (HO5.out.alloc _) (by omega) (H5.out.bel.alloc H5.out.bel.size _) (by have := H5.out.bel.size; simp; omega)
   have HO6 := hI' HA6.out.own
   subst hv6
   clear HA6 hl6 hc6
   obtain ⟨d0,d1⟩ := uG q0
   obtain ⟨o0,y0,f0,o1,y1,f1,HB⟩ := xNv q1 q2 (by omega) (.slice A1 sn c1) (.slice A6 (cn + 1) c6) _ rfl
   clear q0 q1 q2 H5 HO5 H2L H3L
   go_wp2
   refine bodyPost_ret (v := .tuple #[.agg #[.slice A1 sn c1,.slice A6 (cn + 1) c6],.int .i64 0]) (by simp [results,Tryz.results60,go_sem,f0,f1]) rfl ?_
   refine ⟨_,_,rfl,⟨?_,?_,?_,?_⟩,HB.out⟩
   ·exact (HD.out.s.below HB.out (Nat.le_refl _)).more HB.out.size
   ·have h6 := (HO6.out.xBx (p := ⟨w.heap.size + 1 + 1,0,none⟩) (.slice A1 sn c1) (HO6.out.far (by simp))).xBx (p := ⟨w.heap.size + 1 + 1,1,none⟩) (.slice A6 (cn + 1) c6) (HO6.out.far (by simp))
    exact xZb (h6.rd xDq)
   ·exact HD.out.ls
   ·show (d.cache ++ [x]).length ≤ _
    simp [HLS.out.2]; omega
end Go.Proofs.DS
namespace Mailsack
theorem xRn (d : Dk) : (xY d).secs.length = d.secs.length ∧ (xY d).cache.length ≤ d.cache.length := by
 unfold xY
 split
 ·exact ⟨rO _ _ _ _,Nat.zero_le _⟩
 ·exact ⟨rfl,Nat.le_refl _⟩
theorem xMm (d : Dk) (o : Op) : (qH d o).secs.length = d.secs.length ∧ (qH d o).cache.length ≤ d.cache.length + 1 := by
 unfold qH
 split
 ·have := xRn d; omega
 ·split
  ·simp [xS8]
  ·simp
theorem xTi {l : List Op} {k : Nat} {o : Op} (h : l[k]? = some o) (d : Dk) : vL d (l.take (k + 1)) = qH (vL d (l.take k)) o := by
 unfold vL
 rw [List.take_add_one,h,List.foldl_append]
 rfl
theorem xKp (d : Dk) : ∀ l : List Op,(vL d l).secs.length = d.secs.length ∧ (vL d l).cache.length ≤ d.cache.length + l.length
 | [] => ⟨rfl,Nat.le_refl _⟩
 | o :: l => by
  have h1 := xMm d o
  have h2 := xKp (qH d o) l
  show (vL (qH d o) l).secs.length = _ ∧ (vL (qH d o) l).cache.length ≤ _
  simp only [List.length_cons]
  omega
end Mailsack
namespace Go.Proofs.DS
open Go.RowKit Mailsack MM BB SH SV RK
abbrev opF (o : Mailsack.Op) : List Value := [.bool o.flush,.int .i64 o.w.at_,xU o.w.data]
theorem xDz (o : Mailsack.Op) : (opF o).length = 3 := rfl
theorem yAs (x : Mailsack.Op) : ∀ u ∈ opF x,u.oneCell' = true := by
 intro u hu
 simp only [opF,List.mem_cons,List.not_mem_nil,or_false] at hu
 rcases hu with rfl | rfl | rfl <;> rfl
theorem infoOp : (Tryz.prog.info? 121).map (fun i => (i.zero,i.size,i.bytes)) = some (some (.agg #[.bool false,.int .i64 0,.string ⟨#[]⟩]),3,32) := by kernel_rfl
theorem tyOp : xWm Tryz.prog 57 121 3 32 opF := by
 obtain ⟨i,hi,hz,hs,hb⟩ := wH infoOp
 exact ⟨Tryz.underlying57,⟨i,_,hi,hz,hs,hb,rfl⟩,by omega,by omega,xDz,yAs⟩
def xS4 (W : World) (g : Nat) : Prop := ∀ (i : Nat) u,W.cell? ⟨g,i,none⟩ = some u → (∀ l,u ≠ xU l) ∧ ∀ z,u ≠ .int .i64 z
theorem vP {W : World} {g : Nat} {A1 A2 : Option Addr} {n1 n2 c1 c2 : Nat} (h : W.heap[g]? = some (yD (.slice A1 n1 c1) (.slice A2 n2 c2))) : xS4 W g := by
 intro i u hu
 rw [xA h i] at hu
 rcases i with _ | _ | i
 ·simp at hu; subst hu; exact ⟨fun l e => (by cases e),fun z e => (by cases e)⟩
 ·simp at hu; subst hu; exact ⟨fun l e => (by cases e),fun z e => (by cases e)⟩
 ·simp at hu
theorem yAn {W : World} {B : Nat} {v : Value} {xs : List Bs} (h : RdS W B v xs) {p : Addr} (hg : xS4 W p.block) (u : Value) : RdS (W.setCell p u) B v xs := by
 obtain ⟨A,c,h1,h2,h3⟩ := h
 refine ⟨A,c,h1,h2,fun hn => ?_⟩
 obtain ⟨b,off,h4,h5,h6⟩ := h3 hn
 refine ⟨b,off,h4,h5,fun j x hx => ?_⟩
 have h7 := h6 j x hx
 by_cases e : p.block = b
 ·subst e
  exact absurd rfl ((hg _ _ h7).1 x)
 ·rw [← h7]; exact World.cell?_setCell_other _ _ _ _ (by rintro rfl; exact e rfl)
theorem yAm {W : World} {B : Nat} {v : Value} {xs : List Wr} (h : RdW W B v xs) {p : Addr} (hg : xS4 W p.block) (u : Value) : RdW (W.setCell p u) B v xs := by
 obtain ⟨A,c,h1,h2,h3⟩ := h
 refine ⟨A,c,h1,h2,fun hn => ?_⟩
 obtain ⟨b,off,h4,h5,h6⟩ := h3 hn
 refine ⟨b,off,h4,h5,fun j x hx => ?_⟩
 obtain ⟨h7,h8⟩ := h6 j x hx
 by_cases e : p.block = b
 ·subst e
  exact absurd rfl ((hg _ _ h7).2 _)
 ·exact ⟨by rw [← h7]; exact World.cell?_setCell_other _ _ _ _ (by rintro rfl; exact e rfl),by rw [← h8]; exact World.cell?_setCell_other _ _ _ _ (by rintro rfl; exact e rfl)⟩
theorem RdD.far {W : World} {B : Nat} {va vb : Value} {D : Dk} (h : RdD W B va vb D) {p : Addr} (hg : xS4 W p.block) (u : Value) : RdD (W.setCell p u) B va vb D := ⟨yAn h.s hg u,yAm h.c hg u,h.ls,h.lc⟩
structure RnM (w : World) (D : Dk) (va vb : Value) (W : World) : Prop where
 d : W.heap[w.heap.size]? = some (yD va vb)
 o : W.heap[w.heap.size + 1]? = some (yD (.slice none 0 0) (.slice none 0 0))
 rd : RdD W W.heap.size va vb D
 bel : Below w.heap.size w W
theorem RnM.below {w W W' : World} {va vb : Value} {D : Dk} (h : RnM w D va vb W) (hb : Below W.heap.size W W') : RnM w D va vb W' :=
 ⟨xE h.d hb (xI h.d),xE h.o hb (xI h.o),(h.rd.below hb (Nat.le_refl _)).more hb.size,h.bel.trans (hb.mono h.bel.size)⟩
theorem yH {w : World} {B : Nat} {va vb : Value} {D : Dk} (h : RdD w B va vb D) : ∃ A1 c1 A2 c2,va = .slice A1 D.secs.length c1 ∧ vb = .slice A2 D.cache.length c2 := by
 obtain ⟨A1,c1,e1,_⟩ := h.s
 obtain ⟨A2,c2,e2,_⟩ := h.c
 exact ⟨A1,c1,A2,c2,e1,e2⟩
theorem RnM.put {w W : World} {va vb ua ub : Value} {D D' : Dk} (h : RnM w D va vb W) (hr : RdD W W.heap.size ua ub D') : RnM w D' ua ub ((W.setCell ⟨w.heap.size,0,none⟩ ua).setCell ⟨w.heap.size,1,none⟩ ub) := by
 have e1 := yB (yB h.d 0 ua) 1 ub
 have e0 := yB h.d 0 ua
 have e2 := xZ (xZ h.o (p := ⟨w.heap.size,0,none⟩) (by show w.heap.size + 1 ≠ w.heap.size; omega) ua) (p := ⟨w.heap.size,1,none⟩) (by show w.heap.size + 1 ≠ w.heap.size; omega) ub
 obtain ⟨A1,c1,A2,c2,rfl,rfl⟩ := yH h.rd
 obtain ⟨A3,c3,A4,c4,rfl,rfl⟩ := yH hr
 have n0 := vP h.d
 have n1 : xS4 (W.setCell ⟨w.heap.size,0,none⟩ (.slice A3 D'.secs.length c3)) w.heap.size := by
  simp only [List.setIfInBounds_toArray,List.set_cons_zero] at e0
  exact vP e0
 refine ⟨by simpa using e1,e2,?_,(h.bel.setCell (p := ⟨w.heap.size,0,none⟩) (Nat.le_refl _) _).setCell (p := ⟨w.heap.size,1,none⟩) (Nat.le_refl _) _⟩
 have := RdD.far (RdD.far hr (p := ⟨w.heap.size,0,none⟩) n0 (.slice A3 D'.secs.length c3)) (p := ⟨w.heap.size,1,none⟩) n1 (.slice A4 D'.cache.length c4)
 simpa [size_set] using this
theorem yAh (va vb lv : Value) (d : Dk) (l : List Mailsack.Op) (m : Int) (w : World) (h : RdD w w.heap.size va vb d) (hl : RdR 3 opF w w.heap.size lv l) (hc : d.cache.length + l.length ≤ 100000) :
  Calls Tryz.prog 18 #[.agg #[va,vb],lv,.int .i64 m] w fun e w' => ∃ va' vb',e = .returned (.agg #[va',vb']) ∧ RdD w' w'.heap.size va' vb' (vL d (l.take m.toNat)) ∧ Below w.heap.size w w' := by
 obtain ⟨A1,c1,A2,c2,rfl,rfl⟩ := yH h
 obtain ⟨A3,c3,rfl,hc3,hl3⟩ := hl
 have H0 : Hid (RnM w (vL d (l.take 0)) (.slice A1 d.secs.length c1) (.slice A2 d.cache.length c2) ((w.alloc (yD (.slice A1 d.secs.length c1) (.slice A2 d.cache.length c2))).alloc (yD (.slice none 0 0) (.slice none 0 0)))) := hI' (by
  have hb := ((Below.refl w.heap.size w).alloc (Nat.le_refl _) (yD (.slice A1 d.secs.length c1) (.slice A2 d.cache.length c2))).alloc (by simp) (yD (.slice none 0 0) (.slice none 0 0))
  exact ⟨zQ _ _ _,zM _ _ _,(h.below hb (Nat.le_refl _)).more hb.size,hb⟩)
 have HL := hI' hl3
 have HC := hI' hc
 have hlb : l.length ≤ 100000 := by omega
 clear h hl3 hc3 hc
 go_enter Tryz.func18,Tryz.ntmps18
 go_wp2_with fail
 generalize (w.alloc (yD (.slice A1 d.secs.length c1) (.slice A2 d.cache.length c2))).alloc (yD (.slice none 0 0) (.slice none 0 0)) = w1 at H0 ⊢
 go_loopw [13] (fun iv wr => ∃ (k : Nat) (ua ub : Value),k ≤ l.length ∧ iv = .int .i64 k ∧ Hid (k ≤ m.toNat) ∧ Hid (RnM w (vL d (l.take k)) ua ub wr)) (fun iv _ => l.length - (intOf iv).toNat)
 case atStart => exact ⟨0,_,_,Nat.zero_le _,rfl,hI' (Nat.zero_le _),H0⟩
 case round =>
  obtain ⟨k,ua,ub,hk,rfl,HK,HI⟩ := hrel
  clear H0
  by_cases hlt : k < l.length
  ·obtain ⟨x,hx⟩ : ∃ x,l[k]? = some x := ⟨_,List.getElem?_eq_getElem hlt⟩
   obtain ⟨b,off,rfl,hb,hcell⟩ := HL.out (by omega)
   have q := fun i u hu => (HI.out.bel.cell (p := ⟨b,off + k * 3 + i,none⟩) hb).trans (hcell k x hx i u hu)
   have q0 : wr.cell? ⟨b,off + k * 3,none⟩ = some (.bool x.flush) := q 0 _ rfl
   have q1 : wr.cell? ⟨b,off + k * 3 + 1,none⟩ = some (.int .i64 x.w.at_) := q 1 _ rfl
   have q2 : wr.cell? ⟨b,off + k * 3 + 2,none⟩ = some (xU x.w.data) := q 2 _ rfl
   have HX := hI' (xTi hx d)
   have HZ := hI' (xKp d (l.take k))
   have HW := hI' (HI.out.below ((Below.refl _ wr).alloc (Nat.le_refl _) (.cells #[.bool x.flush,.int .i64 x.w.at_,xU x.w.data] 121)))
   have hbw := xM wr (.cells #[.bool x.flush,.int .i64 x.w.at_,xU x.w.data] 121)
   obtain ⟨x0,x1,x2⟩ := xO0 hbw
   clear hcell q hx hbw
   by_cases hm : m ≤ (k : Int)
   ·have HE : Hid (vL d (l.take k) = vL d (l.take m.toNat)) := hI' (by rw [show k = m.toNat by have := HK.out; omega])
    clear HX HZ HK HI
    go_upto_region 11 with fail
    have HI := HW
    clear HW q0 q1 q2 x0 x1 x2
    generalize wr.alloc (.cells #[.bool x.flush,.int .i64 x.w.at_,xU x.w.data] 121) = wz at HI ⊢
    obtain ⟨A4,c4,A5,c5,rfl,rfl⟩ := yH HI.out.rd
    have HR : Hid (RdD ((wz.setCell ⟨w.heap.size + 1,0,none⟩ (.slice A4 (vL d (l.take k)).secs.length c4)).setCell ⟨w.heap.size + 1,1,none⟩ (.slice A5 (vL d (l.take k)).cache.length c5)) wz.heap.size (.slice A4 (vL d (l.take k)).secs.length c4) (.slice A5 (vL d (l.take k)).cache.length c5) (vL d (l.take k))) := hI' (by
     have e0 := yB HI.out.o 0 (.slice A4 (vL d (l.take k)).secs.length c4)
     simp only [List.setIfInBounds_toArray,List.set_cons_zero] at e0
     exact RdD.far (RdD.far HI.out.rd (p := ⟨w.heap.size + 1,0,none⟩) (vP HI.out.o) _) (p := ⟨w.heap.size + 1,1,none⟩) (vP e0) _)
    generalize vL d (l.take k) = D at HR HE HI ⊢
    obtain ⟨d0,d1⟩ := uG HI.out.d
    obtain ⟨o0,y0,f0,o1,y1,f1,HB⟩ := xNv HI.out.o HI.out.bel (by omega) (.slice A4 D.secs.length c4) (.slice A5 D.cache.length c5) _ rfl
    clear HI HL HC
    go_wp2
    refine bodyPost_ret (v := .agg #[.slice A4 D.secs.length c4,.slice A5 D.cache.length c5]) (by simp [results,Tryz.results18,go_sem,f0,f1]) rfl ?_
    rw [← HE.out]
    exact ⟨_,_,rfl,by simpa [size_set] using HR.out,HB.out⟩
   ·have HK2 : Hid (k + 1 ≤ m.toNat) := hI' (by omega)
    clear HI HK
    obtain ⟨A4,c4,A5,c5,rfl,rfl⟩ := yH HW.out.rd
    obtain ⟨d0,d1⟩ := uG HW.out.d
    have y0 := xK HW.out.d 0
    have y1 := xK HW.out.d 1
    generalize vL d (l.take k) = D at HX HZ HW d0 d1 y0 y1 ⊢
    cases hf : x.flush with
    | true =>
     have HS : Hid (qH D x = xY D) := hI' (by unfold qH; rw [hf,if_pos rfl])
     rw [hf] at HW d0 d1 q0 x0 x1 x2 y0 y1
     clear hf
     have HF := hI' (xGf _ _ D _ HW.out.rd)
     go_wp2_with fail
     clear q0 q1 q2 x0 x1 x2 d0 d1 y0 y1
     refine HF.out.mono ?_
     rintro e w2 ⟨ua,ub,rfl,hr,_,hb⟩
     obtain ⟨A6,c6,A7,c7,rfl,rfl⟩ := yH hr
     have h2 := HW.out.below hb
     have HP := hI' (h2.put hr)
     obtain ⟨d0,d1⟩ := uG h2.d
     have y0 := xK h2.d 0
     have y1 := xK h2.d 1
     clear hr hb h2 HF HW
     go_wp2
     exact ⟨⟨k + 1,_,_,by omega,by go_num,HK2,by rw [HX.out,HS.out]; exact HP⟩,by simp [intOf]; omega⟩
    | false =>
     rw [hf] at HW d0 d1 q0 x0 x1 x2 y0 y1
     have HPT := hI' (xMu _ _ D x.w _ HW.out.rd (by have := HZ.out; have := HC.out; simp only [List.length_take] at *; omega))
     cases hp : (zC D && vU x.w D.secs.length) with
     | true =>
      have HS : Hid (qH D x = xS8 D x.w) := hI' (by unfold qH; rw [hf,if_neg (by simp),hp,if_pos rfl])
      rw [hp,if_pos rfl,if_pos rfl] at HPT
      clear hf hp
      go_wp2_with fail
      clear q0 q1 q2 x0 x1 x2 d0 d1 y0 y1
      refine HPT.out.mono ?_
      rintro e w2 ⟨ua,ub,rfl,hr,hb⟩
      obtain ⟨A6,c6,A7,c7,rfl,rfl⟩ := yH hr
      have h2 := HW.out.below hb
      have ha := (Below.refl w2.heap.size w2).alloc (Nat.le_refl _) (yD (.slice A6 (xS8 D x.w).secs.length c6) (.slice A7 (xS8 D x.w).cache.length c7))
      have h3 := h2.below ha
      have HP := hI' (h3.put ((hr.below ha (Nat.le_refl _)).more ha.size))
      have hn := xM w2 (yD (.slice A6 (xS8 D x.w).secs.length c6) (.slice A7 (xS8 D x.w).cache.length c7))
      obtain ⟨d0,d1⟩ := uG h3.d
      obtain ⟨e0,e1⟩ := uG hn
      have y0 := xK h3.d 0
      have y1 := xK h3.d 1
      clear hr hb h2 HPT HW ha h3 hn
      go_wp2
      exact ⟨⟨k + 1,_,_,by omega,by go_num,HK2,by rw [HX.out,HS.out]; exact HP⟩,by simp [intOf]; omega⟩
     | false =>
      have HS : Hid (qH D x = D) := hI' (by unfold qH; rw [hf,if_neg (by simp),hp,if_neg (by simp)])
      rw [hp,if_neg (by simp),if_neg (by simp)] at HPT
      clear hf hp
      go_wp2_with fail
      clear q0 q1 q2 x0 x1 x2 d0 d1 y0 y1
      refine HPT.out.mono ?_
      rintro e w2 ⟨ua,ub,rfl,hr,hb⟩
      obtain ⟨A6,c6,A7,c7,rfl,rfl⟩ := yH hr
      have h2 := HW.out.below hb
      have HP := hI' (h2.below ((Below.refl w2.heap.size w2).alloc (Nat.le_refl _) (yD (.slice A6 (⟨[],[]⟩ : Dk).secs.length c6) (.slice A7 (⟨[],[]⟩ : Dk).cache.length c7))))
      clear hr hb h2 HPT HW
      go_wp2
      exact ⟨⟨k + 1,_,_,by omega,by go_num,HK2,by rw [HX.out,HS.out]; exact HP⟩,by simp [intOf]; omega⟩
  ·obtain rfl : k = l.length := by omega
   have HE : Hid (vL d (l.take l.length) = vL d (l.take m.toNat)) := hI' (by
    have := HK.out
    rw [List.take_length,List.take_of_length_le this])
   clear HK
   go_upto_region 11 with fail
   obtain ⟨k,hk⟩ : ∃ k,l.length = k := ⟨_,rfl⟩
   rw [hk] at HI HE ⊢
   clear hk
   obtain ⟨wz,hwz⟩ : ∃ wz,wz = wr := ⟨_,rfl⟩
   rw [← hwz] at HI ⊢
   clear hwz
   obtain ⟨A4,c4,A5,c5,rfl,rfl⟩ := yH HI.out.rd
   have HR : Hid (RdD ((wz.setCell ⟨w.heap.size + 1,0,none⟩ (.slice A4 (vL d (l.take k)).secs.length c4)).setCell ⟨w.heap.size + 1,1,none⟩ (.slice A5 (vL d (l.take k)).cache.length c5)) wz.heap.size (.slice A4 (vL d (l.take k)).secs.length c4) (.slice A5 (vL d (l.take k)).cache.length c5) (vL d (l.take k))) := hI' (by
    have e0 := yB HI.out.o 0 (.slice A4 (vL d (l.take k)).secs.length c4)
    simp only [List.setIfInBounds_toArray,List.set_cons_zero] at e0
    exact RdD.far (RdD.far HI.out.rd (p := ⟨w.heap.size + 1,0,none⟩) (vP HI.out.o) _) (p := ⟨w.heap.size + 1,1,none⟩) (vP e0) _)
   generalize vL d (l.take k) = D at HR HE HI ⊢
   obtain ⟨d0,d1⟩ := uG HI.out.d
   obtain ⟨o0,y0,f0,o1,y1,f1,HB⟩ := xNv HI.out.o HI.out.bel (by omega) (.slice A4 D.secs.length c4) (.slice A5 D.cache.length c5) _ rfl
   clear HI HL HC
   go_wp2
   refine bodyPost_ret (v := .agg #[.slice A4 D.secs.length c4,.slice A5 D.cache.length c5]) (by simp [results,Tryz.results18,go_sem,f0,f1]) rfl ?_
   rw [← HE.out]
   exact ⟨_,_,rfl,by simpa [size_set] using HR.out,HB.out⟩
end Go.Proofs.DS
namespace Go.Proofs.BU
open Go.RowKit MM
theorem wS : (Tryz.prog.info? 115).map (·.size) = some 2 := by kernel_rfl
theorem xUy : (Tryz.prog.info? 5).map (fun i => (i.zero,i.size,i.bytes)) = some (some (.int .u8 0),1,1) := by kernel_rfl
theorem xHk (b : Nat) (w : World) (h0 : w.cell? ⟨b,0,none⟩ = some (.pointer (some ⟨b,0,none⟩))) :
  Calls Tryz.prog 102 #[.pointer (some ⟨b,0,none⟩)] w fun e w' => e = .returned (.tuple #[]) ∧ w' = w := by
 obtain ⟨j,hj,_⟩ := Option.map_eq_some_iff.1 wS
 go_enter Tryz.func102,Tryz.ntmps102
 go_wp2
 rw [Lib.run_neq_ptr_same w _ Tryz.underlying112 hj]
 go_wp2
 go_end0
 exact ⟨rfl,rfl⟩
theorem xGs (b : Nat) (w : World) (h0 : w.cell? ⟨b,0,none⟩ = some (.pointer none)) (hsh : w.shape? b = some (115,2)) (hfz : w.frozen? ⟨b,0,none⟩ = false) :
  Calls Tryz.prog 102 #[.pointer (some ⟨b,0,none⟩)] w fun e w' => e = .returned (.tuple #[]) ∧ w' = w.setCell ⟨b,0,none⟩ (.pointer (some ⟨b,0,none⟩)) := by
 obtain ⟨j,hj,hjs⟩ := Option.map_eq_some_iff.1 wS
 go_enter Tryz.func102,Tryz.ntmps102
 go_wp2
 rw [Lib.run_to_unsafe w ⟨b,0,none⟩ Tryz.underlying112 Tryz.underlying226 hj (by rw [hjs]; decide) hsh (Nat.zero_lt_succ 1)]
 simp only [Result.andThen]
 rw [Oper.upon_value]
 go_wp2
 rw [run_callFunc_extern Tryz.func155 (by kernel_rfl) (by kernel_rfl) (by kernel_rfl) (e := Extern.AbiNoEscape.same) (by kernel_rfl)]
 rw [Lib.run_noEscape]
 simp only [Result.andThen]
 rw [Oper.upon_value]
 go_wp2
 rw [Lib.run_from_unsafe w ⟨b,0,none⟩ Tryz.underlying226 Tryz.underlying112 hj hsh (by kernel_rfl)]
 simp only [Result.andThen]
 rw [Oper.upon_value]
 go_wp2
 go_end0
 exact ⟨rfl,rfl⟩
abbrev Bld (B b : Nat) (l : List UInt8) (w : World) : Prop := Lib.IsBuilder 115 5 B b (Lib.byteCells l) w
theorem xZf (n : Int) : ∀ u ∈ [Value.int .u8 n],u.oneCell' = true := by
 intro u hu; rw [List.mem_singleton.1 hu]; rfl
theorem xW4 (l : List UInt8) : (Lib.byteCells l).length = l.length := by simp [Lib.byteCells]
end Go.Proofs.BU
namespace Go.Proofs.BU
open Go.RowKit MM
theorem xLr (l k : List UInt8) : Lib.byteCells (l ++ k) = Lib.byteCells l ++ Lib.byteCells k := by simp [Lib.byteCells]
end Go.Proofs.BU
