/- Contracts of functions. Conditions: as stated. -/
import Derived.Lib.Hide
import Derived.Deep.AppendLies
import Derived.Lib.IndexMore
import Derived.Test.YtjdkeibcoiiliaaGreatDoorProg
import Derived.Lib.BufferWrite
import Derived.Lib.SlBuf
import Derived.Laws.CopyOwn
import Derived.Deep.Cut
import Derived.OpenShut
import Derived.WalkLawsBesides
import Derived.WalkSpells
open Go.Proofs.Tryz
set_option maxHeartbeats 8000000
set_option maxRecDepth 100000
theorem _root_.Go.RowKit.Hid.o {p : Prop} (h : Go.RowKit.Hid p) : p := h
theorem _root_.ω {p : Prop} (h : p := by omega) : p := h
theorem _root_.κ {p : Prop} (h : p := by kernel_rfl) : p := h
theorem _root_.σ {p : Prop} (h : p := by simp) : p := h
theorem _root_.δ {p : Prop} (h : p := by decide) : p := h
abbrev _root_.ψ (w w' : Go.World) : Prop := Go.RowKit.Below w.heap.size w w'
theorem _root_.φ (w : Go.World) (o : Go.Obj) : Go.RowKit.Below w.heap.size w (w.alloc o) := (Go.RowKit.Below.refl w.heap.size w).alloc (Nat.le_refl _) o
theorem _root_.ν {n : Nat} : n ≤ n := Nat.le_refl _
abbrev _root_.θ (b o : Nat) : Go.Addr := ⟨b, o, none⟩
theorem _root_.bT {a b c : Go.World} (x : Go.RowKit.Below a.heap.size a b) (h : Go.RowKit.Below b.heap.size b c) : Go.RowKit.Below a.heap.size a c := x.trans (h.mono x.size)
theorem _root_.eX {α : Type _} (a : α) : ∃ b, a = b := ⟨a, rfl⟩
theorem _root_.cM {P : Go.Program} {f : Go.FuncId} {args : Array Go.Value} {w : Go.World} {v : Go.Value} {Φ : Go.World → Prop} {Q : Go.Ending → Go.World → Prop} (h : Go.Calls P f args w fun e w' => e = .returned v ∧ Φ w') (k : ∀ w', Φ w' → Q (.returned v) w') : Go.Calls P f args w Q := h.mono (by rintro e w' ⟨rfl, h⟩; exact k w' h)
abbrev _root_.pv (v : Go.Value) (w : Go.World) : Go.Ending → Go.World → Prop := fun e w' => e = .returned v ∧ Go.RowKit.Below w.heap.size w w'
abbrev _root_.Aa:=@List.getD_eq_getElem?_getD
abbrev _root_.Af:=@List.getElem?_eq_getElem
abbrev _root_.Ag:=@if_neg
abbrev _root_.Ah:=@if_pos
abbrev _root_.Ai:=@And.intro
abbrev _root_.Aj:=@List.length_append
abbrev _root_.Ak:=@Go.bodyPost_ret
abbrev _root_.Ao:=@Go.wpList_load_row
abbrev _root_.Ap:=@congrArg
abbrev _root_.Aq:=@Go.RowKit.Below.refl
abbrev _root_.Ar:=@List.getElem?_eq_some_iff
abbrev _root_.Au:=@Bool.and_eq_true
abbrev _root_.Av:=@Go.wpList_store_row
abbrev _root_.Aw:=@ByteArray.size_append
abbrev _root_.Ay:=@Nat.zero_add
abbrev _root_.Az:=@ByteArray.size_extract
abbrev _root_.Ba:=@List.setIfInBounds_toArray
abbrev _root_.Bb:=@List.mem_of_getElem?
abbrev _root_.Bc:=@Nat.zero_le
abbrev _root_.Bd:=@Nat.le_refl
abbrev _root_.Be:=@decide_eq_true_eq
abbrev _root_.Bf:=@List.length_set
abbrev _root_.Bg:=@Nat.le_trans
abbrev _root_.Bh:=@List.set_cons_zero
abbrev _root_.Bi:=@Go.wp_region_lit
abbrev _root_.Bj:=@Go.setRow_other
abbrev _root_.Bl:=@List.length_cons
abbrev _root_.Bn:=@Go.below_setRow
abbrev _root_.Bo:=@Classical.byContradiction
abbrev _root_.Bp:=@Go.setRow_heap
abbrev _root_.Bq:=@decide_eq_true
abbrev _root_.Br:=@Go.ByteArray.toList_eq
abbrev _root_.Bt:=@Nat.lt_of_lt_of_le
abbrev _root_.Bu:=@List.mem_singleton
abbrev _root_.Bv:=@List.all_eq_true
abbrev _root_.Bw:=@List.length_map
abbrev _root_.Bz:=@List.getElem?_eq_none
abbrev _root_.Ca:=@Array.getElem?_eq_some_iff
abbrev _root_.Cb:=@Array.getElem?_eq_getElem
abbrev _root_.Cc:=@List.take_add_one
abbrev _root_.Ce:=@List.take_of_length_le
abbrev _root_.Cf:=@List.take_length
abbrev _root_.Cg:=@List.getElem?_map
abbrev _root_.Ci:=@Array.getD_eq_getD_getElem?
abbrev _root_.Cj:=@List.getD_cons_zero
abbrev _root_.Ck:=@List.length_take
abbrev _root_.Cm:=@List.set_cons_succ
abbrev _root_.Cn:=@Int.toNat_natCast
abbrev _root_.Co:=@List.getElem?_set
abbrev _root_.Cq:=@decide_eq_false
abbrev _root_.Cr:=@List.getD_cons_succ
abbrev _root_.Cs:=@List.eq_nil_of_length_eq_zero
abbrev _root_.Ct:=@Int.eq_ofNat_of_zero_le
abbrev _root_.Cu:=@Array.length_toList
abbrev _root_.Cv:=@List.length_replicate
abbrev _root_.Cw:=@List.getElem?_set_self
abbrev _root_.Cx:=@List.mem_cons_self
abbrev _root_.Cy:=@List.append_assoc
abbrev _root_.Cz:=@List.flatMap_cons
abbrev _root_.Da:=@List.map_append
abbrev _root_.Db:=@Nat.add_zero
abbrev _root_.Dc:=@List.mem_of_mem_take
abbrev _root_.De:=@List.mem_cons
abbrev _root_.Df:=@Option.map_eq_some_iff
abbrev _root_.Dh:=@ByteArray.data_extract
abbrev _root_.Di:=@Go.World.ownsRow.lt
abbrev _root_.Dj:=@List.drop_eq_getElem_cons
abbrev _root_.Dl:=@Go.run_convert_bytes_back
abbrev _root_.Dm:=@List.mem_cons_of_mem
abbrev _root_.Dn:=@Go.results_cell_row
abbrev _root_.Dp:=@List.not_mem_nil
abbrev _root_.Dq:=@List.length_nil
abbrev _root_.Dr:=@Array.getElem?_eq_none
abbrev _root_.Dt:=@List.ext_getElem?
abbrev _root_.Du:=@List.map_cons
abbrev _root_.Dv:=@List.getElem?_toArray
abbrev _root_.Dw:=@List.append_nil
abbrev _root_.Dx:=@Nat.mod_eq_of_lt
abbrev _root_.Dy:=@Bool.false_and
abbrev _root_.Dz:=@List.mem_or_eq_of_mem_set
abbrev _root_.Ea:=@List.getElem?_take
abbrev _root_.Eb:=@List.length_drop
abbrev _root_.Ec:=@Go.World.size_alloc
abbrev _root_.Ed:=@Bool.true_and
abbrev _root_.Ee:=@ByteArray.ext
abbrev _root_.Ef:=@Array.eq_empty_of_size_eq_zero
abbrev _root_.Eg:=@ByteArray.extract_extract
abbrev _root_.Eh:=@Go.World.ownsRow.cells
abbrev _root_.Ei:=@List.length_take_le
abbrev _root_.Ej:=@of_decide_eq_true
abbrev _root_.El:=@List.mem_range
abbrev _root_.Em:=@List.mem_append
abbrev _root_.En:=@Ne.symm
abbrev _root_.Eo:=@List.getElem?_set_ne
abbrev _root_.Ep:=@Array.all_eq_true_iff_forall_mem
abbrev _root_.Er:=@List.eq_nil_of_sublist_nil
abbrev _root_.Es:=@List.nil_append
abbrev _root_.Et:=@Go.World.cell?_setCell_other
abbrev _root_.Eu:=@ByteArray.data_append
abbrev _root_.Ev:=@List.length_filter_le
abbrev _root_.Ew:=@List.mem_map
abbrev _root_.Ex:=@UInt8.toNat_lt
abbrev _root_.Ey:=@BitVec.ofInt_natCast
abbrev _root_.Ez:=@Option.some.injEq
abbrev _root_.Fa:=@List.getElem?_replicate
abbrev _root_.Fb:=@List.flatten_cons
abbrev _root_.Fe:=@Option.map_some
abbrev _root_.Ff:=@List.replicate_succ
abbrev _root_.Fg:=@List.getElem?_range
abbrev _root_.Fh:=@List.drop_succ_cons
abbrev _root_.Fj:=@Nat.succ_mul
abbrev _root_.Fp:=@Nat.mul_comm
abbrev _root_.Fq:=@Nat.two_pow_add_eq_or_of_lt
abbrev _root_.Fs:=@Nat.pow_succ
abbrev _root_.Fu:=@Bool.false_or
abbrev _root_.Fv:=@List.getElem?_append_right
abbrev _root_.Fw:=@Go.wpList_append_lies
abbrev _root_.Fx:=@List.getElem?_drop
abbrev _root_.Fy:=@BitVec.toNat_ofNat
abbrev _root_.Fz:=@List.getElem?_append_left
abbrev _root_.Ga:=@Go.cell_of_row
abbrev _root_.Gb:=@List.map_set
abbrev _root_.Gc:=@List.foldl_append
abbrev _root_.Gd:=@getElem!_pos
abbrev _root_.Gf:=@Nat.mul_mod
abbrev _root_.Gg:=@List.eq_of_mem_replicate
abbrev _root_.Gh:=@Nat.le_of_dvd
abbrev _root_.Gi:=@Go.Lib.wpList_copy_run
abbrev _root_.Gj:=@Go.bits_xor_u64_nat
abbrev _root_.Gl:=@List.map_toArray
abbrev _root_.Gm:=@List.countP_cons
abbrev _root_.Gn:=@or_false
abbrev _root_.Gp:=@Go.World.block_lt_of_cell?
abbrev _root_.Gq:=@Bool.and_false
abbrev _root_.Gr:=@Nat.mul_one
abbrev _root_.Gs:=@Go.RowKit.Below.heap_setCell
abbrev _root_.Gt:=@Nat.le_of_lt
abbrev _root_.Gu:=@Go.Sem.run_bind
abbrev _root_.Gv:=@List.mem_filter
abbrev _root_.Gw:=@List.length_mergeSort
abbrev _root_.Gx:=@Go.Lib.run_eql_slice_nil
abbrev _root_.Gy:=@Go.Result.andThen_ok
abbrev _root_.Gz:=@beq_iff_eq
abbrev _root_.Ha:=@Array.toList_setIfInBounds
abbrev _root_.Hd:=@List.getElem?_of_mem
abbrev _root_.He:=@Array.toList_extract
abbrev _root_.Hg:=@Nat.pow_le_pow_right
abbrev _root_.Hm:=@Nat.le_of_not_lt
abbrev _root_.Ho:=@Option.bind_some
abbrev _root_.Hq:=@Option.getD_some
abbrev _root_.Hr:=@Go.wpList_plain
abbrev _root_.Ht:=@List.map_nil
abbrev _root_.Hu:=@Go.Lib.run_append_own_string
abbrev _root_.Hw:=@Go.World.ownsRow.alloc
abbrev _root_.Hy:=@List.take_succ_cons
theorem _root_.ι {p:Prop} (h:p):Go.RowKit.Hid p:=h
theorem _root_.gA {α:Type _} {l:List α} {i:Nat}:l.toArray[i]?=l[i]?:=List.getElem?_toArray
theorem _root_.gB {α:Type _} {a:α} {l:List α} {i:Nat}:(a::l)[i+1]?=l[i]?:=List.getElem?_cons_succ
theorem _root_.gC {α:Type _} {a:α} {l:List α}:(a::l)[0]?=some a:=List.getElem?_cons_zero
namespace Go.Proofs.RG
section
variable {P:Program} {ops:Array Oper} {Q:Exit->Act->World->Prop} {md:Region.Mode} {I:World->Prop}
def Only (I:World->Prop) (A:Act):Exit->Act->World->Prop:=λe a w=>e=.normal/\a=A/\I w
def xFc (P:Program) (ops:Array Oper) (I:World->Prop) (K:Act->Prop):List Oper->Act->Prop
 |[],a=>K a
 |o::os,a=>∃A:Act,A.defers=a.defers/\(∀w,I w->wpList P ops (Only I A) [o] a w)/\xFc P ops I K os A
theorem xE {A:Act} {w:World} (h:I w):Only I A .normal A w:=⟨rfl,rfl,h⟩
theorem xX {K:Act->Prop} {a:Act} (h:K a):xFc P ops I K [] a:=h
theorem xL {K:Act->Prop} {a:Act} {o:Oper} {os:List Oper} {A:Act} (h:∀w,I w->wpList P ops (Only I A) [o] a w) (hd:A.defers=a.defers) (h2:xFc P ops I K os A):xFc P ops I K (o::os) a:=⟨A,hd,h,h2⟩
def deps (md:Region.Mode) (o:Oper):List Nat:=(o.after.toList.filter (Region.binds md ·)).map (·.on)
def fits (md:Region.Mode) (ops:Array Oper):Bool:=
 Region.noSelect ops&&(List.range ops.size).all λi=>match ops[i]? with
  |none=>true
  |some o=>(deps md o).all (·<i)&&(List.range ops.size).all λj=>i==j||match ops[j]? with
   |none=>true
   |some p=>match p.dst with
    |none=>true
    |some d=>o.dst !=some d&&(!(o.looksAt ops).contains d||(deps md o).contains j)
theorem xIa {o:Oper} {j:Nat}:j∈deps md o↔∃e∈o.after,Region.binds md e=true/\e.on=j:=by
 unfold deps;simp only[Ew,Gv,Array.mem_toList_iff]
 constructor
 ·rintro⟨e,⟨h1,h2⟩,h3⟩;exact⟨e,h1,h2,h3⟩
 ·rintro⟨e,h1,h2,h3⟩;exact⟨e,⟨h1,h2⟩,h3⟩
theorem xOc (h:fits md ops=true) {i:Nat} {o:Oper} (ho:ops[i]?=some o) {j:Nat} (hj:j∈deps md o):j<i:=by
 unfold fits at h;rw[Au] at h;have h1:=Bv.1 h.2 i (El.2 (Ca.1 ho).1);simp only[ho,Au] at h1;simpa using Bv.1 h1.1 j hj
theorem xVt (h:fits md ops=true) {i j:Nat} {o p:Oper} (ho:ops[i]?=some o) (hp:ops[j]?=some p) (hne:i≠j) {d:Tmp} (hd:p.dst=some d):
  o.dst≠some d/\(d∈o.looksAt ops->j∈deps md o):=by
 unfold fits at h;rw[Au] at h;have h1:=Bv.1 h.2 i (El.2 (Ca.1 ho).1);simp only[ho,Au] at h1;have h2:=Bv.1 h1.2 j (El.2 (Ca.1 hp).1)
 simp only[hp,hd,Bool.or_eq_true,Gz,hne,false_or,Au,bne_iff_ne,Bool.not_eq_true',List.contains_eq_mem,decide_eq_false_iff_not,Be] at h2;exact⟨h2.1,λhl=>h2.2.resolve_left (λhn=>hn hl)⟩
def fill (L:Nat->Bool) (V:Nat->Value):List Oper->Nat->Act->Act
 |[],_,a=>a
 |o::os,i,a=>fill L V os (i+1) (if L i=true then a.put o.dst (V i) else a)
theorem xI2 (a:Act) (d:Option Tmp) (v:Value):(a.put d v).tmps.size=a.tmps.size:=by cases d<;>simp[Act.put]
theorem put_defers (a:Act) (d:Option Tmp) (v:Value):(a.put d v).defers=a.defers:=by cases d<;>rfl
theorem xK2 {L:Nat->Bool} {V:Nat->Value}:∀(os:List Oper) (i:Nat) (a:Act),(fill L V os i a).tmps.size=a.tmps.size
 |[],_,_=>rfl
 |o::os,i,a=>by
  unfold fill;rw[xK2 os];split
  ·exact xI2 _ _ _
  ·rfl
theorem put_at (a:Act) (d:Option Tmp) (v:Value) {t:Tmp} (h:d≠some t):(a.put d v).tmps[t]?=a.tmps[t]?:=by
 cases d with
 |none=>rfl
 |some e=>
  have:e≠t:=λhe=>h (he▸rfl);simp[Act.put,Array.getElem?_setIfInBounds_ne this]
theorem yG4 (a b:Act) (v:Value) {t:Tmp} (h:a.tmps.size=b.tmps.size):(a.put (some t) v).tmps[t]?=(b.put (some t) v).tmps[t]?:=by
 simp[Act.put,Array.getElem?_setIfInBounds,h]
theorem xE9 {L L':Nat->Bool} {V:Nat->Value} {t:Tmp}:∀(os:List Oper) (i:Nat) (a b:Act),a.tmps[t]?=b.tmps[t]?->a.tmps.size=b.tmps.size->
  (∀n o,os[n]?=some o->o.dst=some t->L (i+n)=L' (i+n))->(fill L V os i a).tmps[t]?=(fill L' V os i b).tmps[t]?
 |[],_,_,_,h,_,_=>h
 |o::os,i,a,b,h,hs,hL=>by
  unfold fill;refine xE9 os (i+1) _ _ ?_ ?_ (λn p hp hd=>by have:=hL (n+1) p (by simpa using hp) hd;rwa [show i+(n+1)=i+1+n by omega] at this)
  ·by_cases hd:o.dst=some t
   ·have h0:=hL 0 o rfl hd;rw[Db] at h0;rw[h0];split
    ·rw[hd];exact yG4 a b _ hs
    ·exact h
   ·have e1:∀(c:Bool) (x:Act),(if c=true then x.put o.dst (V i) else x).tmps[t]?=x.tmps[t]?:=λc x=>by
     split
     ·exact put_at _ _ _ hd
     ·rfl
    rw[e1,e1];exact h
  ·have e1:∀(c:Bool) (x:Act),(if c=true then x.put o.dst (V i) else x).tmps.size=x.tmps.size:=λc x=>by
    split
    ·exact xI2 _ _ _
    ·rfl
   rw[e1,e1];exact hs
theorem kL {L L':Nat->Bool} {V V':Nat->Value}:∀(os:List Oper) (i:Nat) (a:Act),(∀n,n<os.length->L (i+n)=L' (i+n))->(∀n,n<os.length->L (i+n)=true->V (i+n)=V' (i+n))->
  fill L V os i a=fill L' V' os i a
 |[],_,_,_,_=>rfl
 |o::os,i,a,hL,hV=>by
  unfold fill;have h0:=hL 0 σ;rw[Db] at h0;have hv0:=hV 0 σ;rw[Db] at hv0
  have ih:∀b,fill L V os (i+1) b=fill L' V' os (i+1) b:=λb=>kL os (i+1) b (λn hn=>by have:=hL (n+1) (by simpa using hn);rwa [show i+(n+1)=i+1+n by omega] at this)
   (λn hn=>by have:=hV (n+1) (by simpa using hn);rwa [show i+(n+1)=i+1+n by omega] at this)
  rw[ih]
  by_cases hc:L i=true
  ·rw[Ah hc,Ah (h0▸hc),hv0 hc]
  ·rw[Ag hc,Ag (h0▸hc)]
theorem xHn {L:Nat->Bool} {V:Nat->Value} {d:Option Tmp} {v:Value}:∀(os:List Oper) (i:Nat) (a:Act),(∀(n:Nat) (o:Oper) (e:Tmp),os[n]?=some o->d=some e->o.dst≠some e)->
  fill L V os i (a.put d v)=(fill L V os i a).put d v
 |[],_,_,_=>rfl
 |o::os,i,a,h=>by
  unfold fill;rw[<-xHn os (i+1) _ (λn p e hp he=>h (n+1) p e (by simpa using hp) he)];split
  ·congr 1
   rw[Act.put_comm];intro e he;exact h 0 o e rfl he
  ·rfl
theorem xOd {L:Nat->Bool} {V:Nat->Value} {v:Value}:∀(os:List Oper) (i n:Nat) (o:Oper) (a:Act),os[n]?=some o->L (i+n)=false->
  (∀m p e,os[m]?=some p->m≠n->o.dst=some e->p.dst≠some e)->
  (fill L V os i a).put o.dst v=fill (λj=>j==i+n||L j) (λj=>if j=i+n then v else V j) os i a
 |[],_,_,_,_,h,_,_=>by simp at h
 |q::os,i,0,o,a,h,hL,hd=>by
  obtain rfl:q=o:=by simpa using h
  unfold fill;rw[Db] at hL;rw[hL];simp only[Bool.false_eq_true,if_false,Db,BEq.rfl,Bool.true_or,if_true];rw[<-xHn os (i+1) a (λn p e hp he=>hd (n+1) p e (by simpa using hp) ω he)];refine kL os (i+1) _ (λn hn=>?_) (λn hn _=>?_)
  ·have:(i+1+n==i)=false:=by simp;omega
   rw[this,Fu]
  ·rw[Ag ω]
 |q::os,i,n+1,o,a,h,hL,hd=>by
  unfold fill;have e0:(i==i+(n+1))=false:=σ;have e1:¬i=i+(n+1):=ω;rw[e0,Fu,Ag e1]
  have:=xOd (L:=L) (V:=V) (v:=v) os (i+1) n o (if L i=true then a.put q.dst (V i) else a) (by simpa using h) (by rwa [show i+1+n=i+(n+1) by omega])
   (λm p e hp hne he=>hd (m+1) p e (by simpa using hp) ω he)
  rw[this,show i+1+n=i+(n+1) by omega]
theorem xDg {L:Nat->Bool} {V:Nat->Value}:∀(os:List Oper) (i:Nat) (a:Act),(∀n,n<os.length->L (i+n)=false)->fill L V os i a=a
 |[],_,_,_=>rfl
 |o::os,i,a,h=>by
  unfold fill;have h0:=h 0 σ;rw[Db] at h0;rw[h0];exact xDg os (i+1) a λn hn=>by have:=h (n+1) (by simpa using hn);rwa [show i+(n+1)=i+1+n by omega] at this
def EqAt (d:Option Tmp) (n:Nat) (u v:Value):Prop:=∀a:Act,a.tmps.size=n->a.put d u=a.put d v
theorem xBi {d:Option Tmp} {a:Act} {u v:Value} (h:a.put d u=a.put d v):EqAt d a.tmps.size u v:=by
 intro b hb;cases d with
 |none=>rfl
 |some t=>
  have h1:(a.put (some t) u).tmps[t]?=(a.put (some t) v).tmps[t]?:=by rw[h]
  by_cases ht:t<a.tmps.size
  ·simp[Act.put,ht] at h1;rw[h1]
  ·have e:∀x:Value,b.put (some t) x=b:=λx=>by
    unfold Act.put;simp only;rw[Array.setIfInBounds_eq_of_size_le (by have hle:=Hm ht;rw[hb];exact hle)]
   rw[e,e]
def One (P:Program) (ops:Array Oper) (I:World->Prop) (o:Oper) (v:Value) (n:Nat) (a:Act) (w:World):Prop:=
 if Region.wanted o (yielded ops a.tmps)=true then
  match (execOp a.eval o).run P w with
  |.ok (.value u) w'=>EqAt o.dst n u v/\I w'
  |.ok .skip w'=>EqAt o.dst n undef v/\I w'
  |.ok (.enter f args) w'=>Calls P f args w' λe w''=>∃u,e=.returned u/\EqAt o.dst n u v/\I w''
  |.ok (.row row args) w'=>Rows P row args w' λu w''=>EqAt o.dst n u v/\I w''
  |_=>False
 else EqAt o.dst n undef v/\I w
theorem xMq {f:FuncId} {args:Array Value} {w:World} {R:Ending->World->Prop} (h:Calls P f args w R):∃e w',R e w':=by
 obtain⟨e,w',_,h1,_⟩:=h [];exact⟨e,w',h1⟩
theorem xPp {row:String} {args:Array Value} {w:World} {R:Value->World->Prop} (h:Rows P row args w R):∃e w',R e w':=by
 obtain⟨e,w',h1,_⟩:=h default [];exact⟨e,w',h1⟩
theorem xUu {o:Oper} {a A:Act} {w:World} (hd:A.defers=a.defers) (h:wpList P ops (Only I A) [o] a w):∃u,A=a.put o.dst u:=by
 unfold wpList at h;split at h
 ·rcases h with h|⟨_,a',w',h,_⟩
  ·unfold Oper.wp at h;generalize (execOp a.eval o).run P w=r at h;cases r with
   |ok n w'=>
    cases n<;>simp only[Oper.upon] at h
    case value u=>exact⟨u,h.2.1.symm⟩
    case skip=>exact⟨_,h.2.1.symm⟩
    case defer d=>
     have:=Ap Act.defers h.2.1;rw[put_defers,hd] at this;simp at this
    case enter f args=>
     obtain⟨e,w'',h1⟩:=xMq h;cases e with
     |returned u=>exact⟨u,h1.2.1.symm⟩
     |panicked c=>exact absurd h1.1 σ
     |outgrown=>obtain⟨_,_,h2,_⟩:=h1;exact absurd h2 σ
    case row row args=>
     obtain⟨u,w'',h1⟩:=xPp h;exact⟨u,h1.2.1.symm⟩
   |halt x w'=>
    cases x<;>simp only[Oper.upon] at h
    exact absurd h.1 σ
  ·exact absurd h σ
 ·exact⟨_,h.2.1.symm⟩
theorem xFv {o:Oper} {a:Act} {w:World} {v:Value} (h:wpList P ops (Only I (a.put o.dst v)) [o] a w):One P ops I o v a.tmps.size a w:=by
 unfold wpList at h;unfold One;split at h
 ·rename_i hw
  rw[Ah hw];rcases h with h|⟨_,a',w',h,_⟩
  ·unfold Oper.wp at h;generalize (execOp a.eval o).run P w=r at h⊢;cases r with
   |ok n w'=>
    cases n<;>simp only[Oper.upon] at h
    case value u=>exact⟨xBi h.2.1,h.2.2⟩
    case skip=>exact⟨xBi h.2.1,h.2.2⟩
    case defer d=>
     have:=Ap Act.defers h.2.1;rw[put_defers,put_defers] at this;simp at this
    case enter f args=>
     refine Calls.mono h λe w'' h1=>?_;cases e with
     |returned u=>exact⟨u,rfl,xBi h1.2.1,h1.2.2⟩
     |panicked c=>exact absurd h1.1 σ
     |outgrown=>obtain⟨_,_,h2,_⟩:=h1;exact absurd h2 σ
    case row row args=>
     exact Rows.mono h λu w'' h1=>⟨xBi h1.2.1,h1.2.2⟩
   |halt x w'=>
    cases x<;>simp only[Oper.upon] at h
    exact absurd h.1 σ
  ·exact absurd h σ
 ·rename_i hw
  rw[Ag hw];exact⟨xBi h.2.1,h.2.2⟩
theorem One.move {o:Oper} {v:Value} {n:Nat} {a b:Act} {w:World} (h:One P ops I o v n a w) (hs:∀cs d,o.op≠.select cs d) (hab:∀t,t∈o.looksAt ops->a.tmps[t]?=b.tmps[t]?):One P ops I o v n b w:=by
 have he:execOp b.eval o=execOp a.eval o:=execOp_congr o hs λx hx=>by
  cases x with
  |tmp t=>
   have:t∈o.looksAt ops:=List.mem_append_left _ (List.mem_filterMap.2 ⟨.tmp t,by simpa using hx,rfl⟩);simp only[Act.eval,Ci];rw[hab t this]
  |_=>rfl
 have hw:Region.wanted o (yielded ops b.tmps)=Region.wanted o (yielded ops a.tmps):=by
  unfold Region.wanted;cases hg:o.guard with
  |none=>rfl
  |some gw=>
   obtain⟨g,want⟩:=gw
   have hy:yielded ops b.tmps g=yielded ops a.tmps g:=by
    unfold yielded;cases ht:(ops[g]?).bind (·.dst) with
    |none=>rfl
    |some t=>
     have:t∈o.looksAt ops:=by simp[Oper.looksAt,hg,ht]
     simp only[Ho];rw[hab t this]
   simp only[hy]
 unfold One at*;rw[he,hw];exact h
theorem One.wpOp {o:Oper} {v:Value} {a:Act} {w:World} {i:Nat} {K:Act->World->Prop} (hi:ops[i]?=some o) (h:One P ops I o v a.tmps.size a w) (hK:∀w',I w'->K (a.put o.dst v) w'):wpOp P ops Q i K a w:=by
 unfold Go.wpOp One at*;simp only[hi];split at h
 ·rename_i hw
  rw[Ah hw];refine .inl ?_;unfold Oper.wp;generalize (execOp a.eval o).run P w=r at h⊢;cases r with
  |ok n w'=>
   cases n<;>simp only at h<;>simp only[Oper.upon]
   case value u=>rw[h.1 a rfl];exact hK _ h.2
   case skip=>rw[h.1 a rfl];exact hK _ h.2
   case enter f args=>
    refine Calls.mono h λe w'' h1=>?_;obtain⟨u,rfl,h2,h3⟩:=h1;simp only;rw[h2 a rfl];exact hK _ h3
   case row row args=>
    refine Rows.mono h λu w'' h1=>?_;rw[h1.1 a rfl];exact hK _ h1.2
  |halt x w'=>exact h.elim
 ·rename_i hw
  rw[Ag hw,h.1 a rfl];exact hK _ h.2
def xAn (listed:Array Bool):Nat:=listed.toList.count false
theorem xB2 {listed:Array Bool} {i:Nat} (h:listed.getD i true=false):xAn listed=xAn (listed.setIfInBounds i true)+1:=by
 have hlt:i<listed.size:=by
  rcases Nat.lt_or_ge i listed.size with h'|h'
  ·exact h'
  ·simp[Dr h'] at h
 have hg:listed.toList[i]?=some false:=by
  simp only[Ci,Cb hlt,Hq] at h;simp[h,hlt]
 unfold xAn;rw[Ha];generalize listed.toList=l at hg;clear h hlt
 induction l generalizing i with
 |nil=>simp at hg
 |cons b l ih=>
  cases i with
  |zero=>
   obtain rfl:b=false:=by simpa using hg
   simp
  |succ i=>
   have:=ih (i:=i) (by simpa using hg);simp only[Cm,List.count_cons];omega
end
end Go.Proofs.RG
namespace Go.Proofs.RG
section
variable {P:Program} {ops:Array Oper} {Q:Exit->Act->World->Prop} {md:Region.Mode} {E:List Nat} {I:(Nat->Bool)->World->Prop}
def upd (E:List Nat) (L:Nat->Bool) (i:Nat):Nat->Bool:=if E.contains i then λj=>j==i||L j else L
def qN (P:Program) (ops:Array Oper) (md:Region.Mode) (E:List Nat) (I:(Nat->Bool)->World->Prop) (K:Act->Prop):List Oper->Nat->Act->Prop
 |[],_,a=>K a
 |o::os,i,a=>∃A:Act,A.defers=a.defers/\(∀L w,L i=false->(∀j,j∈deps md o->L j=true)->I L w->wpList P ops (Only (I (upd E L i)) A) [o] a w)/\qN P ops md E I K os (i+1) A
theorem yY {K:Act->Prop} {a:Act} {i:Nat} (h:K a):qN P ops md E I K [] i a:=h
theorem xHd {K:Act->Prop} {a:Act} {o:Oper} {os:List Oper} {i:Nat} {A:Act} (hi:E.contains i=false) (h:∀L w,I L w->wpList P ops (Only (I L) A) [o] a w) (hd:A.defers=a.defers) (h2:qN P ops md E I K os (i+1) A):
  qN P ops md E I K (o::os) i a:=⟨A,hd,λL w _ _ hw=>by unfold upd;rw[hi];exact h L w hw,h2⟩
theorem uV {K:Act->Prop} {a:Act} {o:Oper} {os:List Oper} {i:Nat} {A:Act} (hi:E.contains i=true) (h:∀L w,L i=false->(∀j,j∈deps md o->L j=true)->I L w->wpList P ops (Only (I (λj=>j==i||L j)) A) [o] a w) (hd:A.defers=a.defers) (h2:qN P ops md E I K os (i+1) A):
  qN P ops md E I K (o::os) i a:=⟨A,hd,λL w h0 hdp hw=>by unfold upd;rw[hi];exact h L w h0 hdp hw,h2⟩
theorem xXr {J:World->Prop} {o:Oper} {a A:Act} {w:World} (h:wpList P ops (Only J A) [o] a w):∃w',J w':=by
 unfold wpList at h;split at h
 ·rcases h with h|⟨_,a',w',h,_⟩
  ·unfold Oper.wp at h;generalize (execOp a.eval o).run P w=r at h;cases r with
   |ok n w'=>
    cases n<;>simp only[Oper.upon] at h
    case value u=>exact⟨_,h.2.2⟩
    case skip=>exact⟨_,h.2.2⟩
    case defer d=>exact⟨_,h.2.2⟩
    case enter f args=>
     obtain⟨e,w'',h1⟩:=xMq h;cases e with
     |returned u=>exact⟨_,h1.2.2⟩
     |panicked c=>exact absurd h1.1 σ
     |outgrown=>obtain⟨_,_,h2,_⟩:=h1;exact absurd h2 σ
    case row row args=>
     obtain⟨u,w'',h1⟩:=xPp h;exact⟨_,h1.2.2⟩
   |halt x w'=>
    cases x<;>simp only[Oper.upon] at h
    exact absurd h.1 σ
  ·exact absurd h σ
 ·exact⟨_,h.2.2⟩
def below (i:Nat):Nat->Bool:=λj=>decide (j<i)
theorem xIp {L L':Nat->Bool} {i:Nat} (hL:∀e∈E,L e=L' e):∀e∈E,upd E L i e=(λj=>j==i||L' j) e:=by
 intro e he;unfold upd;split
 ·simp only[hL e he]
 ·rename_i hc
  have hne:e≠i:=λh=>hc (by rw[<-h];simpa using he);have:(e==i)=false:=by simpa using hne
  simp only[this,Fu,hL e he]
theorem xYu (i j:Nat):(j==i||below i j)=below (i+1) j:=by
 unfold below
 by_cases h:j=i
 ·subst h;simp
 ·have:(j==i)=false:=by simpa using h
  rw[this,Fu];exact decide_eq_decide.2 ω
end
def closed (ops:Array Oper) (md:Region.Mode) (L:Nat->Bool):Prop:=∀i o,ops[i]?=some o->L i=true->∀j,j∈deps md o->L j=true
def xBj (ops:Array Oper) (md:Region.Mode):Nat->Nat->List Nat
 |0,_=>[]
 |n+1,i=>match ops[i]? with
  |none=>[]
  |some o=>deps md o++(deps md o).flatMap (xBj ops md n)
theorem closed.reach {ops:Array Oper} {md:Region.Mode} {L:Nat->Bool} (h:closed ops md L):∀(n i:Nat),L i=true->∀j,j∈xBj ops md n i->L j=true
 |0,_,_,_,hj=>by simp[xBj] at hj
 |n+1,i,hi,j,hj=>by
  unfold xBj at hj;cases ho:ops[i]? with
  |none=>rw[ho] at hj;simp at hj
  |some o=>
   rw[ho] at hj;simp only[Em,List.mem_flatMap] at hj;rcases hj with hj|⟨m,hm,hj⟩
   ·exact h i o ho hi j hj
   ·exact closed.reach h n m (h i o ho hi m hm) j hj
theorem closed.not {ops:Array Oper} {md:Region.Mode} {L:Nat->Bool} (h:closed ops md L) (n:Nat) {i j:Nat} (hj:L j=false) (hm:(xBj ops md n i).contains j=true):L i=false:=by
 cases hi:L i with
 |false=>rfl
 |true=>
  have:=h.reach n i hi j (by simpa using hm);rw[hj] at this;cases this
theorem closed.yes {ops:Array Oper} {md:Region.Mode} {L:Nat->Bool} (h:closed ops md L) (n:Nat) {i j:Nat} (hi:L i=true) (hm:(xBj ops md n i).contains j=true):L j=true:=h.reach n i hi j (by simpa using hm)
section
def late (md:Region.Mode) (N:List Nat) (o:Oper):Bool:=N.all λe=>(deps md o).contains e
end
abbrev Pv:=Nat->Value
def xLu (α:Pv) (i:Nat) (b:Value):Pv:=λj=>if j=i then b else α j
theorem zL (α:Pv) (i:Nat) (b:Value):xLu α i b i=b:=by simp[xLu]
theorem xGq (α:Pv) (i:Nat) (b:Value) {j:Nat} (h:j≠i):xLu α i b j=α j:=by simp[xLu,h]
def xRm (P:Program) (ops:Array Oper) (I:Value->World->Prop) (o:Oper) (n:Nat) (a:Act) (w:World):Prop:=
 if Region.wanted o (yielded ops a.tmps)=true then
  match (execOp a.eval o).run P w with
  |.ok (.value u) w'=>∃v,EqAt o.dst n u v/\I v w'
  |.ok .skip w'=>∃v,EqAt o.dst n undef v/\I v w'
  |.ok (.enter f args) w'=>Calls P f args w' λe w''=>∃u v,e=.returned u/\EqAt o.dst n u v/\I v w''
  |.ok (.row row args) w'=>Rows P row args w' λu w''=>∃v,EqAt o.dst n u v/\I v w''
  |_=>False
 else ∃v,EqAt o.dst n undef v/\I v w
def OnlyV (I:Value->World->Prop) (d:Option Tmp) (a:Act):Exit->Act->World->Prop:=λe A w=>e=.normal/\∃v,A=a.put d v/\I v w
section
variable {P:Program} {ops:Array Oper} {Q:Exit->Act->World->Prop} {I:Value->World->Prop}
theorem One.val {I:World->Prop} {J:Value->World->Prop} {o:Oper} {v:Value} {n:Nat} {a:Act} {w:World} (h:One P ops I o v n a w) (hJ:∀w,I w->J v w):xRm P ops J o n a w:=by
 unfold One at h;unfold xRm;split at h
 ·rename_i hw
  rw[Ah hw];generalize (execOp a.eval o).run P w=r at h⊢;cases r with
  |ok m w'=>
   cases m<;>simp only at h⊢
   case value u=>exact⟨v,h.1,hJ _ h.2⟩
   case skip=>exact⟨v,h.1,hJ _ h.2⟩
   case enter f args=>exact Calls.mono h λe w'' h1=>by obtain⟨u,h2,h3,h4⟩:=h1;exact⟨u,v,h2,h3,hJ _ h4⟩
   case row row args=>exact Rows.mono h λu w'' h1=>⟨v,h1.1,hJ _ h1.2⟩
  |halt x w'=>exact h.elim
 ·rename_i hw
  rw[Ag hw];exact⟨v,h.1,hJ _ h.2⟩
theorem yBn {o:Oper} {a:Act} {w:World} (h:wpList P ops (OnlyV I o.dst a) [o] a w):xRm P ops I o a.tmps.size a w:=by
 unfold wpList at h;unfold xRm;split at h
 ·rename_i hw
  rw[Ah hw];rcases h with h|⟨_,a',w',h,_⟩
  ·unfold Oper.wp at h;generalize (execOp a.eval o).run P w=r at h⊢;cases r with
   |ok n w'=>
    cases n<;>simp only[Oper.upon] at h
    case value u=>obtain⟨_,v,h2,h3⟩:=h;exact⟨v,xBi h2,h3⟩
    case skip=>obtain⟨_,v,h2,h3⟩:=h;exact⟨v,xBi h2,h3⟩
    case defer d=>
     obtain⟨_,v,h2,h3⟩:=h;have:=Ap Act.defers h2;rw[put_defers,put_defers] at this;simp at this
    case enter f args=>
     refine Calls.mono h λe w'' h1=>?_;cases e with
     |returned u=>obtain⟨_,v,h2,h3⟩:=h1;exact⟨u,v,rfl,xBi h2,h3⟩
     |panicked c=>exact absurd h1.1 σ
     |outgrown=>obtain⟨_,_,h2,_⟩:=h1;exact absurd h2 σ
    case row row args=>
     exact Rows.mono h λu w'' h1=>by obtain⟨_,v,h2,h3⟩:=h1;exact⟨v,xBi h2,h3⟩
   |halt x w'=>
    cases x<;>simp only[Oper.upon] at h
    exact absurd h.1 σ
  ·exact absurd h σ
 ·rename_i hw
  rw[Ag hw];obtain⟨_,v,h2,h3⟩:=h;exact⟨v,xBi h2,h3⟩
theorem xRm.move {o:Oper} {n:Nat} {a b:Act} {w:World} (h:xRm P ops I o n a w) (hs:∀cs d,o.op≠.select cs d) (hab:∀t,t∈o.looksAt ops->a.tmps[t]?=b.tmps[t]?):xRm P ops I o n b w:=by
 have he:execOp b.eval o=execOp a.eval o:=execOp_congr o hs λx hx=>by
  cases x with
  |tmp t=>
   have:t∈o.looksAt ops:=List.mem_append_left _ (List.mem_filterMap.2 ⟨.tmp t,by simpa using hx,rfl⟩);simp only[Act.eval,Ci];rw[hab t this]
  |_=>rfl
 have hw:Region.wanted o (yielded ops b.tmps)=Region.wanted o (yielded ops a.tmps):=by
  unfold Region.wanted;cases hg:o.guard with
  |none=>rfl
  |some gw=>
   obtain⟨g,want⟩:=gw
   have hy:yielded ops b.tmps g=yielded ops a.tmps g:=by
    unfold yielded;cases ht:(ops[g]?).bind (·.dst) with
    |none=>rfl
    |some t=>
     have:t∈o.looksAt ops:=by simp[Oper.looksAt,hg,ht]
     simp only[Ho];rw[hab t this]
   simp only[hy]
 unfold xRm at*;rw[he,hw];exact h
theorem xRm.wpOp {o:Oper} {a:Act} {w:World} {i:Nat} {K:Act->World->Prop} (hi:ops[i]?=some o) (h:xRm P ops I o a.tmps.size a w) (hK:∀v w',I v w'->K (a.put o.dst v) w'):wpOp P ops Q i K a w:=by
 unfold Go.wpOp xRm at*;simp only[hi];split at h
 ·rename_i hw
  rw[Ah hw];refine .inl ?_;unfold Oper.wp;generalize (execOp a.eval o).run P w=r at h⊢;cases r with
  |ok n w'=>
   cases n<;>simp only at h<;>simp only[Oper.upon]
   case value u=>obtain⟨v,h1,h2⟩:=h;rw[h1 a rfl];exact hK _ _ h2
   case skip=>obtain⟨v,h1,h2⟩:=h;rw[h1 a rfl];exact hK _ _ h2
   case enter f args=>
    refine Calls.mono h λe w'' h1=>?_;obtain⟨u,v,rfl,h2,h3⟩:=h1;simp only;rw[h2 a rfl];exact hK _ _ h3
   case row row args=>
    refine Rows.mono h λu w'' h1=>?_;obtain⟨v,h1,h2⟩:=h1;rw[h1 a rfl];exact hK _ _ h2
  |halt x w'=>exact h.elim
 ·rename_i hw
  obtain⟨v,h1,h2⟩:=h;rw[Ag hw,h1 a rfl];exact hK _ _ h2
end
section
variable {P:Program} {ops:Array Oper} {Q:Exit->Act->World->Prop} {md:Region.Mode} {E N:List Nat} {J:(Nat->Bool)->Pv->World->Prop}
def qM (P:Program) (ops:Array Oper) (md:Region.Mode) (E N:List Nat) (J:(Nat->Bool)->Pv->World->Prop) (K:Pv->Act->Prop):List Oper->Nat->(Pv->Act)->Prop
 |[],_,a=>∀α,K α (a α)
 |o::os,i,a=>
  (N.contains i=true/\(∀α L w,L i=false->closed ops md L->closed ops md (λj=>j==i||L j)->J L α w->xRm P ops (λb w'=>J (λj=>j==i||L j) (xLu α i b) w') o (a α).tmps.size (a α) w)/\qM P ops md E N J K os (i+1) (λα=>(a α).put o.dst (α i)))∨
  (N.contains i=false/\∃(A:Pv->Act) (v:Pv->Value),(∀α,A α=(a α).put o.dst (v α))/\(late md N o=true∨∀α α',v α=v α')/\
   (∀α L w,L i=false->closed ops md L->closed ops md (λj=>j==i||L j)->J L α w->wpList P ops (Only (J (upd E L i) α) (A α)) [o] (a α) w)/\qM P ops md E N J K os (i+1) A)
theorem xA6 {K:Pv->Act->Prop} {a:Pv->Act} {i:Nat} (h:∀α,K α (a α)):qM P ops md E N J K [] i a:=h
theorem qP {K:Pv->Act->Prop} {a:Pv->Act} {o:Oper} {os:List Oper} {i:Nat} {A:Value->Pv->Act} (hi:N.contains i=true)
  (h:∀α L w,L i=false->closed ops md L->closed ops md (λj=>j==i||L j)->J L α w->∃v,∀b,b=v->wpList P ops (Only (J (λj=>j==i||L j) (xLu α i b)) (A b α)) [o] (a α) w)
  (hd:∀b α,A b α=(a α).put o.dst b) (h2:qM P ops md E N J K os (i+1) (λα=>A (α i) α)):qM P ops md E N J K (o::os) i a:=by
 refine .inl ⟨hi,λα L w h0 hc hc2 hw=>?_,?_⟩
 ·obtain⟨v,hv⟩:=h α L w h0 hc hc2 hw;have h9:=hv v rfl;rw[hd] at h9;exact(xFv h9).val λ_ h=>h
 ·have e:(λα=>(a α).put o.dst (α i))=λα=>A (α i) α:=funext λα=>(hd _ _).symm;rw[e];exact h2
theorem rT {K:Pv->Act->Prop} {a:Pv->Act} {o:Oper} {os:List Oper} {i:Nat} {A:Value->Pv->Act} (hi:N.contains i=true)
  (h:∀α L w,L i=false->closed ops md L->closed ops md (λj=>j==i||L j)->J L α w->wpList P ops (OnlyV (λb w'=>J (λj=>j==i||L j) (xLu α i b) w') o.dst (a α)) [o] (a α) w)
  (hd:∀b α,A b α=(a α).put o.dst b) (h2:qM P ops md E N J K os (i+1) (λα=>A (α i) α)):qM P ops md E N J K (o::os) i a:=by
 refine .inl ⟨hi,λα L w h0 hc hc2 hw=>yBn (h α L w h0 hc hc2 hw),?_⟩;have e:(λα=>(a α).put o.dst (α i))=λα=>A (α i) α:=funext λα=>(hd _ _).symm;rw[e];exact h2
theorem zR {K:Pv->Act->Prop} {a:Pv->Act} {o:Oper} {os:List Oper} {i:Nat} {A:Pv->Act} {v:Value} (hi:N.contains i=false) (he:E.contains i=false)
  (h:∀α L w,L i=false->closed ops md L->closed ops md (λj=>j==i||L j)->J L α w->wpList P ops (Only (J L α) (A α)) [o] (a α) w) (hd:∀α,A α=(a α).put o.dst v) (h2:qM P ops md E N J K os (i+1) A):qM P ops md E N J K (o::os) i a:=
 .inr ⟨hi,A,λ_=>v,hd,.inr λ_ _=>rfl,λα L w h0 hc hc2 hw=>by unfold upd;rw[he];exact h α L w h0 hc hc2 hw,h2⟩
theorem xDu {K:Pv->Act->Prop} {a:Pv->Act} {o:Oper} {os:List Oper} {i:Nat} {A:Pv->Act} {v:Value} (hi:N.contains i=false) (he:E.contains i=true)
  (h:∀α L w,L i=false->closed ops md L->closed ops md (λj=>j==i||L j)->J L α w->wpList P ops (Only (J (λj=>j==i||L j) α) (A α)) [o] (a α) w) (hd:∀α,A α=(a α).put o.dst v) (h2:qM P ops md E N J K os (i+1) A):qM P ops md E N J K (o::os) i a:=
 .inr ⟨hi,A,λ_=>v,hd,.inr λ_ _=>rfl,λα L w h0 hc hc2 hw=>by unfold upd;rw[he];exact h α L w h0 hc hc2 hw,h2⟩
theorem xDv {K:Pv->Act->Prop} {a:Pv->Act} {o:Oper} {os:List Oper} {i:Nat} {A:Pv->Act} {v:Pv->Value} (hi:N.contains i=false) (hl:late md N o=true) (he:E.contains i=true)
  (h:∀α L w,L i=false->closed ops md L->closed ops md (λj=>j==i||L j)->J L α w->wpList P ops (Only (J (λj=>j==i||L j) α) (A α)) [o] (a α) w) (hd:∀α,A α=(a α).put o.dst (v α)) (h2:qM P ops md E N J K os (i+1) A):qM P ops md E N J K (o::os) i a:=
 .inr ⟨hi,A,v,hd,.inl hl,λα L w h0 hc hc2 hw=>by unfold upd;rw[he];exact h α L w h0 hc hc2 hw,h2⟩
theorem xKa {K:Pv->Act->Prop} {n0:Nat}:∀(os:List Oper) (i:Nat) (a:Pv->Act),(∀α,(a α).tmps.size=n0)->qM P ops md E N J K os i a->
  ∃V:Pv->Nat->Value,(∀n o,os[n]?=some o->∀α L w,L (i+n)=false->closed ops md L->closed ops md (λj=>j==i+n||L j)->J L α w->
   (N.contains (i+n)=true/\xRm P ops (λb w'=>J (λj=>j==i+n||L j) (xLu α (i+n) b) w') o n0 (fill (λj=>decide (j<i+n)) (V α) os i (a α)) w)∨
   (N.contains (i+n)=false/\One P ops (J (upd E L (i+n)) α) o (V α (i+n)) n0 (fill (λj=>decide (j<i+n)) (V α) os i (a α)) w))/\
   (∀n o,os[n]?=some o->(N.contains (i+n)=true/\∀α,V α (i+n)=α (i+n))∨(N.contains (i+n)=false/\(late md N o=true∨∀α α',V α (i+n)=V α' (i+n))))/\
   ∀α,K α (fill (λ_=>true) (V α) os i (a α))
 |[],_,a,_,h=>⟨λ_ _=>undef,λn o ho=>by simp at ho,λn o ho=>by simp at ho,h⟩
 |o::os,i,a,hsz,h=>by
  have key:∀(A:Pv->Act) (v:Pv->Value),(∀α,A α=(a α).put o.dst (v α))->qM P ops md E N J K os (i+1) A->
    (∀α L w,L i=false->closed ops md L->closed ops md (λj=>j==i||L j)->J L α w->
     (N.contains i=true/\xRm P ops (λb w'=>J (λj=>j==i||L j) (xLu α i b) w') o n0 (a α) w)∨(N.contains i=false/\One P ops (J (upd E L i) α) o (v α) n0 (a α) w))->
    ((N.contains i=true/\∀α,v α=α i)∨(N.contains i=false/\(late md N o=true∨∀α α',v α=v α')))->
    ∃V:Pv->Nat->Value,(∀n p,(o::os)[n]?=some p->∀α L w,L (i+n)=false->closed ops md L->closed ops md (λj=>j==i+n||L j)->J L α w->
     (N.contains (i+n)=true/\xRm P ops (λb w'=>J (λj=>j==i+n||L j) (xLu α (i+n) b) w') p n0 (fill (λj=>decide (j<i+n)) (V α) (o::os) i (a α)) w)∨
     (N.contains (i+n)=false/\One P ops (J (upd E L (i+n)) α) p (V α (i+n)) n0 (fill (λj=>decide (j<i+n)) (V α) (o::os) i (a α)) w))/\
     (∀n p,(o::os)[n]?=some p->(N.contains (i+n)=true/\∀α,V α (i+n)=α (i+n))∨(N.contains (i+n)=false/\(late md N p=true∨∀α α',V α (i+n)=V α' (i+n))))/\
     ∀α,K α (fill (λ_=>true) (V α) (o::os) i (a α)):=by
   intro A v hA h2 h1 hv;obtain⟨V,hV,hW,hK⟩:=xKa os (i+1) A (λα=>by rw[hA,xI2];exact hsz α) h2
   have hc:∀(α:Pv) (L:Nat->Bool) (b:Act),fill L (λj=>if j=i then v α else V α j) os (i+1) b=fill L (V α) os (i+1) b:=λα L b=>
    kL os (i+1) b (λ_ _=>rfl) (λn _ _=>by rw[Ag ω])
   refine⟨λα j=>if j=i then v α else V α j,λn p hp α L w hL hcl xQ hw=>?_,λn p hp=>?_,λα=>?_⟩
   ·cases n with
    |zero=>
     obtain rfl:o=p:=by simpa using hp
     simp only[Db,if_true];rw[xDg _ _ _ (λn _=>by simp)];exact h1 α L w (by simpa using hL) hcl (by simpa using xQ) hw
    |succ n=>
     have e3:i+1+n=i+(n+1):=ω;have:=hV n p (by simpa using hp) α L w (by rw[e3];exact hL) hcl (by rw[e3];exact xQ) hw;have e1:¬i+(n+1)=i:=ω;simp only[e1,if_false];unfold fill;simp only[if_true];rw[Ah σ,hc,<-e3,<-hA];exact this
   ·cases n with
    |zero=>
     obtain rfl:o=p:=by simpa using hp
     simpa using hv
    |succ n=>
     have:=hW n p (by simpa using hp);have e1:¬i+(n+1)=i:=ω;simp only[e1,if_false];rw[show i+(n+1)=i+1+n by omega];exact this
   ·unfold fill;simp only[if_true];rw[hc,<-hA];exact hK α
  rcases h with ⟨hi,h1,h2⟩|⟨hi,A,v,hA,hv,h1,h2⟩
  ·refine key _ (λα=>α i) (λ_=>rfl) h2 (λα L w h0 hcl xQ hw=>.inl ⟨hi,?_⟩) (.inl ⟨hi,λ_=>rfl⟩);have hb:=h1 α L w h0 hcl xQ hw
   rwa [hsz α] at hb
  ·refine key A v hA h2 (λα L w h0 hcl xQ hw=>.inr ⟨hi,?_⟩) (.inr ⟨hi,hv⟩);have:=h1 α L w h0 hcl xQ hw;rw[hA α] at this;have:=xFv this
   rwa [hsz α] at this
def xL7 (md:Region.Mode) (ops:Array Oper):Bool:=
 Region.noSelect ops&&(List.range ops.size).all λi=>match ops[i]? with
  |none=>true
  |some o=>(deps md o).all (·<i)&&(List.range ops.size).all λj=>i==j||match ops[j]? with
   |none=>true
   |some p=>match p.dst with
    |none=>true
    |some d=>o.dst !=some d&&(!(o.looksAt ops).contains d||(deps md o).contains j||(decide (i<j)&&(xBj ops md 9 j).contains i))
theorem xCh {md:Region.Mode} {ops:Array Oper} (h:xL7 md ops=true) {i:Nat} {o:Oper} (ho:ops[i]?=some o) {j:Nat} (hj:j∈deps md o):j<i:=by
 unfold xL7 at h;rw[Au] at h;have h1:=Bv.1 h.2 i (El.2 (Ca.1 ho).1);simp only[ho,Au] at h1;simpa using Bv.1 h1.1 j hj
theorem xK1 {md:Region.Mode} {ops:Array Oper} (h:xL7 md ops=true) {i j:Nat} {o p:Oper} (ho:ops[i]?=some o) (hp:ops[j]?=some p) (hne:i≠j) {d:Tmp} (hd:p.dst=some d):
  o.dst≠some d/\(d∈o.looksAt ops->j∈deps md o∨(i<j/\(xBj ops md 9 j).contains i=true)):=by
 unfold xL7 at h;rw[Au] at h;have h1:=Bv.1 h.2 i (El.2 (Ca.1 ho).1);simp only[ho,Au] at h1;have h2:=Bv.1 h1.2 j (El.2 (Ca.1 hp).1)
 simp only[hp,hd,Bool.or_eq_true,Gz,hne,false_or,Au,bne_iff_ne,Bool.not_eq_true',List.contains_eq_mem,decide_eq_false_iff_not,Be] at h2;refine⟨h2.1,λhl=>?_⟩;rcases h2.2 with (h3|h3)|h3
 ·exact absurd hl h3
 ·exact .inl h3
 ·exact .inr ⟨h3.1,by simpa using h3.2⟩
theorem xLf {a0:Act} {w0:World} (α0:Pv) (hf:xL7 md ops=true) (hE:∀L L' α α' w,(∀e,e∈E∨e∈N->L e=L' e)->(∀e∈N,L e=true->α e=α' e)->J L α w->J L' α' w) (hEl:∀e,e∈E∨e∈N->e<ops.size) (hI:J (λ_=>false) α0 w0)
  (h:qM P ops md E N J (λα a=>∀w,J (λ_=>true) α w->Q .normal a w) ops.toList 0 (λ_=>a0)):wpAny P md ops Q ops.size (Array.replicate ops.size false) a0 w0:=by
 obtain⟨V,hV,hW,hK⟩:=xKa (n0:=a0.tmps.size) ops.toList 0 (λ_=>a0) (λ_=>rfl) h;have hs:Region.noSelect ops=true:=by unfold xL7 at hf;rw[Au] at hf;exact hf.1
 have main:∀(fuel:Nat) (listed:Array Bool) (α:Pv) (w:World),listed.size=ops.size->xAn listed=fuel->closed ops md (λj=>listed.getD j false)->J (λj=>listed.getD j false) α w->
   wpAny P md ops Q fuel listed (fill (λj=>listed.getD j false) (V α) ops.toList 0 a0) w:=by
  intro fuel
  have hfin:∀(listed:Array Bool) (α:Pv) (w:World),listed.size=ops.size->J (λj=>listed.getD j false) α w->Region.ready md ops listed=[]->Q .normal (fill (λj=>listed.getD j false) (V α) ops.toList 0 a0) w:=by
   intro listed α w hsz hw hr
   have hall:∀j,j<ops.size->listed.getD j true=true:=by
    intro j
    induction j using Nat.strongRecOn with
    |_ j ih=>
     intro hj;cases hc:listed.getD j true with
     |true=>rfl
     |false=>
      have:j∈Region.ready md ops listed:=mem_ready.2 ⟨hc,ops[j],Cb hj,λe he hb=>by
       have hlt:=xCh hf (Cb hj) (xIa.2 ⟨e,he,hb,rfl⟩);have:=ih e.on hlt ω;simp only[Ci] at this⊢;rw[Cb ω] at this⊢;simpa using this⟩
      rw[hr] at this;cases this
   have yD2:∀j,j<ops.size->listed.getD j false=true:=λj hj=>by
    have:=hall j hj;simp only[Ci] at this⊢;rw[Cb ω] at this⊢;simpa using this
   have e:fill (λj=>listed.getD j false) (V α) ops.toList 0 a0=fill (λ_=>true) (V α) ops.toList 0 a0:=kL _ _ _ (λn hn=>by
    have hn':n<ops.size:=by simpa using hn
    rw[Ay];exact yD2 n hn') (λ_ _ _=>rfl)
   rw[e];exact hK α w (hE _ _ _ _ _ (λe he=>yD2 e (hEl e he)) (λ_ _ _=>rfl) hw)
  induction fuel with
  |zero=>
   intro listed α w hsz hu hcl hw
   have hr:Region.ready md ops listed=[]:=by
    cases hc:Region.ready md ops listed with
    |nil=>rfl
    |cons j _=>
     have hm:j∈Region.ready md ops listed:=by rw[hc];simp
     have:=xB2 (mem_ready.1 hm).1;omega
   exact⟨hr,hfin listed α w hsz hw hr⟩
  |succ fuel ih=>
   intro listed α w hsz hu hcl hw;refine⟨hfin listed α w hsz hw,λi hi=>?_⟩;obtain⟨hun,o,ho,yLi⟩:=mem_ready.1 hi;have hilt:i<ops.size:=(Ca.1 ho).1
   have hlf:listed.getD i false=false:=by
    simp only[Ci] at hun⊢;rw[Cb ω] at hun⊢;simpa using hun
   have hol:ops.toList[i]?=some o:=by simpa using ho
   have hdone:∀j,j∈deps md o->listed.getD j false=true:=λj hj=>by
    obtain⟨e,he,hb,rfl⟩:=xIa.1 hj;have hlt:=xCh hf ho hj;have:=yLi e he hb;simp only[Ci] at this⊢;rw[Cb ω] at this⊢;simpa using this
   have xQ:closed ops md (λj=>j==i||listed.getD j false):=by
    intro j p hp hj m hm
    by_cases e:j=i
    ·subst e;rw[ho] at hp;injection hp with hp;subst hp;simp[hdone m hm]
    ·have hj':listed.getD j false=true:=by
      have e9:(j==i)=false:=by simpa using e
      simpa[e9] using hj
     have:=hcl j p hp hj' m hm;simp only[this,Bool.or_true]
   have hsz2:∀β:Pv,(fill (λj=>listed.getD j false) (V β) ops.toList 0 a0).tmps.size=a0.tmps.size:=λ_=>xK2 _ _ _
   have mv:∀{I:World->Prop} {v:Value},One P ops I o v a0.tmps.size (fill (λj=>decide (j<i)) (V α) ops.toList 0 a0) w->One P ops I o v a0.tmps.size (fill (λj=>listed.getD j false) (V α) ops.toList 0 a0) w:=by
    intro I v h1;refine h1.move (λcs d=>Region.noSelect_spec hs i o cs d ho) λt ht=>?_;refine xE9 _ _ _ _ rfl rfl λn p hp hd=>?_;have hp':ops[n]?=some p:=by simpa using hp
    simp only[Ay]
    by_cases hni:i=n
    ·subst hni;rw[hlf];simp
    ·rcases(xK1 hf ho hp' hni hd).2 ht with hn|⟨hn1,hn2⟩
     ·have hlt:=xCh hf ho hn;rw[hdone n hn];simpa using hlt
     ·rw[hcl.not 9 (i:=n) hlf hn2];simp;omega
   have mvE:∀{I:Value->World->Prop},xRm P ops I o a0.tmps.size (fill (λj=>decide (j<i)) (V α) ops.toList 0 a0) w->xRm P ops I o a0.tmps.size (fill (λj=>listed.getD j false) (V α) ops.toList 0 a0) w:=by
    intro I h1;refine h1.move (λcs d=>Region.noSelect_spec hs i o cs d ho) λt ht=>?_;refine xE9 _ _ _ _ rfl rfl λn p hp hd=>?_;have hp':ops[n]?=some p:=by simpa using hp
    simp only[Ay]
    by_cases hni:i=n
    ·subst hni;rw[hlf];simp
    ·rcases(xK1 hf ho hp' hni hd).2 ht with hn|⟨hn1,hn2⟩
     ·have hlt:=xCh hf ho hn;rw[hdone n hn];simpa using hlt
     ·rw[hcl.not 9 (i:=n) hlf hn2];simp;omega
   have e3:∀n,n<ops.size->(n==i||listed.getD n false)=(listed.setIfInBounds i true).getD n false:=λn hn=>by
    by_cases hni:i=n
    ·subst hni;simp only[BEq.rfl,Bool.true_or,Ci];rw[Array.getElem?_setIfInBounds_self_of_lt ω]
     rfl
    ·rw[getD_set_ne false hni];have:(n==i)=false:=by simp;omega
     rw[this,Fu]
   have nxt:∀(β:Pv) (v:Value),V β i=v->(∀n,n<ops.size->listed.getD n false=true->V β n=V α n)->(fill (λj=>listed.getD j false) (V α) ops.toList 0 a0).put o.dst v=fill (λj=>(listed.setIfInBounds i true).getD j false) (V β) ops.toList 0 a0:=by
    intro β v hv hsame
    have e0:fill (λj=>listed.getD j false) (V α) ops.toList 0 a0=fill (λj=>listed.getD j false) (V β) ops.toList 0 a0:=kL _ _ _ (λ_ _=>rfl) (λn hn hl=>by
     have hn':n<ops.size:=by simpa using hn
     simp only[Ay] at hl⊢;exact(hsame n hn' hl).symm)
    rw[e0]
    have e:=xOd (L:=λj=>listed.getD j false) (V:=V β) (v:=v) ops.toList 0 i o a0 hol (by rw[Ay];exact hlf) (λm p e hp hne he=>by
     have hp':ops[m]?=some p:=by simpa using hp
     exact(xK1 hf hp' ho hne he).1)
    rw[e];refine kL _ _ _ (λn hn=>?_) (λn hn _=>?_)
    ·simp only[Ay];exact e3 n (by simpa using hn)
    ·simp only[Ay];split
     ·rename_i h;rw[h,hv]
     ·rfl
   have hun2:xAn (listed.setIfInBounds i true)=fuel:=by have:=xB2 hun;omega
   have hcl3:closed ops md (λj=>(listed.setIfInBounds i true).getD j false):=by
    intro j p hp hj m hm;have hjl:j<ops.size:=(Ca.1 hp).1;have hml:m<ops.size:=Nat.lt_trans (xCh hf hp hm) hjl;have hj2:(j==i||listed.getD j false)=true:=(e3 j hjl).trans hj;exact(e3 m hml).symm.trans (xQ j p hp hj2 m hm)
   have h1:=hV i o hol α (λj=>listed.getD j false) w (by rw[Ay];exact hlf) hcl (by rw[Ay];exact xQ) hw;simp only[Ay] at h1;rcases h1 with ⟨hNi,h1⟩|⟨hNi,h1⟩
   ·have h2:=mvE h1;rw[<-hsz2 α] at h2;refine h2.wpOp ho λb w' hw'=>?_
    rw[nxt (xLu α i b) b (by
     rcases hW i o hol with ⟨_,h⟩|⟨h,_⟩
     ·rw[Ay] at h;rw[h,zL]
     ·rw[Ay] at h;rw[hNi] at h;cases h) (λn hn hl=>by
     obtain⟨p,hp⟩:∃p,ops.toList[n]?=some p:=⟨ops[n],by rw[Array.getElem?_toList,Cb hn]⟩;rcases hW n p hp with ⟨_,h⟩|⟨_,h|h⟩
     ·rw[Ay] at h;rw[h,h,xGq _ _ _ (λe=>by rw[e,hlf] at hl;cases hl)]
     ·have hin:i∈deps md p:=by
       have:=Bv.1 h i (by simpa using hNi);simpa using this
      have hcl9:listed.getD i false=true:=hcl n p (by simpa using hp) hl i hin;rw[hlf] at hcl9;cases hcl9
     ·rw[Ay] at h;exact h _ _)]
    refine ih _ _ w' (by simpa using hsz) hun2 hcl3 (hE _ _ _ _ _ (λe he=>e3 e (hEl e he)) (λ_ _ _=>rfl) hw')
   ·have h2:=mv h1;rw[<-hsz2 α] at h2;refine h2.wpOp ho λw' hw'=>?_;rw[nxt α _ rfl (λ_ _ _=>rfl)];refine ih _ _ w' (by simpa using hsz) hun2 hcl3 (hE _ _ _ _ _ (λe he=>?_) (λ_ _ _=>rfl) hw');rcases he with he|he
    ·rw[xIp (L':=λj=>listed.getD j false) (λ_ _=>rfl) e he];exact e3 e (hEl e (.inl he))
    ·have hne:e≠i:=λh=>by
       rw[h] at he;have:N.contains i=true:=by simpa using he
       rw[hNi] at this;cases this
     rw[<-e3 e (hEl e (.inr he))];have h9:(e==i)=false:=by simpa using hne
     unfold upd;split<;>simp[h9]
 have:=main ops.size (Array.replicate ops.size false) α0 w0 σ (by unfold xAn;simp) (λj p hp hj=>by
  have hjl:j<ops.size:=(Ca.1 hp).1;simp[hjl] at hj) (hE _ _ _ _ _ (λe he=>by
  have:=hEl e he;simp[this]) (λ_ _ h=>by cases h) hI)
 rw[xDg _ _ _ (λn hn=>by
  have hn':n<ops.size:=by simpa using hn
  simp[hn'])] at this
 exact this
theorem vE {id:Nat} {l:List Oper} {a:Act} {w:World} (E N:List Nat) (J:(Nat->Bool)->Pv->World->Prop) (hE:∀L L' α α' w,(∀e,e∈E∨e∈N->L e=L' e)->(∀e∈N,L e=true->α e=α' e)->J L α w->J L' α' w) (hm:P.follows .mixedOrders=true) (hf:xL7 .any l.toArray=true) (hEl:((E++N).all λe=>decide (e<l.length))=true) (hI:J (λ_=>false) (λ_=>undef) w.drew)
  (h:qM P l.toArray .any E N J (λα a=>∀w,J (λ_=>true) α w->Q .normal a w) l 0 (λ_=>a)):(Code.region id l.toArray true).wp P Q a w:=
 wp_region_any hm (xLf (λ_=>undef) hf hE (λe he=>by have:=Bv.1 hEl e (by simpa using he);simpa using this) hI (by simpa using h))
end
section
variable {P:Program} {ops:Array Oper} {Q:Exit->Act->World->Prop} {md:Region.Mode} {E:List Nat} {I:(Nat->Bool)->World->Prop}
theorem yJ1 {K:Act->Prop} (hE:∀L L' w,(∀e∈E,L e=L' e)->I L w->I L' w):∀(os:List Oper) (i:Nat) (a:Act) (w0:World),I (below i) w0->(∀n o,os[n]?=some o->ops[i+n]?=some o/\∀j∈deps md o,j<i+n)->qN P ops md E I K os i a->
  qM P ops md E [] (λL _ w=>I L w) (λ_ A=>K A) os i (λ_=>a)
 |[],_,_,_,_,_,h=>λ_=>h
 |o::os,i,a,w0,hI,hdp,h=>by
  obtain⟨A,hd,h1,h2⟩:=h;have h10:=h1 (below i) w0 (by simp[below]) (λj hj=>by have:=(hdp 0 o rfl).2 j hj;simpa[below] using this) hI;obtain⟨u,rfl⟩:=xUu hd h10;obtain⟨w1,hI1⟩:=xXr h10
  have hI2:I (below (i+1)) w1:=hE _ _ _ (λe he=>by rw[xIp (L':=below i) (λ_ _=>rfl) e he];exact xYu i e) hI1;refine .inr ⟨rfl,λ_=>a.put o.dst u,λ_=>u,λ_=>rfl,.inr (λ_ _=>rfl),λ_ L w h0 _ hc2 hw=>h1 L w h0 (λj hj=>?_) hw,yJ1 hE os (i+1) _ w1 hI2 (λn p hp=>?_) h2⟩
  ·have hlt:=(hdp 0 o rfl).2 j hj;have:=hc2 i o (hdp 0 o rfl).1 σ j hj;simpa[show j≠i by omega] using this
  ·have:=hdp (n+1) p (by simpa using hp);rw[show i+1+n=i+(n+1) by omega];exact this
theorem vL {id:Nat} {l:List Oper} {a:Act} {w:World} (E:List Nat) (I:(Nat->Bool)->World->Prop) (hE:∀L L' w,(∀e∈E,L e=L' e)->I L w->I L' w) (hm:P.follows .mixedOrders=true) (hf:xL7 .any l.toArray=true) (hEl:(E.all λe=>decide (e<l.length))=true) (hI:I (λ_=>false) w.drew)
  (h:qN P l.toArray .any E I (λa=>∀w,I (λ_=>true) w->Q .normal a w) l 0 a):(Code.region id l.toArray true).wp P Q a w:=
 wp_region_any hm (xLf (N:=[]) (J:=λL _ w=>I L w) (λ_=>undef) hf (λL L' _ _ w hl _ hw=>hE L L' w (λe he=>hl e (.inl he)) hw) (λe he=>by
  have:=Bv.1 hEl e (by simpa using he);simpa using this) hI (by
  have:=yJ1 hE l 0 a w.drew (hE _ _ _ (λe _=>by simp[below]) hI) (λn o ho=>⟨by simpa using ho,λj hj=>by rw[Ay];exact xCh hf (by simpa using ho) hj⟩) h;simpa using this))
theorem det_L {I:World->Prop} {K:Act->Prop}:∀(os:List Oper) (i:Nat) (a:Act),xFc P ops I K os a->qN P ops md [] (λ_ w=>I w) K os i a
 |[],_,_,h=>h
 |_::os,i,_,⟨A,hd,h1,h2⟩=>⟨A,hd,λ_ w _ _ hw=>h1 w hw,det_L os (i+1) A h2⟩
theorem xU {id:Nat} {l:List Oper} {a:Act} {w:World} (I:World->Prop) (hm:P.follows .mixedOrders=true) (hf:xL7 .any l.toArray=true) (hI:I w.drew)
  (h:xFc P l.toArray I (λa=>∀w,I w->Q .normal a w) l a):(Code.region id l.toArray true).wp P Q a w:=
 vL [] (λ_ w=>I w) (λ_ _ _ _ h=>h) hm hf rfl hI (det_L l 0 a h)
end
end Go.Proofs.RG
namespace Go.Proofs.RG
theorem xP9 {P:Program} {ops:Array Oper} {Q:Exit->Act->World->Prop} {I:World->Prop} {K:Act->Prop} (hK:∀A w,K A->I w->Q .normal A w):
  ∀(os:List Oper) (i:Nat) (a:Act) (w:World),(∀n,n<os.length->ops[i+n]?=os[n]?)->xFc P ops I K os a->I w->wpOps P ops Q (List.range' i os.length) a w
 |[],i,a,w,_,h,hI=>by
  rw[Dq,List.range'_zero];exact hK _ _ h hI
 |o::os,i,a,w,ho,h,hI=>by
  obtain⟨A,hd,h1,h2⟩:=h;obtain⟨u,rfl⟩:=xUu hd (h1 w hI);rw[Bl,List.range'_succ,wpOps_cons];refine One.wpOp (i:=i) (by have:=ho 0 σ;simpa using this) (xFv (h1 w hI)) (λw' ι=>?_)
  exact xP9 hK os (i+1) _ w' (λn hn=>by have:=ho (n+1) (by simpa using hn);simpa[Nat.add_assoc,Nat.add_comm 1 n] using this) h2 ι
theorem zT {P:Program} {Q:Exit->Act->World->Prop} {id:Nat} {l:List Oper} {a:Act} {w:World} (I:World->Prop) (hI:I w) (h:xFc P l.toArray I (λA=>∀w,I w->Q .normal A w) l a):(Code.region id l.toArray false).wp P Q a w:=
 wp_region (by
  rw[List.range_eq_range',show l.toArray.size=l.length by simp];exact xP9 (λA w hk hi=>hk w hi) l 0 a w (λn _=>by simp) h hI)
theorem yBm {P:Program} {ops:Array Oper} {I:World->Prop} {a A:Act} {w:World} {o:Oper} (hw:Region.wanted o (yielded ops a.tmps)=false) (hA:a.put o.dst undef=A) (hI:I w):wpList P ops (Only I A) [o] a w:=
 wpList_skip hw (by rw[hA];exact xE hI)
def CI (ops:Array Oper) (md:Region.Mode) (I:(Nat->Bool)->World->Prop) (L:Nat->Bool) (w:World):Prop:=closed ops md L/\I L w
theorem xS {P:Program} {ops:Array Oper} {md:Region.Mode} {I:(Nat->Bool)->World->Prop} {K:Act->Prop} {n:Nat} {a:Act} {o:Oper} {os:List Oper} {i:Nat} {A:Act} (ho:ops[i]?=some o) (hi:(List.range n).contains i=true)
  (h:∀L w,L i=false->closed ops md L->closed ops md (λj=>j==i||L j)->I L w->wpList P ops (Only (CI ops md I (λj=>j==i||L j)) A) [o] a w) (hd:A.defers=a.defers)
  (h2:qN P ops md (List.range n) (CI ops md I) K os (i+1) A):qN P ops md (List.range n) (CI ops md I) K (o::os) i a:=by
 refine uV hi (λL w h0 hdp hw=>?_) hd h2;refine h L w h0 hw.1 (λj p hp hj m hm=>?_) hw.2
 by_cases e:j=i
 ·subst e;rw[ho] at hp;injection hp with hp;subst hp;simp[hdp m hm]
 ·have hj':L j=true:=by simpa[e] using hj
  simp[hw.1 j p hp hj' m hm]
theorem xV1 {P:Program} {ops:Array Oper} {md:Region.Mode} {E:List Nat} {I:(Nat->Bool)->World->Prop} {K K':Act->Prop} (hK:∀a,K a->K' a):∀(os:List Oper) (i:Nat) (a:Act),qN P ops md E I K os i a->qN P ops md E I K' os i a
 |[],_,a,h=>hK a h
 |_::os,i,_,⟨A,h1,h2,h3⟩=>⟨A,h1,h2,xV1 hK os (i+1) A h3⟩
theorem zA {P:Program} {Q:Exit->Act->World->Prop} {id:Nat} {l:List Oper} {a:Act} {w:World} (n:Nat) (I:(Nat->Bool)->World->Prop) (hI2:∀L L' w,(∀e,e<n->L e=L' e)->I L w->I L' w) (hm:P.follows .mixedOrders=true) (hf:xL7 .any l.toArray=true) (hn:l.length=n) (hI:I (λ_=>false) w.drew)
  (h:qN P l.toArray .any (List.range n) (CI l.toArray .any I) (λa=>∀w,I (λ_=>true) w->Q .normal a w) l 0 a):(Code.region id l.toArray true).wp P Q a w:=by
 refine vL (List.range n) (CI l.toArray .any I) (λL L' w he h=>⟨λi o ho hi j hj=>?_,hI2 L L' w (λe h=>he e (by simpa using h)) h.2⟩) hm hf (by simp;omega) ⟨λi o _ hi=>(by cases hi),hI⟩ ?_
 ·have hin:i<l.length:=by
   have:=(Ca.1 ho).1;simpa using this
  have hjn:j<l.length:=Nat.lt_trans (xCh hf ho hj) hin;rw[<-he j (by simp;omega)];exact h.1 i o ho (by rw[he i (by simp;omega)];exact hi) j hj
 ·refine xV1 ?_ _ _ _ h;intro a ha w hw;exact ha w hw.2
abbrev Pl:=Nat->Nat
abbrev ptr (b:Nat):Value:=.pointer (some (θ b 0))
def rM (α:Pl) (i b:Nat):Pl:=λj=>if j=i then b else α j
theorem xBs (α:Pl) (i b:Nat):rM α i b i=b:=by simp[rM]
theorem xDy (α:Pl) (i b:Nat) {j:Nat} (h:j≠i):rM α i b j=α j:=by simp[rM,h]
section
variable {P:Program} {ops:Array Oper} {Q:Exit->Act->World->Prop} {md:Region.Mode} {E N:List Nat} {J:(Nat->Bool)->Pl->World->Prop}
def vR (P:Program) (ops:Array Oper) (md:Region.Mode) (E N:List Nat) (J:(Nat->Bool)->Pl->World->Prop) (K:Pl->Act->Prop):List Oper->Nat->(Pl->Act)->Prop
 |[],_,a=>∀α,K α (a α)
 |o::os,i,a=>
  (N.contains i=true/\(∀α L w,L i=false->closed ops md L->J L α w->∃b,wpList P ops (Only (J (λj=>j==i||L j) (rM α i b)) ((a α).put o.dst (ptr b))) [o] (a α) w)/\vR P ops md E N J K os (i+1) (λα=>(a α).put o.dst (ptr (α i))))∨
  (N.contains i=false/\∃(A:Pl->Act) (v:Pl->Value),(∀α,A α=(a α).put o.dst (v α))/\(late md N o=true∨∀α α',v α=v α')/\
   (∀α L w,L i=false->closed ops md L->closed ops md (λj=>j==i||L j)->J L α w->wpList P ops (Only (J (upd E L i) α) (A α)) [o] (a α) w)/\vR P ops md E N J K os (i+1) A)
theorem kM {K:Pl->Act->Prop} {a:Pl->Act} {i:Nat} (h:∀α,K α (a α)):vR P ops md E N J K [] i a:=h
theorem xS1 {K:Pl->Act->Prop} {a:Pl->Act} {o:Oper} {os:List Oper} {i:Nat} {A:Nat->Pl->Act} (hi:N.contains i=true)
  (h:∀α L w b,b=w.heap.size->L i=false->closed ops md L->J L α w->wpList P ops (Only (J (λj=>j==i||L j) (rM α i b)) (A b α)) [o] (a α) w)
  (hd:∀b α,A b α=(a α).put o.dst (ptr b)) (h2:vR P ops md E N J K os (i+1) (λα=>A (α i) α)):vR P ops md E N J K (o::os) i a:=by
 refine .inl ⟨hi,λα L w h0 hc hw=>⟨w.heap.size,?_⟩,?_⟩
 ·rw[<-hd];exact h α L w _ rfl h0 hc hw
 ·have e:(λα=>(a α).put o.dst (ptr (α i)))=λα=>A (α i) α:=funext λα=>(hd _ _).symm;rw[e];exact h2
theorem pK {K:Pl->Act->Prop} {a:Pl->Act} {o:Oper} {os:List Oper} {i:Nat} {A:Pl->Act} {v:Value} (hi:N.contains i=false) (he:E.contains i=false)
  (h:∀α L w,L i=false->closed ops md L->closed ops md (λj=>j==i||L j)->J L α w->wpList P ops (Only (J L α) (A α)) [o] (a α) w) (hd:∀α,A α=(a α).put o.dst v) (h2:vR P ops md E N J K os (i+1) A):vR P ops md E N J K (o::os) i a:=
 .inr ⟨hi,A,λ_=>v,hd,.inr λ_ _=>rfl,λα L w h0 hc hc2 hw=>by unfold upd;rw[he];exact h α L w h0 hc hc2 hw,h2⟩
theorem xN1 {K:Pl->Act->Prop} {a:Pl->Act} {o:Oper} {os:List Oper} {i:Nat} {A:Pl->Act} {v:Value} (hi:N.contains i=false) (he:E.contains i=true)
  (h:∀α L w,L i=false->closed ops md L->closed ops md (λj=>j==i||L j)->J L α w->wpList P ops (Only (J (λj=>j==i||L j) α) (A α)) [o] (a α) w) (hd:∀α,A α=(a α).put o.dst v) (h2:vR P ops md E N J K os (i+1) A):vR P ops md E N J K (o::os) i a:=
 .inr ⟨hi,A,λ_=>v,hd,.inr λ_ _=>rfl,λα L w h0 hc hc2 hw=>by unfold upd;rw[he];exact h α L w h0 hc hc2 hw,h2⟩
theorem xKb {K:Pl->Act->Prop} {n0:Nat}:∀(os:List Oper) (i:Nat) (a:Pl->Act),(∀α,(a α).tmps.size=n0)->vR P ops md E N J K os i a->
  ∃V:Pl->Nat->Value,(∀n o,os[n]?=some o->∀α L w,L (i+n)=false->closed ops md L->closed ops md (λj=>j==i+n||L j)->J L α w->
   (N.contains (i+n)=true/\∃b,One P ops (J (λj=>j==i+n||L j) (rM α (i+n) b)) o (ptr b) n0 (fill (λj=>decide (j<i+n)) (V α) os i (a α)) w)∨
   (N.contains (i+n)=false/\One P ops (J (upd E L (i+n)) α) o (V α (i+n)) n0 (fill (λj=>decide (j<i+n)) (V α) os i (a α)) w))/\
   (∀n o,os[n]?=some o->(N.contains (i+n)=true/\∀α,V α (i+n)=ptr (α (i+n)))∨(N.contains (i+n)=false/\(late md N o=true∨∀α α',V α (i+n)=V α' (i+n))))/\
   ∀α,K α (fill (λ_=>true) (V α) os i (a α))
 |[],_,a,_,h=>⟨λ_ _=>undef,λn o ho=>by simp at ho,λn o ho=>by simp at ho,h⟩
 |o::os,i,a,hsz,h=>by
  have key:∀(A:Pl->Act) (v:Pl->Value),(∀α,A α=(a α).put o.dst (v α))->vR P ops md E N J K os (i+1) A->
    (∀α L w,L i=false->closed ops md L->closed ops md (λj=>j==i||L j)->J L α w->
     (N.contains i=true/\∃b,One P ops (J (λj=>j==i||L j) (rM α i b)) o (ptr b) n0 (a α) w)∨(N.contains i=false/\One P ops (J (upd E L i) α) o (v α) n0 (a α) w))->
    ((N.contains i=true/\∀α,v α=ptr (α i))∨(N.contains i=false/\(late md N o=true∨∀α α',v α=v α')))->
    ∃V:Pl->Nat->Value,(∀n p,(o::os)[n]?=some p->∀α L w,L (i+n)=false->closed ops md L->closed ops md (λj=>j==i+n||L j)->J L α w->
     (N.contains (i+n)=true/\∃b,One P ops (J (λj=>j==i+n||L j) (rM α (i+n) b)) p (ptr b) n0 (fill (λj=>decide (j<i+n)) (V α) (o::os) i (a α)) w)∨
     (N.contains (i+n)=false/\One P ops (J (upd E L (i+n)) α) p (V α (i+n)) n0 (fill (λj=>decide (j<i+n)) (V α) (o::os) i (a α)) w))/\
     (∀n p,(o::os)[n]?=some p->(N.contains (i+n)=true/\∀α,V α (i+n)=ptr (α (i+n)))∨(N.contains (i+n)=false/\(late md N p=true∨∀α α',V α (i+n)=V α' (i+n))))/\
     ∀α,K α (fill (λ_=>true) (V α) (o::os) i (a α)):=by
   intro A v hA h2 h1 hv;obtain⟨V,hV,hW,hK⟩:=xKb os (i+1) A (λα=>by rw[hA,xI2];exact hsz α) h2
   have hc:∀(α:Pl) (L:Nat->Bool) (b:Act),fill L (λj=>if j=i then v α else V α j) os (i+1) b=fill L (V α) os (i+1) b:=λα L b=>
    kL os (i+1) b (λ_ _=>rfl) (λn _ _=>by rw[Ag ω])
   refine⟨λα j=>if j=i then v α else V α j,λn p hp α L w hL hcl xQ hw=>?_,λn p hp=>?_,λα=>?_⟩
   ·cases n with
    |zero=>
     obtain rfl:o=p:=by simpa using hp
     simp only[Db,if_true];rw[xDg _ _ _ (λn _=>by simp)];exact h1 α L w (by simpa using hL) hcl (by simpa using xQ) hw
    |succ n=>
     have e3:i+1+n=i+(n+1):=ω;have:=hV n p (by simpa using hp) α L w (by rw[e3];exact hL) hcl (by rw[e3];exact xQ) hw;have e1:¬i+(n+1)=i:=ω;simp only[e1,if_false];unfold fill;simp only[if_true];rw[Ah σ,hc,<-e3,<-hA];exact this
   ·cases n with
    |zero=>
     obtain rfl:o=p:=by simpa using hp
     simpa using hv
    |succ n=>
     have:=hW n p (by simpa using hp);have e1:¬i+(n+1)=i:=ω;simp only[e1,if_false];rw[show i+(n+1)=i+1+n by omega];exact this
   ·unfold fill;simp only[if_true];rw[hc,<-hA];exact hK α
  rcases h with ⟨hi,h1,h2⟩|⟨hi,A,v,hA,hv,h1,h2⟩
  ·refine key _ (λα=>ptr (α i)) (λ_=>rfl) h2 (λα L w h0 hcl _ hw=>.inl ⟨hi,?_⟩) (.inl ⟨hi,λ_=>rfl⟩);obtain⟨b,hb⟩:=h1 α L w h0 hcl hw;exact⟨b,by have:=xFv hb;rwa [hsz α] at this⟩
  ·refine key A v hA h2 (λα L w h0 hcl xQ hw=>.inr ⟨hi,?_⟩) (.inr ⟨hi,hv⟩);have:=h1 α L w h0 hcl xQ hw;rw[hA α] at this;have:=xFv this
   rwa [hsz α] at this
theorem xWq {a0:Act} {w0:World} (α0:Pl) (hf:fits md ops=true) (hE:∀L L' α α' w,(∀e,e∈E∨e∈N->L e=L' e)->(∀e∈N,L e=true->α e=α' e)->J L α w->J L' α' w) (hEl:∀e,e∈E∨e∈N->e<ops.size) (hI:J (λ_=>false) α0 w0)
  (h:vR P ops md E N J (λα a=>∀w,J (λ_=>true) α w->Q .normal a w) ops.toList 0 (λ_=>a0)):wpAny P md ops Q ops.size (Array.replicate ops.size false) a0 w0:=by
 obtain⟨V,hV,hW,hK⟩:=xKb (n0:=a0.tmps.size) ops.toList 0 (λ_=>a0) (λ_=>rfl) h;have hs:Region.noSelect ops=true:=by unfold fits at hf;rw[Au] at hf;exact hf.1
 have main:∀(fuel:Nat) (listed:Array Bool) (α:Pl) (w:World),listed.size=ops.size->xAn listed=fuel->closed ops md (λj=>listed.getD j false)->J (λj=>listed.getD j false) α w->
   wpAny P md ops Q fuel listed (fill (λj=>listed.getD j false) (V α) ops.toList 0 a0) w:=by
  intro fuel
  have hfin:∀(listed:Array Bool) (α:Pl) (w:World),listed.size=ops.size->J (λj=>listed.getD j false) α w->Region.ready md ops listed=[]->Q .normal (fill (λj=>listed.getD j false) (V α) ops.toList 0 a0) w:=by
   intro listed α w hsz hw hr
   have hall:∀j,j<ops.size->listed.getD j true=true:=by
    intro j
    induction j using Nat.strongRecOn with
    |_ j ih=>
     intro hj;cases hc:listed.getD j true with
     |true=>rfl
     |false=>
      have:j∈Region.ready md ops listed:=mem_ready.2 ⟨hc,ops[j],Cb hj,λe he hb=>by
       have hlt:=xOc hf (Cb hj) (xIa.2 ⟨e,he,hb,rfl⟩);have:=ih e.on hlt ω;simp only[Ci] at this⊢;rw[Cb ω] at this⊢;simpa using this⟩
      rw[hr] at this;cases this
   have yD2:∀j,j<ops.size->listed.getD j false=true:=λj hj=>by
    have:=hall j hj;simp only[Ci] at this⊢;rw[Cb ω] at this⊢;simpa using this
   have e:fill (λj=>listed.getD j false) (V α) ops.toList 0 a0=fill (λ_=>true) (V α) ops.toList 0 a0:=kL _ _ _ (λn hn=>by
    have hn':n<ops.size:=by simpa using hn
    rw[Ay];exact yD2 n hn') (λ_ _ _=>rfl)
   rw[e];exact hK α w (hE _ _ _ _ _ (λe he=>yD2 e (hEl e he)) (λ_ _ _=>rfl) hw)
  induction fuel with
  |zero=>
   intro listed α w hsz hu hcl hw
   have hr:Region.ready md ops listed=[]:=by
    cases hc:Region.ready md ops listed with
    |nil=>rfl
    |cons j _=>
     have hm:j∈Region.ready md ops listed:=by rw[hc];simp
     have:=xB2 (mem_ready.1 hm).1;omega
   exact⟨hr,hfin listed α w hsz hw hr⟩
  |succ fuel ih=>
   intro listed α w hsz hu hcl hw;refine⟨hfin listed α w hsz hw,λi hi=>?_⟩;obtain⟨hun,o,ho,yLi⟩:=mem_ready.1 hi;have hilt:i<ops.size:=(Ca.1 ho).1
   have hlf:listed.getD i false=false:=by
    simp only[Ci] at hun⊢;rw[Cb ω] at hun⊢;simpa using hun
   have hol:ops.toList[i]?=some o:=by simpa using ho
   have hdone:∀j,j∈deps md o->listed.getD j false=true:=λj hj=>by
    obtain⟨e,he,hb,rfl⟩:=xIa.1 hj;have hlt:=xOc hf ho hj;have:=yLi e he hb;simp only[Ci] at this⊢;rw[Cb ω] at this⊢;simpa using this
   have xQ:closed ops md (λj=>j==i||listed.getD j false):=by
    intro j p hp hj m hm
    by_cases e:j=i
    ·subst e;rw[ho] at hp;injection hp with hp;subst hp;simp[hdone m hm]
    ·have hj':listed.getD j false=true:=by
      have e9:(j==i)=false:=by simpa using e
      simpa[e9] using hj
     have:=hcl j p hp hj' m hm;simp only[this,Bool.or_true]
   have hsz2:∀β:Pl,(fill (λj=>listed.getD j false) (V β) ops.toList 0 a0).tmps.size=a0.tmps.size:=λ_=>xK2 _ _ _
   have mv:∀{I:World->Prop} {v:Value},One P ops I o v a0.tmps.size (fill (λj=>decide (j<i)) (V α) ops.toList 0 a0) w->One P ops I o v a0.tmps.size (fill (λj=>listed.getD j false) (V α) ops.toList 0 a0) w:=by
    intro I v h1;refine h1.move (λcs d=>Region.noSelect_spec hs i o cs d ho) λt ht=>?_;refine xE9 _ _ _ _ rfl rfl λn p hp hd=>?_;have hp':ops[n]?=some p:=by simpa using hp
    simp only[Ay]
    by_cases hni:i=n
    ·subst hni;rw[hlf];simp
    ·have hn:=(xVt hf ho hp' hni hd).2 ht;have hlt:=xOc hf ho hn;rw[hdone n hn];simpa using hlt
   have e3:∀n,n<ops.size->(n==i||listed.getD n false)=(listed.setIfInBounds i true).getD n false:=λn hn=>by
    by_cases hni:i=n
    ·subst hni;simp only[BEq.rfl,Bool.true_or,Ci];rw[Array.getElem?_setIfInBounds_self_of_lt ω]
     rfl
    ·rw[getD_set_ne false hni];have:(n==i)=false:=by simp;omega
     rw[this,Fu]
   have nxt:∀(β:Pl) (v:Value),V β i=v->(∀n,n<ops.size->listed.getD n false=true->V β n=V α n)->(fill (λj=>listed.getD j false) (V α) ops.toList 0 a0).put o.dst v=fill (λj=>(listed.setIfInBounds i true).getD j false) (V β) ops.toList 0 a0:=by
    intro β v hv hsame
    have e0:fill (λj=>listed.getD j false) (V α) ops.toList 0 a0=fill (λj=>listed.getD j false) (V β) ops.toList 0 a0:=kL _ _ _ (λ_ _=>rfl) (λn hn hl=>by
     have hn':n<ops.size:=by simpa using hn
     simp only[Ay] at hl⊢;exact(hsame n hn' hl).symm)
    rw[e0]
    have e:=xOd (L:=λj=>listed.getD j false) (V:=V β) (v:=v) ops.toList 0 i o a0 hol (by rw[Ay];exact hlf) (λm p e hp hne he=>by
     have hp':ops[m]?=some p:=by simpa using hp
     exact(xVt hf hp' ho hne he).1)
    rw[e];refine kL _ _ _ (λn hn=>?_) (λn hn _=>?_)
    ·simp only[Ay];exact e3 n (by simpa using hn)
    ·simp only[Ay];split
     ·rename_i h;rw[h,hv]
     ·rfl
   have hun2:xAn (listed.setIfInBounds i true)=fuel:=by have:=xB2 hun;omega
   have hcl3:closed ops md (λj=>(listed.setIfInBounds i true).getD j false):=by
    intro j p hp hj m hm;have hjl:j<ops.size:=(Ca.1 hp).1;have hml:m<ops.size:=Nat.lt_trans (xOc hf hp hm) hjl;have hj2:(j==i||listed.getD j false)=true:=(e3 j hjl).trans hj;exact(e3 m hml).symm.trans (xQ j p hp hj2 m hm)
   have h1:=hV i o hol α (λj=>listed.getD j false) w (by rw[Ay];exact hlf) hcl (by rw[Ay];exact xQ) hw;simp only[Ay] at h1;rcases h1 with ⟨hNi,b,h1⟩|⟨hNi,h1⟩
   ·have h2:=mv h1;rw[<-hsz2 α] at h2;refine h2.wpOp ho λw' hw'=>?_
    rw[nxt (rM α i b) (ptr b) (by
     rcases hW i o hol with ⟨_,h⟩|⟨h,_⟩
     ·rw[Ay] at h;rw[h,xBs]
     ·rw[Ay] at h;rw[hNi] at h;cases h) (λn hn hl=>by
     obtain⟨p,hp⟩:∃p,ops.toList[n]?=some p:=⟨ops[n],by rw[Array.getElem?_toList,Cb hn]⟩;rcases hW n p hp with ⟨_,h⟩|⟨_,h|h⟩
     ·rw[Ay] at h;rw[h,h,xDy _ _ _ (λe=>by rw[e,hlf] at hl;cases hl)]
     ·have hin:i∈deps md p:=by
       have:=Bv.1 h i (by simpa using hNi);simpa using this
      have hcl9:listed.getD i false=true:=hcl n p (by simpa using hp) hl i hin;rw[hlf] at hcl9;cases hcl9
     ·rw[Ay] at h;exact h _ _)]
    refine ih _ _ w' (by simpa using hsz) hun2 hcl3 (hE _ _ _ _ _ (λe he=>e3 e (hEl e he)) (λ_ _ _=>rfl) hw')
   ·have h2:=mv h1;rw[<-hsz2 α] at h2;refine h2.wpOp ho λw' hw'=>?_;rw[nxt α _ rfl (λ_ _ _=>rfl)];refine ih _ _ w' (by simpa using hsz) hun2 hcl3 (hE _ _ _ _ _ (λe he=>?_) (λ_ _ _=>rfl) hw');rcases he with he|he
    ·rw[xIp (L':=λj=>listed.getD j false) (λ_ _=>rfl) e he];exact e3 e (hEl e (.inl he))
    ·have hne:e≠i:=λh=>by
       rw[h] at he;have:N.contains i=true:=by simpa using he
       rw[hNi] at this;cases this
     rw[<-e3 e (hEl e (.inr he))];have h9:(e==i)=false:=by simpa using hne
     unfold upd;split<;>simp[h9]
 have:=main ops.size (Array.replicate ops.size false) α0 w0 σ (by unfold xAn;simp) (λj p hp hj=>by
  have hjl:j<ops.size:=(Ca.1 hp).1;simp[hjl] at hj) (hE _ _ _ _ _ (λe he=>by
  have:=hEl e he;simp[this]) (λ_ _ h=>by cases h) hI)
 rw[xDg _ _ _ (λn hn=>by
  have hn':n<ops.size:=by simpa using hn
  simp[hn'])] at this
 exact this
theorem rR {id:Nat} {l:List Oper} {a:Act} {w:World} (E N:List Nat) (J:(Nat->Bool)->Pl->World->Prop) (hE:∀L L' α α' w,(∀e,e∈E∨e∈N->L e=L' e)->(∀e∈N,L e=true->α e=α' e)->J L α w->J L' α' w) (hm:P.follows .mixedOrders=true) (hf:fits .any l.toArray=true) (hEl:((E++N).all λe=>decide (e<l.length))=true) (hI:J (λ_=>false) (λ_=>0) w.drew)
  (h:vR P l.toArray .any E N J (λα a=>∀w,J (λ_=>true) α w->Q .normal a w) l 0 (λ_=>a)):(Code.region id l.toArray true).wp P Q a w:=
 wp_region_any hm (xWq (λ_=>0) hf hE (λe he=>by have:=Bv.1 hEl e (by simpa using he);simpa using this) hI (by simpa using h))
end
end Go.Proofs.RG
namespace Go.Proofs.RG
section
variable {P:Program} {ops:Array Oper} {md:Region.Mode}
theorem dS {I:World->Prop} {K:Act->Prop} {a A:Act} {o:Oper} {os:List Oper} (h2:xFc P ops I K os A) (h:∀w,I w->wpList P ops (Only I A) [o] a w:=by
 intro w9 hw9;repeat go_step
 exact RG.xE hw9) (hd:A.defers=a.defers:=by rfl):xFc P ops I K (o::os) a:=⟨A,hd,h,h2⟩
theorem kS {I:World->Prop} {K:Act->Prop} {a A:Act} {o:Oper} {os:List Oper} (h2:xFc P ops I K os A) (h:∀w,I w->wpList P ops (Only I A) [o] a w:=by
 intro w9 hw9;exact RG.yBm (by rfl) rfl hw9) (hd:A.defers=a.defers:=by rfl):xFc P ops I K (o::os) a:=⟨A,hd,h,h2⟩
theorem dF {I F:World->Prop} {K:Act->Prop} {a A:Act} {o:Oper} {os:List Oper} (f:∀w,I w->F w) (h2:xFc P ops I K os A) (h:∀w,I w->F w->wpList P ops (Only I A) [o] a w:=by
 intro w9 hw9 hf;repeat (obtain⟨_,hf⟩:=hf)
 repeat go_step
 exact RG.xE hw9) (hd:A.defers=a.defers:=by rfl):xFc P ops I K (o::os) a:=⟨A,hd,λw hw=>h w hw (f w hw),h2⟩
theorem callH {f:FuncId} {args:Array Value} {w:World} {p:World->Ending->World->Prop} {q:Ending->World->Prop} (H:Go.RowKit.Hid (∀W,Calls P f args W (p W))) (k:∀e w',p w e w'->q e w'):Calls P f args w q:=(H.o w).mono k
section
variable {E N:List Nat} {i:Nat} {o:Oper} {os:List Oper}
theorem lS {I:(Nat->Bool)->World->Prop} {K:Act->Prop} {a A:Act} (h2:qN P ops md E I K os (i+1) A) (hi:E.contains i=false:=by rfl) (h:∀L w,I L w->wpList P ops (Only (I L) A) [o] a w:=by
 intro L w9 hw9;repeat go_step
 exact RG.xE hw9) (hd:A.defers=a.defers:=by rfl):qN P ops md E I K (o::os) i a:=xHd hi h hd h2
theorem aS {J:(Nat->Bool)->Pl->World->Prop} {K:Pl->Act->Prop} {a A:Pl->Act} {v:Value} (h2:vR P ops md E N J K os (i+1) A) (hi:N.contains i=false:=by rfl) (he:E.contains i=false:=by rfl) (h:∀α L w,L i=false->closed ops md L->closed ops md (λj=>j==i||L j)->J L α w->wpList P ops (Only (J L α) (A α)) [o] (a α) w:=by
 intro α L w9 h0 hcl xQ hw9;repeat go_step
 exact RG.xE hw9) (hd:∀α,A α=(a α).put o.dst v:=by intro α;rfl):vR P ops md E N J K (o::os) i a:=pK hi he h hd h2
theorem vS {J:(Nat->Bool)->Pv->World->Prop} {K:Pv->Act->Prop} {a A:Pv->Act} {v:Value} (h2:qM P ops md E N J K os (i+1) A) (hi:N.contains i=false:=by rfl) (he:E.contains i=false:=by rfl) (h:∀α L w,L i=false->closed ops md L->closed ops md (λj=>j==i||L j)->J L α w->wpList P ops (Only (J L α) (A α)) [o] (a α) w:=by
 intro α L w9 h0 hcl xQ hw9;repeat go_step
 exact RG.xE hw9) (hd:∀α,A α=(a α).put o.dst v:=by intro α;rfl):qM P ops md E N J K (o::os) i a:=zR hi he h hd h2
theorem lF {I:(Nat->Bool)->World->Prop} {F:(Nat->Bool)->World->Prop} {K:Act->Prop} {a A:Act} (f:∀L w,I L w->F L w) (h2:qN P ops md E I K os (i+1) A) (hi:E.contains i=false:=by rfl) (h:∀L w,I L w->F L w->wpList P ops (Only (I L) A) [o] a w:=by
 intro L w9 hw9 hf;repeat (obtain⟨_,hf⟩:=hf)
 repeat go_step
 exact RG.xE hw9) (hd:A.defers=a.defers:=by rfl):qN P ops md E I K (o::os) i a:=xHd hi (λL w hw=>h L w hw (f L w hw)) hd h2
theorem cS {I:(Nat->Bool)->World->Prop} {K:Act->Prop} {n:Nat} {a A:Act} (h2:qN P ops md (List.range n) (CI ops md I) K os (i+1) A) (ho:ops[i]?=some o:=by rfl) (hi:(List.range n).contains i=true:=by rfl) (h:∀L w,L i=false->closed ops md L->closed ops md (λj=>j==i||L j)->I L w->wpList P ops (Only (CI ops md I (λj=>j==i||L j)) A) [o] a w:=by
 intro L w9 h0 hcl xQ hw9;repeat go_step
 refine RG.xE ?_;exact⟨xQ,hw9⟩) (hd:A.defers=a.defers:=by rfl):qN P ops md (List.range n) (CI ops md I) K (o::os) i a:=xS ho hi h hd h2
theorem cF {I:(Nat->Bool)->World->Prop} {F:(Nat->Bool)->World->Prop} {K:Act->Prop} {n:Nat} {a A:Act} (f:∀L w,L i=false->closed ops md L->closed ops md (λj=>j==i||L j)->I L w->F L w) (h2:qN P ops md (List.range n) (CI ops md I) K os (i+1) A) (ho:ops[i]?=some o:=by rfl) (hi:(List.range n).contains i=true:=by rfl) (h:∀L w,L i=false->closed ops md L->closed ops md (λj=>j==i||L j)->I L w->F L w->wpList P ops (Only (CI ops md I (λj=>j==i||L j)) A) [o] a w:=by
 intro L w9 h0 hcl xQ hw9 hf;repeat (obtain⟨_,hf⟩:=hf)
 repeat go_step
 refine RG.xE ?_;exact⟨xQ,hw9⟩) (hd:A.defers=a.defers:=by rfl):qN P ops md (List.range n) (CI ops md I) K (o::os) i a:=xS ho hi (λL w h0 hc hc2 hw=>h L w h0 hc hc2 hw (f L w h0 hc hc2 hw)) hd h2
theorem aF {J:(Nat->Bool)->Pl->World->Prop} {F:Pl->(Nat->Bool)->World->Prop} {K:Pl->Act->Prop} {a A:Pl->Act} {v:Value} (f:∀α L w,L i=false->closed ops md L->closed ops md (λj=>j==i||L j)->J L α w->F α L w) (h2:vR P ops md E N J K os (i+1) A) (hi:N.contains i=false:=by rfl) (he:E.contains i=false:=by rfl) (h:∀α L w,L i=false->closed ops md L->closed ops md (λj=>j==i||L j)->J L α w->F α L w->wpList P ops (Only (J L α) (A α)) [o] (a α) w:=by
 intro α L w9 h0 hcl xQ hw9 hf;repeat (obtain⟨_,hf⟩:=hf)
 repeat go_step
 exact RG.xE hw9) (hd:∀α,A α=(a α).put o.dst v:=by intro α;rfl):vR P ops md E N J K (o::os) i a:=pK hi he (λα L w h0 hc hc2 hw=>h α L w h0 hc hc2 hw (f α L w h0 hc hc2 hw)) hd h2
theorem vF {J:(Nat->Bool)->Pv->World->Prop} {F:Pv->(Nat->Bool)->World->Prop} {K:Pv->Act->Prop} {a A:Pv->Act} {v:Value} (f:∀α L w,L i=false->closed ops md L->closed ops md (λj=>j==i||L j)->J L α w->F α L w) (h2:qM P ops md E N J K os (i+1) A) (hi:N.contains i=false:=by rfl) (he:E.contains i=false:=by rfl) (h:∀α L w,L i=false->closed ops md L->closed ops md (λj=>j==i||L j)->J L α w->F α L w->wpList P ops (Only (J L α) (A α)) [o] (a α) w:=by
 intro α L w9 h0 hcl xQ hw9 hf;repeat (obtain⟨_,hf⟩:=hf)
 repeat go_step
 exact RG.xE hw9) (hd:∀α,A α=(a α).put o.dst v:=by intro α;rfl):qM P ops md E N J K (o::os) i a:=zR hi he (λα L w h0 hc hc2 hw=>h α L w h0 hc hc2 hw (f α L w h0 hc hc2 hw)) hd h2
end
end
end Go.Proofs.RG
namespace Go.Proofs.MM
open Go.RowKit
abbrev xR (l:List UInt8):Value:=.string ⟨l.toArray⟩
theorem xPs {fn:Func} {t u v x:Tmp} (h:fn.results=#[.tmp t,.tmp u,.tmp v,.tmp x]) (tmps:Array Value) (P:Program) (w:World):
  (results fn tmps).run P w=.ok (.tuple #[tmps.getD t undef,tmps.getD u undef,tmps.getD v undef,tmps.getD x undef]) w:=by simp[results,h]
def xWm (w:World) (base:Nat) (v:Value) (xs:List (List UInt8)):Prop:=w.ownsRow base 9 1 v xs.length (xs.map xR)
theorem xWm.nil (w:World) (base:Nat):xWm w base (.slice none 0 0) []:=World.ownsRow_nil w base _ _
theorem xWm.form {w:World} {base:Nat} {v:Value} {xs:List (List UInt8)} (h:xWm w base v xs):∃A c,v=.slice A xs.length c/\xs.length<=c:=by
 rcases h.2 with ⟨h1,h2⟩|⟨g,cap,cur,h1,_,_,h2,_⟩
 ·exact⟨none,0,by rw[h1,h2],ω⟩
 ·exact⟨_,_,h1,h2⟩
theorem xEq {w w':World} (h:ψ w w') (row:Option Nat):w.grownBy w' row:=⟨h.os,h.tape,h.output,h.size,λk hk _=>h.block k hk⟩
theorem below_drewN {B:Nat} {a w:World} (h:Below B a w) (n:Nat):Below B a (w.drewN n):=⟨h.os,h.tape,h.output,h.size,h.block⟩
theorem loc_of {v:Value} {g n cap H:Nat} (h:v.ownBlock=some g∨g=H):(Value.slice (some (θ g 0)) n cap).ownBlock=v.ownBlock∨(Value.slice (some (θ g 0)) n cap).ownBlock=some H:=by
 rcases h with h|rfl
 ·exact .inl h.symm
 ·exact .inr rfl
theorem xA {w:World} {g:Nat} {t:TypeId} {cs:Array Value} (h:w.heap[g]?=some (.cells cs t (0,0))) (i:Nat):w.cell? (θ g i)=cs[i]?:=Ga w g i cs t (0,0) h
theorem xG {w:World} {g:Nat} {t:TypeId} {cs:Array Value} (h:w.heap[g]?=some (.cells cs t (0,0))) (i:Nat):w.frozen? (θ g i)=false:=by simp[World.frozen?,h]
theorem yD {w:World} {g:Nat} {t:TypeId} {cs:Array Value} (h:w.heap[g]?=some (.cells cs t (0,0))) (i:Nat) (u:Value):(w.setCell (θ g i) u).heap[g]?=some (.cells (cs.setIfInBounds i u) t (0,0)):=by
 simp[World.setCell,Array.getElem?_modify,h]
theorem _root_.xR9 {w:World} {g:Nat} {t:TypeId} {c0:Value} {l:List Value} (h:w.heap[g]?=some (.cells (c0::l).toArray t (0,0))):w.cell? ⟨g,0,none⟩=some c0:=(xA h 0).trans σ
theorem _root_.uQ {w:World} {g:Nat} {t:TypeId} {c0 c1:Value} {l:List Value} (h:w.heap[g]?=some (.cells (c0::c1::l).toArray t (0,0))):w.cell? ⟨g,0,none⟩=some c0/\w.cell? ⟨g,1,none⟩=some c1:=⟨(xA h 0).trans σ,(xA h 1).trans σ⟩
theorem _root_.xAs {w:World} {g:Nat} {t:TypeId} {c0 c1 c2:Value} {l:List Value} (h:w.heap[g]?=some (.cells (c0::c1::c2::l).toArray t (0,0))):w.cell? ⟨g,0,none⟩=some c0/\w.cell? ⟨g,1,none⟩=some c1/\w.cell? ⟨g,2,none⟩=some c2:=⟨(xA h 0).trans σ,(xA h 1).trans σ,(xA h 2).trans σ⟩
theorem _root_.xW9 {w:World} {g:Nat} {t:TypeId} {c0 c1 c2 c3:Value} {l:List Value} (h:w.heap[g]?=some (.cells (c0::c1::c2::c3::l).toArray t (0,0))):w.cell? ⟨g,0,none⟩=some c0/\w.cell? ⟨g,1,none⟩=some c1/\w.cell? ⟨g,2,none⟩=some c2/\w.cell? ⟨g,3,none⟩=some c3:=⟨(xA h 0).trans σ,(xA h 1).trans σ,(xA h 2).trans σ,(xA h 3).trans σ⟩
theorem _root_.xZe {w:World} {g:Nat} {t:TypeId} {c0 c1 c2 c3 c4:Value} {l:List Value} (h:w.heap[g]?=some (.cells (c0::c1::c2::c3::c4::l).toArray t (0,0))):w.cell? ⟨g,0,none⟩=some c0/\w.cell? ⟨g,1,none⟩=some c1/\w.cell? ⟨g,2,none⟩=some c2/\w.cell? ⟨g,3,none⟩=some c3/\w.cell? ⟨g,4,none⟩=some c4:=⟨(xA h 0).trans σ,(xA h 1).trans σ,(xA h 2).trans σ,(xA h 3).trans σ,(xA h 4).trans σ⟩
theorem _root_.xAr {w:World} {g:Nat} {t:TypeId} {c0 c1 c2 c3 c4 c5 c6:Value} {l:List Value} (h:w.heap[g]?=some (.cells (c0::c1::c2::c3::c4::c5::c6::l).toArray t (0,0))):w.cell? ⟨g,0,none⟩=some c0/\w.cell? ⟨g,1,none⟩=some c1/\w.cell? ⟨g,2,none⟩=some c2/\w.cell? ⟨g,3,none⟩=some c3/\w.cell? ⟨g,4,none⟩=some c4/\w.cell? ⟨g,5,none⟩=some c5/\w.cell? ⟨g,6,none⟩=some c6:=⟨(xA h 0).trans σ,(xA h 1).trans σ,(xA h 2).trans σ,(xA h 3).trans σ,(xA h 4).trans σ,(xA h 5).trans σ,(xA h 6).trans σ⟩
theorem _root_.xYs {w:World} {g:Nat} {t:TypeId} {c0 c1 c2 c3 c4 c5 c6 c7:Value} {l:List Value} (h:w.heap[g]?=some (.cells (c0::c1::c2::c3::c4::c5::c6::c7::l).toArray t (0,0))):w.cell? ⟨g,0,none⟩=some c0/\w.cell? ⟨g,1,none⟩=some c1/\w.cell? ⟨g,2,none⟩=some c2/\w.cell? ⟨g,3,none⟩=some c3/\w.cell? ⟨g,4,none⟩=some c4/\w.cell? ⟨g,5,none⟩=some c5/\w.cell? ⟨g,6,none⟩=some c6/\w.cell? ⟨g,7,none⟩=some c7:=⟨(xA h 0).trans σ,(xA h 1).trans σ,(xA h 2).trans σ,(xA h 3).trans σ,(xA h 4).trans σ,(xA h 5).trans σ,(xA h 6).trans σ,(xA h 7).trans σ⟩
theorem yA {w:World} {g:Nat} {o:Obj} (h:w.heap[g]?=some o) {p:Addr} (hp:g≠p.block) (u:Value):(w.setCell p u).heap[g]?=some o:=(Gs w p u g hp).trans h
theorem xH {w:World} {g:Nat} {o:Obj} (h:w.heap[g]?=some o):g<w.heap.size:=(Ca.1 h).1
theorem xN {w:World} {g:Nat} {o:Obj} (h:w.heap[g]?=some o) (o':Obj):(w.alloc o').heap[g]?=some o:=(Below.heap_alloc w o' g (xH h)).trans h
theorem rC {w w':World} {g:Nat} {o:Obj} {row:Option Nat} (h:w.heap[g]?=some o) (hg:w.grownBy w' row) (hne:some g≠row):w'.heap[g]?=some o:=(hg.block g (xH h) hne).trans h
theorem xC {w w':World} {B g:Nat} {o:Obj} (h:w.heap[g]?=some o) (hb:Below B w w') (hg:g<B):w'.heap[g]?=some o:=(hb.block g hg).trans h
theorem xJ (w:World) (o:Obj):(w.alloc o).heap[w.heap.size]?=some o:=heap_alloc_new w o
theorem zM (w:World) (o o':Obj):((w.alloc o).alloc o').heap[w.heap.size]?=some o:=xN (xJ w o) o'
theorem zI (w:World) (o o':Obj):((w.alloc o).alloc o').heap[w.heap.size+1]?=some o':=by
 have:=xJ (w.alloc o) o'
 rwa [show(w.alloc o).heap.size=w.heap.size+1 by simp] at this
theorem size_set (w:World) (p:Addr) (u:Value):(w.setCell p u).heap.size=w.heap.size:=by simp[World.setCell]
theorem wY (w:World) (o:Obj):(w.alloc o).heap.size=w.heap.size+1:=σ
def RdS (w:World) (B:Nat) (v:Value) (xs:List (List UInt8)):Prop:=
 ∃A c,v=.slice A xs.length c/\xs.length<=c/\(0<xs.length->∃b off,A=some (θ b off)/\b<B/\∀j x,xs[j]?=some x->w.cell? (θ b (off+j))=some (xR x))
theorem xWm.rd {w:World} {base:Nat} {v:Value} {xs:List (List UInt8)} (h:xWm w base v xs):RdS w w.heap.size v xs:=by
 rcases h.2 with ⟨h1,h2⟩|⟨g,cap,cur,h1,hb,hg,hnc,_,_,htake⟩
 ·exact⟨none,0,by rw[h1,h2],ω,λh=>by omega⟩
 ·refine⟨_,cap,h1,hnc,λ_=>⟨g,0,rfl,xH hg,λj x hx=>?_⟩⟩;have:=Eh h (g:=g) (by rw[h1];rfl) j (xR x) (by simp[hx]);rw[Ay];have hadd:(⟨g,0,none⟩:Addr).add j=⟨g,j,none⟩:=by unfold Addr.add;split<;>simp_all
  rw[hadd] at this;exact this
theorem RdS.keep {w w':World} {B:Nat} {v:Value} {xs:List (List UInt8)} (h:RdS w B v xs) (hk:∀p:Addr,p.block<B->w'.cell? p=w.cell? p):RdS w' B v xs:=by
 obtain⟨A,c,h1,h2,h3⟩:=h;refine⟨A,c,h1,h2,λhn=>?_⟩;obtain⟨b,off,h4,h5,h6⟩:=h3 hn;exact⟨b,off,h4,h5,λj x hx=>(hk _ h5).trans (h6 j x hx)⟩
theorem RdS.below {w w':World} {B B':Nat} {v:Value} {xs:List (List UInt8)} (h:RdS w B v xs) (hb:Below B' w w') (hB:B<=B'):RdS w' B v xs:=h.keep λ_ hp=>hb.cell ω
theorem RdS.more {w:World} {B B':Nat} {v:Value} {xs:List (List UInt8)} (h:RdS w B v xs) (hB:B<=B'):RdS w B' v xs:=by
 obtain⟨A,c,h1,h2,h3⟩:=h;refine⟨A,c,h1,h2,λhn=>?_⟩;obtain⟨b,off,h4,h5,h6⟩:=h3 hn;exact⟨b,off,h4,ω,h6⟩
def lenOf (v:Value):Nat:=match v with
 |.string b=>b.size
 |_=>0
end Go.Proofs.MM
namespace Mailsack
abbrev Bs:=List UInt8
def oct (z:Int):UInt8:=UInt8.ofNat (z % 256).toNat
theorem wW (z:Int):((oct z).toNat:Int)=z % 256:=by
 unfold oct;have h1:=Int.emod_nonneg z (b:=256) δ;have h2:=Int.emod_lt_of_pos z (b:=256) δ;rw[UInt8.toNat_ofNat',Dx ω];omega
def xO (n:Nat):Bs:=List.replicate n 0
theorem yR (n:Nat):(xO n).length=n:=by simp[xO]
end Mailsack
namespace Go.Proofs.BB
open Go.RowKit Mailsack MM
def yO (l:Bs):Array Value:=(l.map λb=>Value.int .u8 (b.toNat:Int)).toArray
theorem wJ (l:Bs):(yO l).size=l.length:=by simp[yO]
theorem xAp {l:Bs} {i:Nat} (h:i<l.length):(yO l)[i]?=some (.int .u8 ((l.getD i 0).toNat:Int)):=by
 simp[yO,Aa,Af h]
theorem xW3 (l:Bs) (i:Nat) (b:UInt8):(yO l).setIfInBounds i (.int .u8 (b.toNat:Int))=yO (l.set i b):=by
 simp[yO,Gb]
theorem xG7 (l:Bs) (i:Nat) (z:Int):(yO l).setIfInBounds i (.int .u8 (z % 256))=yO (l.set i (oct z)):=by
 rw[<-wW,xW3]
theorem xOh (l:Bs):∀v∈(yO l).toList,v.oneCell'=true:=by
 intro v hv;simp[yO] at hv;obtain⟨b,_,rfl⟩:=hv
 rfl
theorem yDt (n:Nat):madeCells (Value.cells (.int .u8 0)) (n*1)=yO (xO n):=by
 unfold xO;apply Array.ext_getElem?;intro i
 by_cases h:i<n
 ·have:(yO (List.replicate n 0))[i]?=some (.int .u8 0):=by rw[xAp (by simpa using h)];simp[Aa,h]
  rw[this];simp[madeCells,Value.cells,h,Nat.mod_one]
 ·rw[Dr (by simp[madeCells];omega),Dr (by rw[wJ];simp;omega)]
def kG (W:World) (g:Nat) (l:Bs):Prop:=W.heap[g]?=some (.cells (yO l) 5 (0,0))
theorem kG.blk {W:World} {g:Nat} {l:Bs} (h:kG W g l):W.heap[g]?=some (.cells (yO l) 5 (0,0)):=h
theorem kG.cell {W:World} {g:Nat} {l:Bs} (h:kG W g l) {i:Nat} (hi:i<l.length):W.cell? (θ g i)=some (.int .u8 ((l.getD i 0).toNat:Int)):=by rw[xA h.blk,xAp hi]
theorem kG.free {W:World} {g:Nat} {l:Bs} (h:kG W g l) (i:Nat):W.frozen? (θ g i)=false:=xG h.blk i
theorem kG.put {W:World} {g:Nat} {l:Bs} (h:kG W g l) (i:Nat) (z:Int):kG (W.setCell (θ g i) (.int .u8 (z % 256))) g (l.set i (oct z)):=by
 have:=yD h.blk i (.int .u8 (z % 256));rw[xG7] at this;exact this
theorem made (W:World) (n c:Nat) (hc:n<=c) (hm:c<=281474976710656):(Instr.makeSlice 96 (.int .i64 (n:Int)) (.int .i64 (c:Int))).run prog W=.ok (.slice (some (θ W.heap.size 0)) n c) (W.alloc (.cells (yO (xO c)) 5)):=by
 have hinfo:(prog.info? 5).map (λi=>(i.zero,i.size,i.bytes))=some (some (.int .u8 0),1,1):=κ;cases hq:prog.info? 5 with
 |none=>rw[hq] at hinfo;cases hinfo
 |some i=>
  rw[hq] at hinfo;simp only[Fe,Ez,Prod.mk.injEq] at hinfo;obtain⟨hz,hs,hb⟩:=hinfo;have h:=run_make (P:=prog) (w:=W) 96 5 i _ underlying96 hq hz .i64 .i64 (n:Int) (c:Int) ω ω (by rw[hb];omega) ω;simp only[Cn] at h
  rw[hs,yDt] at h;exact h
theorem copied {W:World} {g:Nat} {l:Bs} (h:kG W g l) (ty:TypeId) (dLen dCap:Nat) (s:ByteArray) (h1:s.size<=dLen) (h2:s.size<=l.length):
  (Builtin.copy_ #[96,9] ty #[.slice (some (θ g 0)) dLen dCap,.string s]).run prog W=.ok (goInt s.size) (W.setRow g (yO (s.data.toList++l.drop s.size))):=by
 have h3:=Lib.run_copy_row_string (P:=prog) W 96 9 ty 5 g 0 dLen dCap s (yO l) _ underlying96 κ h.blk h1 (by rw[wJ];omega)
 have h4:((yO l).toList.take 0++Lib.byteCells s.data.toList++(yO l).toList.drop (0+s.size)).toArray=yO (s.data.toList++l.drop s.size):=by
  simp[yO,Lib.byteCells,List.map_drop]
 rw[h3,h4]
theorem kG.row {W:World} {g:Nat} {l:Bs} (h:kG W g l) (l':Bs):kG (W.setRow g (yO l')) g l':=Bp W g _ _ _ _ h.blk
theorem xIt {W:World} {g:Nat} {l:Bs} (h:kG W g l) (n cap:Nat) (hn:n<=l.length):(convert 96 9 (.slice (some (θ g 0)) n cap)).run prog W=.ok (.string ⟨(l.take n).toArray⟩) W:=by
 have h1:=Dl (P:=prog) W 96 9 5 (θ g 0) cap (l.take n) underlying96 underlying5 underlying9 (λj hj=>by
  have hj':j<l.length:=by rw[Ck] at hj;omega
  have hadd:(⟨g,0,none⟩:Addr).add j=⟨g,j,none⟩:=by unfold Addr.add;split<;>simp_all
  rw[hadd,h.cell hj',List.getElem_take,Aa,Af hj']
  rfl)
 rw[Ck,Nat.min_eq_left hn] at h1;exact h1
def jT (l:List Bs):Array Value:=(l.map xR).toArray
theorem xQv (l:List Bs):(jT l).size=l.length:=by simp[jT]
theorem xW0 {l:List Bs} {i:Nat} {x:Bs} (h:l[i]?=some x):(jT l)[i]?=some (xR x):=by
 simp[jT,h]
theorem yHp (l:List Bs) (i:Nat) (x:Bs):(jT l).setIfInBounds i (xR x)=jT (l.set i x):=by
 simp[jT,Gb]
theorem yDr (n:Nat):madeCells (Value.cells (.string ⟨#[]⟩)) (n*1)=jT (List.replicate n []):=by
 apply Array.ext_getElem?;intro i
 by_cases h:i<n
 ·have:(jT (List.replicate n []))[i]?=some (xR []):=xW0 (by simp[h]);rw[this];simp[madeCells,Value.cells,h,Nat.mod_one,xR]
 ·rw[Dr (by simp[madeCells];omega),Dr (by rw[xQv];simp;omega)]
def qA (W:World) (g:Nat) (l:List Bs):Prop:=W.heap[g]?=some (.cells (jT l) 9 (0,0))
theorem qA.blk {W:World} {g:Nat} {l:List Bs} (h:qA W g l):W.heap[g]?=some (.cells (jT l) 9 (0,0)):=h
theorem qA.lt {W:World} {g:Nat} {l:List Bs} (h:qA W g l):g<W.heap.size:=xH h.blk
theorem qA.cell {W:World} {g:Nat} {l:List Bs} (h:qA W g l) {i:Nat} {x:Bs} (hi:l[i]?=some x):W.cell? (θ g i)=some (xR x):=by rw[xA h.blk,xW0 hi]
theorem qA.free {W:World} {g:Nat} {l:List Bs} (h:qA W g l) (i:Nat):W.frozen? (θ g i)=false:=xG h.blk i
theorem qA.put {W:World} {g:Nat} {l:List Bs} (h:qA W g l) (i:Nat) (x:Bs):qA (W.setCell (θ g i) (xR x)) g (l.set i x):=by
 have:=yD h.blk i (xR x);rw[yHp] at this;exact this
theorem qA.below {W W':World} {B g:Nat} {l:List Bs} (h:qA W g l) (hb:Below B W W') (hg:g<B):qA W' g l:=xC h.blk hb hg
theorem qA.alloc {W:World} {g:Nat} {l:List Bs} (h:qA W g l) (o:Obj):qA (W.alloc o) g l:=xN h.blk o
theorem qA.far {W:World} {g:Nat} {l:List Bs} (h:qA W g l) {p:Addr} (hp:g≠p.block) (u:Value):qA (W.setCell p u) g l:=yA h.blk hp u
theorem qA.rd {W:World} {g:Nat} {l:List Bs} (h:qA W g l) (c:Nat) (hc:l.length<=c):RdS W (g+1) (.slice (some (θ g 0)) l.length c) l:=
 ⟨_,c,rfl,hc,λ_=>⟨g,0,rfl,Nat.lt_succ_self g,λj x hx=>by rw[Ay];exact h.cell hx⟩⟩
theorem madeS (W:World) (n:Nat) (hm:n<=1000000):(Instr.makeSlice 24 (.int .i64 (n:Int)) (.int .i64 (n:Int))).run prog W=.ok (.slice (some (θ W.heap.size 0)) n n) (W.alloc (.cells (jT (List.replicate n [])) 9)):=by
 have hinfo:(prog.info? 9).map (λi=>(i.zero,i.size,i.bytes))=some (some (.string ⟨#[]⟩),1,16):=κ;cases hq:prog.info? 9 with
 |none=>rw[hq] at hinfo;cases hinfo
 |some i=>
  rw[hq] at hinfo;simp only[Fe,Ez,Prod.mk.injEq] at hinfo;obtain⟨hz,hs,hb⟩:=hinfo;have h:=run_make (P:=prog) (w:=W) 24 9 i _ underlying24 hq hz .i64 .i64 (n:Int) (n:Int) ω ω (by rw[hb];omega) ω;simp only[Cn] at h
  rw[hs,yDr] at h;exact h
end Go.Proofs.BB
namespace Mailsack
structure Wr where
 at_:Int
 data:Bs
structure Dk where
 secs:List Bs
 cache:List Wr
def yB3 (z:Bs) (n k:Nat):List Bs:=List.replicate k z++List.replicate (n-k) []
theorem yFy (z:Bs) {n k:Nat} (h:k<n):(yB3 z n k).set k z=yB3 z n (k+1):=by
 unfold yB3;rw[List.set_append_right _ _ σ,Cv,Nat.sub_self,show n-k=(n- (k+1))+1 by omega,Ff,Bh,List.replicate_succ'];simp
theorem yFz (z:Bs) (n:Nat):yB3 z n n=List.replicate n z:=by simp[yB3]
theorem yB2 (z:Bs) (n:Nat):yB3 z n 0=List.replicate n []:=by simp[yB3]
theorem yK3 (z:Bs) {n k:Nat} (h:k<n):(yB3 z n k)[k]?=some []:=by
 unfold yB3;rw[Fv σ,Cv,Nat.sub_self,show n-k=(n- (k+1))+1 by omega,Ff]
 rfl
end Mailsack
namespace Go.Proofs.DS
open Go.RowKit Mailsack MM BB
abbrev yI (a b:Value):Obj:=.cells #[a,b] 29
structure NewI (w:World) (g:Nat) (l:List Bs) (W:World):Prop where
 res:W.heap[w.heap.size]?=some (yI (.slice none 0 0) (.slice none 0 0))
 row:qA W g l
 bel:ψ w W
 lt:w.heap.size<g
theorem NewI.put {w:World} {g:Nat} {l:List Bs} {W:World} (h:NewI w g l W) (i:Nat) (x:Bs):NewI w g (l.set i x) (W.setCell (θ g i) (xR x)):=
 ⟨yA h.res (p:=θ g i) (by have:=h.lt;simp;omega) _,h.row.put i x,h.bel.setCell (p:=θ g i) (Gt h.lt) _,h.lt⟩
theorem yKs (n:Nat) (z:Bs) (w:World) (h1:1<=n) (h2:n<=1024) (hR:∀W,Calls prog 72 #[.string ⟨#[0]⟩,.int .i64 64] W (pv (xR z) W)):
  Calls prog 25 #[.int .i64 n] w λe w'=>∃g,e=.returned (.tuple #[.agg #[.slice (some (θ g 0)) n n,.slice none 0 0],.int .i64 0])/\qA w' g (List.replicate n z)/\w.heap.size<g/\ψ w w':=by
 have HR:=ι hR;have HN:=ι h2;clear hR;have t1:¬((n:Int)<1):=ω;have t2:¬(1024<(n:Int)):=ω;have hmk:=λW=>madeS W n ω;go_enter func25,ntmps25;go_wp2_with fail
 refine cM (HR.o _) λw1 hb1=>?_;have B1:=ι ((φ w (yI (.slice none 0 0) (.slice none 0 0))).trans (hb1.mono σ));have P1:=ι (xC (xJ w (yI (.slice none 0 0) (.slice none 0 0))) hb1 σ);have hz1:w.heap.size<w1.heap.size:=by have:=hb1.size;simp at this;omega
 have HI:Hid (NewI w w1.heap.size (yB3 z n 0) (w1.alloc (.cells (jT (List.replicate n [])) 9))):=ι ⟨xN P1.o _,by rw[yB2];exact xJ _ _,B1.o.alloc B1.o.size _,hz1⟩;clear hb1 HR;go_wp2_with fail
 clear hmk
 go_loopw [19] (λiv wr=>∃k:Nat,k<=n/\iv=.int .i64 k/\Hid (NewI w w1.heap.size (yB3 z n k) wr)) (λiv _=>n- (intOf iv).toNat)
 case atStart=>exact⟨0,Bc _,rfl,HI⟩
 case round=>
  obtain⟨k,hk,rfl,hr⟩:=hrel
  by_cases hlt:k<n
  ·have c0:=hr.o.row.cell (yK3 z hlt);have f0:=hr.o.row.free k;have HP:=ι (hr.o.put k z);rw[yFy z hlt] at HP;go_wp2;exact⟨⟨k+1,ω,by go_num,HP⟩,by simp[intOf];omega⟩
  ·obtain rfl:k=n:=ω;rw[yFz] at hr;have c0:=xA hr.o.res 0;have c1:=xA hr.o.res 1;have y0:=xG hr.o.res 0;have y1:=xG hr.o.res 1;have hB:=yD (yD hr.o.res 0 (.slice (some (θ w1.heap.size 0)) k k)) 1 (.slice none 0 0);have HF:Hid (NewI w w1.heap.size (List.replicate k z) wr):=hr
   have f0:=xA hB 0;have f1:=xA hB 1;simp only[Ba,Bh,Cm,gA,gC,gB] at f0 f1;clear hr hB;go_wp2
   refine Ak (v:=.tuple #[.agg #[.slice (some (θ w1.heap.size 0)) k k,.slice none 0 0],.int .i64 0]) (by simp[results,results25,go_sem,f0,f1]) rfl ?_;refine⟨_,rfl,?_,hz1,?_⟩
   ·exact(HF.o.row.far (p:=θ w.heap.size 0) (by simp;omega) _).far (p:=θ w.heap.size 1) (by simp;omega) _
   ·exact(HF.o.bel.setCell (p:=θ w.heap.size 0) ν _).setCell (p:=θ w.heap.size 1) ν _
theorem xY9 (z:Bs) (w:World) (hR:∀W,Calls prog 72 #[.string ⟨#[0]⟩,.int .i64 64] W (pv (xR z) W)):
  Calls prog 6 #[] w λe w'=>∃g n,n=381/\e=.returned (.agg #[.slice (some (θ g 0)) n n,.slice none 0 0])/\qA w' g (List.replicate n z)/\w.heap.size<g/\ψ w w':=by
 obtain⟨n,hn⟩:∃n:Nat,n=381:=⟨_,rfl⟩
 have HN:Hid (∀W,Calls prog 25 #[.int .i64 381] W λe w'=>∃g,e=.returned (.tuple #[.agg #[.slice (some (θ g 0)) n n,.slice none 0 0],.int .i64 0])/\qA w' g (List.replicate n z)/\W.heap.size<g/\ψ W w'):=ι (λW=>by
  have:=yKs n z W ω ω hR;rw[hn] at this⊢;exact this)
 have HE:=ι hn;clear hn hR;go_enter func6,ntmps6;go_wp2_with fail
 refine(HN.o _).mono ?_;rintro e w1 ⟨g,rfl,hs,hg,hb1⟩;have HS:=ι hs;have B1:=ι ((φ w (yI (.slice none 0 0) (.slice none 0 0))).trans (hb1.mono σ));have P1:=ι (xC (xJ w (yI (.slice none 0 0) (.slice none 0 0))) hb1 σ)
 have hz1:w.heap.size<w1.heap.size:=by have:=hb1.size;simp at this;omega
 have hg2:w.heap.size<g:=by simp at hg;omega
 clear hs hb1 HN hg;have c0:=xA P1.o 0;have c1:=xA P1.o 1;have y0:=xG P1.o 0;have y1:=xG P1.o 1;have hB:=xN (yD (yD P1.o 0 (.slice (some (θ g 0)) n n)) 1 (.slice none 0 0)) (yI (.slice (some (θ g 0)) n n) (.slice none 0 0));have f0:=xA hB 0;have f1:=xA hB 1
 simp only[Ba,Bh,Cm,gA,gC,gB] at f0 f1 c0 c1;clear hB;go_wp2;refine Ak (v:=.agg #[.slice (some (θ g 0)) n n,.slice none 0 0]) (by simp[results,results6,go_sem,f0,f1]) rfl ?_;refine⟨g,n,HE.o,rfl,?_,hg2,?_⟩
 ·exact((HS.o.far (p:=θ w.heap.size 0) (by simp;omega) _).far (p:=θ w.heap.size 1) (by simp;omega) _).alloc _
 ·exact((B1.o.setCell (p:=θ w.heap.size 0) ν _).setCell (p:=θ w.heap.size 1) ν _).alloc (by rw[size_set,size_set];omega) _
end Go.Proofs.DS
namespace Mailsack
def U32 (x:Int):Prop:=0<=x/\x<4294967296
theorem xCk (op:Go.BinOp) (x y:Int):U32 (Go.bits op .u32 x y):=by
 have h:=Go.wf_bits op .u32 x y;simp[Go.Lit.wf] at h;have e1:Go.IntKind.u32.min=0:=δ;have e2:Go.IntKind.u32.max=4294967295:=δ;unfold U32;omega
def xLn (x:Int) (s:Nat):Int:=Go.bits .or .u32 (x*2^s % 4294967296) (x / 2^(32-s))
theorem xFp (x:Int) (s:Nat):U32 (xLn x s):=xCk _ _ _
end Mailsack
namespace Go.Proofs.SH
open Go.RowKit Mailsack
theorem pR (x k:Int) (s:Nat) (w:World) (h0:U32 x) (hk:bits BinOp.and IntKind.u64 (IntKind.u64.wrap k) 31=(s:Int)) (hs:s<32):
  Calls prog 175 #[.int .u32 x,.int .i64 k] w λe w'=>e=.returned (.int .u32 (xLn x s))/\w'=w:=by
 obtain⟨h0,h1⟩:=h0;go_enter func175,ntmps175;go_wp2;go_ret;exact⟨rfl,rfl⟩
def zJ (ws:List Int):Array Value:=(ws.map λx=>Value.int .u32 x).toArray
theorem zK (ws:List Int):(zJ ws).size=ws.length:=by simp[zJ]
theorem wG {ws:List Int} {i:Nat} (h:i<ws.length):(zJ ws)[i]?=some (.int .u32 (ws.getD i 0)):=by
 simp[zJ,Aa,Af h]
theorem xG6 (ws:List Int) (i:Nat) (x:Int):(zJ ws).setIfInBounds i (.int .u32 x)=zJ (ws.set i x):=by
 simp[zJ,Gb]
end Go.Proofs.SH
namespace Mailsack
def yU (s:ByteArray) (i:Nat):Int:=((s.data.toList.getD i 0).toNat:Int)
theorem zD (s:ByteArray) (i:Nat):0<=yU s i/\yU s i<256:=by
 unfold yU;have:=(s.data.toList.getD i 0).toNat_lt;omega
def yJh (c0 c1 c2 c3:Int):Int:=Go.bits .or .u32 (Go.bits .or .u32 (Go.bits .or .u32 (c0*16777216) (c1*65536)) (c2*256)) c3
def xLg (b:ByteArray) (k:Nat):Int:=yJh (yU (b.extract (4*k) (4*k+4)) 0) (yU (b.extract (4*k) (4*k+4)) 1) (yU (b.extract (4*k) (4*k+4)) 2) (yU (b.extract (4*k) (4*k+4)) 3)
theorem xWu (b:ByteArray) (k:Nat):U32 (xLg b k):=by unfold xLg yJh;exact xCk _ _ _
def yAy (b:ByteArray):Nat->List Int
 |0=>List.replicate 64 0
 |k+1=>(yAy b k).set k (xLg b k)
def yGp (ws:List Int) (i:Nat):Int:=
 ((ws.getD (i-16) 0+Go.bits .xor .u32 (Go.bits .xor .u32 (xLn (ws.getD (i-15) 0) 25) (xLn (ws.getD (i-15) 0) 14)) (ws.getD (i-15) 0 / 8)+ws.getD (i-7) 0) % 4294967296+Go.bits .xor .u32 (Go.bits .xor .u32 (xLn (ws.getD (i-2) 0) 15) (xLn (ws.getD (i-2) 0) 13)) (ws.getD (i-2) 0 / 1024)) % 4294967296
def xXb (b:ByteArray):Nat->List Int
 |0=>yAy b 16
 |k+1=>(xXb b k).set (16+k) (yGp (xXb b k) (16+k))
def xAu (b:ByteArray):List Int:=xXb b 48
def qV (ws:List Int):Prop:=∀i,U32 (ws.getD i 0)
theorem qV.set {ws:List Int} (h:qV ws) (i:Nat) {x:Int} (hx:U32 x):qV (ws.set i x):=by
 intro j;rw[Aa,Co];split
 ·split
  ·exact hx
  ·exact⟨δ,δ⟩
 ·have:=h j
  rwa [Aa] at this
theorem xN9 (b:ByteArray):∀k,(yAy b k).length=64
 |0=>by simp[yAy]
 |k+1=>by simp[yAy,xN9 b k]
theorem xFm (b:ByteArray):∀k,(xXb b k).length=64
 |0=>xN9 b 16
 |k+1=>by simp[xXb,xFm b k]
theorem yIg (b:ByteArray):∀k,qV (yAy b k)
 |0=>λi=>by
  unfold yAy;rw[Aa,Fa];split<;>exact⟨δ,δ⟩
 |k+1=>(yIg b k).set k (xWu b k)
theorem jV (x:Int):U32 (x % 4294967296):=⟨ω,ω⟩
theorem yAx (b:ByteArray):∀k,qV (xXb b k)
 |0=>yIg b 16
 |k+1=>(yAx b k).set (16+k) (jV _)
end Mailsack
namespace Go.Proofs.SH
open Go.RowKit Mailsack MM
theorem zN {P:Program} {t:TypeId} (ht:P.underlying t=some .string) (s:ByteArray) (n:Int) (i:Nat) (hn:n=i) (hi:i<s.size) (w:World):(Instr.index t (.string s) (.int .i64 n)).run P w=.ok (.int .u8 (yU s i)) w:=by
 subst hn;rw[run_index_string _ _ _ _ _ ht,dif_pos ⟨ω,ω⟩];simp[yU,Aa,Af (show i<s.data.toList.length by simpa using hi)]
 rfl
theorem xB7 (ws:List Int):(zJ ws).all (·.oneCell')=true:=by
 simp[zJ,Value.oneCell']
structure xKs (w:World) (ws:List Int) (W:World):Prop where
 blk:W.heap[w.heap.size+1]?=some (.cells (zJ ws) 251 (0,0))
 res:W.heap[w.heap.size]?=some (.cells (zJ (List.replicate 64 0)) 251 (0,0))
 bel:ψ w W
theorem xKs.drew {w:World} {ws:List Int} {W:World} (h:xKs w ws W):xKs w ws W.drew:=⟨h.blk,h.res,h.bel.drew⟩
theorem xKs.put {w:World} {ws:List Int} {W:World} (h:xKs w ws W) (i:Nat) (x:Int):xKs w (ws.set i x) (W.setCell (θ (w.heap.size+1) i) (.int .u32 x)):=by
 refine⟨?_,yA h.res (p:=(θ (w.heap.size+1) i)) σ _,h.bel.setCell (p:=(θ (w.heap.size+1) i)) σ _⟩;have:=yD h.blk i (.int .u32 x);rw[xG6] at this;exact this
theorem xUn {w:World} {ws:List Int} {z:Int} {i j:Nat} {c:Bool} {W:World} (hj:j<ws.length) (hne:j≠i) (h:xKs w (if c=true then ws.set i z else ws) W):W.cell? (θ (w.heap.size+1) j)=some (.int .u32 (ws.getD j 0)):=by
 rw[xA h.blk];cases c
 ·exact wG hj
 ·rw[Ah rfl,wG (by simpa using hj),Aa,Co,Ag (En hne),<-Aa]
theorem xPj (b:ByteArray) (w:World) (hb:b.size=64):
  Calls prog 174 #[.string b] w (pv (.agg (zJ (xAu b))) w):=by
 go_enter func174,ntmps174;go_wp2_with fail
 go_loopw [11] (λiv wr=>∃k:Nat,k<=16/\iv=.int .i64 k/\Hid (xKs w (yAy b k) wr)) (λiv _=>16- (intOf iv).toNat)
 case atStart=>exact⟨0,δ,rfl,ι ⟨zI _ _ _,zM _ _ _,((φ w _).alloc σ _)⟩⟩
 case round=>
  obtain⟨k,hk,rfl,hr⟩:=hrel
  by_cases hlt:k<16
  ·go_upto_region 6 with fail
   have hl:=xN9 b k;have HW:Hid (yAy b (k+1)=(yAy b k).set k (xLg b k)):=ι rfl;obtain⟨z,hz⟩:=eX (xLg b k);rw[hz] at HW;generalize yAy b k=ws at hr hl HW
   refine RG.vL [20] (λL W=>Hid (xKs w (if L 20 then ws.set k z else ws) W)) (λL L' W h hI=>by rw[<-h 20 δ];exact hI) κ κ δ (ι hr.o.drew) ?_;iterate 2 refine RG.lS ?_
   unfold xLg at hz;obtain⟨x,hx⟩:=eX (b.extract (4*k) (4*k+4));rw[hx] at hz⊢;have hxs:x.size=4:=by rw[<-hx,Az];omega
   have i0:=λw=>zN (P:=prog) underlying9 x 0 0 rfl ω w;have i1:=λw=>zN (P:=prog) underlying9 x 1 1 rfl ω w;have i2:=λw=>zN (P:=prog) underlying9 x 2 2 rfl ω w;have i3:=λw=>zN (P:=prog) underlying9 x 3 3 rfl ω w;obtain⟨r00,r01⟩:=zD x 0
   obtain⟨r10,r11⟩:=zD x 1;obtain⟨r20,r21⟩:=zD x 2;obtain⟨r30,r31⟩:=zD x 3;generalize yU x 0=c0 at i0 r00 r01 hz;generalize yU x 1=c1 at i1 r10 r11 hz;generalize yU x 2=c2 at i2 r20 r21 hz;generalize yU x 3=c3 at i3 r30 r31 hz;unfold yJh at hz;have HZ:=ι hz;clear hx hz
   iterate 17 refine RG.lS ?_
   rw[HZ.o];refine RG.lS ?_;apply RG.uV
   ·rfl
   ·intro L w9 h0 _ hw9;rw[h0,Ag σ] at hw9;have q1:=xA hw9.o.blk k;rw[wG ω] at q1;have q2:=xG hw9.o.blk k;repeat go_step
    refine RG.xE ?_;have hp:=ι (hw9.o.put k z);rw[Ah σ];with_reducible exact hp
   ·rfl
   refine RG.yY (λw9 hw9=>?_);rw[Ah rfl,<-HW.o] at hw9;clear i0 i1 i2 i3;go_wp2;exact⟨⟨k+1,ω,by go_num,hw9⟩,by simp[intOf];omega⟩
  ·obtain rfl:k=16:=ω;have hr0:Hid (xKs w (xXb b 0) wr):=hr;clear hr;go_wp2_with fail
   go_loopw [6] (λiv wr=>∃i:Nat,16<=i/\i<=64/\iv=.int .i64 i/\Hid (xKs w (xXb b (i-16)) wr)) (λiv _=>64- (intOf iv).toNat)
   case atStart=>exact⟨16,δ,δ,rfl,hr0⟩
   case round=>
    clear hr0;obtain⟨i,hi,hk,rfl,hr⟩:=hrel
    by_cases hlt:i<64
    ·have hl:=xFm b (i-16);have hu:=yAx b (i-16)
     have HW:Hid (xXb b (i+1-16)=(xXb b (i-16)).set i (yGp (xXb b (i-16)) i)):=ι (by
      obtain⟨k,rfl⟩:∃k,i=16+k:=⟨i-16,ω⟩;rw[show 16+k+1-16=k+1 by omega,show 16+k-16=k by omega]
      rfl)
     obtain⟨z,hz⟩:=eX (yGp (xXb b (i-16)) i);rw[hz] at HW;generalize xXb b (i-16)=ws at hr hl HW hz hu;unfold yGp at hz;have u16:=hu (i-16);have u15:=hu (i-15);have u7':=hu (i-7);have u2:=hu (i-2)
     have g16:∀W,Hid (xKs w ws W)->W.cell? ⟨w.heap.size+1,i-16,none⟩=some (.int .u32 (ws.getD (i-16) 0)):=λW h=>by rw[xA h.o.blk,wG ω]
     have g15:∀W,Hid (xKs w ws W)->W.cell? ⟨w.heap.size+1,i-15,none⟩=some (.int .u32 (ws.getD (i-15) 0)):=λW h=>by rw[xA h.o.blk,wG ω]
     have g7:∀W,Hid (xKs w ws W)->W.cell? ⟨w.heap.size+1,i-7,none⟩=some (.int .u32 (ws.getD (i-7) 0)):=λW h=>by rw[xA h.o.blk,wG ω]
     have g2:∀W,Hid (xKs w ws W)->W.cell? ⟨w.heap.size+1,i-2,none⟩=some (.int .u32 (ws.getD (i-2) 0)):=λW h=>by rw[xA h.o.blk,wG ω]
     have c16:∀(c:Bool) W,Hid (xKs w (if c=true then ws.set i z else ws) W)->W.cell? ⟨w.heap.size+1,i-16,none⟩=some (.int .u32 (ws.getD (i-16) 0)):=λc W h=>xUn (i:=i) ω ω h.o
     have c7:∀(c:Bool) W,Hid (xKs w (if c=true then ws.set i z else ws) W)->W.cell? ⟨w.heap.size+1,i-7,none⟩=some (.int .u32 (ws.getD (i-7) 0)):=λc W h=>xUn (i:=i) ω ω h.o;generalize ws.getD (i-16) 0=v16 at hz u16 g16 c16;generalize ws.getD (i-15) 0=v15 at hz u15 g15
     generalize ws.getD (i-7) 0=v7 at hz u7' g7 c7;generalize ws.getD (i-2) 0=v2 at hz u2 g2;have C16:=ι c16;have C7:=ι c7;have G15:=ι g15;have G2:=ι g2;have HZ:=ι hz;have R1:=ι (λW=>pR v15 (-7) 25 W u15 δ δ);have R2:=ι (λW=>pR v15 (-18) 14 W u15 δ δ)
     have R3:=ι (λW=>pR v2 (-17) 15 W u2 δ δ);have R4:=ι (λW=>pR v2 (-19) 13 W u2 δ δ);obtain⟨u160,u161⟩:=u16;obtain⟨u150,u151⟩:=u15;obtain⟨u70',u71'⟩:=u7';obtain⟨u20',u21'⟩:=u2;clear hu hz g16 g15 g7 g2 c16 c7;go_upto_region 11 with fail
     refine RG.xU (λW=>Hid (xKs w ws W)) κ κ (ι hr.o.drew) ?_;iterate 2 refine RG.dS ?_
     rw[show((i:Int)-15)=((i-15:Nat):Int) by omega];iterate 2 refine RG.dF (λw9 hw9=>G15.o _ hw9) ?_
     iterate 2 refine RG.dS ?_
     rw[show((i:Int)-2)=((i-2:Nat):Int) by omega];iterate 2 refine RG.dF (λw9 hw9=>G2.o _ hw9) ?_
     iterate 2 refine RG.dS ?_
     refine RG.xX (λw9 hw9=>?_);clear hr;go_upto_region 12 with fail
     refine RG.zT (λW=>Hid (xKs w ws W)) hw9 ?_;clear hw9;refine RG.dS ?_;apply RG.xL
     ·intro w9 hw9;repeat go_step
      refine(R1.o _).mono ?_;rintro e w10 ⟨rfl,rfl⟩;simp only[];repeat go_step
      exact RG.xE hw9
     ·rfl
     refine RG.dS ?_;apply RG.xL
     ·intro w9 hw9;repeat go_step
      refine(R2.o _).mono ?_;rintro e w10 ⟨rfl,rfl⟩;simp only[];repeat go_step
      exact RG.xE hw9
     ·rfl
     iterate 5 refine RG.dS ?_
     refine RG.xX (λw10 yCx=>?_);go_upto_region 13 with fail
     refine RG.zT (λW=>Hid (xKs w ws W)) yCx ?_;clear yCx;refine RG.dS ?_;apply RG.xL
     ·intro w9 hw9;repeat go_step
      refine(R3.o _).mono ?_;rintro e w10 ⟨rfl,rfl⟩;simp only[];repeat go_step
      exact RG.xE hw9
     ·rfl
     refine RG.dS ?_;apply RG.xL
     ·intro w9 hw9;repeat go_step
      refine(R4.o _).mono ?_;rintro e w10 ⟨rfl,rfl⟩;simp only[];repeat go_step
      exact RG.xE hw9
     ·rfl
     iterate 5 refine RG.dS ?_
     refine RG.xX (λw11 hw11=>?_);go_upto_region 14 with fail
     refine RG.vL [15] (λL W=>Hid (xKs w (if L 15 then ws.set i z else ws) W)) (λL L' W h hI=>by rw[<-h 15 δ];exact hI) κ κ δ (ι hw11.o.drew) ?_;iterate 3 refine RG.lS ?_
     rw[show((i:Int)-16)=((i-16:Nat):Int) by omega];iterate 2 refine RG.lF (λL w9 hw9=>C16.o _ _ hw9) ?_
     iterate 4 refine RG.lS ?_
     rw[show((i:Int)-7)=((i-7:Nat):Int) by omega];iterate 2 refine RG.lF (λL w9 hw9=>C7.o _ _ hw9) ?_
     iterate 3 refine RG.lS ?_
     rw[HZ.o];refine RG.lS ?_;apply RG.uV
     ·rfl
     ·intro L w9 h0 _ hw9;rw[h0,Ag σ] at hw9;have q1:=xA hw9.o.blk i;rw[wG ω] at q1;have q2:=xG hw9.o.blk i;repeat go_step
      refine RG.xE ?_;have hp:=ι (hw9.o.put i z);rw[Ah σ];with_reducible exact hp
     ·rfl
     refine RG.yY (λw12 hw12=>?_);rw[Ah rfl,<-HW.o] at hw12;go_wp2;exact⟨⟨i+1,ω,ω,by go_num,hw12⟩,by simp[intOf];omega⟩
    ·obtain rfl:i=64:=ω;have hr2:Hid (xKs w (xAu b) wr):=hr;clear hr;have hi64:(prog.info? 251).map (·.size)=some (zJ (xAu b)).size:=by rw[zK];unfold xAu;rw[xFm];kernel_rfl
     have ho64:(zJ (List.replicate 64 0)).size=(zJ (xAu b)).size:=by rw[zK,zK];unfold xAu;rw[xFm,Cv]
     have h1:=xB7 (xAu b);have HI:=ι hi64;have HO:=ι ho64;have H1:=ι h1;clear hi64 ho64 h1
     go_wp2_with (first|refine Ao rfl _ _ rfl (w.heap.size+1) rfl _ _ (0,0) _ hr2.o.blk underlying251 rfl HI.o ?_|refine Av rfl _ _ _ rfl w.heap.size _ rfl rfl _ _ hr2.o.res HI.o HO.o H1.o ?_)
     refine Ak (Dn rfl _ _ w.heap.size _ _ (0,0) _ rfl (Bp _ _ _ _ _ _ hr2.o.res) underlying251 rfl HI.o) rfl ?_;exact⟨rfl,Bn hr2.o.bel ν _⟩
end Go.Proofs.SH