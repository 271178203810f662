/- Contracts of functions. Conditions: as stated. -/
import Derived.Lib.Hide
import Derived.WalkKit
import Derived.Deep.AppendLies
import Derived.Deep.Draws
set_option maxHeartbeats 8000000
set_option maxRecDepth 100000
theorem _root_.Go.RowKit.Hid.o {p : Prop} (h : Go.RowKit.Hid p) : p := h
theorem _root_.ω {p : Prop} (h : p := by omega) : p := h
theorem _root_.κ {p : Prop} (h : p := by kernel_rfl) : p := h
theorem _root_.σ {p : Prop} (h : p := by simp) : p := h
theorem _root_.δ {p : Prop} (h : p := by decide) : p := h
abbrev _root_.ψ (w w' : Go.World) : Prop := Go.RowKit.Below w.heap.size w w'
theorem _root_.φ (w : Go.World) (o : Go.Obj) : Go.RowKit.Below w.heap.size w (w.alloc o) := (Go.RowKit.Below.refl w.heap.size w).alloc (Nat.le_refl _) o
theorem _root_.ν {n : Nat} : n ≤ n := Nat.le_refl _
theorem _root_.ι {p:Prop} (h:p):Go.RowKit.Hid p:=h
theorem _root_.gA {α:Type _} {l:List α} {i:Nat}:l.toArray[i]?=l[i]?:=List.getElem?_toArray
theorem _root_.gB {α:Type _} {a:α} {l:List α} {i:Nat}:(a::l)[i+1]?=l[i]?:=List.getElem?_cons_succ
theorem _root_.gC {α:Type _} {a:α} {l:List α}:(a::l)[0]?=some a:=List.getElem?_cons_zero
namespace Go.Proofs.RG
section
variable {P:Program} {ops:Array Oper} {Q:Exit->Act->World->Prop} {md:Region.Mode} {I:World->Prop}
def Only (I:World->Prop) (A:Act):Exit->Act->World->Prop:=λe a w=>e=.normal/\a=A/\I w
def xBc (P:Program) (ops:Array Oper) (I:World->Prop) (K:Act->Prop):List Oper->Act->Prop
 |[],a=>K a
 |o::os,a=>∃A:Act,A.defers=a.defers/\(∀w,I w->wpList P ops (Only I A) [o] a w)/\xBc P ops I K os A
theorem xB {A:Act} {w:World} (h:I w):Only I A .normal A w:=⟨rfl,rfl,h⟩
theorem xL {K:Act->Prop} {a:Act} (h:K a):xBc P ops I K [] a:=h
theorem xG {K:Act->Prop} {a:Act} {o:Oper} {os:List Oper} {A:Act} (h:∀w,I w->wpList P ops (Only I A) [o] a w) (hd:A.defers=a.defers) (h2:xBc P ops I K os A):xBc P ops I K (o::os) a:=⟨A,hd,h,h2⟩
def deps (md:Region.Mode) (o:Oper):List Nat:=(o.after.toList.filter (Region.binds md ·)).map (·.on)
def fits (md:Region.Mode) (ops:Array Oper):Bool:=
 Region.noSelect ops&&(List.range ops.size).all λi=>match ops[i]? with
  |none=>true
  |some o=>(deps md o).all (·<i)&&(List.range ops.size).all λj=>i==j||match ops[j]? with
   |none=>true
   |some p=>match p.dst with
    |none=>true
    |some d=>o.dst !=some d&&(!(o.looksAt ops).contains d||(deps md o).contains j)
theorem xDp {o:Oper} {j:Nat}:j∈deps md o↔∃e∈o.after,Region.binds md e=true/\e.on=j:=by
 unfold deps;simp only[List.mem_map,List.mem_filter,Array.mem_toList_iff]
 constructor
 ·rintro⟨e,⟨h1,h2⟩,h3⟩;exact⟨e,h1,h2,h3⟩
 ·rintro⟨e,h1,h2,h3⟩;exact⟨e,⟨h1,h2⟩,h3⟩
theorem xI8 (h:fits md ops=true) {i:Nat} {o:Oper} (ho:ops[i]?=some o) {j:Nat} (hj:j∈deps md o):j<i:=by
 unfold fits at h;rw[Bool.and_eq_true] at h;have h1:=List.all_eq_true.1 h.2 i (List.mem_range.2 (Array.getElem?_eq_some_iff.1 ho).1);simp only[ho,Bool.and_eq_true] at h1;simpa using List.all_eq_true.1 h1.1 j hj
theorem xO9 (h:fits md ops=true) {i j:Nat} {o p:Oper} (ho:ops[i]?=some o) (hp:ops[j]?=some p) (hne:i≠j) {d:Tmp} (hd:p.dst=some d):
  o.dst≠some d/\(d∈o.looksAt ops->j∈deps md o):=by
 unfold fits at h;rw[Bool.and_eq_true] at h;have h1:=List.all_eq_true.1 h.2 i (List.mem_range.2 (Array.getElem?_eq_some_iff.1 ho).1);simp only[ho,Bool.and_eq_true] at h1;have h2:=List.all_eq_true.1 h1.2 j (List.mem_range.2 (Array.getElem?_eq_some_iff.1 hp).1)
 simp only[hp,hd,Bool.or_eq_true,beq_iff_eq,hne,false_or,Bool.and_eq_true,bne_iff_ne,Bool.not_eq_true',List.contains_eq_mem,decide_eq_false_iff_not,decide_eq_true_eq] at h2;exact⟨h2.1,λhl=>h2.2.resolve_left (λhn=>hn hl)⟩
def fill (L:Nat->Bool) (V:Nat->Value):List Oper->Nat->Act->Act
 |[],_,a=>a
 |o::os,i,a=>fill L V os (i+1) (if L i=true then a.put o.dst (V i) else a)
theorem xDk (a:Act) (d:Option Tmp) (v:Value):(a.put d v).tmps.size=a.tmps.size:=by cases d<;>simp[Act.put]
theorem put_defers (a:Act) (d:Option Tmp) (v:Value):(a.put d v).defers=a.defers:=by cases d<;>rfl
theorem xEx {L:Nat->Bool} {V:Nat->Value}:∀(os:List Oper) (i:Nat) (a:Act),(fill L V os i a).tmps.size=a.tmps.size
 |[],_,_=>rfl
 |o::os,i,a=>by
  unfold fill;rw[xEx os];split
  ·exact xDk _ _ _
  ·rfl
theorem put_at (a:Act) (d:Option Tmp) (v:Value) {t:Tmp} (h:d≠some t):(a.put d v).tmps[t]?=a.tmps[t]?:=by
 cases d with
 |none=>rfl
 |some e=>
  have:e≠t:=λhe=>h (he▸rfl);simp[Act.put,Array.getElem?_setIfInBounds_ne this]
theorem xXd (a b:Act) (v:Value) {t:Tmp} (h:a.tmps.size=b.tmps.size):(a.put (some t) v).tmps[t]?=(b.put (some t) v).tmps[t]?:=by
 simp[Act.put,Array.getElem?_setIfInBounds,h]
theorem xAb {L L':Nat->Bool} {V:Nat->Value} {t:Tmp}:∀(os:List Oper) (i:Nat) (a b:Act),a.tmps[t]?=b.tmps[t]?->a.tmps.size=b.tmps.size->
  (∀n o,os[n]?=some o->o.dst=some t->L (i+n)=L' (i+n))->(fill L V os i a).tmps[t]?=(fill L' V os i b).tmps[t]?
 |[],_,_,_,h,_,_=>h
 |o::os,i,a,b,h,hs,hL=>by
  unfold fill;refine xAb os (i+1) _ _ ?_ ?_ (λn p hp hd=>by have:=hL (n+1) p (by simpa using hp) hd;rwa [show i+(n+1)=i+1+n by omega] at this)
  ·by_cases hd:o.dst=some t
   ·have h0:=hL 0 o rfl hd;rw[Nat.add_zero] at h0;rw[h0];split
    ·rw[hd];exact xXd a b _ hs
    ·exact h
   ·have e1:∀(c:Bool) (x:Act),(if c=true then x.put o.dst (V i) else x).tmps[t]?=x.tmps[t]?:=λc x=>by
     split
     ·exact put_at _ _ _ hd
     ·rfl
    rw[e1,e1];exact h
  ·have e1:∀(c:Bool) (x:Act),(if c=true then x.put o.dst (V i) else x).tmps.size=x.tmps.size:=λc x=>by
    split
    ·exact xDk _ _ _
    ·rfl
   rw[e1,e1];exact hs
theorem vM {L L':Nat->Bool} {V V':Nat->Value}:∀(os:List Oper) (i:Nat) (a:Act),(∀n,n<os.length->L (i+n)=L' (i+n))->(∀n,n<os.length->L (i+n)=true->V (i+n)=V' (i+n))->
  fill L V os i a=fill L' V' os i a
 |[],_,_,_,_=>rfl
 |o::os,i,a,hL,hV=>by
  unfold fill;have h0:=hL 0 σ;rw[Nat.add_zero] at h0;have hv0:=hV 0 σ;rw[Nat.add_zero] at hv0
  have ih:∀b,fill L V os (i+1) b=fill L' V' os (i+1) b:=λb=>vM os (i+1) b (λn hn=>by have:=hL (n+1) (by simpa using hn);rwa [show i+(n+1)=i+1+n by omega] at this)
   (λn hn=>by have:=hV (n+1) (by simpa using hn);rwa [show i+(n+1)=i+1+n by omega] at this)
  rw[ih]
  by_cases hc:L i=true
  ·rw[if_pos hc,if_pos (h0▸hc),hv0 hc]
  ·rw[if_neg hc,if_neg (h0▸hc)]
theorem xD6 {L:Nat->Bool} {V:Nat->Value} {d:Option Tmp} {v:Value}:∀(os:List Oper) (i:Nat) (a:Act),(∀(n:Nat) (o:Oper) (e:Tmp),os[n]?=some o->d=some e->o.dst≠some e)->
  fill L V os i (a.put d v)=(fill L V os i a).put d v
 |[],_,_,_=>rfl
 |o::os,i,a,h=>by
  unfold fill;rw[<-xD6 os (i+1) _ (λn p e hp he=>h (n+1) p e (by simpa using hp) he)];split
  ·congr 1
   rw[Act.put_comm];intro e he;exact h 0 o e rfl he
  ·rfl
theorem xI9 {L:Nat->Bool} {V:Nat->Value} {v:Value}:∀(os:List Oper) (i n:Nat) (o:Oper) (a:Act),os[n]?=some o->L (i+n)=false->
  (∀m p e,os[m]?=some p->m≠n->o.dst=some e->p.dst≠some e)->
  (fill L V os i a).put o.dst v=fill (λj=>j==i+n||L j) (λj=>if j=i+n then v else V j) os i a
 |[],_,_,_,_,h,_,_=>by simp at h
 |q::os,i,0,o,a,h,hL,hd=>by
  obtain rfl:q=o:=by simpa using h
  unfold fill;rw[Nat.add_zero] at hL;rw[hL];simp only[Bool.false_eq_true,if_false,Nat.add_zero,BEq.rfl,Bool.true_or,if_true];rw[<-xD6 os (i+1) a (λn p e hp he=>hd (n+1) p e (by simpa using hp) ω he)];refine vM os (i+1) _ (λn hn=>?_) (λn hn _=>?_)
  ·have:(i+1+n==i)=false:=by simp;omega
   rw[this,Bool.false_or]
  ·rw[if_neg ω]
 |q::os,i,n+1,o,a,h,hL,hd=>by
  unfold fill;have e0:(i==i+(n+1))=false:=σ;have e1:¬i=i+(n+1):=ω;rw[e0,Bool.false_or,if_neg e1]
  have:=xI9 (L:=L) (V:=V) (v:=v) os (i+1) n o (if L i=true then a.put q.dst (V i) else a) (by simpa using h) (by rwa [show i+1+n=i+(n+1) by omega])
   (λm p e hp hne he=>hd (m+1) p e (by simpa using hp) ω he)
  rw[this,show i+1+n=i+(n+1) by omega]
theorem rW {L:Nat->Bool} {V:Nat->Value}:∀(os:List Oper) (i:Nat) (a:Act),(∀n,n<os.length->L (i+n)=false)->fill L V os i a=a
 |[],_,_,_=>rfl
 |o::os,i,a,h=>by
  unfold fill;have h0:=h 0 σ;rw[Nat.add_zero] at h0;rw[h0];exact rW os (i+1) a λn hn=>by have:=h (n+1) (by simpa using hn);rwa [show i+(n+1)=i+1+n by omega] at this
def EqAt (d:Option Tmp) (n:Nat) (u v:Value):Prop:=∀a:Act,a.tmps.size=n->a.put d u=a.put d v
theorem qX {d:Option Tmp} {a:Act} {u v:Value} (h:a.put d u=a.put d v):EqAt d a.tmps.size u v:=by
 intro b hb;cases d with
 |none=>rfl
 |some t=>
  have h1:(a.put (some t) u).tmps[t]?=(a.put (some t) v).tmps[t]?:=by rw[h]
  by_cases ht:t<a.tmps.size
  ·simp[Act.put,ht] at h1;rw[h1]
  ·have e:∀x:Value,b.put (some t) x=b:=λx=>by
    unfold Act.put;simp only;rw[Array.setIfInBounds_eq_of_size_le (by have hle:=Nat.le_of_not_lt ht;rw[hb];exact hle)]
   rw[e,e]
def One (P:Program) (ops:Array Oper) (I:World->Prop) (o:Oper) (v:Value) (n:Nat) (a:Act) (w:World):Prop:=
 if Region.wanted o (yielded ops a.tmps)=true then
  match (execOp a.eval o).run P w with
  |.ok (.value u) w'=>EqAt o.dst n u v/\I w'
  |.ok .skip w'=>EqAt o.dst n undef v/\I w'
  |.ok (.enter f args) w'=>Calls P f args w' λe w''=>∃u,e=.returned u/\EqAt o.dst n u v/\I w''
  |.ok (.row row args) w'=>Rows P row args w' λu w''=>EqAt o.dst n u v/\I w''
  |_=>False
 else EqAt o.dst n undef v/\I w
theorem xGz {f:FuncId} {args:Array Value} {w:World} {R:Ending->World->Prop} (h:Calls P f args w R):∃e w',R e w':=by
 obtain⟨e,w',_,h1,_⟩:=h [];exact⟨e,w',h1⟩
theorem xJe {row:String} {args:Array Value} {w:World} {R:Value->World->Prop} (h:Rows P row args w R):∃e w',R e w':=by
 obtain⟨e,w',h1,_⟩:=h default [];exact⟨e,w',h1⟩
theorem xNf {o:Oper} {a A:Act} {w:World} (hd:A.defers=a.defers) (h:wpList P ops (Only I A) [o] a w):∃u,A=a.put o.dst u:=by
 unfold wpList at h;split at h
 ·rcases h with h|⟨_,a',w',h,_⟩
  ·unfold Oper.wp at h;generalize (execOp a.eval o).run P w=r at h;cases r with
   |ok n w'=>
    cases n<;>simp only[Oper.upon] at h
    case value u=>exact⟨u,h.2.1.symm⟩
    case skip=>exact⟨_,h.2.1.symm⟩
    case defer d=>
     have:=congrArg Act.defers h.2.1;rw[put_defers,hd] at this;simp at this
    case enter f args=>
     obtain⟨e,w'',h1⟩:=xGz h;cases e with
     |returned u=>exact⟨u,h1.2.1.symm⟩
     |panicked c=>exact absurd h1.1 σ
     |outgrown=>obtain⟨_,_,h2,_⟩:=h1;exact absurd h2 σ
    case row row args=>
     obtain⟨u,w'',h1⟩:=xJe h;exact⟨u,h1.2.1.symm⟩
   |halt x w'=>
    cases x<;>simp only[Oper.upon] at h
    exact absurd h.1 σ
  ·exact absurd h σ
 ·exact⟨_,h.2.1.symm⟩
theorem xBu {o:Oper} {a:Act} {w:World} {v:Value} (h:wpList P ops (Only I (a.put o.dst v)) [o] a w):One P ops I o v a.tmps.size a w:=by
 unfold wpList at h;unfold One;split at h
 ·rename_i hw
  rw[if_pos hw];rcases h with h|⟨_,a',w',h,_⟩
  ·unfold Oper.wp at h;generalize (execOp a.eval o).run P w=r at h⊢;cases r with
   |ok n w'=>
    cases n<;>simp only[Oper.upon] at h
    case value u=>exact⟨qX h.2.1,h.2.2⟩
    case skip=>exact⟨qX h.2.1,h.2.2⟩
    case defer d=>
     have:=congrArg Act.defers h.2.1;rw[put_defers,put_defers] at this;simp at this
    case enter f args=>
     refine Calls.mono h λe w'' h1=>?_;cases e with
     |returned u=>exact⟨u,rfl,qX h1.2.1,h1.2.2⟩
     |panicked c=>exact absurd h1.1 σ
     |outgrown=>obtain⟨_,_,h2,_⟩:=h1;exact absurd h2 σ
    case row row args=>
     exact Rows.mono h λu w'' h1=>⟨qX h1.2.1,h1.2.2⟩
   |halt x w'=>
    cases x<;>simp only[Oper.upon] at h
    exact absurd h.1 σ
  ·exact absurd h σ
 ·rename_i hw
  rw[if_neg hw];exact⟨qX h.2.1,h.2.2⟩
theorem One.move {o:Oper} {v:Value} {n:Nat} {a b:Act} {w:World} (h:One P ops I o v n a w) (hs:∀cs d,o.op≠.select cs d) (hab:∀t,t∈o.looksAt ops->a.tmps[t]?=b.tmps[t]?):One P ops I o v n b w:=by
 have he:execOp b.eval o=execOp a.eval o:=execOp_congr o hs λx hx=>by
  cases x with
  |tmp t=>
   have:t∈o.looksAt ops:=List.mem_append_left _ (List.mem_filterMap.2 ⟨.tmp t,by simpa using hx,rfl⟩);simp only[Act.eval,Array.getD_eq_getD_getElem?];rw[hab t this]
  |_=>rfl
 have hw:Region.wanted o (yielded ops b.tmps)=Region.wanted o (yielded ops a.tmps):=by
  unfold Region.wanted;cases hg:o.guard with
  |none=>rfl
  |some gw=>
   obtain⟨g,want⟩:=gw
   have hy:yielded ops b.tmps g=yielded ops a.tmps g:=by
    unfold yielded;cases ht:(ops[g]?).bind (·.dst) with
    |none=>rfl
    |some t=>
     have:t∈o.looksAt ops:=by simp[Oper.looksAt,hg,ht]
     simp only[Option.bind_some];rw[hab t this]
   simp only[hy]
 unfold One at*;rw[he,hw];exact h
theorem One.wpOp {o:Oper} {v:Value} {a:Act} {w:World} {i:Nat} {K:Act->World->Prop} (hi:ops[i]?=some o) (h:One P ops I o v a.tmps.size a w) (hK:∀w',I w'->K (a.put o.dst v) w'):wpOp P ops Q i K a w:=by
 unfold Go.wpOp One at*;simp only[hi];split at h
 ·rename_i hw
  rw[if_pos hw];refine .inl ?_;unfold Oper.wp;generalize (execOp a.eval o).run P w=r at h⊢;cases r with
  |ok n w'=>
   cases n<;>simp only at h<;>simp only[Oper.upon]
   case value u=>rw[h.1 a rfl];exact hK _ h.2
   case skip=>rw[h.1 a rfl];exact hK _ h.2
   case enter f args=>
    refine Calls.mono h λe w'' h1=>?_;obtain⟨u,rfl,h2,h3⟩:=h1;simp only;rw[h2 a rfl];exact hK _ h3
   case row row args=>
    refine Rows.mono h λu w'' h1=>?_;rw[h1.1 a rfl];exact hK _ h1.2
  |halt x w'=>exact h.elim
 ·rename_i hw
  rw[if_neg hw,h.1 a rfl];exact hK _ h.2
def kM (listed:Array Bool):Nat:=listed.toList.count false
theorem qI {listed:Array Bool} {i:Nat} (h:listed.getD i true=false):kM listed=kM (listed.setIfInBounds i true)+1:=by
 have hlt:i<listed.size:=by
  rcases Nat.lt_or_ge i listed.size with h'|h'
  ·exact h'
  ·simp[Array.getElem?_eq_none h'] at h
 have hg:listed.toList[i]?=some false:=by
  simp only[Array.getD_eq_getD_getElem?,Array.getElem?_eq_getElem hlt,Option.getD_some] at h;simp[h,hlt]
 unfold kM;rw[Array.toList_setIfInBounds];generalize listed.toList=l at hg;clear h hlt
 induction l generalizing i with
 |nil=>simp at hg
 |cons b l ih=>
  cases i with
  |zero=>
   obtain rfl:b=false:=by simpa using hg
   simp
  |succ i=>
   have:=ih (i:=i) (by simpa using hg);simp only[List.set_cons_succ,List.count_cons];omega
end
end Go.Proofs.RG
namespace Go.Proofs.RG
section
variable {P:Program} {ops:Array Oper} {Q:Exit->Act->World->Prop} {md:Region.Mode} {E:List Nat} {I:(Nat->Bool)->World->Prop}
def upd (E:List Nat) (L:Nat->Bool) (i:Nat):Nat->Bool:=if E.contains i then λj=>j==i||L j else L
def wJ (P:Program) (ops:Array Oper) (md:Region.Mode) (E:List Nat) (I:(Nat->Bool)->World->Prop) (K:Act->Prop):List Oper->Nat->Act->Prop
 |[],_,a=>K a
 |o::os,i,a=>∃A:Act,A.defers=a.defers/\(∀L w,L i=false->(∀j,j∈deps md o->L j=true)->I L w->wpList P ops (Only (I (upd E L i)) A) [o] a w)/\wJ P ops md E I K os (i+1) A
theorem xY {K:Act->Prop} {a:Act} {i:Nat} (h:K a):wJ P ops md E I K [] i a:=h
theorem qH {K:Act->Prop} {a:Act} {o:Oper} {os:List Oper} {i:Nat} {A:Act} (hi:E.contains i=false) (h:∀L w,I L w->wpList P ops (Only (I L) A) [o] a w) (hd:A.defers=a.defers) (h2:wJ P ops md E I K os (i+1) A):
  wJ P ops md E I K (o::os) i a:=⟨A,hd,λL w _ _ hw=>by unfold upd;rw[hi];exact h L w hw,h2⟩
theorem xV {K:Act->Prop} {a:Act} {o:Oper} {os:List Oper} {i:Nat} {A:Act} (hi:E.contains i=true) (h:∀L w,L i=false->(∀j,j∈deps md o->L j=true)->I L w->wpList P ops (Only (I (λj=>j==i||L j)) A) [o] a w) (hd:A.defers=a.defers) (h2:wJ P ops md E I K os (i+1) A):
  wJ P ops md E I K (o::os) i a:=⟨A,hd,λL w h0 hdp hw=>by unfold upd;rw[hi];exact h L w h0 hdp hw,h2⟩
theorem xPw {J:World->Prop} {o:Oper} {a A:Act} {w:World} (h:wpList P ops (Only J A) [o] a w):∃w',J w':=by
 unfold wpList at h;split at h
 ·rcases h with h|⟨_,a',w',h,_⟩
  ·unfold Oper.wp at h;generalize (execOp a.eval o).run P w=r at h;cases r with
   |ok n w'=>
    cases n<;>simp only[Oper.upon] at h
    case value u=>exact⟨_,h.2.2⟩
    case skip=>exact⟨_,h.2.2⟩
    case defer d=>exact⟨_,h.2.2⟩
    case enter f args=>
     obtain⟨e,w'',h1⟩:=xGz h;cases e with
     |returned u=>exact⟨_,h1.2.2⟩
     |panicked c=>exact absurd h1.1 σ
     |outgrown=>obtain⟨_,_,h2,_⟩:=h1;exact absurd h2 σ
    case row row args=>
     obtain⟨u,w'',h1⟩:=xJe h;exact⟨_,h1.2.2⟩
   |halt x w'=>
    cases x<;>simp only[Oper.upon] at h
    exact absurd h.1 σ
  ·exact absurd h σ
 ·exact⟨_,h.2.2⟩
def below (i:Nat):Nat->Bool:=λj=>decide (j<i)
theorem xE7 {L L':Nat->Bool} {i:Nat} (hL:∀e∈E,L e=L' e):∀e∈E,upd E L i e=(λj=>j==i||L' j) e:=by
 intro e he;unfold upd;split
 ·simp only[hL e he]
 ·rename_i hc
  have hne:e≠i:=λh=>hc (by rw[<-h];simpa using he);have:(e==i)=false:=by simpa using hne
  simp only[this,Bool.false_or,hL e he]
theorem xQx (i j:Nat):(j==i||below i j)=below (i+1) j:=by
 unfold below
 by_cases h:j=i
 ·subst h;simp
 ·have:(j==i)=false:=by simpa using h
  rw[this,Bool.false_or];exact decide_eq_decide.2 ω
end
def closed (ops:Array Oper) (md:Region.Mode) (L:Nat->Bool):Prop:=∀i o,ops[i]?=some o->L i=true->∀j,j∈deps md o->L j=true
def qY (ops:Array Oper) (md:Region.Mode):Nat->Nat->List Nat
 |0,_=>[]
 |n+1,i=>match ops[i]? with
  |none=>[]
  |some o=>deps md o++(deps md o).flatMap (qY ops md n)
theorem closed.reach {ops:Array Oper} {md:Region.Mode} {L:Nat->Bool} (h:closed ops md L):∀(n i:Nat),L i=true->∀j,j∈qY ops md n i->L j=true
 |0,_,_,_,hj=>by simp[qY] at hj
 |n+1,i,hi,j,hj=>by
  unfold qY at hj;cases ho:ops[i]? with
  |none=>rw[ho] at hj;simp at hj
  |some o=>
   rw[ho] at hj;simp only[List.mem_append,List.mem_flatMap] at hj;rcases hj with hj|⟨m,hm,hj⟩
   ·exact h i o ho hi j hj
   ·exact closed.reach h n m (h i o ho hi m hm) j hj
theorem closed.not {ops:Array Oper} {md:Region.Mode} {L:Nat->Bool} (h:closed ops md L) (n:Nat) {i j:Nat} (hj:L j=false) (hm:(qY ops md n i).contains j=true):L i=false:=by
 cases hi:L i with
 |false=>rfl
 |true=>
  have:=h.reach n i hi j (by simpa using hm);rw[hj] at this;cases this
theorem closed.yes {ops:Array Oper} {md:Region.Mode} {L:Nat->Bool} (h:closed ops md L) (n:Nat) {i j:Nat} (hi:L i=true) (hm:(qY ops md n i).contains j=true):L j=true:=h.reach n i hi j (by simpa using hm)
section
def late (md:Region.Mode) (N:List Nat) (o:Oper):Bool:=N.all λe=>(deps md o).contains e
end
abbrev Pv:=Nat->Value
def xGf (α:Pv) (i:Nat) (b:Value):Pv:=λj=>if j=i then b else α j
theorem wP (α:Pv) (i:Nat) (b:Value):xGf α i b i=b:=by simp[xGf]
theorem yY (α:Pv) (i:Nat) (b:Value) {j:Nat} (h:j≠i):xGf α i b j=α j:=by simp[xGf,h]
def xKk (P:Program) (ops:Array Oper) (I:Value->World->Prop) (o:Oper) (n:Nat) (a:Act) (w:World):Prop:=
 if Region.wanted o (yielded ops a.tmps)=true then
  match (execOp a.eval o).run P w with
  |.ok (.value u) w'=>∃v,EqAt o.dst n u v/\I v w'
  |.ok .skip w'=>∃v,EqAt o.dst n undef v/\I v w'
  |.ok (.enter f args) w'=>Calls P f args w' λe w''=>∃u v,e=.returned u/\EqAt o.dst n u v/\I v w''
  |.ok (.row row args) w'=>Rows P row args w' λu w''=>∃v,EqAt o.dst n u v/\I v w''
  |_=>False
 else ∃v,EqAt o.dst n undef v/\I v w
def OnlyV (I:Value->World->Prop) (d:Option Tmp) (a:Act):Exit->Act->World->Prop:=λe A w=>e=.normal/\∃v,A=a.put d v/\I v w
section
variable {P:Program} {ops:Array Oper} {Q:Exit->Act->World->Prop} {I:Value->World->Prop}
theorem One.val {I:World->Prop} {J:Value->World->Prop} {o:Oper} {v:Value} {n:Nat} {a:Act} {w:World} (h:One P ops I o v n a w) (hJ:∀w,I w->J v w):xKk P ops J o n a w:=by
 unfold One at h;unfold xKk;split at h
 ·rename_i hw
  rw[if_pos hw];generalize (execOp a.eval o).run P w=r at h⊢;cases r with
  |ok m w'=>
   cases m<;>simp only at h⊢
   case value u=>exact⟨v,h.1,hJ _ h.2⟩
   case skip=>exact⟨v,h.1,hJ _ h.2⟩
   case enter f args=>exact Calls.mono h λe w'' h1=>by obtain⟨u,h2,h3,h4⟩:=h1;exact⟨u,v,h2,h3,hJ _ h4⟩
   case row row args=>exact Rows.mono h λu w'' h1=>⟨v,h1.1,hJ _ h1.2⟩
  |halt x w'=>exact h.elim
 ·rename_i hw
  rw[if_neg hw];exact⟨v,h.1,hJ _ h.2⟩
theorem xT6 {o:Oper} {a:Act} {w:World} (h:wpList P ops (OnlyV I o.dst a) [o] a w):xKk P ops I o a.tmps.size a w:=by
 unfold wpList at h;unfold xKk;split at h
 ·rename_i hw
  rw[if_pos hw];rcases h with h|⟨_,a',w',h,_⟩
  ·unfold Oper.wp at h;generalize (execOp a.eval o).run P w=r at h⊢;cases r with
   |ok n w'=>
    cases n<;>simp only[Oper.upon] at h
    case value u=>obtain⟨_,v,h2,h3⟩:=h;exact⟨v,qX h2,h3⟩
    case skip=>obtain⟨_,v,h2,h3⟩:=h;exact⟨v,qX h2,h3⟩
    case defer d=>
     obtain⟨_,v,h2,h3⟩:=h;have:=congrArg Act.defers h2;rw[put_defers,put_defers] at this;simp at this
    case enter f args=>
     refine Calls.mono h λe w'' h1=>?_;cases e with
     |returned u=>obtain⟨_,v,h2,h3⟩:=h1;exact⟨u,v,rfl,qX h2,h3⟩
     |panicked c=>exact absurd h1.1 σ
     |outgrown=>obtain⟨_,_,h2,_⟩:=h1;exact absurd h2 σ
    case row row args=>
     exact Rows.mono h λu w'' h1=>by obtain⟨_,v,h2,h3⟩:=h1;exact⟨v,qX h2,h3⟩
   |halt x w'=>
    cases x<;>simp only[Oper.upon] at h
    exact absurd h.1 σ
  ·exact absurd h σ
 ·rename_i hw
  rw[if_neg hw];obtain⟨_,v,h2,h3⟩:=h;exact⟨v,qX h2,h3⟩
theorem xKk.move {o:Oper} {n:Nat} {a b:Act} {w:World} (h:xKk P ops I o n a w) (hs:∀cs d,o.op≠.select cs d) (hab:∀t,t∈o.looksAt ops->a.tmps[t]?=b.tmps[t]?):xKk P ops I o n b w:=by
 have he:execOp b.eval o=execOp a.eval o:=execOp_congr o hs λx hx=>by
  cases x with
  |tmp t=>
   have:t∈o.looksAt ops:=List.mem_append_left _ (List.mem_filterMap.2 ⟨.tmp t,by simpa using hx,rfl⟩);simp only[Act.eval,Array.getD_eq_getD_getElem?];rw[hab t this]
  |_=>rfl
 have hw:Region.wanted o (yielded ops b.tmps)=Region.wanted o (yielded ops a.tmps):=by
  unfold Region.wanted;cases hg:o.guard with
  |none=>rfl
  |some gw=>
   obtain⟨g,want⟩:=gw
   have hy:yielded ops b.tmps g=yielded ops a.tmps g:=by
    unfold yielded;cases ht:(ops[g]?).bind (·.dst) with
    |none=>rfl
    |some t=>
     have:t∈o.looksAt ops:=by simp[Oper.looksAt,hg,ht]
     simp only[Option.bind_some];rw[hab t this]
   simp only[hy]
 unfold xKk at*;rw[he,hw];exact h
theorem xKk.wpOp {o:Oper} {a:Act} {w:World} {i:Nat} {K:Act->World->Prop} (hi:ops[i]?=some o) (h:xKk P ops I o a.tmps.size a w) (hK:∀v w',I v w'->K (a.put o.dst v) w'):wpOp P ops Q i K a w:=by
 unfold Go.wpOp xKk at*;simp only[hi];split at h
 ·rename_i hw
  rw[if_pos hw];refine .inl ?_;unfold Oper.wp;generalize (execOp a.eval o).run P w=r at h⊢;cases r with
  |ok n w'=>
   cases n<;>simp only at h<;>simp only[Oper.upon]
   case value u=>obtain⟨v,h1,h2⟩:=h;rw[h1 a rfl];exact hK _ _ h2
   case skip=>obtain⟨v,h1,h2⟩:=h;rw[h1 a rfl];exact hK _ _ h2
   case enter f args=>
    refine Calls.mono h λe w'' h1=>?_;obtain⟨u,v,rfl,h2,h3⟩:=h1;simp only;rw[h2 a rfl];exact hK _ _ h3
   case row row args=>
    refine Rows.mono h λu w'' h1=>?_;obtain⟨v,h1,h2⟩:=h1;rw[h1 a rfl];exact hK _ _ h2
  |halt x w'=>exact h.elim
 ·rename_i hw
  obtain⟨v,h1,h2⟩:=h;rw[if_neg hw,h1 a rfl];exact hK _ _ h2
end
section
variable {P:Program} {ops:Array Oper} {Q:Exit->Act->World->Prop} {md:Region.Mode} {E N:List Nat} {J:(Nat->Bool)->Pv->World->Prop}
def jA (P:Program) (ops:Array Oper) (md:Region.Mode) (E N:List Nat) (J:(Nat->Bool)->Pv->World->Prop) (K:Pv->Act->Prop):List Oper->Nat->(Pv->Act)->Prop
 |[],_,a=>∀α,K α (a α)
 |o::os,i,a=>
  (N.contains i=true/\(∀α L w,L i=false->closed ops md L->closed ops md (λj=>j==i||L j)->J L α w->xKk P ops (λb w'=>J (λj=>j==i||L j) (xGf α i b) w') o (a α).tmps.size (a α) w)/\jA P ops md E N J K os (i+1) (λα=>(a α).put o.dst (α i)))∨
  (N.contains i=false/\∃(A:Pv->Act) (v:Pv->Value),(∀α,A α=(a α).put o.dst (v α))/\(late md N o=true∨∀α α',v α=v α')/\
   (∀α L w,L i=false->closed ops md L->closed ops md (λj=>j==i||L j)->J L α w->wpList P ops (Only (J (upd E L i) α) (A α)) [o] (a α) w)/\jA P ops md E N J K os (i+1) A)
theorem xL0 {K:Pv->Act->Prop} {a:Pv->Act} {i:Nat} (h:∀α,K α (a α)):jA P ops md E N J K [] i a:=h
theorem xH9 {K:Pv->Act->Prop} {a:Pv->Act} {o:Oper} {os:List Oper} {i:Nat} {A:Value->Pv->Act} (hi:N.contains i=true)
  (h:∀α L w,L i=false->closed ops md L->closed ops md (λj=>j==i||L j)->J L α w->∃v,∀b,b=v->wpList P ops (Only (J (λj=>j==i||L j) (xGf α i b)) (A b α)) [o] (a α) w)
  (hd:∀b α,A b α=(a α).put o.dst b) (h2:jA P ops md E N J K os (i+1) (λα=>A (α i) α)):jA P ops md E N J K (o::os) i a:=by
 refine .inl ⟨hi,λα L w h0 hc hc2 hw=>?_,?_⟩
 ·obtain⟨v,hv⟩:=h α L w h0 hc hc2 hw;have h9:=hv v rfl;rw[hd] at h9;exact(xBu h9).val λ_ h=>h
 ·have e:(λα=>(a α).put o.dst (α i))=λα=>A (α i) α:=funext λα=>(hd _ _).symm;rw[e];exact h2
theorem xBb {K:Pv->Act->Prop} {a:Pv->Act} {o:Oper} {os:List Oper} {i:Nat} {A:Value->Pv->Act} (hi:N.contains i=true)
  (h:∀α L w,L i=false->closed ops md L->closed ops md (λj=>j==i||L j)->J L α w->wpList P ops (OnlyV (λb w'=>J (λj=>j==i||L j) (xGf α i b) w') o.dst (a α)) [o] (a α) w)
  (hd:∀b α,A b α=(a α).put o.dst b) (h2:jA P ops md E N J K os (i+1) (λα=>A (α i) α)):jA P ops md E N J K (o::os) i a:=by
 refine .inl ⟨hi,λα L w h0 hc hc2 hw=>xT6 (h α L w h0 hc hc2 hw),?_⟩;have e:(λα=>(a α).put o.dst (α i))=λα=>A (α i) α:=funext λα=>(hd _ _).symm;rw[e];exact h2
theorem qZ {K:Pv->Act->Prop} {a:Pv->Act} {o:Oper} {os:List Oper} {i:Nat} {A:Pv->Act} {v:Value} (hi:N.contains i=false) (he:E.contains i=false)
  (h:∀α L w,L i=false->closed ops md L->closed ops md (λj=>j==i||L j)->J L α w->wpList P ops (Only (J L α) (A α)) [o] (a α) w) (hd:∀α,A α=(a α).put o.dst v) (h2:jA P ops md E N J K os (i+1) A):jA P ops md E N J K (o::os) i a:=
 .inr ⟨hi,A,λ_=>v,hd,.inr λ_ _=>rfl,λα L w h0 hc hc2 hw=>by unfold upd;rw[he];exact h α L w h0 hc hc2 hw,h2⟩
theorem xDg {K:Pv->Act->Prop} {a:Pv->Act} {o:Oper} {os:List Oper} {i:Nat} {A:Pv->Act} {v:Value} (hi:N.contains i=false) (he:E.contains i=true)
  (h:∀α L w,L i=false->closed ops md L->closed ops md (λj=>j==i||L j)->J L α w->wpList P ops (Only (J (λj=>j==i||L j) α) (A α)) [o] (a α) w) (hd:∀α,A α=(a α).put o.dst v) (h2:jA P ops md E N J K os (i+1) A):jA P ops md E N J K (o::os) i a:=
 .inr ⟨hi,A,λ_=>v,hd,.inr λ_ _=>rfl,λα L w h0 hc hc2 hw=>by unfold upd;rw[he];exact h α L w h0 hc hc2 hw,h2⟩
theorem xF3 {K:Pv->Act->Prop} {n0:Nat}:∀(os:List Oper) (i:Nat) (a:Pv->Act),(∀α,(a α).tmps.size=n0)->jA P ops md E N J K os i a->
  ∃V:Pv->Nat->Value,(∀n o,os[n]?=some o->∀α L w,L (i+n)=false->closed ops md L->closed ops md (λj=>j==i+n||L j)->J L α w->
   (N.contains (i+n)=true/\xKk P ops (λb w'=>J (λj=>j==i+n||L j) (xGf α (i+n) b) w') o n0 (fill (λj=>decide (j<i+n)) (V α) os i (a α)) w)∨
   (N.contains (i+n)=false/\One P ops (J (upd E L (i+n)) α) o (V α (i+n)) n0 (fill (λj=>decide (j<i+n)) (V α) os i (a α)) w))/\
   (∀n o,os[n]?=some o->(N.contains (i+n)=true/\∀α,V α (i+n)=α (i+n))∨(N.contains (i+n)=false/\(late md N o=true∨∀α α',V α (i+n)=V α' (i+n))))/\
   ∀α,K α (fill (λ_=>true) (V α) os i (a α))
 |[],_,a,_,h=>⟨λ_ _=>undef,λn o ho=>by simp at ho,λn o ho=>by simp at ho,h⟩
 |o::os,i,a,hsz,h=>by
  have key:∀(A:Pv->Act) (v:Pv->Value),(∀α,A α=(a α).put o.dst (v α))->jA P ops md E N J K os (i+1) A->
    (∀α L w,L i=false->closed ops md L->closed ops md (λj=>j==i||L j)->J L α w->
     (N.contains i=true/\xKk P ops (λb w'=>J (λj=>j==i||L j) (xGf α i b) w') o n0 (a α) w)∨(N.contains i=false/\One P ops (J (upd E L i) α) o (v α) n0 (a α) w))->
    ((N.contains i=true/\∀α,v α=α i)∨(N.contains i=false/\(late md N o=true∨∀α α',v α=v α')))->
    ∃V:Pv->Nat->Value,(∀n p,(o::os)[n]?=some p->∀α L w,L (i+n)=false->closed ops md L->closed ops md (λj=>j==i+n||L j)->J L α w->
     (N.contains (i+n)=true/\xKk P ops (λb w'=>J (λj=>j==i+n||L j) (xGf α (i+n) b) w') p n0 (fill (λj=>decide (j<i+n)) (V α) (o::os) i (a α)) w)∨
     (N.contains (i+n)=false/\One P ops (J (upd E L (i+n)) α) p (V α (i+n)) n0 (fill (λj=>decide (j<i+n)) (V α) (o::os) i (a α)) w))/\
     (∀n p,(o::os)[n]?=some p->(N.contains (i+n)=true/\∀α,V α (i+n)=α (i+n))∨(N.contains (i+n)=false/\(late md N p=true∨∀α α',V α (i+n)=V α' (i+n))))/\
     ∀α,K α (fill (λ_=>true) (V α) (o::os) i (a α)):=by
   intro A v hA h2 h1 hv;obtain⟨V,hV,hW,hK⟩:=xF3 os (i+1) A (λα=>by rw[hA,xDk];exact hsz α) h2
   have hc:∀(α:Pv) (L:Nat->Bool) (b:Act),fill L (λj=>if j=i then v α else V α j) os (i+1) b=fill L (V α) os (i+1) b:=λα L b=>
    vM os (i+1) b (λ_ _=>rfl) (λn _ _=>by rw[if_neg ω])
   refine⟨λα j=>if j=i then v α else V α j,λn p hp α L w hL hcl xP hw=>?_,λn p hp=>?_,λα=>?_⟩
   ·cases n with
    |zero=>
     obtain rfl:o=p:=by simpa using hp
     simp only[Nat.add_zero,if_true];rw[rW _ _ _ (λn _=>by simp)];exact h1 α L w (by simpa using hL) hcl (by simpa using xP) hw
    |succ n=>
     have e3:i+1+n=i+(n+1):=ω;have:=hV n p (by simpa using hp) α L w (by rw[e3];exact hL) hcl (by rw[e3];exact xP) hw;have e1:¬i+(n+1)=i:=ω;simp only[e1,if_false];unfold fill;simp only[if_true];rw[if_pos σ,hc,<-e3,<-hA];exact this
   ·cases n with
    |zero=>
     obtain rfl:o=p:=by simpa using hp
     simpa using hv
    |succ n=>
     have:=hW n p (by simpa using hp);have e1:¬i+(n+1)=i:=ω;simp only[e1,if_false];rw[show i+(n+1)=i+1+n by omega];exact this
   ·unfold fill;simp only[if_true];rw[hc,<-hA];exact hK α
  rcases h with ⟨hi,h1,h2⟩|⟨hi,A,v,hA,hv,h1,h2⟩
  ·refine key _ (λα=>α i) (λ_=>rfl) h2 (λα L w h0 hcl xP hw=>.inl ⟨hi,?_⟩) (.inl ⟨hi,λ_=>rfl⟩);have hb:=h1 α L w h0 hcl xP hw
   rwa [hsz α] at hb
  ·refine key A v hA h2 (λα L w h0 hcl xP hw=>.inr ⟨hi,?_⟩) (.inr ⟨hi,hv⟩);have:=h1 α L w h0 hcl xP hw;rw[hA α] at this;have:=xBu this
   rwa [hsz α] at this
def xFq (md:Region.Mode) (ops:Array Oper):Bool:=
 Region.noSelect ops&&(List.range ops.size).all λi=>match ops[i]? with
  |none=>true
  |some o=>(deps md o).all (·<i)&&(List.range ops.size).all λj=>i==j||match ops[j]? with
   |none=>true
   |some p=>match p.dst with
    |none=>true
    |some d=>o.dst !=some d&&(!(o.looksAt ops).contains d||(deps md o).contains j||(decide (i<j)&&(qY ops md 9 j).contains i))
theorem pO {md:Region.Mode} {ops:Array Oper} (h:xFq md ops=true) {i:Nat} {o:Oper} (ho:ops[i]?=some o) {j:Nat} (hj:j∈deps md o):j<i:=by
 unfold xFq at h;rw[Bool.and_eq_true] at h;have h1:=List.all_eq_true.1 h.2 i (List.mem_range.2 (Array.getElem?_eq_some_iff.1 ho).1);simp only[ho,Bool.and_eq_true] at h1;simpa using List.all_eq_true.1 h1.1 j hj
theorem xEv {md:Region.Mode} {ops:Array Oper} (h:xFq md ops=true) {i j:Nat} {o p:Oper} (ho:ops[i]?=some o) (hp:ops[j]?=some p) (hne:i≠j) {d:Tmp} (hd:p.dst=some d):
  o.dst≠some d/\(d∈o.looksAt ops->j∈deps md o∨(i<j/\(qY ops md 9 j).contains i=true)):=by
 unfold xFq at h;rw[Bool.and_eq_true] at h;have h1:=List.all_eq_true.1 h.2 i (List.mem_range.2 (Array.getElem?_eq_some_iff.1 ho).1);simp only[ho,Bool.and_eq_true] at h1;have h2:=List.all_eq_true.1 h1.2 j (List.mem_range.2 (Array.getElem?_eq_some_iff.1 hp).1)
 simp only[hp,hd,Bool.or_eq_true,beq_iff_eq,hne,false_or,Bool.and_eq_true,bne_iff_ne,Bool.not_eq_true',List.contains_eq_mem,decide_eq_false_iff_not,decide_eq_true_eq] at h2;refine⟨h2.1,λhl=>?_⟩;rcases h2.2 with (h3|h3)|h3
 ·exact absurd hl h3
 ·exact .inl h3
 ·exact .inr ⟨h3.1,by simpa using h3.2⟩
theorem xG0 {a0:Act} {w0:World} (α0:Pv) (hf:xFq md ops=true) (hE:∀L L' α α' w,(∀e,e∈E∨e∈N->L e=L' e)->(∀e∈N,L e=true->α e=α' e)->J L α w->J L' α' w) (hEl:∀e,e∈E∨e∈N->e<ops.size) (hI:J (λ_=>false) α0 w0)
  (h:jA P ops md E N J (λα a=>∀w,J (λ_=>true) α w->Q .normal a w) ops.toList 0 (λ_=>a0)):wpAny P md ops Q ops.size (Array.replicate ops.size false) a0 w0:=by
 obtain⟨V,hV,hW,hK⟩:=xF3 (n0:=a0.tmps.size) ops.toList 0 (λ_=>a0) (λ_=>rfl) h;have hs:Region.noSelect ops=true:=by unfold xFq at hf;rw[Bool.and_eq_true] at hf;exact hf.1
 have main:∀(fuel:Nat) (listed:Array Bool) (α:Pv) (w:World),listed.size=ops.size->kM listed=fuel->closed ops md (λj=>listed.getD j false)->J (λj=>listed.getD j false) α w->
   wpAny P md ops Q fuel listed (fill (λj=>listed.getD j false) (V α) ops.toList 0 a0) w:=by
  intro fuel
  have hfin:∀(listed:Array Bool) (α:Pv) (w:World),listed.size=ops.size->J (λj=>listed.getD j false) α w->Region.ready md ops listed=[]->Q .normal (fill (λj=>listed.getD j false) (V α) ops.toList 0 a0) w:=by
   intro listed α w hsz hw hr
   have hall:∀j,j<ops.size->listed.getD j true=true:=by
    intro j
    induction j using Nat.strongRecOn with
    |_ j ih=>
     intro hj;cases hc:listed.getD j true with
     |true=>rfl
     |false=>
      have:j∈Region.ready md ops listed:=mem_ready.2 ⟨hc,ops[j],Array.getElem?_eq_getElem hj,λe he hb=>by
       have hlt:=pO hf (Array.getElem?_eq_getElem hj) (xDp.2 ⟨e,he,hb,rfl⟩);have:=ih e.on hlt ω;simp only[Array.getD_eq_getD_getElem?] at this⊢;rw[Array.getElem?_eq_getElem ω] at this⊢;simpa using this⟩
      rw[hr] at this;cases this
   have xUd:∀j,j<ops.size->listed.getD j false=true:=λj hj=>by
    have:=hall j hj;simp only[Array.getD_eq_getD_getElem?] at this⊢;rw[Array.getElem?_eq_getElem ω] at this⊢;simpa using this
   have e:fill (λj=>listed.getD j false) (V α) ops.toList 0 a0=fill (λ_=>true) (V α) ops.toList 0 a0:=vM _ _ _ (λn hn=>by
    have hn':n<ops.size:=by simpa using hn
    rw[Nat.zero_add];exact xUd n hn') (λ_ _ _=>rfl)
   rw[e];exact hK α w (hE _ _ _ _ _ (λe he=>xUd e (hEl e he)) (λ_ _ _=>rfl) hw)
  induction fuel with
  |zero=>
   intro listed α w hsz hu hcl hw
   have hr:Region.ready md ops listed=[]:=by
    cases hc:Region.ready md ops listed with
    |nil=>rfl
    |cons j _=>
     have hm:j∈Region.ready md ops listed:=by rw[hc];simp
     have:=qI (mem_ready.1 hm).1;omega
   exact⟨hr,hfin listed α w hsz hw hr⟩
  |succ fuel ih=>
   intro listed α w hsz hu hcl hw;refine⟨hfin listed α w hsz hw,λi hi=>?_⟩;obtain⟨hun,o,ho,yBr⟩:=mem_ready.1 hi;have hilt:i<ops.size:=(Array.getElem?_eq_some_iff.1 ho).1
   have hlf:listed.getD i false=false:=by
    simp only[Array.getD_eq_getD_getElem?] at hun⊢;rw[Array.getElem?_eq_getElem ω] at hun⊢;simpa using hun
   have hol:ops.toList[i]?=some o:=by simpa using ho
   have hdone:∀j,j∈deps md o->listed.getD j false=true:=λj hj=>by
    obtain⟨e,he,hb,rfl⟩:=xDp.1 hj;have hlt:=pO hf ho hj;have:=yBr e he hb;simp only[Array.getD_eq_getD_getElem?] at this⊢;rw[Array.getElem?_eq_getElem ω] at this⊢;simpa using this
   have xP:closed ops md (λj=>j==i||listed.getD j false):=by
    intro j p hp hj m hm
    by_cases e:j=i
    ·subst e;rw[ho] at hp;injection hp with hp;subst hp;simp[hdone m hm]
    ·have hj':listed.getD j false=true:=by
      have e9:(j==i)=false:=by simpa using e
      simpa[e9] using hj
     have:=hcl j p hp hj' m hm;simp only[this,Bool.or_true]
   have hsz2:∀β:Pv,(fill (λj=>listed.getD j false) (V β) ops.toList 0 a0).tmps.size=a0.tmps.size:=λ_=>xEx _ _ _
   have mv:∀{I:World->Prop} {v:Value},One P ops I o v a0.tmps.size (fill (λj=>decide (j<i)) (V α) ops.toList 0 a0) w->One P ops I o v a0.tmps.size (fill (λj=>listed.getD j false) (V α) ops.toList 0 a0) w:=by
    intro I v h1;refine h1.move (λcs d=>Region.noSelect_spec hs i o cs d ho) λt ht=>?_;refine xAb _ _ _ _ rfl rfl λn p hp hd=>?_;have hp':ops[n]?=some p:=by simpa using hp
    simp only[Nat.zero_add]
    by_cases hni:i=n
    ·subst hni;rw[hlf];simp
    ·rcases(xEv hf ho hp' hni hd).2 ht with hn|⟨hn1,hn2⟩
     ·have hlt:=pO hf ho hn;rw[hdone n hn];simpa using hlt
     ·rw[hcl.not 9 (i:=n) hlf hn2];simp;omega
   have mvE:∀{I:Value->World->Prop},xKk P ops I o a0.tmps.size (fill (λj=>decide (j<i)) (V α) ops.toList 0 a0) w->xKk P ops I o a0.tmps.size (fill (λj=>listed.getD j false) (V α) ops.toList 0 a0) w:=by
    intro I h1;refine h1.move (λcs d=>Region.noSelect_spec hs i o cs d ho) λt ht=>?_;refine xAb _ _ _ _ rfl rfl λn p hp hd=>?_;have hp':ops[n]?=some p:=by simpa using hp
    simp only[Nat.zero_add]
    by_cases hni:i=n
    ·subst hni;rw[hlf];simp
    ·rcases(xEv hf ho hp' hni hd).2 ht with hn|⟨hn1,hn2⟩
     ·have hlt:=pO hf ho hn;rw[hdone n hn];simpa using hlt
     ·rw[hcl.not 9 (i:=n) hlf hn2];simp;omega
   have e3:∀n,n<ops.size->(n==i||listed.getD n false)=(listed.setIfInBounds i true).getD n false:=λn hn=>by
    by_cases hni:i=n
    ·subst hni;simp only[BEq.rfl,Bool.true_or,Array.getD_eq_getD_getElem?];rw[Array.getElem?_setIfInBounds_self_of_lt ω]
     rfl
    ·rw[getD_set_ne false hni];have:(n==i)=false:=by simp;omega
     rw[this,Bool.false_or]
   have nxt:∀(β:Pv) (v:Value),V β i=v->(∀n,n<ops.size->listed.getD n false=true->V β n=V α n)->(fill (λj=>listed.getD j false) (V α) ops.toList 0 a0).put o.dst v=fill (λj=>(listed.setIfInBounds i true).getD j false) (V β) ops.toList 0 a0:=by
    intro β v hv hsame
    have e0:fill (λj=>listed.getD j false) (V α) ops.toList 0 a0=fill (λj=>listed.getD j false) (V β) ops.toList 0 a0:=vM _ _ _ (λ_ _=>rfl) (λn hn hl=>by
     have hn':n<ops.size:=by simpa using hn
     simp only[Nat.zero_add] at hl⊢;exact(hsame n hn' hl).symm)
    rw[e0]
    have e:=xI9 (L:=λj=>listed.getD j false) (V:=V β) (v:=v) ops.toList 0 i o a0 hol (by rw[Nat.zero_add];exact hlf) (λm p e hp hne he=>by
     have hp':ops[m]?=some p:=by simpa using hp
     exact(xEv hf hp' ho hne he).1)
    rw[e];refine vM _ _ _ (λn hn=>?_) (λn hn _=>?_)
    ·simp only[Nat.zero_add];exact e3 n (by simpa using hn)
    ·simp only[Nat.zero_add];split
     ·rename_i h;rw[h,hv]
     ·rfl
   have hun2:kM (listed.setIfInBounds i true)=fuel:=by have:=qI hun;omega
   have hcl3:closed ops md (λj=>(listed.setIfInBounds i true).getD j false):=by
    intro j p hp hj m hm;have hjl:j<ops.size:=(Array.getElem?_eq_some_iff.1 hp).1;have hml:m<ops.size:=Nat.lt_trans (pO hf hp hm) hjl;have hj2:(j==i||listed.getD j false)=true:=(e3 j hjl).trans hj;exact(e3 m hml).symm.trans (xP j p hp hj2 m hm)
   have h1:=hV i o hol α (λj=>listed.getD j false) w (by rw[Nat.zero_add];exact hlf) hcl (by rw[Nat.zero_add];exact xP) hw;simp only[Nat.zero_add] at h1;rcases h1 with ⟨hNi,h1⟩|⟨hNi,h1⟩
   ·have h2:=mvE h1;rw[<-hsz2 α] at h2;refine h2.wpOp ho λb w' hw'=>?_
    rw[nxt (xGf α i b) b (by
     rcases hW i o hol with ⟨_,h⟩|⟨h,_⟩
     ·rw[Nat.zero_add] at h;rw[h,wP]
     ·rw[Nat.zero_add] at h;rw[hNi] at h;cases h) (λn hn hl=>by
     obtain⟨p,hp⟩:∃p,ops.toList[n]?=some p:=⟨ops[n],by rw[Array.getElem?_toList,Array.getElem?_eq_getElem hn]⟩;rcases hW n p hp with ⟨_,h⟩|⟨_,h|h⟩
     ·rw[Nat.zero_add] at h;rw[h,h,yY _ _ _ (λe=>by rw[e,hlf] at hl;cases hl)]
     ·have hin:i∈deps md p:=by
       have:=List.all_eq_true.1 h i (by simpa using hNi);simpa using this
      have hcl9:listed.getD i false=true:=hcl n p (by simpa using hp) hl i hin;rw[hlf] at hcl9;cases hcl9
     ·rw[Nat.zero_add] at h;exact h _ _)]
    refine ih _ _ w' (by simpa using hsz) hun2 hcl3 (hE _ _ _ _ _ (λe he=>e3 e (hEl e he)) (λ_ _ _=>rfl) hw')
   ·have h2:=mv h1;rw[<-hsz2 α] at h2;refine h2.wpOp ho λw' hw'=>?_;rw[nxt α _ rfl (λ_ _ _=>rfl)];refine ih _ _ w' (by simpa using hsz) hun2 hcl3 (hE _ _ _ _ _ (λe he=>?_) (λ_ _ _=>rfl) hw');rcases he with he|he
    ·rw[xE7 (L':=λj=>listed.getD j false) (λ_ _=>rfl) e he];exact e3 e (hEl e (.inl he))
    ·have hne:e≠i:=λh=>by
       rw[h] at he;have:N.contains i=true:=by simpa using he
       rw[hNi] at this;cases this
     rw[<-e3 e (hEl e (.inr he))];have h9:(e==i)=false:=by simpa using hne
     unfold upd;split<;>simp[h9]
 have:=main ops.size (Array.replicate ops.size false) α0 w0 σ (by unfold kM;simp) (λj p hp hj=>by
  have hjl:j<ops.size:=(Array.getElem?_eq_some_iff.1 hp).1;simp[hjl] at hj) (hE _ _ _ _ _ (λe he=>by
  have:=hEl e he;simp[this]) (λ_ _ h=>by cases h) hI)
 rw[rW _ _ _ (λn hn=>by
  have hn':n<ops.size:=by simpa using hn
  simp[hn'])] at this
 exact this
theorem qR {id:Nat} {l:List Oper} {a:Act} {w:World} (E N:List Nat) (J:(Nat->Bool)->Pv->World->Prop) (hE:∀L L' α α' w,(∀e,e∈E∨e∈N->L e=L' e)->(∀e∈N,L e=true->α e=α' e)->J L α w->J L' α' w) (hm:P.follows .mixedOrders=true) (hf:xFq .any l.toArray=true) (hEl:((E++N).all λe=>decide (e<l.length))=true) (hI:J (λ_=>false) (λ_=>undef) w.drew)
  (h:jA P l.toArray .any E N J (λα a=>∀w,J (λ_=>true) α w->Q .normal a w) l 0 (λ_=>a)):(Code.region id l.toArray true).wp P Q a w:=
 wp_region_any hm (xG0 (λ_=>undef) hf hE (λe he=>by have:=List.all_eq_true.1 hEl e (by simpa using he);simpa using this) hI (by simpa using h))
end
section
variable {P:Program} {ops:Array Oper} {Q:Exit->Act->World->Prop} {md:Region.Mode} {E:List Nat} {I:(Nat->Bool)->World->Prop}
theorem xZu {K:Act->Prop} (hE:∀L L' w,(∀e∈E,L e=L' e)->I L w->I L' w):∀(os:List Oper) (i:Nat) (a:Act) (w0:World),I (below i) w0->(∀n o,os[n]?=some o->ops[i+n]?=some o/\∀j∈deps md o,j<i+n)->wJ P ops md E I K os i a->
  jA P ops md E [] (λL _ w=>I L w) (λ_ A=>K A) os i (λ_=>a)
 |[],_,_,_,_,_,h=>λ_=>h
 |o::os,i,a,w0,hI,hdp,h=>by
  obtain⟨A,hd,h1,h2⟩:=h;have h10:=h1 (below i) w0 (by simp[below]) (λj hj=>by have:=(hdp 0 o rfl).2 j hj;simpa[below] using this) hI;obtain⟨u,rfl⟩:=xNf hd h10;obtain⟨w1,hI1⟩:=xPw h10
  have hI2:I (below (i+1)) w1:=hE _ _ _ (λe he=>by rw[xE7 (L':=below i) (λ_ _=>rfl) e he];exact xQx i e) hI1;refine .inr ⟨rfl,λ_=>a.put o.dst u,λ_=>u,λ_=>rfl,.inr (λ_ _=>rfl),λ_ L w h0 _ hc2 hw=>h1 L w h0 (λj hj=>?_) hw,xZu hE os (i+1) _ w1 hI2 (λn p hp=>?_) h2⟩
  ·have hlt:=(hdp 0 o rfl).2 j hj;have:=hc2 i o (hdp 0 o rfl).1 σ j hj;simpa[show j≠i by omega] using this
  ·have:=hdp (n+1) p (by simpa using hp);rw[show i+1+n=i+(n+1) by omega];exact this
theorem yI {id:Nat} {l:List Oper} {a:Act} {w:World} (E:List Nat) (I:(Nat->Bool)->World->Prop) (hE:∀L L' w,(∀e∈E,L e=L' e)->I L w->I L' w) (hm:P.follows .mixedOrders=true) (hf:xFq .any l.toArray=true) (hEl:(E.all λe=>decide (e<l.length))=true) (hI:I (λ_=>false) w.drew)
  (h:wJ P l.toArray .any E I (λa=>∀w,I (λ_=>true) w->Q .normal a w) l 0 a):(Code.region id l.toArray true).wp P Q a w:=
 wp_region_any hm (xG0 (N:=[]) (J:=λL _ w=>I L w) (λ_=>undef) hf (λL L' _ _ w hl _ hw=>hE L L' w (λe he=>hl e (.inl he)) hw) (λe he=>by
  have:=List.all_eq_true.1 hEl e (by simpa using he);simpa using this) hI (by
  have:=xZu hE l 0 a w.drew (hE _ _ _ (λe _=>by simp[below]) hI) (λn o ho=>⟨by simpa using ho,λj hj=>by rw[Nat.zero_add];exact pO hf (by simpa using ho) hj⟩) h;simpa using this))
theorem det_L {I:World->Prop} {K:Act->Prop}:∀(os:List Oper) (i:Nat) (a:Act),xBc P ops I K os a->wJ P ops md [] (λ_ w=>I w) K os i a
 |[],_,_,h=>h
 |_::os,i,_,⟨A,hd,h1,h2⟩=>⟨A,hd,λ_ w _ _ hw=>h1 w hw,det_L os (i+1) A h2⟩
theorem xH {id:Nat} {l:List Oper} {a:Act} {w:World} (I:World->Prop) (hm:P.follows .mixedOrders=true) (hf:xFq .any l.toArray=true) (hI:I w.drew)
  (h:xBc P l.toArray I (λa=>∀w,I w->Q .normal a w) l a):(Code.region id l.toArray true).wp P Q a w:=
 yI [] (λ_ w=>I w) (λ_ _ _ _ h=>h) hm hf rfl hI (det_L l 0 a h)
end
end Go.Proofs.RG
namespace Go.Proofs.RG
theorem xIy {P:Program} {ops:Array Oper} {Q:Exit->Act->World->Prop} {I:World->Prop} {K:Act->Prop} (hK:∀A w,K A->I w->Q .normal A w):
  ∀(os:List Oper) (i:Nat) (a:Act) (w:World),(∀n,n<os.length->ops[i+n]?=os[n]?)->xBc P ops I K os a->I w->wpOps P ops Q (List.range' i os.length) a w
 |[],i,a,w,_,h,hI=>by
  rw[List.length_nil,List.range'_zero];exact hK _ _ h hI
 |o::os,i,a,w,ho,h,hI=>by
  obtain⟨A,hd,h1,h2⟩:=h;obtain⟨u,rfl⟩:=xNf hd (h1 w hI);rw[List.length_cons,List.range'_succ,wpOps_cons];refine One.wpOp (i:=i) (by have:=ho 0 σ;simpa using this) (xBu (h1 w hI)) (λw' ι=>?_)
  exact xIy hK os (i+1) _ w' (λn hn=>by have:=ho (n+1) (by simpa using hn);simpa[Nat.add_assoc,Nat.add_comm 1 n] using this) h2 ι
theorem yD {P:Program} {Q:Exit->Act->World->Prop} {id:Nat} {l:List Oper} {a:Act} {w:World} (I:World->Prop) (hI:I w) (h:xBc P l.toArray I (λA=>∀w,I w->Q .normal A w) l a):(Code.region id l.toArray false).wp P Q a w:=
 wp_region (by
  rw[List.range_eq_range',show l.toArray.size=l.length by simp];exact xIy (λA w hk hi=>hk w hi) l 0 a w (λn _=>by simp) h hI)
theorem rR {P:Program} {ops:Array Oper} {I:World->Prop} {a A:Act} {w:World} {o:Oper} (hw:Region.wanted o (yielded ops a.tmps)=false) (hA:a.put o.dst undef=A) (hI:I w):wpList P ops (Only I A) [o] a w:=
 wpList_skip hw (by rw[hA];exact xB hI)
def CI (ops:Array Oper) (md:Region.Mode) (I:(Nat->Bool)->World->Prop) (L:Nat->Bool) (w:World):Prop:=closed ops md L/\I L w
theorem xN {P:Program} {ops:Array Oper} {md:Region.Mode} {I:(Nat->Bool)->World->Prop} {K:Act->Prop} {n:Nat} {a:Act} {o:Oper} {os:List Oper} {i:Nat} {A:Act} (ho:ops[i]?=some o) (hi:(List.range n).contains i=true)
  (h:∀L w,L i=false->closed ops md L->closed ops md (λj=>j==i||L j)->I L w->wpList P ops (Only (CI ops md I (λj=>j==i||L j)) A) [o] a w) (hd:A.defers=a.defers)
  (h2:wJ P ops md (List.range n) (CI ops md I) K os (i+1) A):wJ P ops md (List.range n) (CI ops md I) K (o::os) i a:=by
 refine xV hi (λL w h0 hdp hw=>?_) hd h2;refine h L w h0 hw.1 (λj p hp hj m hm=>?_) hw.2
 by_cases e:j=i
 ·subst e;rw[ho] at hp;injection hp with hp;subst hp;simp[hdp m hm]
 ·have hj':L j=true:=by simpa[e] using hj
  simp[hw.1 j p hp hj' m hm]
theorem xNm {P:Program} {ops:Array Oper} {md:Region.Mode} {E:List Nat} {I:(Nat->Bool)->World->Prop} {K K':Act->Prop} (hK:∀a,K a->K' a):∀(os:List Oper) (i:Nat) (a:Act),wJ P ops md E I K os i a->wJ P ops md E I K' os i a
 |[],_,a,h=>hK a h
 |_::os,i,_,⟨A,h1,h2,h3⟩=>⟨A,h1,h2,xNm hK os (i+1) A h3⟩
theorem yM {P:Program} {Q:Exit->Act->World->Prop} {id:Nat} {l:List Oper} {a:Act} {w:World} (n:Nat) (I:(Nat->Bool)->World->Prop) (hI2:∀L L' w,(∀e,e<n->L e=L' e)->I L w->I L' w) (hm:P.follows .mixedOrders=true) (hf:xFq .any l.toArray=true) (hn:l.length=n) (hI:I (λ_=>false) w.drew)
  (h:wJ P l.toArray .any (List.range n) (CI l.toArray .any I) (λa=>∀w,I (λ_=>true) w->Q .normal a w) l 0 a):(Code.region id l.toArray true).wp P Q a w:=by
 refine yI (List.range n) (CI l.toArray .any I) (λL L' w he h=>⟨λi o ho hi j hj=>?_,hI2 L L' w (λe h=>he e (by simpa using h)) h.2⟩) hm hf (by simp;omega) ⟨λi o _ hi=>(by cases hi),hI⟩ ?_
 ·have hin:i<l.length:=by
   have:=(Array.getElem?_eq_some_iff.1 ho).1;simpa using this
  have hjn:j<l.length:=Nat.lt_trans (pO hf ho hj) hin;rw[<-he j (by simp;omega)];exact h.1 i o ho (by rw[he i (by simp;omega)];exact hi) j hj
 ·refine xNm ?_ _ _ _ h;intro a ha w hw;exact ha w hw.2
abbrev Pl:=Nat->Nat
abbrev ptr (b:Nat):Value:=.pointer (some ⟨b,0,none⟩)
def xLs (α:Pl) (i b:Nat):Pl:=λj=>if j=i then b else α j
theorem xBq (α:Pl) (i b:Nat):xLs α i b i=b:=by simp[xLs]
theorem xA5 (α:Pl) (i b:Nat) {j:Nat} (h:j≠i):xLs α i b j=α j:=by simp[xLs,h]
section
variable {P:Program} {ops:Array Oper} {Q:Exit->Act->World->Prop} {md:Region.Mode} {E N:List Nat} {J:(Nat->Bool)->Pl->World->Prop}
def zQ (P:Program) (ops:Array Oper) (md:Region.Mode) (E N:List Nat) (J:(Nat->Bool)->Pl->World->Prop) (K:Pl->Act->Prop):List Oper->Nat->(Pl->Act)->Prop
 |[],_,a=>∀α,K α (a α)
 |o::os,i,a=>
  (N.contains i=true/\(∀α L w,L i=false->closed ops md L->J L α w->∃b,wpList P ops (Only (J (λj=>j==i||L j) (xLs α i b)) ((a α).put o.dst (ptr b))) [o] (a α) w)/\zQ P ops md E N J K os (i+1) (λα=>(a α).put o.dst (ptr (α i))))∨
  (N.contains i=false/\∃(A:Pl->Act) (v:Pl->Value),(∀α,A α=(a α).put o.dst (v α))/\(late md N o=true∨∀α α',v α=v α')/\
   (∀α L w,L i=false->closed ops md L->closed ops md (λj=>j==i||L j)->J L α w->wpList P ops (Only (J (upd E L i) α) (A α)) [o] (a α) w)/\zQ P ops md E N J K os (i+1) A)
theorem wK {K:Pl->Act->Prop} {a:Pl->Act} {i:Nat} (h:∀α,K α (a α)):zQ P ops md E N J K [] i a:=h
theorem yA2 {K:Pl->Act->Prop} {a:Pl->Act} {o:Oper} {os:List Oper} {i:Nat} {A:Nat->Pl->Act} (hi:N.contains i=true)
  (h:∀α L w b,b=w.heap.size->L i=false->closed ops md L->J L α w->wpList P ops (Only (J (λj=>j==i||L j) (xLs α i b)) (A b α)) [o] (a α) w)
  (hd:∀b α,A b α=(a α).put o.dst (ptr b)) (h2:zQ P ops md E N J K os (i+1) (λα=>A (α i) α)):zQ P ops md E N J K (o::os) i a:=by
 refine .inl ⟨hi,λα L w h0 hc hw=>⟨w.heap.size,?_⟩,?_⟩
 ·rw[<-hd];exact h α L w _ rfl h0 hc hw
 ·have e:(λα=>(a α).put o.dst (ptr (α i)))=λα=>A (α i) α:=funext λα=>(hd _ _).symm;rw[e];exact h2
theorem kX {K:Pl->Act->Prop} {a:Pl->Act} {o:Oper} {os:List Oper} {i:Nat} {A:Pl->Act} {v:Value} (hi:N.contains i=false) (he:E.contains i=false)
  (h:∀α L w,L i=false->closed ops md L->closed ops md (λj=>j==i||L j)->J L α w->wpList P ops (Only (J L α) (A α)) [o] (a α) w) (hd:∀α,A α=(a α).put o.dst v) (h2:zQ P ops md E N J K os (i+1) A):zQ P ops md E N J K (o::os) i a:=
 .inr ⟨hi,A,λ_=>v,hd,.inr λ_ _=>rfl,λα L w h0 hc hc2 hw=>by unfold upd;rw[he];exact h α L w h0 hc hc2 hw,h2⟩
theorem xWi {K:Pl->Act->Prop} {a:Pl->Act} {o:Oper} {os:List Oper} {i:Nat} {A:Pl->Act} {v:Value} (hi:N.contains i=false) (he:E.contains i=true)
  (h:∀α L w,L i=false->closed ops md L->closed ops md (λj=>j==i||L j)->J L α w->wpList P ops (Only (J (λj=>j==i||L j) α) (A α)) [o] (a α) w) (hd:∀α,A α=(a α).put o.dst v) (h2:zQ P ops md E N J K os (i+1) A):zQ P ops md E N J K (o::os) i a:=
 .inr ⟨hi,A,λ_=>v,hd,.inr λ_ _=>rfl,λα L w h0 hc hc2 hw=>by unfold upd;rw[he];exact h α L w h0 hc hc2 hw,h2⟩
theorem xF4 {K:Pl->Act->Prop} {n0:Nat}:∀(os:List Oper) (i:Nat) (a:Pl->Act),(∀α,(a α).tmps.size=n0)->zQ P ops md E N J K os i a->
  ∃V:Pl->Nat->Value,(∀n o,os[n]?=some o->∀α L w,L (i+n)=false->closed ops md L->closed ops md (λj=>j==i+n||L j)->J L α w->
   (N.contains (i+n)=true/\∃b,One P ops (J (λj=>j==i+n||L j) (xLs α (i+n) b)) o (ptr b) n0 (fill (λj=>decide (j<i+n)) (V α) os i (a α)) w)∨
   (N.contains (i+n)=false/\One P ops (J (upd E L (i+n)) α) o (V α (i+n)) n0 (fill (λj=>decide (j<i+n)) (V α) os i (a α)) w))/\
   (∀n o,os[n]?=some o->(N.contains (i+n)=true/\∀α,V α (i+n)=ptr (α (i+n)))∨(N.contains (i+n)=false/\(late md N o=true∨∀α α',V α (i+n)=V α' (i+n))))/\
   ∀α,K α (fill (λ_=>true) (V α) os i (a α))
 |[],_,a,_,h=>⟨λ_ _=>undef,λn o ho=>by simp at ho,λn o ho=>by simp at ho,h⟩
 |o::os,i,a,hsz,h=>by
  have key:∀(A:Pl->Act) (v:Pl->Value),(∀α,A α=(a α).put o.dst (v α))->zQ P ops md E N J K os (i+1) A->
    (∀α L w,L i=false->closed ops md L->closed ops md (λj=>j==i||L j)->J L α w->
     (N.contains i=true/\∃b,One P ops (J (λj=>j==i||L j) (xLs α i b)) o (ptr b) n0 (a α) w)∨(N.contains i=false/\One P ops (J (upd E L i) α) o (v α) n0 (a α) w))->
    ((N.contains i=true/\∀α,v α=ptr (α i))∨(N.contains i=false/\(late md N o=true∨∀α α',v α=v α')))->
    ∃V:Pl->Nat->Value,(∀n p,(o::os)[n]?=some p->∀α L w,L (i+n)=false->closed ops md L->closed ops md (λj=>j==i+n||L j)->J L α w->
     (N.contains (i+n)=true/\∃b,One P ops (J (λj=>j==i+n||L j) (xLs α (i+n) b)) p (ptr b) n0 (fill (λj=>decide (j<i+n)) (V α) (o::os) i (a α)) w)∨
     (N.contains (i+n)=false/\One P ops (J (upd E L (i+n)) α) p (V α (i+n)) n0 (fill (λj=>decide (j<i+n)) (V α) (o::os) i (a α)) w))/\
     (∀n p,(o::os)[n]?=some p->(N.contains (i+n)=true/\∀α,V α (i+n)=ptr (α (i+n)))∨(N.contains (i+n)=false/\(late md N p=true∨∀α α',V α (i+n)=V α' (i+n))))/\
     ∀α,K α (fill (λ_=>true) (V α) (o::os) i (a α)):=by
   intro A v hA h2 h1 hv;obtain⟨V,hV,hW,hK⟩:=xF4 os (i+1) A (λα=>by rw[hA,xDk];exact hsz α) h2
   have hc:∀(α:Pl) (L:Nat->Bool) (b:Act),fill L (λj=>if j=i then v α else V α j) os (i+1) b=fill L (V α) os (i+1) b:=λα L b=>
    vM os (i+1) b (λ_ _=>rfl) (λn _ _=>by rw[if_neg ω])
   refine⟨λα j=>if j=i then v α else V α j,λn p hp α L w hL hcl xP hw=>?_,λn p hp=>?_,λα=>?_⟩
   ·cases n with
    |zero=>
     obtain rfl:o=p:=by simpa using hp
     simp only[Nat.add_zero,if_true];rw[rW _ _ _ (λn _=>by simp)];exact h1 α L w (by simpa using hL) hcl (by simpa using xP) hw
    |succ n=>
     have e3:i+1+n=i+(n+1):=ω;have:=hV n p (by simpa using hp) α L w (by rw[e3];exact hL) hcl (by rw[e3];exact xP) hw;have e1:¬i+(n+1)=i:=ω;simp only[e1,if_false];unfold fill;simp only[if_true];rw[if_pos σ,hc,<-e3,<-hA];exact this
   ·cases n with
    |zero=>
     obtain rfl:o=p:=by simpa using hp
     simpa using hv
    |succ n=>
     have:=hW n p (by simpa using hp);have e1:¬i+(n+1)=i:=ω;simp only[e1,if_false];rw[show i+(n+1)=i+1+n by omega];exact this
   ·unfold fill;simp only[if_true];rw[hc,<-hA];exact hK α
  rcases h with ⟨hi,h1,h2⟩|⟨hi,A,v,hA,hv,h1,h2⟩
  ·refine key _ (λα=>ptr (α i)) (λ_=>rfl) h2 (λα L w h0 hcl _ hw=>.inl ⟨hi,?_⟩) (.inl ⟨hi,λ_=>rfl⟩);obtain⟨b,hb⟩:=h1 α L w h0 hcl hw;exact⟨b,by have:=xBu hb;rwa [hsz α] at this⟩
  ·refine key A v hA h2 (λα L w h0 hcl xP hw=>.inr ⟨hi,?_⟩) (.inr ⟨hi,hv⟩);have:=h1 α L w h0 hcl xP hw;rw[hA α] at this;have:=xBu this
   rwa [hsz α] at this
theorem xOx {a0:Act} {w0:World} (α0:Pl) (hf:fits md ops=true) (hE:∀L L' α α' w,(∀e,e∈E∨e∈N->L e=L' e)->(∀e∈N,L e=true->α e=α' e)->J L α w->J L' α' w) (hEl:∀e,e∈E∨e∈N->e<ops.size) (hI:J (λ_=>false) α0 w0)
  (h:zQ P ops md E N J (λα a=>∀w,J (λ_=>true) α w->Q .normal a w) ops.toList 0 (λ_=>a0)):wpAny P md ops Q ops.size (Array.replicate ops.size false) a0 w0:=by
 obtain⟨V,hV,hW,hK⟩:=xF4 (n0:=a0.tmps.size) ops.toList 0 (λ_=>a0) (λ_=>rfl) h;have hs:Region.noSelect ops=true:=by unfold fits at hf;rw[Bool.and_eq_true] at hf;exact hf.1
 have main:∀(fuel:Nat) (listed:Array Bool) (α:Pl) (w:World),listed.size=ops.size->kM listed=fuel->closed ops md (λj=>listed.getD j false)->J (λj=>listed.getD j false) α w->
   wpAny P md ops Q fuel listed (fill (λj=>listed.getD j false) (V α) ops.toList 0 a0) w:=by
  intro fuel
  have hfin:∀(listed:Array Bool) (α:Pl) (w:World),listed.size=ops.size->J (λj=>listed.getD j false) α w->Region.ready md ops listed=[]->Q .normal (fill (λj=>listed.getD j false) (V α) ops.toList 0 a0) w:=by
   intro listed α w hsz hw hr
   have hall:∀j,j<ops.size->listed.getD j true=true:=by
    intro j
    induction j using Nat.strongRecOn with
    |_ j ih=>
     intro hj;cases hc:listed.getD j true with
     |true=>rfl
     |false=>
      have:j∈Region.ready md ops listed:=mem_ready.2 ⟨hc,ops[j],Array.getElem?_eq_getElem hj,λe he hb=>by
       have hlt:=xI8 hf (Array.getElem?_eq_getElem hj) (xDp.2 ⟨e,he,hb,rfl⟩);have:=ih e.on hlt ω;simp only[Array.getD_eq_getD_getElem?] at this⊢;rw[Array.getElem?_eq_getElem ω] at this⊢;simpa using this⟩
      rw[hr] at this;cases this
   have xUd:∀j,j<ops.size->listed.getD j false=true:=λj hj=>by
    have:=hall j hj;simp only[Array.getD_eq_getD_getElem?] at this⊢;rw[Array.getElem?_eq_getElem ω] at this⊢;simpa using this
   have e:fill (λj=>listed.getD j false) (V α) ops.toList 0 a0=fill (λ_=>true) (V α) ops.toList 0 a0:=vM _ _ _ (λn hn=>by
    have hn':n<ops.size:=by simpa using hn
    rw[Nat.zero_add];exact xUd n hn') (λ_ _ _=>rfl)
   rw[e];exact hK α w (hE _ _ _ _ _ (λe he=>xUd e (hEl e he)) (λ_ _ _=>rfl) hw)
  induction fuel with
  |zero=>
   intro listed α w hsz hu hcl hw
   have hr:Region.ready md ops listed=[]:=by
    cases hc:Region.ready md ops listed with
    |nil=>rfl
    |cons j _=>
     have hm:j∈Region.ready md ops listed:=by rw[hc];simp
     have:=qI (mem_ready.1 hm).1;omega
   exact⟨hr,hfin listed α w hsz hw hr⟩
  |succ fuel ih=>
   intro listed α w hsz hu hcl hw;refine⟨hfin listed α w hsz hw,λi hi=>?_⟩;obtain⟨hun,o,ho,yBr⟩:=mem_ready.1 hi;have hilt:i<ops.size:=(Array.getElem?_eq_some_iff.1 ho).1
   have hlf:listed.getD i false=false:=by
    simp only[Array.getD_eq_getD_getElem?] at hun⊢;rw[Array.getElem?_eq_getElem ω] at hun⊢;simpa using hun
   have hol:ops.toList[i]?=some o:=by simpa using ho
   have hdone:∀j,j∈deps md o->listed.getD j false=true:=λj hj=>by
    obtain⟨e,he,hb,rfl⟩:=xDp.1 hj;have hlt:=xI8 hf ho hj;have:=yBr e he hb;simp only[Array.getD_eq_getD_getElem?] at this⊢;rw[Array.getElem?_eq_getElem ω] at this⊢;simpa using this
   have xP:closed ops md (λj=>j==i||listed.getD j false):=by
    intro j p hp hj m hm
    by_cases e:j=i
    ·subst e;rw[ho] at hp;injection hp with hp;subst hp;simp[hdone m hm]
    ·have hj':listed.getD j false=true:=by
      have e9:(j==i)=false:=by simpa using e
      simpa[e9] using hj
     have:=hcl j p hp hj' m hm;simp only[this,Bool.or_true]
   have hsz2:∀β:Pl,(fill (λj=>listed.getD j false) (V β) ops.toList 0 a0).tmps.size=a0.tmps.size:=λ_=>xEx _ _ _
   have mv:∀{I:World->Prop} {v:Value},One P ops I o v a0.tmps.size (fill (λj=>decide (j<i)) (V α) ops.toList 0 a0) w->One P ops I o v a0.tmps.size (fill (λj=>listed.getD j false) (V α) ops.toList 0 a0) w:=by
    intro I v h1;refine h1.move (λcs d=>Region.noSelect_spec hs i o cs d ho) λt ht=>?_;refine xAb _ _ _ _ rfl rfl λn p hp hd=>?_;have hp':ops[n]?=some p:=by simpa using hp
    simp only[Nat.zero_add]
    by_cases hni:i=n
    ·subst hni;rw[hlf];simp
    ·have hn:=(xO9 hf ho hp' hni hd).2 ht;have hlt:=xI8 hf ho hn;rw[hdone n hn];simpa using hlt
   have e3:∀n,n<ops.size->(n==i||listed.getD n false)=(listed.setIfInBounds i true).getD n false:=λn hn=>by
    by_cases hni:i=n
    ·subst hni;simp only[BEq.rfl,Bool.true_or,Array.getD_eq_getD_getElem?];rw[Array.getElem?_setIfInBounds_self_of_lt ω]
     rfl
    ·rw[getD_set_ne false hni];have:(n==i)=false:=by simp;omega
     rw[this,Bool.false_or]
   have nxt:∀(β:Pl) (v:Value),V β i=v->(∀n,n<ops.size->listed.getD n false=true->V β n=V α n)->(fill (λj=>listed.getD j false) (V α) ops.toList 0 a0).put o.dst v=fill (λj=>(listed.setIfInBounds i true).getD j false) (V β) ops.toList 0 a0:=by
    intro β v hv hsame
    have e0:fill (λj=>listed.getD j false) (V α) ops.toList 0 a0=fill (λj=>listed.getD j false) (V β) ops.toList 0 a0:=vM _ _ _ (λ_ _=>rfl) (λn hn hl=>by
     have hn':n<ops.size:=by simpa using hn
     simp only[Nat.zero_add] at hl⊢;exact(hsame n hn' hl).symm)
    rw[e0]
    have e:=xI9 (L:=λj=>listed.getD j false) (V:=V β) (v:=v) ops.toList 0 i o a0 hol (by rw[Nat.zero_add];exact hlf) (λm p e hp hne he=>by
     have hp':ops[m]?=some p:=by simpa using hp
     exact(xO9 hf hp' ho hne he).1)
    rw[e];refine vM _ _ _ (λn hn=>?_) (λn hn _=>?_)
    ·simp only[Nat.zero_add];exact e3 n (by simpa using hn)
    ·simp only[Nat.zero_add];split
     ·rename_i h;rw[h,hv]
     ·rfl
   have hun2:kM (listed.setIfInBounds i true)=fuel:=by have:=qI hun;omega
   have hcl3:closed ops md (λj=>(listed.setIfInBounds i true).getD j false):=by
    intro j p hp hj m hm;have hjl:j<ops.size:=(Array.getElem?_eq_some_iff.1 hp).1;have hml:m<ops.size:=Nat.lt_trans (xI8 hf hp hm) hjl;have hj2:(j==i||listed.getD j false)=true:=(e3 j hjl).trans hj;exact(e3 m hml).symm.trans (xP j p hp hj2 m hm)
   have h1:=hV i o hol α (λj=>listed.getD j false) w (by rw[Nat.zero_add];exact hlf) hcl (by rw[Nat.zero_add];exact xP) hw;simp only[Nat.zero_add] at h1;rcases h1 with ⟨hNi,b,h1⟩|⟨hNi,h1⟩
   ·have h2:=mv h1;rw[<-hsz2 α] at h2;refine h2.wpOp ho λw' hw'=>?_
    rw[nxt (xLs α i b) (ptr b) (by
     rcases hW i o hol with ⟨_,h⟩|⟨h,_⟩
     ·rw[Nat.zero_add] at h;rw[h,xBq]
     ·rw[Nat.zero_add] at h;rw[hNi] at h;cases h) (λn hn hl=>by
     obtain⟨p,hp⟩:∃p,ops.toList[n]?=some p:=⟨ops[n],by rw[Array.getElem?_toList,Array.getElem?_eq_getElem hn]⟩;rcases hW n p hp with ⟨_,h⟩|⟨_,h|h⟩
     ·rw[Nat.zero_add] at h;rw[h,h,xA5 _ _ _ (λe=>by rw[e,hlf] at hl;cases hl)]
     ·have hin:i∈deps md p:=by
       have:=List.all_eq_true.1 h i (by simpa using hNi);simpa using this
      have hcl9:listed.getD i false=true:=hcl n p (by simpa using hp) hl i hin;rw[hlf] at hcl9;cases hcl9
     ·rw[Nat.zero_add] at h;exact h _ _)]
    refine ih _ _ w' (by simpa using hsz) hun2 hcl3 (hE _ _ _ _ _ (λe he=>e3 e (hEl e he)) (λ_ _ _=>rfl) hw')
   ·have h2:=mv h1;rw[<-hsz2 α] at h2;refine h2.wpOp ho λw' hw'=>?_;rw[nxt α _ rfl (λ_ _ _=>rfl)];refine ih _ _ w' (by simpa using hsz) hun2 hcl3 (hE _ _ _ _ _ (λe he=>?_) (λ_ _ _=>rfl) hw');rcases he with he|he
    ·rw[xE7 (L':=λj=>listed.getD j false) (λ_ _=>rfl) e he];exact e3 e (hEl e (.inl he))
    ·have hne:e≠i:=λh=>by
       rw[h] at he;have:N.contains i=true:=by simpa using he
       rw[hNi] at this;cases this
     rw[<-e3 e (hEl e (.inr he))];have h9:(e==i)=false:=by simpa using hne
     unfold upd;split<;>simp[h9]
 have:=main ops.size (Array.replicate ops.size false) α0 w0 σ (by unfold kM;simp) (λj p hp hj=>by
  have hjl:j<ops.size:=(Array.getElem?_eq_some_iff.1 hp).1;simp[hjl] at hj) (hE _ _ _ _ _ (λe he=>by
  have:=hEl e he;simp[this]) (λ_ _ h=>by cases h) hI)
 rw[rW _ _ _ (λn hn=>by
  have hn':n<ops.size:=by simpa using hn
  simp[hn'])] at this
 exact this
theorem xAj {id:Nat} {l:List Oper} {a:Act} {w:World} (E N:List Nat) (J:(Nat->Bool)->Pl->World->Prop) (hE:∀L L' α α' w,(∀e,e∈E∨e∈N->L e=L' e)->(∀e∈N,L e=true->α e=α' e)->J L α w->J L' α' w) (hm:P.follows .mixedOrders=true) (hf:fits .any l.toArray=true) (hEl:((E++N).all λe=>decide (e<l.length))=true) (hI:J (λ_=>false) (λ_=>0) w.drew)
  (h:zQ P l.toArray .any E N J (λα a=>∀w,J (λ_=>true) α w->Q .normal a w) l 0 (λ_=>a)):(Code.region id l.toArray true).wp P Q a w:=
 wp_region_any hm (xOx (λ_=>0) hf hE (λe he=>by have:=List.all_eq_true.1 hEl e (by simpa using he);simpa using this) hI (by simpa using h))
end
end Go.Proofs.RG
namespace Go.Proofs.RG
section
variable {P:Program} {ops:Array Oper} {md:Region.Mode}
theorem dS {I:World->Prop} {K:Act->Prop} {a A:Act} {o:Oper} {os:List Oper} (h2:xBc P ops I K os A) (h:∀w,I w->wpList P ops (Only I A) [o] a w:=by
 intro w9 hw9;repeat go_step
 exact RG.xB hw9) (hd:A.defers=a.defers:=by rfl):xBc P ops I K (o::os) a:=⟨A,hd,h,h2⟩
theorem kS {I:World->Prop} {K:Act->Prop} {a A:Act} {o:Oper} {os:List Oper} (h2:xBc P ops I K os A) (h:∀w,I w->wpList P ops (Only I A) [o] a w:=by
 intro w9 hw9;exact RG.rR (by rfl) rfl hw9) (hd:A.defers=a.defers:=by rfl):xBc P ops I K (o::os) a:=⟨A,hd,h,h2⟩
theorem dF {I F:World->Prop} {K:Act->Prop} {a A:Act} {o:Oper} {os:List Oper} (f:∀w,I w->F w) (h2:xBc P ops I K os A) (h:∀w,I w->F w->wpList P ops (Only I A) [o] a w:=by
 intro w9 hw9 hf;repeat (obtain⟨_,hf⟩:=hf)
 repeat go_step
 exact RG.xB hw9) (hd:A.defers=a.defers:=by rfl):xBc P ops I K (o::os) a:=⟨A,hd,λw hw=>h w hw (f w hw),h2⟩
theorem callH {f:FuncId} {args:Array Value} {w:World} {p:World->Ending->World->Prop} {q:Ending->World->Prop} (H:Go.RowKit.Hid (∀W,Calls P f args W (p W))) (k:∀e w',p w e w'->q e w'):Calls P f args w q:=(H.o w).mono k
section
variable {E N:List Nat} {i:Nat} {o:Oper} {os:List Oper}
theorem lS {I:(Nat->Bool)->World->Prop} {K:Act->Prop} {a A:Act} (h2:wJ P ops md E I K os (i+1) A) (hi:E.contains i=false:=by rfl) (h:∀L w,I L w->wpList P ops (Only (I L) A) [o] a w:=by
 intro L w9 hw9;repeat go_step
 exact RG.xB hw9) (hd:A.defers=a.defers:=by rfl):wJ P ops md E I K (o::os) i a:=qH hi h hd h2
theorem aS {J:(Nat->Bool)->Pl->World->Prop} {K:Pl->Act->Prop} {a A:Pl->Act} {v:Value} (h2:zQ P ops md E N J K os (i+1) A) (hi:N.contains i=false:=by rfl) (he:E.contains i=false:=by rfl) (h:∀α L w,L i=false->closed ops md L->closed ops md (λj=>j==i||L j)->J L α w->wpList P ops (Only (J L α) (A α)) [o] (a α) w:=by
 intro α L w9 h0 hcl xP hw9;repeat go_step
 exact RG.xB hw9) (hd:∀α,A α=(a α).put o.dst v:=by intro α;rfl):zQ P ops md E N J K (o::os) i a:=kX hi he h hd h2
theorem vS {J:(Nat->Bool)->Pv->World->Prop} {K:Pv->Act->Prop} {a A:Pv->Act} {v:Value} (h2:jA P ops md E N J K os (i+1) A) (hi:N.contains i=false:=by rfl) (he:E.contains i=false:=by rfl) (h:∀α L w,L i=false->closed ops md L->closed ops md (λj=>j==i||L j)->J L α w->wpList P ops (Only (J L α) (A α)) [o] (a α) w:=by
 intro α L w9 h0 hcl xP hw9;repeat go_step
 exact RG.xB hw9) (hd:∀α,A α=(a α).put o.dst v:=by intro α;rfl):jA P ops md E N J K (o::os) i a:=qZ hi he h hd h2
theorem lF {I:(Nat->Bool)->World->Prop} {F:(Nat->Bool)->World->Prop} {K:Act->Prop} {a A:Act} (f:∀L w,I L w->F L w) (h2:wJ P ops md E I K os (i+1) A) (hi:E.contains i=false:=by rfl) (h:∀L w,I L w->F L w->wpList P ops (Only (I L) A) [o] a w:=by
 intro L w9 hw9 hf;repeat (obtain⟨_,hf⟩:=hf)
 repeat go_step
 exact RG.xB hw9) (hd:A.defers=a.defers:=by rfl):wJ P ops md E I K (o::os) i a:=qH hi (λL w hw=>h L w hw (f L w hw)) hd h2
theorem cS {I:(Nat->Bool)->World->Prop} {K:Act->Prop} {n:Nat} {a A:Act} (h2:wJ P ops md (List.range n) (CI ops md I) K os (i+1) A) (ho:ops[i]?=some o:=by rfl) (hi:(List.range n).contains i=true:=by rfl) (h:∀L w,L i=false->closed ops md L->closed ops md (λj=>j==i||L j)->I L w->wpList P ops (Only (CI ops md I (λj=>j==i||L j)) A) [o] a w:=by
 intro L w9 h0 hcl xP hw9;repeat go_step
 refine RG.xB ?_;exact⟨xP,hw9⟩) (hd:A.defers=a.defers:=by rfl):wJ P ops md (List.range n) (CI ops md I) K (o::os) i a:=xN ho hi h hd h2
theorem cF {I:(Nat->Bool)->World->Prop} {F:(Nat->Bool)->World->Prop} {K:Act->Prop} {n:Nat} {a A:Act} (f:∀L w,L i=false->closed ops md L->closed ops md (λj=>j==i||L j)->I L w->F L w) (h2:wJ P ops md (List.range n) (CI ops md I) K os (i+1) A) (ho:ops[i]?=some o:=by rfl) (hi:(List.range n).contains i=true:=by rfl) (h:∀L w,L i=false->closed ops md L->closed ops md (λj=>j==i||L j)->I L w->F L w->wpList P ops (Only (CI ops md I (λj=>j==i||L j)) A) [o] a w:=by
 intro L w9 h0 hcl xP hw9 hf;repeat (obtain⟨_,hf⟩:=hf)
 repeat go_step
 refine RG.xB ?_;exact⟨xP,hw9⟩) (hd:A.defers=a.defers:=by rfl):wJ P ops md (List.range n) (CI ops md I) K (o::os) i a:=xN ho hi (λL w h0 hc hc2 hw=>h L w h0 hc hc2 hw (f L w h0 hc hc2 hw)) hd h2
theorem aF {J:(Nat->Bool)->Pl->World->Prop} {F:Pl->(Nat->Bool)->World->Prop} {K:Pl->Act->Prop} {a A:Pl->Act} {v:Value} (f:∀α L w,L i=false->closed ops md L->closed ops md (λj=>j==i||L j)->J L α w->F α L w) (h2:zQ P ops md E N J K os (i+1) A) (hi:N.contains i=false:=by rfl) (he:E.contains i=false:=by rfl) (h:∀α L w,L i=false->closed ops md L->closed ops md (λj=>j==i||L j)->J L α w->F α L w->wpList P ops (Only (J L α) (A α)) [o] (a α) w:=by
 intro α L w9 h0 hcl xP hw9 hf;repeat (obtain⟨_,hf⟩:=hf)
 repeat go_step
 exact RG.xB hw9) (hd:∀α,A α=(a α).put o.dst v:=by intro α;rfl):zQ P ops md E N J K (o::os) i a:=kX hi he (λα L w h0 hc hc2 hw=>h α L w h0 hc hc2 hw (f α L w h0 hc hc2 hw)) hd h2
theorem vF {J:(Nat->Bool)->Pv->World->Prop} {F:Pv->(Nat->Bool)->World->Prop} {K:Pv->Act->Prop} {a A:Pv->Act} {v:Value} (f:∀α L w,L i=false->closed ops md L->closed ops md (λj=>j==i||L j)->J L α w->F α L w) (h2:jA P ops md E N J K os (i+1) A) (hi:N.contains i=false:=by rfl) (he:E.contains i=false:=by rfl) (h:∀α L w,L i=false->closed ops md L->closed ops md (λj=>j==i||L j)->J L α w->F α L w->wpList P ops (Only (J L α) (A α)) [o] (a α) w:=by
 intro α L w9 h0 hcl xP hw9 hf;repeat (obtain⟨_,hf⟩:=hf)
 repeat go_step
 exact RG.xB hw9) (hd:∀α,A α=(a α).put o.dst v:=by intro α;rfl):jA P ops md E N J K (o::os) i a:=qZ hi he (λα L w h0 hc hc2 hw=>h α L w h0 hc hc2 hw (f α L w h0 hc hc2 hw)) hd h2
end
end
end Go.Proofs.RG
namespace Go.Proofs.MM
open Go.RowKit
abbrev xK (l:List UInt8):Value:=.string ⟨l.toArray⟩
theorem xJi {fn:Func} {t u v x:Tmp} (h:fn.results=#[.tmp t,.tmp u,.tmp v,.tmp x]) (tmps:Array Value) (P:Program) (w:World):
  (results fn tmps).run P w=.ok (.tuple #[tmps.getD t undef,tmps.getD u undef,tmps.getD v undef,tmps.getD x undef]) w:=by simp[results,h]
def xVy (w:World) (base:Nat) (v:Value) (xs:List (List UInt8)):Prop:=w.ownsRow base 9 1 v xs.length (xs.map xK)
theorem xVy.row {w:World} {base:Nat} {v:Value} {xs:List (List UInt8)} (h:xVy w base v xs):w.ownsRow base 9 1 v xs.length (xs.map xK):=h
theorem xVy.of {w:World} {base:Nat} {v:Value} {xs:List (List UInt8)} {x:List UInt8} (h:w.ownsRow base 9 1 v (xs.length+1) (xs.map xK++[xK x])):xVy w base v (xs++[x]):=by
 unfold xVy;rw[List.length_append,List.map_append];exact h
theorem vL {w w':World} (h:ψ w w') (row:Option Nat):w.grownBy w' row:=⟨h.os,h.tape,h.output,h.size,λk hk _=>h.block k hk⟩
theorem below_drewN {B:Nat} {a w:World} (h:Below B a w) (n:Nat):Below B a (w.drewN n):=⟨h.os,h.tape,h.output,h.size,h.block⟩
theorem xJn (l:List UInt8):∀u∈[xK l],u.oneCell'=true:=by
 intro u hu;rw[List.mem_singleton.1 hu];rfl
theorem xA {w:World} {g:Nat} {t:TypeId} {cs:Array Value} (h:w.heap[g]?=some (.cells cs t (0,0))) (i:Nat):w.cell? ⟨g,i,none⟩=cs[i]?:=cell_of_row w g i cs t (0,0) h
theorem xD {w:World} {g:Nat} {t:TypeId} {cs:Array Value} (h:w.heap[g]?=some (.cells cs t (0,0))) (i:Nat):w.frozen? ⟨g,i,none⟩=false:=by simp[World.frozen?,h]
theorem yC {w:World} {g:Nat} {t:TypeId} {cs:Array Value} (h:w.heap[g]?=some (.cells cs t (0,0))) (i:Nat) (u:Value):(w.setCell ⟨g,i,none⟩ u).heap[g]?=some (.cells (cs.setIfInBounds i u) t (0,0)):=by
 simp[World.setCell,Array.getElem?_modify,h]
theorem _root_.cbl1 {w:World} {g:Nat} {t:TypeId} {c0:Value} {l:List Value} (h:w.heap[g]?=some (.cells (c0::l).toArray t (0,0))):w.cell? ⟨g,0,none⟩=some c0:=(xA h 0).trans σ
theorem _root_.xFa {w:World} {g:Nat} {t:TypeId} {c0 c1:Value} {l:List Value} (h:w.heap[g]?=some (.cells (c0::c1::l).toArray t (0,0))):w.cell? ⟨g,0,none⟩=some c0/\w.cell? ⟨g,1,none⟩=some c1:=⟨(xA h 0).trans σ,(xA h 1).trans σ⟩
theorem _root_.cbl4 {w:World} {g:Nat} {t:TypeId} {c0 c1 c2 c3:Value} {l:List Value} (h:w.heap[g]?=some (.cells (c0::c1::c2::c3::l).toArray t (0,0))):w.cell? ⟨g,0,none⟩=some c0/\w.cell? ⟨g,1,none⟩=some c1/\w.cell? ⟨g,2,none⟩=some c2/\w.cell? ⟨g,3,none⟩=some c3:=⟨(xA h 0).trans σ,(xA h 1).trans σ,(xA h 2).trans σ,(xA h 3).trans σ⟩
theorem _root_.cbl5 {w:World} {g:Nat} {t:TypeId} {c0 c1 c2 c3 c4:Value} {l:List Value} (h:w.heap[g]?=some (.cells (c0::c1::c2::c3::c4::l).toArray t (0,0))):w.cell? ⟨g,0,none⟩=some c0/\w.cell? ⟨g,1,none⟩=some c1/\w.cell? ⟨g,2,none⟩=some c2/\w.cell? ⟨g,3,none⟩=some c3/\w.cell? ⟨g,4,none⟩=some c4:=⟨(xA h 0).trans σ,(xA h 1).trans σ,(xA h 2).trans σ,(xA h 3).trans σ,(xA h 4).trans σ⟩
theorem _root_.cbl6 {w:World} {g:Nat} {t:TypeId} {c0 c1 c2 c3 c4 c5:Value} {l:List Value} (h:w.heap[g]?=some (.cells (c0::c1::c2::c3::c4::c5::l).toArray t (0,0))):w.cell? ⟨g,0,none⟩=some c0/\w.cell? ⟨g,1,none⟩=some c1/\w.cell? ⟨g,2,none⟩=some c2/\w.cell? ⟨g,3,none⟩=some c3/\w.cell? ⟨g,4,none⟩=some c4/\w.cell? ⟨g,5,none⟩=some c5:=⟨(xA h 0).trans σ,(xA h 1).trans σ,(xA h 2).trans σ,(xA h 3).trans σ,(xA h 4).trans σ,(xA h 5).trans σ⟩
theorem _root_.cbl7 {w:World} {g:Nat} {t:TypeId} {c0 c1 c2 c3 c4 c5 c6:Value} {l:List Value} (h:w.heap[g]?=some (.cells (c0::c1::c2::c3::c4::c5::c6::l).toArray t (0,0))):w.cell? ⟨g,0,none⟩=some c0/\w.cell? ⟨g,1,none⟩=some c1/\w.cell? ⟨g,2,none⟩=some c2/\w.cell? ⟨g,3,none⟩=some c3/\w.cell? ⟨g,4,none⟩=some c4/\w.cell? ⟨g,5,none⟩=some c5/\w.cell? ⟨g,6,none⟩=some c6:=⟨(xA h 0).trans σ,(xA h 1).trans σ,(xA h 2).trans σ,(xA h 3).trans σ,(xA h 4).trans σ,(xA h 5).trans σ,(xA h 6).trans σ⟩
theorem _root_.pX {w:World} {g:Nat} {t:TypeId} {c0 c1 c2 c3 c4 c5 c6 c7 c8 c9:Value} {l:List Value} (h:w.heap[g]?=some (.cells (c0::c1::c2::c3::c4::c5::c6::c7::c8::c9::l).toArray t (0,0))):w.cell? ⟨g,0,none⟩=some c0/\w.cell? ⟨g,1,none⟩=some c1/\w.cell? ⟨g,2,none⟩=some c2/\w.cell? ⟨g,3,none⟩=some c3/\w.cell? ⟨g,4,none⟩=some c4/\w.cell? ⟨g,5,none⟩=some c5/\w.cell? ⟨g,6,none⟩=some c6/\w.cell? ⟨g,7,none⟩=some c7/\w.cell? ⟨g,8,none⟩=some c8/\w.cell? ⟨g,9,none⟩=some c9:=⟨(xA h 0).trans σ,(xA h 1).trans σ,(xA h 2).trans σ,(xA h 3).trans σ,(xA h 4).trans σ,(xA h 5).trans σ,(xA h 6).trans σ,(xA h 7).trans σ,(xA h 8).trans σ,(xA h 9).trans σ⟩
theorem zL {w:World} {g:Nat} {o:Obj} (h:w.heap[g]?=some o) {p:Addr} (hp:g≠p.block) (u:Value):(w.setCell p u).heap[g]?=some o:=(Below.heap_setCell w p u g hp).trans h
theorem xJ {w:World} {g:Nat} {o:Obj} (h:w.heap[g]?=some o):g<w.heap.size:=(Array.getElem?_eq_some_iff.1 h).1
theorem xM {w:World} {g:Nat} {o:Obj} (h:w.heap[g]?=some o) (o':Obj):(w.alloc o').heap[g]?=some o:=(Below.heap_alloc w o' g (xJ h)).trans h
theorem wR {w w':World} {g:Nat} {o:Obj} {row:Option Nat} (h:w.heap[g]?=some o) (hg:w.grownBy w' row) (hne:some g≠row):w'.heap[g]?=some o:=(hg.block g (xJ h) hne).trans h
theorem xC {w w':World} {B g:Nat} {o:Obj} (h:w.heap[g]?=some o) (hb:Below B w w') (hg:g<B):w'.heap[g]?=some o:=(hb.block g hg).trans h
theorem xI (w:World) (o:Obj):(w.alloc o).heap[w.heap.size]?=some o:=heap_alloc_new w o
theorem zK (w:World) (o o':Obj):((w.alloc o).alloc o').heap[w.heap.size]?=some o:=xM (xI w o) o'
theorem zD (w:World) (o o':Obj):((w.alloc o).alloc o').heap[w.heap.size+1]?=some o':=by
 have:=xI (w.alloc o) o'
 rwa [show(w.alloc o).heap.size=w.heap.size+1 by simp] at this
theorem size_set (w:World) (p:Addr) (u:Value):(w.setCell p u).heap.size=w.heap.size:=by simp[World.setCell]
theorem uQ (w:World) (o:Obj):(w.alloc o).heap.size=w.heap.size+1:=σ
def RdS (w:World) (B:Nat) (v:Value) (xs:List (List UInt8)):Prop:=
 ∃A c,v=.slice A xs.length c/\xs.length<=c/\(0<xs.length->∃b off,A=some ⟨b,off,none⟩/\b<B/\∀j x,xs[j]?=some x->w.cell? ⟨b,off+j,none⟩=some (xK x))
theorem RdS.keep {w w':World} {B:Nat} {v:Value} {xs:List (List UInt8)} (h:RdS w B v xs) (hk:∀p:Addr,p.block<B->w'.cell? p=w.cell? p):RdS w' B v xs:=by
 obtain⟨A,c,h1,h2,h3⟩:=h;refine⟨A,c,h1,h2,λhn=>?_⟩;obtain⟨b,off,h4,h5,h6⟩:=h3 hn;exact⟨b,off,h4,h5,λj x hx=>(hk _ h5).trans (h6 j x hx)⟩
theorem RdS.below {w w':World} {B B':Nat} {v:Value} {xs:List (List UInt8)} (h:RdS w B v xs) (hb:Below B' w w') (hB:B<=B'):RdS w' B v xs:=h.keep λ_ hp=>hb.cell ω
theorem RdS.more {w:World} {B B':Nat} {v:Value} {xs:List (List UInt8)} (h:RdS w B v xs) (hB:B<=B'):RdS w B' v xs:=by
 obtain⟨A,c,h1,h2,h3⟩:=h;refine⟨A,c,h1,h2,λhn=>?_⟩;obtain⟨b,off,h4,h5,h6⟩:=h3 hn;exact⟨b,off,h4,ω,h6⟩
theorem xOj {x y:List UInt8}:(⟨x.toArray⟩:ByteArray)=⟨y.toArray⟩↔x=y:=by
 constructor
 ·intro h;injection h with h;exact List.toArray_inj h
 ·rintro rfl;rfl
def lenOf (v:Value):Nat:=match v with
 |.string b=>b.size
 |_=>0
end Go.Proofs.MM