/- Contracts of functions. Conditions: as stated. -/
import Derived.Lib.Hide
import Derived.Orders
import Derived.Tactics2
set_option maxHeartbeats 8000000
set_option maxRecDepth 100000
theorem _root_.Go.RowKit.Hid.o {p : Prop} (h : Go.RowKit.Hid p) : p := h
theorem _root_.ω {p : Prop} (h : p := by omega) : p := h
theorem _root_.κ {p : Prop} (h : p := by kernel_rfl) : p := h
theorem _root_.σ {p : Prop} (h : p := by simp) : p := h
theorem _root_.δ {p : Prop} (h : p := by decide) : p := h
theorem _root_.ν {n : Nat} : n ≤ n := Nat.le_refl _
theorem _root_.ι {p:Prop} (h:p):Go.RowKit.Hid p:=h
theorem _root_.gA {α:Type _} {l:List α} {i:Nat}:l.toArray[i]?=l[i]?:=List.getElem?_toArray
theorem _root_.gB {α:Type _} {a:α} {l:List α} {i:Nat}:(a::l)[i+1]?=l[i]?:=List.getElem?_cons_succ
theorem _root_.gC {α:Type _} {a:α} {l:List α}:(a::l)[0]?=some a:=List.getElem?_cons_zero
namespace Go.Proofs.RG
section
variable {P:Program} {ops:Array Oper} {Q:Exit->Act->World->Prop} {md:Region.Mode} {I:World->Prop}
def Only (I:World->Prop) (A:Act):Exit->Act->World->Prop:=λe a w=>e=.normal/\a=A/\I w
def xBz (P:Program) (ops:Array Oper) (I:World->Prop) (K:Act->Prop):List Oper->Act->Prop
 |[],a=>K a
 |o::os,a=>∃A:Act,A.defers=a.defers/\(∀w,I w->wpList P ops (Only I A) [o] a w)/\xBz P ops I K os A
theorem xD {A:Act} {w:World} (h:I w):Only I A .normal A w:=⟨rfl,rfl,h⟩
theorem xS {K:Act->Prop} {a:Act} (h:K a):xBz P ops I K [] a:=h
theorem xJ {K:Act->Prop} {a:Act} {o:Oper} {os:List Oper} {A:Act} (h:∀w,I w->wpList P ops (Only I A) [o] a w) (hd:A.defers=a.defers) (h2:xBz P ops I K os A):xBz P ops I K (o::os) a:=⟨A,hd,h,h2⟩
def deps (md:Region.Mode) (o:Oper):List Nat:=(o.after.toList.filter (Region.binds md ·)).map (·.on)
def fits (md:Region.Mode) (ops:Array Oper):Bool:=
 Region.noSelect ops&&(List.range ops.size).all λi=>match ops[i]? with
  |none=>true
  |some o=>(deps md o).all (·<i)&&(List.range ops.size).all λj=>i==j||match ops[j]? with
   |none=>true
   |some p=>match p.dst with
    |none=>true
    |some d=>o.dst !=some d&&(!(o.looksAt ops).contains d||(deps md o).contains j)
theorem tO {o:Oper} {j:Nat}:j∈deps md o↔∃e∈o.after,Region.binds md e=true/\e.on=j:=by
 unfold deps;simp only[List.mem_map,List.mem_filter,Array.mem_toList_iff]
 constructor
 ·rintro⟨e,⟨h1,h2⟩,h3⟩;exact⟨e,h1,h2,h3⟩
 ·rintro⟨e,h1,h2,h3⟩;exact⟨e,⟨h1,h2⟩,h3⟩
theorem qX (h:fits md ops=true) {i:Nat} {o:Oper} (ho:ops[i]?=some o) {j:Nat} (hj:j∈deps md o):j<i:=by
 unfold fits at h;rw[Bool.and_eq_true] at h;have h1:=List.all_eq_true.1 h.2 i (List.mem_range.2 (Array.getElem?_eq_some_iff.1 ho).1);simp only[ho,Bool.and_eq_true] at h1;simpa using List.all_eq_true.1 h1.1 j hj
theorem xBd (h:fits md ops=true) {i j:Nat} {o p:Oper} (ho:ops[i]?=some o) (hp:ops[j]?=some p) (hne:i≠j) {d:Tmp} (hd:p.dst=some d):
  o.dst≠some d/\(d∈o.looksAt ops->j∈deps md o):=by
 unfold fits at h;rw[Bool.and_eq_true] at h;have h1:=List.all_eq_true.1 h.2 i (List.mem_range.2 (Array.getElem?_eq_some_iff.1 ho).1);simp only[ho,Bool.and_eq_true] at h1;have h2:=List.all_eq_true.1 h1.2 j (List.mem_range.2 (Array.getElem?_eq_some_iff.1 hp).1)
 simp only[hp,hd,Bool.or_eq_true,beq_iff_eq,hne,false_or,Bool.and_eq_true,bne_iff_ne,Bool.not_eq_true',List.contains_eq_mem,decide_eq_false_iff_not,decide_eq_true_eq] at h2;exact⟨h2.1,λhl=>h2.2.resolve_left (λhn=>hn hl)⟩
def fill (L:Nat->Bool) (V:Nat->Value):List Oper->Nat->Act->Act
 |[],_,a=>a
 |o::os,i,a=>fill L V os (i+1) (if L i=true then a.put o.dst (V i) else a)
theorem xB9 (a:Act) (d:Option Tmp) (v:Value):(a.put d v).tmps.size=a.tmps.size:=by cases d<;>simp[Act.put]
theorem put_defers (a:Act) (d:Option Tmp) (v:Value):(a.put d v).defers=a.defers:=by cases d<;>rfl
theorem xAw {L:Nat->Bool} {V:Nat->Value}:∀(os:List Oper) (i:Nat) (a:Act),(fill L V os i a).tmps.size=a.tmps.size
 |[],_,_=>rfl
 |o::os,i,a=>by
  unfold fill;rw[xAw os];split
  ·exact xB9 _ _ _
  ·rfl
theorem put_at (a:Act) (d:Option Tmp) (v:Value) {t:Tmp} (h:d≠some t):(a.put d v).tmps[t]?=a.tmps[t]?:=by
 cases d with
 |none=>rfl
 |some e=>
  have:e≠t:=λhe=>h (he▸rfl);simp[Act.put,Array.getElem?_setIfInBounds_ne this]
theorem yA0 (a b:Act) (v:Value) {t:Tmp} (h:a.tmps.size=b.tmps.size):(a.put (some t) v).tmps[t]?=(b.put (some t) v).tmps[t]?:=by
 simp[Act.put,Array.getElem?_setIfInBounds,h]
theorem qQ {L L':Nat->Bool} {V:Nat->Value} {t:Tmp}:∀(os:List Oper) (i:Nat) (a b:Act),a.tmps[t]?=b.tmps[t]?->a.tmps.size=b.tmps.size->
  (∀n o,os[n]?=some o->o.dst=some t->L (i+n)=L' (i+n))->(fill L V os i a).tmps[t]?=(fill L' V os i b).tmps[t]?
 |[],_,_,_,h,_,_=>h
 |o::os,i,a,b,h,hs,hL=>by
  unfold fill;refine qQ os (i+1) _ _ ?_ ?_ (λn p hp hd=>by have:=hL (n+1) p (by simpa using hp) hd;rwa [show i+(n+1)=i+1+n by omega] at this)
  ·by_cases hd:o.dst=some t
   ·have h0:=hL 0 o rfl hd;rw[Nat.add_zero] at h0;rw[h0];split
    ·rw[hd];exact yA0 a b _ hs
    ·exact h
   ·have e1:∀(c:Bool) (x:Act),(if c=true then x.put o.dst (V i) else x).tmps[t]?=x.tmps[t]?:=λc x=>by
     split
     ·exact put_at _ _ _ hd
     ·rfl
    rw[e1,e1];exact h
  ·have e1:∀(c:Bool) (x:Act),(if c=true then x.put o.dst (V i) else x).tmps.size=x.tmps.size:=λc x=>by
    split
    ·exact xB9 _ _ _
    ·rfl
   rw[e1,e1];exact hs
theorem uI {L L':Nat->Bool} {V V':Nat->Value}:∀(os:List Oper) (i:Nat) (a:Act),(∀n,n<os.length->L (i+n)=L' (i+n))->(∀n,n<os.length->L (i+n)=true->V (i+n)=V' (i+n))->
  fill L V os i a=fill L' V' os i a
 |[],_,_,_,_=>rfl
 |o::os,i,a,hL,hV=>by
  unfold fill;have h0:=hL 0 σ;rw[Nat.add_zero] at h0;have hv0:=hV 0 σ;rw[Nat.add_zero] at hv0
  have ih:∀b,fill L V os (i+1) b=fill L' V' os (i+1) b:=λb=>uI os (i+1) b (λn hn=>by have:=hL (n+1) (by simpa using hn);rwa [show i+(n+1)=i+1+n by omega] at this)
   (λn hn=>by have:=hV (n+1) (by simpa using hn);rwa [show i+(n+1)=i+1+n by omega] at this)
  rw[ih]
  by_cases hc:L i=true
  ·rw[if_pos hc,if_pos (h0▸hc),hv0 hc]
  ·rw[if_neg hc,if_neg (h0▸hc)]
theorem xEn {L:Nat->Bool} {V:Nat->Value} {d:Option Tmp} {v:Value}:∀(os:List Oper) (i:Nat) (a:Act),(∀(n:Nat) (o:Oper) (e:Tmp),os[n]?=some o->d=some e->o.dst≠some e)->
  fill L V os i (a.put d v)=(fill L V os i a).put d v
 |[],_,_,_=>rfl
 |o::os,i,a,h=>by
  unfold fill;rw[<-xEn os (i+1) _ (λn p e hp he=>h (n+1) p e (by simpa using hp) he)];split
  ·congr 1
   rw[Act.put_comm];intro e he;exact h 0 o e rfl he
  ·rfl
theorem xD6 {L:Nat->Bool} {V:Nat->Value} {v:Value}:∀(os:List Oper) (i n:Nat) (o:Oper) (a:Act),os[n]?=some o->L (i+n)=false->
  (∀m p e,os[m]?=some p->m≠n->o.dst=some e->p.dst≠some e)->
  (fill L V os i a).put o.dst v=fill (λj=>j==i+n||L j) (λj=>if j=i+n then v else V j) os i a
 |[],_,_,_,_,h,_,_=>by simp at h
 |q::os,i,0,o,a,h,hL,hd=>by
  obtain rfl:q=o:=by simpa using h
  unfold fill;rw[Nat.add_zero] at hL;rw[hL];simp only[Bool.false_eq_true,if_false,Nat.add_zero,BEq.rfl,Bool.true_or,if_true];rw[<-xEn os (i+1) a (λn p e hp he=>hd (n+1) p e (by simpa using hp) ω he)];refine uI os (i+1) _ (λn hn=>?_) (λn hn _=>?_)
  ·have:(i+1+n==i)=false:=by simp;omega
   rw[this,Bool.false_or]
  ·rw[if_neg ω]
 |q::os,i,n+1,o,a,h,hL,hd=>by
  unfold fill;have e0:(i==i+(n+1))=false:=by simp
  have e1:¬i=i+(n+1):=by omega
  rw[e0,Bool.false_or,if_neg e1]
  have:=xD6 (L:=L) (V:=V) (v:=v) os (i+1) n o (if L i=true then a.put q.dst (V i) else a) (by simpa using h) (by rwa [show i+1+n=i+(n+1) by omega])
   (λm p e hp hne he=>hd (m+1) p e (by simpa using hp) ω he)
  rw[this,show i+1+n=i+(n+1) by omega]
theorem kI {L:Nat->Bool} {V:Nat->Value}:∀(os:List Oper) (i:Nat) (a:Act),(∀n,n<os.length->L (i+n)=false)->fill L V os i a=a
 |[],_,_,_=>rfl
 |o::os,i,a,h=>by
  unfold fill;have h0:=h 0 σ;rw[Nat.add_zero] at h0;rw[h0];exact kI os (i+1) a λn hn=>by have:=h (n+1) (by simpa using hn);rwa [show i+(n+1)=i+1+n by omega] at this
def EqAt (d:Option Tmp) (n:Nat) (u v:Value):Prop:=∀a:Act,a.tmps.size=n->a.put d u=a.put d v
theorem pM {d:Option Tmp} {a:Act} {u v:Value} (h:a.put d u=a.put d v):EqAt d a.tmps.size u v:=by
 intro b hb;cases d with
 |none=>rfl
 |some t=>
  have h1:(a.put (some t) u).tmps[t]?=(a.put (some t) v).tmps[t]?:=by rw[h]
  by_cases ht:t<a.tmps.size
  ·simp[Act.put,ht] at h1;rw[h1]
  ·have e:∀x:Value,b.put (some t) x=b:=λx=>by
    unfold Act.put;simp only;rw[Array.setIfInBounds_eq_of_size_le (by have hle:=Nat.le_of_not_lt ht;rw[hb];exact hle)]
   rw[e,e]
def One (P:Program) (ops:Array Oper) (I:World->Prop) (o:Oper) (v:Value) (n:Nat) (a:Act) (w:World):Prop:=
 if Region.wanted o (yielded ops a.tmps)=true then
  match (execOp a.eval o).run P w with
  |.ok (.value u) w'=>EqAt o.dst n u v/\I w'
  |.ok .skip w'=>EqAt o.dst n undef v/\I w'
  |.ok (.enter f args) w'=>Calls P f args w' λe w''=>∃u,e=.returned u/\EqAt o.dst n u v/\I w''
  |.ok (.row row args) w'=>Rows P row args w' λu w''=>EqAt o.dst n u v/\I w''
  |_=>False
 else EqAt o.dst n undef v/\I w
theorem xIe {f:FuncId} {args:Array Value} {w:World} {R:Ending->World->Prop} (h:Calls P f args w R):∃e w',R e w':=by
 obtain⟨e,w',_,h1,_⟩:=h [];exact⟨e,w',h1⟩
theorem xL5 {row:String} {args:Array Value} {w:World} {R:Value->World->Prop} (h:Rows P row args w R):∃e w',R e w':=by
 obtain⟨e,w',h1,_⟩:=h default [];exact⟨e,w',h1⟩
theorem xJ9 {o:Oper} {a A:Act} {w:World} (hd:A.defers=a.defers) (h:wpList P ops (Only I A) [o] a w):∃u,A=a.put o.dst u:=by
 unfold wpList at h;split at h
 ·rcases h with h|⟨_,a',w',h,_⟩
  ·unfold Oper.wp at h;generalize (execOp a.eval o).run P w=r at h;cases r with
   |ok n w'=>
    cases n<;>simp only[Oper.upon] at h
    case value u=>exact⟨u,h.2.1.symm⟩
    case skip=>exact⟨_,h.2.1.symm⟩
    case defer d=>
     have:=congrArg Act.defers h.2.1;rw[put_defers,hd] at this;simp at this
    case enter f args=>
     obtain⟨e,w'',h1⟩:=xIe h;cases e with
     |returned u=>exact⟨u,h1.2.1.symm⟩
     |panicked c=>exact absurd h1.1 σ
     |outgrown=>obtain⟨_,_,h2,_⟩:=h1;exact absurd h2 σ
    case row row args=>
     obtain⟨u,w'',h1⟩:=xL5 h;exact⟨u,h1.2.1.symm⟩
   |halt x w'=>
    cases x<;>simp only[Oper.upon] at h
    exact absurd h.1 σ
  ·exact absurd h σ
 ·exact⟨_,h.2.1.symm⟩
theorem xA4 {o:Oper} {a:Act} {w:World} {v:Value} (h:wpList P ops (Only I (a.put o.dst v)) [o] a w):One P ops I o v a.tmps.size a w:=by
 unfold wpList at h;unfold One;split at h
 ·rename_i hw
  rw[if_pos hw];rcases h with h|⟨_,a',w',h,_⟩
  ·unfold Oper.wp at h;generalize (execOp a.eval o).run P w=r at h⊢;cases r with
   |ok n w'=>
    cases n<;>simp only[Oper.upon] at h
    case value u=>exact⟨pM h.2.1,h.2.2⟩
    case skip=>exact⟨pM h.2.1,h.2.2⟩
    case defer d=>
     have:=congrArg Act.defers h.2.1;rw[put_defers,put_defers] at this;simp at this
    case enter f args=>
     refine Calls.mono h λe w'' h1=>?_;cases e with
     |returned u=>exact⟨u,rfl,pM h1.2.1,h1.2.2⟩
     |panicked c=>exact absurd h1.1 σ
     |outgrown=>obtain⟨_,_,h2,_⟩:=h1;exact absurd h2 σ
    case row row args=>
     exact Rows.mono h λu w'' h1=>⟨pM h1.2.1,h1.2.2⟩
   |halt x w'=>
    cases x<;>simp only[Oper.upon] at h
    exact absurd h.1 σ
  ·exact absurd h σ
 ·rename_i hw
  rw[if_neg hw];exact⟨pM h.2.1,h.2.2⟩
theorem One.move {o:Oper} {v:Value} {n:Nat} {a b:Act} {w:World} (h:One P ops I o v n a w) (hs:∀cs d,o.op≠.select cs d) (hab:∀t,t∈o.looksAt ops->a.tmps[t]?=b.tmps[t]?):One P ops I o v n b w:=by
 have he:execOp b.eval o=execOp a.eval o:=execOp_congr o hs λx hx=>by
  cases x with
  |tmp t=>
   have:t∈o.looksAt ops:=List.mem_append_left _ (List.mem_filterMap.2 ⟨.tmp t,by simpa using hx,rfl⟩);simp only[Act.eval,Array.getD_eq_getD_getElem?];rw[hab t this]
  |_=>rfl
 have hw:Region.wanted o (yielded ops b.tmps)=Region.wanted o (yielded ops a.tmps):=by
  unfold Region.wanted;cases hg:o.guard with
  |none=>rfl
  |some gw=>
   obtain⟨g,want⟩:=gw
   have hy:yielded ops b.tmps g=yielded ops a.tmps g:=by
    unfold yielded;cases ht:(ops[g]?).bind (·.dst) with
    |none=>rfl
    |some t=>
     have:t∈o.looksAt ops:=by simp[Oper.looksAt,hg,ht]
     simp only[Option.bind_some];rw[hab t this]
   simp only[hy]
 unfold One at*;rw[he,hw];exact h
theorem One.wpOp {o:Oper} {v:Value} {a:Act} {w:World} {i:Nat} {K:Act->World->Prop} (hi:ops[i]?=some o) (h:One P ops I o v a.tmps.size a w) (hK:∀w',I w'->K (a.put o.dst v) w'):wpOp P ops Q i K a w:=by
 unfold Go.wpOp One at*;simp only[hi];split at h
 ·rename_i hw
  rw[if_pos hw];refine .inl ?_;unfold Oper.wp;generalize (execOp a.eval o).run P w=r at h⊢;cases r with
  |ok n w'=>
   cases n<;>simp only at h<;>simp only[Oper.upon]
   case value u=>rw[h.1 a rfl];exact hK _ h.2
   case skip=>rw[h.1 a rfl];exact hK _ h.2
   case enter f args=>
    refine Calls.mono h λe w'' h1=>?_;obtain⟨u,rfl,h2,h3⟩:=h1;simp only;rw[h2 a rfl];exact hK _ h3
   case row row args=>
    refine Rows.mono h λu w'' h1=>?_;rw[h1.1 a rfl];exact hK _ h1.2
  |halt x w'=>exact h.elim
 ·rename_i hw
  rw[if_neg hw,h.1 a rfl];exact hK _ h.2
theorem xIc {K:Act->Prop} {w0:World} (hI:I w0):∀(os:List Oper) (i:Nat) (a:Act),xBz P ops I K os a->
  ∃V:Nat->Value,(∀n o,os[n]?=some o->∀w,I w->One P ops I o (V (i+n)) a.tmps.size (fill (λj=>decide (j<i+n)) V os i a) w)/\K (fill (λ_=>true) V os i a)
 |[],_,a,h=>⟨λ_=>undef,λn o ho=>by simp at ho,h⟩
 |o::os,i,a,h=>by
  obtain⟨A,hd,h1,h2⟩:=h;obtain⟨u,rfl⟩:=xJ9 hd (h1 w0 hI);obtain⟨V,hV,hK⟩:=xIc hI os (i+1) (a.put o.dst u) h2
  have hc:∀(L:Nat->Bool) (b:Act),fill L (λj=>if j=i then u else V j) os (i+1) b=fill L V os (i+1) b:=λL b=>
   uI os (i+1) b (λ_ _=>rfl) (λn _ _=>by rw[if_neg ω])
  refine⟨λj=>if j=i then u else V j,λn p hp w hw=>?_,?_⟩
  ·cases n with
   |zero=>
    obtain rfl:o=p:=by simpa using hp
    simp only[Nat.add_zero,if_true];rw[kI _ _ _ (λn _=>by simp)];exact xA4 (h1 w hw)
   |succ n=>
    have:=hV n p (by simpa using hp) w hw;have e1:¬i+(n+1)=i:=by omega
    simp only[e1,if_false];unfold fill;rw[if_pos σ,if_pos rfl,hc,show i+(n+1)=i+1+n by omega];rw[xB9] at this;exact this
  ·unfold fill;rw[if_pos rfl,if_pos rfl,hc];exact hK
def wY (listed:Array Bool):Nat:=listed.toList.count false
theorem vU {listed:Array Bool} {i:Nat} (h:listed.getD i true=false):wY listed=wY (listed.setIfInBounds i true)+1:=by
 have hlt:i<listed.size:=by
  rcases Nat.lt_or_ge i listed.size with h'|h'
  ·exact h'
  ·simp[Array.getElem?_eq_none h'] at h
 have hg:listed.toList[i]?=some false:=by
  simp only[Array.getD_eq_getD_getElem?,Array.getElem?_eq_getElem hlt,Option.getD_some] at h;simp[h,hlt]
 unfold wY;rw[Array.toList_setIfInBounds];generalize listed.toList=l at hg;clear h hlt
 induction l generalizing i with
 |nil=>simp at hg
 |cons b l ih=>
  cases i with
  |zero=>
   obtain rfl:b=false:=by simpa using hg
   simp
  |succ i=>
   have:=ih (i:=i) (by simpa using hg);simp only[List.set_cons_succ,List.count_cons];omega
theorem xUd {a0:Act} {w0:World} (hf:fits md ops=true) (hI:I w0)
  (h:xBz P ops I (λa=>∀w,I w->Q .normal a w) ops.toList a0):wpAny P md ops Q ops.size (Array.replicate ops.size false) a0 w0:=by
 obtain⟨V,hV,hK⟩:=xIc hI ops.toList 0 a0 h;have hs:Region.noSelect ops=true:=by unfold fits at hf;rw[Bool.and_eq_true] at hf;exact hf.1
 have main:∀(fuel:Nat) (listed:Array Bool) (w:World),listed.size=ops.size->wY listed=fuel->I w->
   wpAny P md ops Q fuel listed (fill (λj=>listed.getD j false) V ops.toList 0 a0) w:=by
  intro fuel
  have hfin:∀(listed:Array Bool) (w:World),listed.size=ops.size->I w->Region.ready md ops listed=[]->Q .normal (fill (λj=>listed.getD j false) V ops.toList 0 a0) w:=by
   intro listed w hsz hw hr
   have hall:∀j,j<ops.size->listed.getD j true=true:=by
    intro j
    induction j using Nat.strongRecOn with
    |_ j ih=>
     intro hj;cases hc:listed.getD j true with
     |true=>rfl
     |false=>
      have:j∈Region.ready md ops listed:=mem_ready.2 ⟨hc,ops[j],Array.getElem?_eq_getElem hj,λe he hb=>by
       have hlt:=qX hf (Array.getElem?_eq_getElem hj) (tO.2 ⟨e,he,hb,rfl⟩);have:=ih e.on hlt ω;simp only[Array.getD_eq_getD_getElem?] at this⊢;rw[Array.getElem?_eq_getElem ω] at this⊢;simpa using this⟩
      rw[hr] at this;cases this
   have e:fill (λj=>listed.getD j false) V ops.toList 0 a0=fill (λ_=>true) V ops.toList 0 a0:=uI _ _ _ (λn hn=>by
    have hn':n<ops.size:=by simpa using hn
    have:=hall n hn';simp only[Array.getD_eq_getD_getElem?,Nat.zero_add] at this⊢;rw[Array.getElem?_eq_getElem ω] at this⊢;simpa using this) (λ_ _ _=>rfl)
   rw[e];exact hK w hw
  induction fuel with
  |zero=>
   intro listed w hsz hu hw
   have hr:Region.ready md ops listed=[]:=by
    cases hc:Region.ready md ops listed with
    |nil=>rfl
    |cons j _=>
     have hm:j∈Region.ready md ops listed:=by rw[hc];simp
     have:=vU (mem_ready.1 hm).1;omega
   exact⟨hr,hfin listed w hsz hw hr⟩
  |succ fuel ih=>
   intro listed w hsz hu hw;refine⟨hfin listed w hsz hw,λi hi=>?_⟩;obtain⟨hun,o,ho,xOb⟩:=mem_ready.1 hi;have hilt:i<ops.size:=(Array.getElem?_eq_some_iff.1 ho).1
   have hlf:listed.getD i false=false:=by
    simp only[Array.getD_eq_getD_getElem?] at hun⊢;rw[Array.getElem?_eq_getElem ω] at hun⊢;simpa using hun
   have hol:ops.toList[i]?=some o:=by simpa using ho
   have h1:=hV i o hol w hw;simp only[Nat.zero_add] at h1
   have h2:One P ops I o (V i) a0.tmps.size (fill (λj=>listed.getD j false) V ops.toList 0 a0) w:=by
    refine h1.move (λcs d=>Region.noSelect_spec hs i o cs d ho) λt ht=>?_;refine qQ _ _ _ _ rfl rfl λn p hp hd=>?_;have hp':ops[n]?=some p:=by simpa using hp
    simp only[Nat.zero_add]
    by_cases hni:i=n
    ·subst hni;rw[hlf];simp
    ·have hn:=(xBd hf ho hp' hni hd).2 ht;have hlt:=qX hf ho hn;obtain⟨e,he,hb,rfl⟩:=tO.1 hn;rw[xOb e he hb];simpa using hlt
   have hsz2:(fill (λj=>listed.getD j false) V ops.toList 0 a0).tmps.size=a0.tmps.size:=xAw _ _ _;rw[<-hsz2] at h2;refine h2.wpOp ho λw' hw'=>?_
   have e:=xD6 (L:=λj=>listed.getD j false) (V:=V) (v:=V i) ops.toList 0 i o a0 hol (by rw[Nat.zero_add];exact hlf) (λm p e hp hne he=>by
    have hp':ops[m]?=some p:=by simpa using hp
    exact(xBd hf hp' ho hne he).1)
   rw[e]
   have e2:fill (λj=>j==0+i||listed.getD j false) (λj=>if j=0+i then V i else V j) ops.toList 0 a0=fill (λj=>(listed.setIfInBounds i true).getD j false) V ops.toList 0 a0:=by
    refine uI _ _ _ (λn hn=>?_) (λn hn _=>?_)
    ·simp only[Nat.zero_add]
     by_cases hni:i=n
     ·subst hni;simp only[BEq.rfl,Bool.true_or,Array.getD_eq_getD_getElem?];rw[Array.getElem?_setIfInBounds_self_of_lt ω]
      rfl
     ·rw[getD_set_ne false hni];have:(n==i)=false:=by simp;omega
      rw[this,Bool.false_or]
    ·simp only[Nat.zero_add];split
     ·rename_i h;rw[h]
     ·rfl
   rw[e2];exact ih _ w' (by simpa using hsz) (by have:=vU hun;omega) hw'
 have:=main ops.size (Array.replicate ops.size false) w0 σ (by unfold wY;simp) hI
 rw[kI _ _ _ (λn hn=>by
  have hn':n<ops.size:=by simpa using hn
  simp[hn'])] at this
 exact this
theorem xP {id:Nat} {l:List Oper} {a:Act} {w:World} (I:World->Prop) (hm:P.follows .mixedOrders=true) (hf:fits .any l.toArray=true) (hI:I w.drew)
  (h:xBz P l.toArray I (λa=>∀w,I w->Q .normal a w) l a):(Code.region id l.toArray true).wp P Q a w:=
 wp_region_any hm (xUd hf (w0:=w.drew) hI (by simpa using h))
end
end Go.Proofs.RG
namespace Go.Proofs.RG
section
variable {P:Program} {ops:Array Oper} {Q:Exit->Act->World->Prop} {md:Region.Mode} {E:List Nat} {I:(Nat->Bool)->World->Prop}
def upd (E:List Nat) (L:Nat->Bool) (i:Nat):Nat->Bool:=if E.contains i then λj=>j==i||L j else L
def jB (P:Program) (ops:Array Oper) (md:Region.Mode) (E:List Nat) (I:(Nat->Bool)->World->Prop) (K:Act->Prop):List Oper->Nat->Act->Prop
 |[],_,a=>K a
 |o::os,i,a=>∃A:Act,A.defers=a.defers/\(∀L w,L i=false->(∀j,j∈deps md o->L j=true)->I L w->wpList P ops (Only (I (upd E L i)) A) [o] a w)/\jB P ops md E I K os (i+1) A
theorem yI {K:Act->Prop} {a:Act} {i:Nat} (h:K a):jB P ops md E I K [] i a:=h
theorem xEb {K:Act->Prop} {a:Act} {o:Oper} {os:List Oper} {i:Nat} {A:Act} (hi:E.contains i=false) (h:∀L w,I L w->wpList P ops (Only (I L) A) [o] a w) (hd:A.defers=a.defers) (h2:jB P ops md E I K os (i+1) A):
  jB P ops md E I K (o::os) i a:=⟨A,hd,λL w _ _ hw=>by unfold upd;rw[hi];exact h L w hw,h2⟩
theorem yL {K:Act->Prop} {a:Act} {o:Oper} {os:List Oper} {i:Nat} {A:Act} (hi:E.contains i=true) (h:∀L w,L i=false->(∀j,j∈deps md o->L j=true)->I L w->wpList P ops (Only (I (λj=>j==i||L j)) A) [o] a w) (hd:A.defers=a.defers) (h2:jB P ops md E I K os (i+1) A):
  jB P ops md E I K (o::os) i a:=⟨A,hd,λL w h0 hdp hw=>by unfold upd;rw[hi];exact h L w h0 hdp hw,h2⟩
theorem xSe {J:World->Prop} {o:Oper} {a A:Act} {w:World} (h:wpList P ops (Only J A) [o] a w):∃w',J w':=by
 unfold wpList at h;split at h
 ·rcases h with h|⟨_,a',w',h,_⟩
  ·unfold Oper.wp at h;generalize (execOp a.eval o).run P w=r at h;cases r with
   |ok n w'=>
    cases n<;>simp only[Oper.upon] at h
    case value u=>exact⟨_,h.2.2⟩
    case skip=>exact⟨_,h.2.2⟩
    case defer d=>exact⟨_,h.2.2⟩
    case enter f args=>
     obtain⟨e,w'',h1⟩:=xIe h;cases e with
     |returned u=>exact⟨_,h1.2.2⟩
     |panicked c=>exact absurd h1.1 σ
     |outgrown=>obtain⟨_,_,h2,_⟩:=h1;exact absurd h2 σ
    case row row args=>
     obtain⟨u,w'',h1⟩:=xL5 h;exact⟨_,h1.2.2⟩
   |halt x w'=>
    cases x<;>simp only[Oper.upon] at h
    exact absurd h.1 σ
  ·exact absurd h σ
 ·exact⟨_,h.2.2⟩
def below (i:Nat):Nat->Bool:=λj=>decide (j<i)
theorem xCe {L L':Nat->Bool} {i:Nat} (hL:∀e∈E,L e=L' e):∀e∈E,upd E L i e=(λj=>j==i||L' j) e:=by
 intro e he;unfold upd;split
 ·simp only[hL e he]
 ·rename_i hc
  have hne:e≠i:=λh=>hc (by rw[<-h];simpa using he);have:(e==i)=false:=by simpa using hne
  simp only[this,Bool.false_or,hL e he]
theorem xTf (i j:Nat):(j==i||below i j)=below (i+1) j:=by
 unfold below
 by_cases h:j=i
 ·subst h;simp
 ·have:(j==i)=false:=by simpa using h
  rw[this,Bool.false_or];exact decide_eq_decide.2 ω
theorem xGj {K:Act->Prop} (hE:∀L L' w,(∀e∈E,L e=L' e)->I L w->I L' w):∀(os:List Oper) (i:Nat) (a:Act) (w0:World),I (below i) w0->(∀n o,os[n]?=some o->∀j∈deps md o,j<i+n)->jB P ops md E I K os i a->
  ∃V:Nat->Value,(∀n o,os[n]?=some o->∀L w,L (i+n)=false->(∀j,j∈deps md o->L j=true)->I L w->One P ops (I (upd E L (i+n))) o (V (i+n)) a.tmps.size (fill (λj=>decide (j<i+n)) V os i a) w)/\K (fill (λ_=>true) V os i a)
 |[],_,a,_,_,_,h=>⟨λ_=>undef,λn o ho=>by simp at ho,h⟩
 |o::os,i,a,w0,hI,hdp,h=>by
  obtain⟨A,hd,h1,h2⟩:=h;have h10:=h1 (below i) w0 (by simp[below]) (λj hj=>by have:=hdp 0 o rfl j hj;simpa[below] using this) hI;obtain⟨u,rfl⟩:=xJ9 hd h10;obtain⟨w1,hI1⟩:=xSe h10
  have hI2:I (below (i+1)) w1:=hE _ _ _ (λe he=>by rw[xCe (L':=below i) (λ_ _=>rfl) e he];exact xTf i e) hI1;obtain⟨V,hV,hK⟩:=xGj hE os (i+1) (a.put o.dst u) w1 hI2 (λn p hp j hj=>by have:=hdp (n+1) p (by simpa using hp) j hj;omega) h2
  have hc:∀(L:Nat->Bool) (b:Act),fill L (λj=>if j=i then u else V j) os (i+1) b=fill L V os (i+1) b:=λL b=>
   uI os (i+1) b (λ_ _=>rfl) (λn _ _=>by rw[if_neg ω])
  refine⟨λj=>if j=i then u else V j,λn p hp L w hL hdl hw=>?_,?_⟩
  ·cases n with
   |zero=>
    obtain rfl:o=p:=by simpa using hp
    simp only[Nat.add_zero,if_true];rw[kI _ _ _ (λn _=>by simp)];exact xA4 (h1 L w (by simpa using hL) hdl hw)
   |succ n=>
    have:=hV n p (by simpa using hp) L w (by rw[show i+1+n=i+(n+1) by omega];exact hL) hdl hw;have e1:¬i+(n+1)=i:=by omega
    simp only[e1,if_false];unfold fill;rw[if_pos σ,if_pos rfl,hc,show i+(n+1)=i+1+n by omega];rw[xB9] at this;exact this
  ·unfold fill;rw[if_pos rfl,if_pos rfl,hc];exact hK
theorem xR5 {a0:Act} {w0:World} (hf:fits md ops=true) (hE:∀L L' w,(∀e∈E,L e=L' e)->I L w->I L' w) (hEl:∀e∈E,e<ops.size) (hI:I (λ_=>false) w0)
  (h:jB P ops md E I (λa=>∀w,I (λ_=>true) w->Q .normal a w) ops.toList 0 a0):wpAny P md ops Q ops.size (Array.replicate ops.size false) a0 w0:=by
 have hdeps0:∀n o,ops.toList[n]?=some o->∀j∈deps md o,j<0+n:=λn o ho j hj=>by
  rw[Nat.zero_add];exact qX hf (by simpa using ho) hj
 obtain⟨V,hV,hK⟩:=xGj hE ops.toList 0 a0 w0 (hE _ _ _ (λe _=>by simp[below]) hI) hdeps0 h;have hs:Region.noSelect ops=true:=by unfold fits at hf;rw[Bool.and_eq_true] at hf;exact hf.1
 have main:∀(fuel:Nat) (listed:Array Bool) (w:World),listed.size=ops.size->wY listed=fuel->I (λj=>listed.getD j false) w->
   wpAny P md ops Q fuel listed (fill (λj=>listed.getD j false) V ops.toList 0 a0) w:=by
  intro fuel
  have hfin:∀(listed:Array Bool) (w:World),listed.size=ops.size->I (λj=>listed.getD j false) w->Region.ready md ops listed=[]->Q .normal (fill (λj=>listed.getD j false) V ops.toList 0 a0) w:=by
   intro listed w hsz hw hr
   have hall:∀j,j<ops.size->listed.getD j true=true:=by
    intro j
    induction j using Nat.strongRecOn with
    |_ j ih=>
     intro hj;cases hc:listed.getD j true with
     |true=>rfl
     |false=>
      have:j∈Region.ready md ops listed:=mem_ready.2 ⟨hc,ops[j],Array.getElem?_eq_getElem hj,λe he hb=>by
       have hlt:=qX hf (Array.getElem?_eq_getElem hj) (tO.2 ⟨e,he,hb,rfl⟩);have:=ih e.on hlt ω;simp only[Array.getD_eq_getD_getElem?] at this⊢;rw[Array.getElem?_eq_getElem ω] at this⊢;simpa using this⟩
      rw[hr] at this;cases this
   have xM5:∀j,j<ops.size->listed.getD j false=true:=λj hj=>by
    have:=hall j hj;simp only[Array.getD_eq_getD_getElem?] at this⊢;rw[Array.getElem?_eq_getElem ω] at this⊢;simpa using this
   have e:fill (λj=>listed.getD j false) V ops.toList 0 a0=fill (λ_=>true) V ops.toList 0 a0:=uI _ _ _ (λn hn=>by
    have hn':n<ops.size:=by simpa using hn
    rw[Nat.zero_add];exact xM5 n hn') (λ_ _ _=>rfl)
   rw[e];exact hK w (hE _ _ _ (λe he=>xM5 e (hEl e he)) hw)
  induction fuel with
  |zero=>
   intro listed w hsz hu hw
   have hr:Region.ready md ops listed=[]:=by
    cases hc:Region.ready md ops listed with
    |nil=>rfl
    |cons j _=>
     have hm:j∈Region.ready md ops listed:=by rw[hc];simp
     have:=vU (mem_ready.1 hm).1;omega
   exact⟨hr,hfin listed w hsz hw hr⟩
  |succ fuel ih=>
   intro listed w hsz hu hw;refine⟨hfin listed w hsz hw,λi hi=>?_⟩;obtain⟨hun,o,ho,xOb⟩:=mem_ready.1 hi;have hilt:i<ops.size:=(Array.getElem?_eq_some_iff.1 ho).1
   have hlf:listed.getD i false=false:=by
    simp only[Array.getD_eq_getD_getElem?] at hun⊢;rw[Array.getElem?_eq_getElem ω] at hun⊢;simpa using hun
   have hol:ops.toList[i]?=some o:=by simpa using ho
   have hdone:∀j,j∈deps md o->listed.getD j false=true:=λj hj=>by
    obtain⟨e,he,hb,rfl⟩:=tO.1 hj;have hlt:=qX hf ho hj;have:=xOb e he hb;simp only[Array.getD_eq_getD_getElem?] at this⊢;rw[Array.getElem?_eq_getElem ω] at this⊢;simpa using this
   have h1:=hV i o hol (λj=>listed.getD j false) w (by rw[Nat.zero_add];exact hlf) hdone hw;simp only[Nat.zero_add] at h1
   have h2:One P ops (I (upd E (λj=>listed.getD j false) i)) o (V i) a0.tmps.size (fill (λj=>listed.getD j false) V ops.toList 0 a0) w:=by
    refine h1.move (λcs d=>Region.noSelect_spec hs i o cs d ho) λt ht=>?_;refine qQ _ _ _ _ rfl rfl λn p hp hd=>?_;have hp':ops[n]?=some p:=by simpa using hp
    simp only[Nat.zero_add]
    by_cases hni:i=n
    ·subst hni;rw[hlf];simp
    ·have hn:=(xBd hf ho hp' hni hd).2 ht;have hlt:=qX hf ho hn;rw[hdone n hn];simpa using hlt
   have hsz2:(fill (λj=>listed.getD j false) V ops.toList 0 a0).tmps.size=a0.tmps.size:=xAw _ _ _;rw[<-hsz2] at h2;refine h2.wpOp ho λw' hw'=>?_
   have e:=xD6 (L:=λj=>listed.getD j false) (V:=V) (v:=V i) ops.toList 0 i o a0 hol (by rw[Nat.zero_add];exact hlf) (λm p e hp hne he=>by
    have hp':ops[m]?=some p:=by simpa using hp
    exact(xBd hf hp' ho hne he).1)
   rw[e]
   have e3:∀n,n<ops.size->(n==i||listed.getD n false)=(listed.setIfInBounds i true).getD n false:=λn hn=>by
    by_cases hni:i=n
    ·subst hni;simp only[BEq.rfl,Bool.true_or,Array.getD_eq_getD_getElem?];rw[Array.getElem?_setIfInBounds_self_of_lt ω]
     rfl
    ·rw[getD_set_ne false hni];have:(n==i)=false:=by simp;omega
     rw[this,Bool.false_or]
   have e2:fill (λj=>j==0+i||listed.getD j false) (λj=>if j=0+i then V i else V j) ops.toList 0 a0=fill (λj=>(listed.setIfInBounds i true).getD j false) V ops.toList 0 a0:=by
    refine uI _ _ _ (λn hn=>?_) (λn hn _=>?_)
    ·simp only[Nat.zero_add];exact e3 n (by simpa using hn)
    ·simp only[Nat.zero_add];split
     ·rename_i h;rw[h]
     ·rfl
   rw[e2]
   exact ih _ w' (by simpa using hsz) (by have:=vU hun;omega) (hE _ _ _ (λe he=>by
    rw[xCe (L':=λj=>listed.getD j false) (λ_ _=>rfl) e he];exact e3 e (hEl e he)) hw')
 have:=main ops.size (Array.replicate ops.size false) w0 σ (by unfold wY;simp) (hE _ _ _ (λe he=>by
  have:=hEl e he;simp[this]) hI)
 rw[kI _ _ _ (λn hn=>by
  have hn':n<ops.size:=by simpa using hn
  simp[hn'])] at this
 exact this
theorem zJ {id:Nat} {l:List Oper} {a:Act} {w:World} (E:List Nat) (I:(Nat->Bool)->World->Prop) (hE:∀L L' w,(∀e∈E,L e=L' e)->I L w->I L' w) (hm:P.follows .mixedOrders=true) (hf:fits .any l.toArray=true) (hEl:(E.all λe=>decide (e<l.length))=true) (hI:I (λ_=>false) w.drew)
  (h:jB P l.toArray .any E I (λa=>∀w,I (λ_=>true) w->Q .normal a w) l 0 a):(Code.region id l.toArray true).wp P Q a w:=
 wp_region_any hm (xR5 hf hE (λe he=>by have:=List.all_eq_true.1 hEl e he;simpa using this) hI (by simpa using h))
end
end Go.Proofs.RG
namespace Go.Proofs.RG
theorem xKm {P:Program} {ops:Array Oper} {Q:Exit->Act->World->Prop} {I:World->Prop} {K:Act->Prop} (hK:∀A w,K A->I w->Q .normal A w):
  ∀(os:List Oper) (i:Nat) (a:Act) (w:World),(∀n,n<os.length->ops[i+n]?=os[n]?)->xBz P ops I K os a->I w->wpOps P ops Q (List.range' i os.length) a w
 |[],i,a,w,_,h,hI=>by
  rw[List.length_nil,List.range'_zero];exact hK _ _ h hI
 |o::os,i,a,w,ho,h,hI=>by
  obtain⟨A,hd,h1,h2⟩:=h;obtain⟨u,rfl⟩:=xJ9 hd (h1 w hI);rw[List.length_cons,List.range'_succ,wpOps_cons];refine One.wpOp (i:=i) (by have:=ho 0 σ;simpa using this) (xA4 (h1 w hI)) (λw' ι=>?_)
  exact xKm hK os (i+1) _ w' (λn hn=>by have:=ho (n+1) (by simpa using hn);simpa[Nat.add_assoc,Nat.add_comm 1 n] using this) h2 ι
theorem yP {P:Program} {Q:Exit->Act->World->Prop} {id:Nat} {l:List Oper} {a:Act} {w:World} (I:World->Prop) (hI:I w) (h:xBz P l.toArray I (λA=>∀w,I w->Q .normal A w) l a):(Code.region id l.toArray false).wp P Q a w:=
 wp_region (by
  rw[List.range_eq_range',show l.toArray.size=l.length by simp];exact xKm (λA w hk hi=>hk w hi) l 0 a w (λn _=>by simp) h hI)
theorem xAp {P:Program} {ops:Array Oper} {I:World->Prop} {a A:Act} {w:World} {o:Oper} (hw:Region.wanted o (yielded ops a.tmps)=false) (hA:a.put o.dst undef=A) (hI:I w):wpList P ops (Only I A) [o] a w:=
 wpList_skip hw (by rw[hA];exact xD hI)
end Go.Proofs.RG