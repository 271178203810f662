/- Contracts of functions. Conditions: as stated. -/
import Derived.Test.YtacahegificeoaaGreatDoorImapLoginsProofB01
import Derived.WalkKit
import Derived.Deep.AppendLies
import Derived.Deep.Draws
set_option maxHeartbeats 8000000
set_option maxRecDepth 100000
namespace Go.Proofs.RG
abbrev Pv:=Nat->Value
def wF (α:Pv) (i:Nat) (b:Value):Pv:=λj=>if j=i then b else α j
theorem zF (α:Pv) (i:Nat) (b:Value):wF α i b i=b:=by simp[wF]
theorem vP (α:Pv) (i:Nat) (b:Value) {j:Nat} (h:j≠i):wF α i b j=α j:=by simp[wF,h]
def xMq (P:Program) (ops:Array Oper) (I:Value->World->Prop) (o:Oper) (n:Nat) (a:Act) (w:World):Prop:=
 if Region.wanted o (yielded ops a.tmps)=true then
  match (execOp a.eval o).run P w with
  |.ok (.value u) w'=>∃v,EqAt o.dst n u v/\I v w'
  |.ok .skip w'=>∃v,EqAt o.dst n undef v/\I v w'
  |.ok (.enter f args) w'=>Calls P f args w' λe w''=>∃u v,e=.returned u/\EqAt o.dst n u v/\I v w''
  |.ok (.row row args) w'=>Rows P row args w' λu w''=>∃v,EqAt o.dst n u v/\I v w''
  |_=>False
 else ∃v,EqAt o.dst n undef v/\I v w
def OnlyV (I:Value->World->Prop) (d:Option Tmp) (a:Act):Exit->Act->World->Prop:=λe A w=>e=.normal/\∃v,A=a.put d v/\I v w
section
variable {P:Program} {ops:Array Oper} {Q:Exit->Act->World->Prop} {I:Value->World->Prop}
theorem One.val {I:World->Prop} {J:Value->World->Prop} {o:Oper} {v:Value} {n:Nat} {a:Act} {w:World} (h:One P ops I o v n a w) (hJ:∀w,I w->J v w):xMq P ops J o n a w:=by
 unfold One at h;unfold xMq;split at h
 ·rename_i hw
  rw[if_pos hw];generalize (execOp a.eval o).run P w=r at h⊢;cases r with
  |ok m w'=>
   cases m<;>simp only at h⊢
   case value u=>exact⟨v,h.1,hJ _ h.2⟩
   case skip=>exact⟨v,h.1,hJ _ h.2⟩
   case enter f args=>exact Calls.mono h λe w'' h1=>by obtain⟨u,h2,h3,h4⟩:=h1;exact⟨u,v,h2,h3,hJ _ h4⟩
   case row row args=>exact Rows.mono h λu w'' h1=>⟨v,h1.1,hJ _ h1.2⟩
  |halt x w'=>exact h.elim
 ·rename_i hw
  rw[if_neg hw];exact⟨v,h.1,hJ _ h.2⟩
theorem xVx {o:Oper} {a:Act} {w:World} (h:wpList P ops (OnlyV I o.dst a) [o] a w):xMq P ops I o a.tmps.size a w:=by
 unfold wpList at h;unfold xMq;split at h
 ·rename_i hw
  rw[if_pos hw];rcases h with h|⟨_,a',w',h,_⟩
  ·unfold Oper.wp at h;generalize (execOp a.eval o).run P w=r at h⊢;cases r with
   |ok n w'=>
    cases n<;>simp only[Oper.upon] at h
    case value u=>obtain⟨_,v,h2,h3⟩:=h;exact⟨v,pM h2,h3⟩
    case skip=>obtain⟨_,v,h2,h3⟩:=h;exact⟨v,pM h2,h3⟩
    case defer d=>
     obtain⟨_,v,h2,h3⟩:=h;have:=congrArg Act.defers h2;rw[put_defers,put_defers] at this;simp at this
    case enter f args=>
     refine Calls.mono h λe w'' h1=>?_;cases e with
     |returned u=>obtain⟨_,v,h2,h3⟩:=h1;exact⟨u,v,rfl,pM h2,h3⟩
     |panicked c=>exact absurd h1.1 σ
     |outgrown=>obtain⟨_,_,h2,_⟩:=h1;exact absurd h2 σ
    case row row args=>
     exact Rows.mono h λu w'' h1=>by obtain⟨_,v,h2,h3⟩:=h1;exact⟨v,pM h2,h3⟩
   |halt x w'=>
    cases x<;>simp only[Oper.upon] at h
    exact absurd h.1 σ
  ·exact absurd h σ
 ·rename_i hw
  rw[if_neg hw];obtain⟨_,v,h2,h3⟩:=h;exact⟨v,pM h2,h3⟩
theorem xMq.move {o:Oper} {n:Nat} {a b:Act} {w:World} (h:xMq P ops I o n a w) (hs:∀cs d,o.op≠.select cs d) (hab:∀t,t∈o.looksAt ops->a.tmps[t]?=b.tmps[t]?):xMq P ops I o n b w:=by
 have he:execOp b.eval o=execOp a.eval o:=execOp_congr o hs λx hx=>by
  cases x with
  |tmp t=>
   have:t∈o.looksAt ops:=List.mem_append_left _ (List.mem_filterMap.2 ⟨.tmp t,by simpa using hx,rfl⟩);simp only[Act.eval,Array.getD_eq_getD_getElem?];rw[hab t this]
  |_=>rfl
 have hw:Region.wanted o (yielded ops b.tmps)=Region.wanted o (yielded ops a.tmps):=by
  unfold Region.wanted;cases hg:o.guard with
  |none=>rfl
  |some gw=>
   obtain⟨g,want⟩:=gw
   have hy:yielded ops b.tmps g=yielded ops a.tmps g:=by
    unfold yielded;cases ht:(ops[g]?).bind (·.dst) with
    |none=>rfl
    |some t=>
     have:t∈o.looksAt ops:=by simp[Oper.looksAt,hg,ht]
     simp only[Option.bind_some];rw[hab t this]
   simp only[hy]
 unfold xMq at*;rw[he,hw];exact h
theorem xMq.wpOp {o:Oper} {a:Act} {w:World} {i:Nat} {K:Act->World->Prop} (hi:ops[i]?=some o) (h:xMq P ops I o a.tmps.size a w) (hK:∀v w',I v w'->K (a.put o.dst v) w'):wpOp P ops Q i K a w:=by
 unfold Go.wpOp xMq at*;simp only[hi];split at h
 ·rename_i hw
  rw[if_pos hw];refine .inl ?_;unfold Oper.wp;generalize (execOp a.eval o).run P w=r at h⊢;cases r with
  |ok n w'=>
   cases n<;>simp only at h<;>simp only[Oper.upon]
   case value u=>obtain⟨v,h1,h2⟩:=h;rw[h1 a rfl];exact hK _ _ h2
   case skip=>obtain⟨v,h1,h2⟩:=h;rw[h1 a rfl];exact hK _ _ h2
   case enter f args=>
    refine Calls.mono h λe w'' h1=>?_;obtain⟨u,v,rfl,h2,h3⟩:=h1;simp only;rw[h2 a rfl];exact hK _ _ h3
   case row row args=>
    refine Rows.mono h λu w'' h1=>?_;obtain⟨v,h1,h2⟩:=h1;rw[h1 a rfl];exact hK _ _ h2
  |halt x w'=>exact h.elim
 ·rename_i hw
  obtain⟨v,h1,h2⟩:=h;rw[if_neg hw,h1 a rfl];exact hK _ _ h2
end
section
variable {P:Program} {ops:Array Oper} {Q:Exit->Act->World->Prop} {md:Region.Mode} {E N:List Nat} {J:(Nat->Bool)->Pv->World->Prop}
def jH (P:Program) (ops:Array Oper) (md:Region.Mode) (E N:List Nat) (J:(Nat->Bool)->Pv->World->Prop) (K:Pv->Act->Prop):List Oper->Nat->(Pv->Act)->Prop
 |[],_,a=>∀α,K α (a α)
 |o::os,i,a=>
  (N.contains i=true/\(∀α L w,L i=false->closed ops md L->closed ops md (λj=>j==i||L j)->J L α w->xMq P ops (λb w'=>J (λj=>j==i||L j) (wF α i b) w') o (a α).tmps.size (a α) w)/\jH P ops md E N J K os (i+1) (λα=>(a α).put o.dst (α i)))∨
  (N.contains i=false/\∃(A:Pv->Act) (v:Pv->Value),(∀α,A α=(a α).put o.dst (v α))/\(late md N o=true∨∀α α',v α=v α')/\
   (∀α L w,L i=false->closed ops md L->closed ops md (λj=>j==i||L j)->J L α w->wpList P ops (Only (J (upd E L i) α) (A α)) [o] (a α) w)/\jH P ops md E N J K os (i+1) A)
theorem pE {K:Pv->Act->Prop} {a:Pv->Act} {i:Nat} (h:∀α,K α (a α)):jH P ops md E N J K [] i a:=h
theorem jC {K:Pv->Act->Prop} {a:Pv->Act} {o:Oper} {os:List Oper} {i:Nat} {A:Value->Pv->Act} (hi:N.contains i=true)
  (h:∀α L w,L i=false->closed ops md L->closed ops md (λj=>j==i||L j)->J L α w->∃v,∀b,b=v->wpList P ops (Only (J (λj=>j==i||L j) (wF α i b)) (A b α)) [o] (a α) w)
  (hd:∀b α,A b α=(a α).put o.dst b) (h2:jH P ops md E N J K os (i+1) (λα=>A (α i) α)):jH P ops md E N J K (o::os) i a:=by
 refine .inl ⟨hi,λα L w h0 hc hc2 hw=>?_,?_⟩
 ·obtain⟨v,hv⟩:=h α L w h0 hc hc2 hw;have h9:=hv v rfl;rw[hd] at h9;exact(xA4 h9).val λ_ h=>h
 ·have e:(λα=>(a α).put o.dst (α i))=λα=>A (α i) α:=funext λα=>(hd _ _).symm;rw[e];exact h2
theorem qL {K:Pv->Act->Prop} {a:Pv->Act} {o:Oper} {os:List Oper} {i:Nat} {A:Value->Pv->Act} (hi:N.contains i=true)
  (h:∀α L w,L i=false->closed ops md L->closed ops md (λj=>j==i||L j)->J L α w->wpList P ops (OnlyV (λb w'=>J (λj=>j==i||L j) (wF α i b) w') o.dst (a α)) [o] (a α) w)
  (hd:∀b α,A b α=(a α).put o.dst b) (h2:jH P ops md E N J K os (i+1) (λα=>A (α i) α)):jH P ops md E N J K (o::os) i a:=by
 refine .inl ⟨hi,λα L w h0 hc hc2 hw=>xVx (h α L w h0 hc hc2 hw),?_⟩;have e:(λα=>(a α).put o.dst (α i))=λα=>A (α i) α:=funext λα=>(hd _ _).symm;rw[e];exact h2
theorem uA {K:Pv->Act->Prop} {a:Pv->Act} {o:Oper} {os:List Oper} {i:Nat} {A:Pv->Act} {v:Value} (hi:N.contains i=false) (he:E.contains i=false)
  (h:∀α L w,L i=false->closed ops md L->closed ops md (λj=>j==i||L j)->J L α w->wpList P ops (Only (J L α) (A α)) [o] (a α) w) (hd:∀α,A α=(a α).put o.dst v) (h2:jH P ops md E N J K os (i+1) A):jH P ops md E N J K (o::os) i a:=
 .inr ⟨hi,A,λ_=>v,hd,.inr λ_ _=>rfl,λα L w h0 hc hc2 hw=>by unfold upd;rw[he];exact h α L w h0 hc hc2 hw,h2⟩
theorem rU {K:Pv->Act->Prop} {a:Pv->Act} {o:Oper} {os:List Oper} {i:Nat} {A:Pv->Act} {v:Value} (hi:N.contains i=false) (he:E.contains i=true)
  (h:∀α L w,L i=false->closed ops md L->closed ops md (λj=>j==i||L j)->J L α w->wpList P ops (Only (J (λj=>j==i||L j) α) (A α)) [o] (a α) w) (hd:∀α,A α=(a α).put o.dst v) (h2:jH P ops md E N J K os (i+1) A):jH P ops md E N J K (o::os) i a:=
 .inr ⟨hi,A,λ_=>v,hd,.inr λ_ _=>rfl,λα L w h0 hc hc2 hw=>by unfold upd;rw[he];exact h α L w h0 hc hc2 hw,h2⟩
theorem xF2 {K:Pv->Act->Prop} {a:Pv->Act} {o:Oper} {os:List Oper} {i:Nat} {A:Pv->Act} {v:Pv->Value} (hi:N.contains i=false) (hl:late md N o=true) (he:E.contains i=true)
  (h:∀α L w,L i=false->closed ops md L->closed ops md (λj=>j==i||L j)->J L α w->wpList P ops (Only (J (λj=>j==i||L j) α) (A α)) [o] (a α) w) (hd:∀α,A α=(a α).put o.dst (v α)) (h2:jH P ops md E N J K os (i+1) A):jH P ops md E N J K (o::os) i a:=
 .inr ⟨hi,A,v,hd,.inl hl,λα L w h0 hc hc2 hw=>by unfold upd;rw[he];exact h α L w h0 hc hc2 hw,h2⟩
theorem xGi {K:Pv->Act->Prop} {n0:Nat}:∀(os:List Oper) (i:Nat) (a:Pv->Act),(∀α,(a α).tmps.size=n0)->jH P ops md E N J K os i a->
  ∃V:Pv->Nat->Value,(∀n o,os[n]?=some o->∀α L w,L (i+n)=false->closed ops md L->closed ops md (λj=>j==i+n||L j)->J L α w->
   (N.contains (i+n)=true/\xMq P ops (λb w'=>J (λj=>j==i+n||L j) (wF α (i+n) b) w') o n0 (fill (λj=>decide (j<i+n)) (V α) os i (a α)) w)∨
   (N.contains (i+n)=false/\One P ops (J (upd E L (i+n)) α) o (V α (i+n)) n0 (fill (λj=>decide (j<i+n)) (V α) os i (a α)) w))/\
   (∀n o,os[n]?=some o->(N.contains (i+n)=true/\∀α,V α (i+n)=α (i+n))∨(N.contains (i+n)=false/\(late md N o=true∨∀α α',V α (i+n)=V α' (i+n))))/\
   ∀α,K α (fill (λ_=>true) (V α) os i (a α))
 |[],_,a,_,h=>⟨λ_ _=>undef,λn o ho=>by simp at ho,λn o ho=>by simp at ho,h⟩
 |o::os,i,a,hsz,h=>by
  have key:∀(A:Pv->Act) (v:Pv->Value),(∀α,A α=(a α).put o.dst (v α))->jH P ops md E N J K os (i+1) A->
    (∀α L w,L i=false->closed ops md L->closed ops md (λj=>j==i||L j)->J L α w->
     (N.contains i=true/\xMq P ops (λb w'=>J (λj=>j==i||L j) (wF α i b) w') o n0 (a α) w)∨(N.contains i=false/\One P ops (J (upd E L i) α) o (v α) n0 (a α) w))->
    ((N.contains i=true/\∀α,v α=α i)∨(N.contains i=false/\(late md N o=true∨∀α α',v α=v α')))->
    ∃V:Pv->Nat->Value,(∀n p,(o::os)[n]?=some p->∀α L w,L (i+n)=false->closed ops md L->closed ops md (λj=>j==i+n||L j)->J L α w->
     (N.contains (i+n)=true/\xMq P ops (λb w'=>J (λj=>j==i+n||L j) (wF α (i+n) b) w') p n0 (fill (λj=>decide (j<i+n)) (V α) (o::os) i (a α)) w)∨
     (N.contains (i+n)=false/\One P ops (J (upd E L (i+n)) α) p (V α (i+n)) n0 (fill (λj=>decide (j<i+n)) (V α) (o::os) i (a α)) w))/\
     (∀n p,(o::os)[n]?=some p->(N.contains (i+n)=true/\∀α,V α (i+n)=α (i+n))∨(N.contains (i+n)=false/\(late md N p=true∨∀α α',V α (i+n)=V α' (i+n))))/\
     ∀α,K α (fill (λ_=>true) (V α) (o::os) i (a α)):=by
   intro A v hA h2 h1 hv;obtain⟨V,hV,hW,hK⟩:=xGi os (i+1) A (λα=>by rw[hA,xB9];exact hsz α) h2
   have hc:∀(α:Pv) (L:Nat->Bool) (b:Act),fill L (λj=>if j=i then v α else V α j) os (i+1) b=fill L (V α) os (i+1) b:=λα L b=>
    uI os (i+1) b (λ_ _=>rfl) (λn _ _=>by rw[if_neg ω])
   refine⟨λα j=>if j=i then v α else V α j,λn p hp α L w hL hcl xN hw=>?_,λn p hp=>?_,λα=>?_⟩
   ·cases n with
    |zero=>
     obtain rfl:o=p:=by simpa using hp
     simp only[Nat.add_zero,if_true];rw[kI _ _ _ (λn _=>by simp)];exact h1 α L w (by simpa using hL) hcl (by simpa using xN) hw
    |succ n=>
     have e3:i+1+n=i+(n+1):=by omega
     have:=hV n p (by simpa using hp) α L w (by rw[e3];exact hL) hcl (by rw[e3];exact xN) hw;have e1:¬i+(n+1)=i:=by omega
     simp only[e1,if_false];unfold fill;simp only[if_true];rw[if_pos σ,hc,<-e3,<-hA];exact this
   ·cases n with
    |zero=>
     obtain rfl:o=p:=by simpa using hp
     simpa using hv
    |succ n=>
     have:=hW n p (by simpa using hp);have e1:¬i+(n+1)=i:=by omega
     simp only[e1,if_false];rw[show i+(n+1)=i+1+n by omega];exact this
   ·unfold fill;simp only[if_true];rw[hc,<-hA];exact hK α
  rcases h with ⟨hi,h1,h2⟩|⟨hi,A,v,hA,hv,h1,h2⟩
  ·refine key _ (λα=>α i) (λ_=>rfl) h2 (λα L w h0 hcl xN hw=>.inl ⟨hi,?_⟩) (.inl ⟨hi,λ_=>rfl⟩);have hb:=h1 α L w h0 hcl xN hw
   rwa [hsz α] at hb
  ·refine key A v hA h2 (λα L w h0 hcl xN hw=>.inr ⟨hi,?_⟩) (.inr ⟨hi,hv⟩);have:=h1 α L w h0 hcl xN hw;rw[hA α] at this;have:=xA4 this
   rwa [hsz α] at this
def xOf (md:Region.Mode) (ops:Array Oper):Bool:=
 Region.noSelect ops&&(List.range ops.size).all λi=>match ops[i]? with
  |none=>true
  |some o=>(deps md o).all (·<i)&&(List.range ops.size).all λj=>i==j||match ops[j]? with
   |none=>true
   |some p=>match p.dst with
    |none=>true
    |some d=>o.dst !=some d&&(!(o.looksAt ops).contains d||(deps md o).contains j||(decide (i<j)&&(pO ops md 9 j).contains i))
theorem xD4 {md:Region.Mode} {ops:Array Oper} (h:xOf md ops=true) {i:Nat} {o:Oper} (ho:ops[i]?=some o) {j:Nat} (hj:j∈deps md o):j<i:=by
 unfold xOf at h;rw[Bool.and_eq_true] at h;have h1:=List.all_eq_true.1 h.2 i (List.mem_range.2 (Array.getElem?_eq_some_iff.1 ho).1);simp only[ho,Bool.and_eq_true] at h1;simpa using List.all_eq_true.1 h1.1 j hj
theorem xGc {md:Region.Mode} {ops:Array Oper} (h:xOf md ops=true) {i j:Nat} {o p:Oper} (ho:ops[i]?=some o) (hp:ops[j]?=some p) (hne:i≠j) {d:Tmp} (hd:p.dst=some d):
  o.dst≠some d/\(d∈o.looksAt ops->j∈deps md o∨(i<j/\(pO ops md 9 j).contains i=true)):=by
 unfold xOf at h;rw[Bool.and_eq_true] at h;have h1:=List.all_eq_true.1 h.2 i (List.mem_range.2 (Array.getElem?_eq_some_iff.1 ho).1);simp only[ho,Bool.and_eq_true] at h1;have h2:=List.all_eq_true.1 h1.2 j (List.mem_range.2 (Array.getElem?_eq_some_iff.1 hp).1)
 simp only[hp,hd,Bool.or_eq_true,beq_iff_eq,hne,false_or,Bool.and_eq_true,bne_iff_ne,Bool.not_eq_true',List.contains_eq_mem,decide_eq_false_iff_not,decide_eq_true_eq] at h2;refine⟨h2.1,λhl=>?_⟩;rcases h2.2 with (h3|h3)|h3
 ·exact absurd hl h3
 ·exact .inl h3
 ·exact .inr ⟨h3.1,by simpa using h3.2⟩
theorem xR4 {a0:Act} {w0:World} (α0:Pv) (hf:xOf md ops=true) (hE:∀L L' α α' w,(∀e,e∈E∨e∈N->L e=L' e)->(∀e∈N,L e=true->α e=α' e)->J L α w->J L' α' w) (hEl:∀e,e∈E∨e∈N->e<ops.size) (hI:J (λ_=>false) α0 w0)
  (h:jH P ops md E N J (λα a=>∀w,J (λ_=>true) α w->Q .normal a w) ops.toList 0 (λ_=>a0)):wpAny P md ops Q ops.size (Array.replicate ops.size false) a0 w0:=by
 obtain⟨V,hV,hW,hK⟩:=xGi (n0:=a0.tmps.size) ops.toList 0 (λ_=>a0) (λ_=>rfl) h;have hs:Region.noSelect ops=true:=by unfold xOf at hf;rw[Bool.and_eq_true] at hf;exact hf.1
 have main:∀(fuel:Nat) (listed:Array Bool) (α:Pv) (w:World),listed.size=ops.size->wY listed=fuel->closed ops md (λj=>listed.getD j false)->J (λj=>listed.getD j false) α w->
   wpAny P md ops Q fuel listed (fill (λj=>listed.getD j false) (V α) ops.toList 0 a0) w:=by
  intro fuel
  have hfin:∀(listed:Array Bool) (α:Pv) (w:World),listed.size=ops.size->J (λj=>listed.getD j false) α w->Region.ready md ops listed=[]->Q .normal (fill (λj=>listed.getD j false) (V α) ops.toList 0 a0) w:=by
   intro listed α w hsz hw hr
   have hall:∀j,j<ops.size->listed.getD j true=true:=by
    intro j
    induction j using Nat.strongRecOn with
    |_ j ih=>
     intro hj;cases hc:listed.getD j true with
     |true=>rfl
     |false=>
      have:j∈Region.ready md ops listed:=mem_ready.2 ⟨hc,ops[j],Array.getElem?_eq_getElem hj,λe he hb=>by
       have hlt:=xD4 hf (Array.getElem?_eq_getElem hj) (tO.2 ⟨e,he,hb,rfl⟩);have:=ih e.on hlt ω;simp only[Array.getD_eq_getD_getElem?] at this⊢;rw[Array.getElem?_eq_getElem ω] at this⊢;simpa using this⟩
      rw[hr] at this;cases this
   have xM5:∀j,j<ops.size->listed.getD j false=true:=λj hj=>by
    have:=hall j hj;simp only[Array.getD_eq_getD_getElem?] at this⊢;rw[Array.getElem?_eq_getElem ω] at this⊢;simpa using this
   have e:fill (λj=>listed.getD j false) (V α) ops.toList 0 a0=fill (λ_=>true) (V α) ops.toList 0 a0:=uI _ _ _ (λn hn=>by
    have hn':n<ops.size:=by simpa using hn
    rw[Nat.zero_add];exact xM5 n hn') (λ_ _ _=>rfl)
   rw[e];exact hK α w (hE _ _ _ _ _ (λe he=>xM5 e (hEl e he)) (λ_ _ _=>rfl) hw)
  induction fuel with
  |zero=>
   intro listed α w hsz hu hcl hw
   have hr:Region.ready md ops listed=[]:=by
    cases hc:Region.ready md ops listed with
    |nil=>rfl
    |cons j _=>
     have hm:j∈Region.ready md ops listed:=by rw[hc];simp
     have:=vU (mem_ready.1 hm).1;omega
   exact⟨hr,hfin listed α w hsz hw hr⟩
  |succ fuel ih=>
   intro listed α w hsz hu hcl hw;refine⟨hfin listed α w hsz hw,λi hi=>?_⟩;obtain⟨hun,o,ho,xOb⟩:=mem_ready.1 hi;have hilt:i<ops.size:=(Array.getElem?_eq_some_iff.1 ho).1
   have hlf:listed.getD i false=false:=by
    simp only[Array.getD_eq_getD_getElem?] at hun⊢;rw[Array.getElem?_eq_getElem ω] at hun⊢;simpa using hun
   have hol:ops.toList[i]?=some o:=by simpa using ho
   have hdone:∀j,j∈deps md o->listed.getD j false=true:=λj hj=>by
    obtain⟨e,he,hb,rfl⟩:=tO.1 hj;have hlt:=xD4 hf ho hj;have:=xOb e he hb;simp only[Array.getD_eq_getD_getElem?] at this⊢;rw[Array.getElem?_eq_getElem ω] at this⊢;simpa using this
   have xN:closed ops md (λj=>j==i||listed.getD j false):=by
    intro j p hp hj m hm
    by_cases e:j=i
    ·subst e;rw[ho] at hp;injection hp with hp;subst hp;simp[hdone m hm]
    ·have hj':listed.getD j false=true:=by
      have e9:(j==i)=false:=by simpa using e
      simpa[e9] using hj
     have:=hcl j p hp hj' m hm;simp only[this,Bool.or_true]
   have hsz2:∀β:Pv,(fill (λj=>listed.getD j false) (V β) ops.toList 0 a0).tmps.size=a0.tmps.size:=λ_=>xAw _ _ _
   have mv:∀{I:World->Prop} {v:Value},One P ops I o v a0.tmps.size (fill (λj=>decide (j<i)) (V α) ops.toList 0 a0) w->One P ops I o v a0.tmps.size (fill (λj=>listed.getD j false) (V α) ops.toList 0 a0) w:=by
    intro I v h1;refine h1.move (λcs d=>Region.noSelect_spec hs i o cs d ho) λt ht=>?_;refine qQ _ _ _ _ rfl rfl λn p hp hd=>?_;have hp':ops[n]?=some p:=by simpa using hp
    simp only[Nat.zero_add]
    by_cases hni:i=n
    ·subst hni;rw[hlf];simp
    ·rcases(xGc hf ho hp' hni hd).2 ht with hn|⟨hn1,hn2⟩
     ·have hlt:=xD4 hf ho hn;rw[hdone n hn];simpa using hlt
     ·rw[hcl.not 9 (i:=n) hlf hn2];simp;omega
   have mvE:∀{I:Value->World->Prop},xMq P ops I o a0.tmps.size (fill (λj=>decide (j<i)) (V α) ops.toList 0 a0) w->xMq P ops I o a0.tmps.size (fill (λj=>listed.getD j false) (V α) ops.toList 0 a0) w:=by
    intro I h1;refine h1.move (λcs d=>Region.noSelect_spec hs i o cs d ho) λt ht=>?_;refine qQ _ _ _ _ rfl rfl λn p hp hd=>?_;have hp':ops[n]?=some p:=by simpa using hp
    simp only[Nat.zero_add]
    by_cases hni:i=n
    ·subst hni;rw[hlf];simp
    ·rcases(xGc hf ho hp' hni hd).2 ht with hn|⟨hn1,hn2⟩
     ·have hlt:=xD4 hf ho hn;rw[hdone n hn];simpa using hlt
     ·rw[hcl.not 9 (i:=n) hlf hn2];simp;omega
   have e3:∀n,n<ops.size->(n==i||listed.getD n false)=(listed.setIfInBounds i true).getD n false:=λn hn=>by
    by_cases hni:i=n
    ·subst hni;simp only[BEq.rfl,Bool.true_or,Array.getD_eq_getD_getElem?];rw[Array.getElem?_setIfInBounds_self_of_lt ω]
     rfl
    ·rw[getD_set_ne false hni];have:(n==i)=false:=by simp;omega
     rw[this,Bool.false_or]
   have nxt:∀(β:Pv) (v:Value),V β i=v->(∀n,n<ops.size->listed.getD n false=true->V β n=V α n)->(fill (λj=>listed.getD j false) (V α) ops.toList 0 a0).put o.dst v=fill (λj=>(listed.setIfInBounds i true).getD j false) (V β) ops.toList 0 a0:=by
    intro β v hv hsame
    have e0:fill (λj=>listed.getD j false) (V α) ops.toList 0 a0=fill (λj=>listed.getD j false) (V β) ops.toList 0 a0:=uI _ _ _ (λ_ _=>rfl) (λn hn hl=>by
     have hn':n<ops.size:=by simpa using hn
     simp only[Nat.zero_add] at hl⊢;exact(hsame n hn' hl).symm)
    rw[e0]
    have e:=xD6 (L:=λj=>listed.getD j false) (V:=V β) (v:=v) ops.toList 0 i o a0 hol (by rw[Nat.zero_add];exact hlf) (λm p e hp hne he=>by
     have hp':ops[m]?=some p:=by simpa using hp
     exact(xGc hf hp' ho hne he).1)
    rw[e];refine uI _ _ _ (λn hn=>?_) (λn hn _=>?_)
    ·simp only[Nat.zero_add];exact e3 n (by simpa using hn)
    ·simp only[Nat.zero_add];split
     ·rename_i h;rw[h,hv]
     ·rfl
   have hun2:wY (listed.setIfInBounds i true)=fuel:=by have:=vU hun;omega
   have hcl3:closed ops md (λj=>(listed.setIfInBounds i true).getD j false):=by
    intro j p hp hj m hm;have hjl:j<ops.size:=(Array.getElem?_eq_some_iff.1 hp).1;have hml:m<ops.size:=Nat.lt_trans (xD4 hf hp hm) hjl;have hj2:(j==i||listed.getD j false)=true:=(e3 j hjl).trans hj;exact(e3 m hml).symm.trans (xN j p hp hj2 m hm)
   have h1:=hV i o hol α (λj=>listed.getD j false) w (by rw[Nat.zero_add];exact hlf) hcl (by rw[Nat.zero_add];exact xN) hw;simp only[Nat.zero_add] at h1;rcases h1 with ⟨hNi,h1⟩|⟨hNi,h1⟩
   ·have h2:=mvE h1;rw[<-hsz2 α] at h2;refine h2.wpOp ho λb w' hw'=>?_
    rw[nxt (wF α i b) b (by
     rcases hW i o hol with ⟨_,h⟩|⟨h,_⟩
     ·rw[Nat.zero_add] at h;rw[h,zF]
     ·rw[Nat.zero_add] at h;rw[hNi] at h;cases h) (λn hn hl=>by
     obtain⟨p,hp⟩:∃p,ops.toList[n]?=some p:=⟨ops[n],by rw[Array.getElem?_toList,Array.getElem?_eq_getElem hn]⟩;rcases hW n p hp with ⟨_,h⟩|⟨_,h|h⟩
     ·rw[Nat.zero_add] at h;rw[h,h,vP _ _ _ (λe=>by rw[e,hlf] at hl;cases hl)]
     ·have hin:i∈deps md p:=by
       have:=List.all_eq_true.1 h i (by simpa using hNi);simpa using this
      have hcl9:listed.getD i false=true:=hcl n p (by simpa using hp) hl i hin;rw[hlf] at hcl9;cases hcl9
     ·rw[Nat.zero_add] at h;exact h _ _)]
    refine ih _ _ w' (by simpa using hsz) hun2 hcl3 (hE _ _ _ _ _ (λe he=>e3 e (hEl e he)) (λ_ _ _=>rfl) hw')
   ·have h2:=mv h1;rw[<-hsz2 α] at h2;refine h2.wpOp ho λw' hw'=>?_;rw[nxt α _ rfl (λ_ _ _=>rfl)];refine ih _ _ w' (by simpa using hsz) hun2 hcl3 (hE _ _ _ _ _ (λe he=>?_) (λ_ _ _=>rfl) hw');rcases he with he|he
    ·rw[xCe (L':=λj=>listed.getD j false) (λ_ _=>rfl) e he];exact e3 e (hEl e (.inl he))
    ·have hne:e≠i:=λh=>by
       rw[h] at he;have:N.contains i=true:=by simpa using he
       rw[hNi] at this;cases this
     rw[<-e3 e (hEl e (.inr he))];have h9:(e==i)=false:=by simpa using hne
     unfold upd;split<;>simp[h9]
 have:=main ops.size (Array.replicate ops.size false) α0 w0 σ (by unfold wY;simp) (λj p hp hj=>by
  have hjl:j<ops.size:=(Array.getElem?_eq_some_iff.1 hp).1;simp[hjl] at hj) (hE _ _ _ _ _ (λe he=>by
  have:=hEl e he;simp[this]) (λ_ _ h=>by cases h) hI)
 rw[kI _ _ _ (λn hn=>by
  have hn':n<ops.size:=by simpa using hn
  simp[hn'])] at this
 exact this
theorem uB {id:Nat} {l:List Oper} {a:Act} {w:World} (E N:List Nat) (J:(Nat->Bool)->Pv->World->Prop) (hE:∀L L' α α' w,(∀e,e∈E∨e∈N->L e=L' e)->(∀e∈N,L e=true->α e=α' e)->J L α w->J L' α' w) (hm:P.follows .mixedOrders=true) (hf:xOf .any l.toArray=true) (hEl:((E++N).all λe=>decide (e<l.length))=true) (hI:J (λ_=>false) (λ_=>undef) w.drew)
  (h:jH P l.toArray .any E N J (λα a=>∀w,J (λ_=>true) α w->Q .normal a w) l 0 (λ_=>a)):(Code.region id l.toArray true).wp P Q a w:=
 wp_region_any hm (xR4 (λ_=>undef) hf hE (λe he=>by have:=List.all_eq_true.1 hEl e (by simpa using he);simpa using this) hI (by simpa using h))
end
end Go.Proofs.RG
namespace Go.Proofs.RG
section
variable {P:Program} {ops:Array Oper} {md:Region.Mode}
theorem dS {I:World->Prop} {K:Act->Prop} {a A:Act} {o:Oper} {os:List Oper} (h2:xBz P ops I K os A) (h:∀w,I w->wpList P ops (Only I A) [o] a w:=by
 intro w9 hw9;repeat go_step
 with_reducible exact RG.xD hw9) (hd:A.defers=a.defers:=by rfl):xBz P ops I K (o::os) a:=⟨A,hd,h,h2⟩
theorem kS {I:World->Prop} {K:Act->Prop} {a A:Act} {o:Oper} {os:List Oper} (h2:xBz P ops I K os A) (h:∀w,I w->wpList P ops (Only I A) [o] a w:=by
 intro w9 hw9;exact RG.xAp (by rfl) rfl hw9) (hd:A.defers=a.defers:=by rfl):xBz P ops I K (o::os) a:=⟨A,hd,h,h2⟩
theorem dF {I F:World->Prop} {K:Act->Prop} {a A:Act} {o:Oper} {os:List Oper} (f:∀w,I w->F w) (h2:xBz P ops I K os A) (h:∀w,I w->F w->wpList P ops (Only I A) [o] a w:=by
 intro w9 hw9 hf;repeat (obtain⟨_,hf⟩:=hf)
 repeat go_step
 with_reducible exact RG.xD hw9) (hd:A.defers=a.defers:=by rfl):xBz P ops I K (o::os) a:=⟨A,hd,λw hw=>h w hw (f w hw),h2⟩
theorem callH {f:FuncId} {args:Array Value} {w:World} {p:World->Ending->World->Prop} {q:Ending->World->Prop} (H:Go.RowKit.Hid (∀W,Calls P f args W (p W))) (k:∀e w',p w e w'->q e w'):Calls P f args w q:=(H.o w).mono k
section
variable {E N:List Nat} {i:Nat} {o:Oper} {os:List Oper}
theorem lS {I:(Nat->Bool)->World->Prop} {K:Act->Prop} {a A:Act} (h2:jB P ops md E I K os (i+1) A) (hi:E.contains i=false:=by rfl) (h:∀L w,I L w->wpList P ops (Only (I L) A) [o] a w:=by
 intro L w9 hw9;repeat go_step
 with_reducible exact RG.xD hw9) (hd:A.defers=a.defers:=by rfl):jB P ops md E I K (o::os) i a:=xEb hi h hd h2
theorem aS {J:(Nat->Bool)->Pl->World->Prop} {K:Pl->Act->Prop} {a A:Pl->Act} {v:Value} (h2:uC P ops md E N J K os (i+1) A) (hi:N.contains i=false:=by rfl) (he:E.contains i=false:=by rfl) (h:∀α L w,L i=false->closed ops md L->closed ops md (λj=>j==i||L j)->J L α w->wpList P ops (Only (J L α) (A α)) [o] (a α) w:=by
 intro α L w9 h0 hcl xN hw9;repeat go_step
 with_reducible exact RG.xD hw9) (hd:∀α,A α=(a α).put o.dst v:=by intro α;rfl):uC P ops md E N J K (o::os) i a:=jW hi he h hd h2
theorem vS {J:(Nat->Bool)->Pv->World->Prop} {K:Pv->Act->Prop} {a A:Pv->Act} {v:Value} (h2:jH P ops md E N J K os (i+1) A) (hi:N.contains i=false:=by rfl) (he:E.contains i=false:=by rfl) (h:∀α L w,L i=false->closed ops md L->closed ops md (λj=>j==i||L j)->J L α w->wpList P ops (Only (J L α) (A α)) [o] (a α) w:=by
 intro α L w9 h0 hcl xN hw9;repeat go_step
 with_reducible exact RG.xD hw9) (hd:∀α,A α=(a α).put o.dst v:=by intro α;rfl):jH P ops md E N J K (o::os) i a:=uA hi he h hd h2
theorem lF {I:(Nat->Bool)->World->Prop} {F:(Nat->Bool)->World->Prop} {K:Act->Prop} {a A:Act} (f:∀L w,I L w->F L w) (h2:jB P ops md E I K os (i+1) A) (hi:E.contains i=false:=by rfl) (h:∀L w,I L w->F L w->wpList P ops (Only (I L) A) [o] a w:=by
 intro L w9 hw9 hf;repeat (obtain⟨_,hf⟩:=hf)
 repeat go_step
 with_reducible exact RG.xD hw9) (hd:A.defers=a.defers:=by rfl):jB P ops md E I K (o::os) i a:=xEb hi (λL w hw=>h L w hw (f L w hw)) hd h2
theorem cS {I:(Nat->Bool)->World->Prop} {K:Act->Prop} {n:Nat} {a A:Act} (h2:jB P ops md (List.range n) (CI ops md I) K os (i+1) A) (ho:ops[i]?=some o:=by rfl) (hi:(List.range n).contains i=true:=by rfl) (h:∀L w,L i=false->closed ops md L->closed ops md (λj=>j==i||L j)->I L w->wpList P ops (Only (CI ops md I (λj=>j==i||L j)) A) [o] a w:=by
 intro L w9 h0 hcl xN hw9;repeat go_step
 with_reducible refine RG.xD ?_
 exact⟨xN,hw9⟩) (hd:A.defers=a.defers:=by rfl):jB P ops md (List.range n) (CI ops md I) K (o::os) i a:=xR ho hi h hd h2
theorem cF {I:(Nat->Bool)->World->Prop} {F:(Nat->Bool)->World->Prop} {K:Act->Prop} {n:Nat} {a A:Act} (f:∀L w,L i=false->closed ops md L->closed ops md (λj=>j==i||L j)->I L w->F L w) (h2:jB P ops md (List.range n) (CI ops md I) K os (i+1) A) (ho:ops[i]?=some o:=by rfl) (hi:(List.range n).contains i=true:=by rfl) (h:∀L w,L i=false->closed ops md L->closed ops md (λj=>j==i||L j)->I L w->F L w->wpList P ops (Only (CI ops md I (λj=>j==i||L j)) A) [o] a w:=by
 intro L w9 h0 hcl xN hw9 hf;repeat (obtain⟨_,hf⟩:=hf)
 repeat go_step
 with_reducible refine RG.xD ?_
 exact⟨xN,hw9⟩) (hd:A.defers=a.defers:=by rfl):jB P ops md (List.range n) (CI ops md I) K (o::os) i a:=xR ho hi (λL w h0 hc hc2 hw=>h L w h0 hc hc2 hw (f L w h0 hc hc2 hw)) hd h2
theorem aF {J:(Nat->Bool)->Pl->World->Prop} {F:Pl->(Nat->Bool)->World->Prop} {K:Pl->Act->Prop} {a A:Pl->Act} {v:Value} (f:∀α L w,L i=false->closed ops md L->closed ops md (λj=>j==i||L j)->J L α w->F α L w) (h2:uC P ops md E N J K os (i+1) A) (hi:N.contains i=false:=by rfl) (he:E.contains i=false:=by rfl) (h:∀α L w,L i=false->closed ops md L->closed ops md (λj=>j==i||L j)->J L α w->F α L w->wpList P ops (Only (J L α) (A α)) [o] (a α) w:=by
 intro α L w9 h0 hcl xN hw9 hf;repeat (obtain⟨_,hf⟩:=hf)
 repeat go_step
 with_reducible exact RG.xD hw9) (hd:∀α,A α=(a α).put o.dst v:=by intro α;rfl):uC P ops md E N J K (o::os) i a:=jW hi he (λα L w h0 hc hc2 hw=>h α L w h0 hc hc2 hw (f α L w h0 hc hc2 hw)) hd h2
theorem vF {J:(Nat->Bool)->Pv->World->Prop} {F:Pv->(Nat->Bool)->World->Prop} {K:Pv->Act->Prop} {a A:Pv->Act} {v:Value} (f:∀α L w,L i=false->closed ops md L->closed ops md (λj=>j==i||L j)->J L α w->F α L w) (h2:jH P ops md E N J K os (i+1) A) (hi:N.contains i=false:=by rfl) (he:E.contains i=false:=by rfl) (h:∀α L w,L i=false->closed ops md L->closed ops md (λj=>j==i||L j)->J L α w->F α L w->wpList P ops (Only (J L α) (A α)) [o] (a α) w:=by
 intro α L w9 h0 hcl xN hw9 hf;repeat (obtain⟨_,hf⟩:=hf)
 repeat go_step
 with_reducible exact RG.xD hw9) (hd:∀α,A α=(a α).put o.dst v:=by intro α;rfl):jH P ops md E N J K (o::os) i a:=uA hi he (λα L w h0 hc hc2 hw=>h α L w h0 hc hc2 hw (f α L w h0 hc hc2 hw)) hd h2
end
end
end Go.Proofs.RG
namespace Go.Proofs.MM
open Go.RowKit
abbrev xO (l:List UInt8):Value:=.string ⟨l.toArray⟩
theorem xL8 {fn:Func} {t u v x:Tmp} (h:fn.results=#[.tmp t,.tmp u,.tmp v,.tmp x]) (tmps:Array Value) (P:Program) (w:World):
  (results fn tmps).run P w=.ok (.tuple #[tmps.getD t undef,tmps.getD u undef,tmps.getD v undef,tmps.getD x undef]) w:=by simp[results,h]
def xR0 (w:World) (base:Nat) (v:Value) (xs:List (List UInt8)):Prop:=w.ownsRow base 9 1 v xs.length (xs.map xO)
theorem xR0.nil (w:World) (base:Nat):xR0 w base (.slice none 0 0) []:=World.ownsRow_nil w base _ _
theorem xR0.form {w:World} {base:Nat} {v:Value} {xs:List (List UInt8)} (h:xR0 w base v xs):∃A c,v=.slice A xs.length c/\xs.length<=c:=by
 rcases h.2 with ⟨h1,h2⟩|⟨g,cap,cur,h1,_,_,h2,_⟩
 ·exact⟨none,0,by rw[h1,h2],ω⟩
 ·exact⟨_,_,h1,h2⟩
theorem pK {w w':World} (h:Below w.heap.size w w') (row:Option Nat):w.grownBy w' row:=⟨h.os,h.tape,h.output,h.size,λk hk _=>h.block k hk⟩
theorem below_drewN {B:Nat} {a w:World} (h:Below B a w) (n:Nat):Below B a (w.drewN n):=⟨h.os,h.tape,h.output,h.size,h.block⟩
theorem loc_of {v:Value} {g n cap H:Nat} (h:v.ownBlock=some g∨g=H):(Value.slice (some ⟨g,0,none⟩) n cap).ownBlock=v.ownBlock∨(Value.slice (some ⟨g,0,none⟩) n cap).ownBlock=some H:=by
 rcases h with h|rfl
 ·exact .inl h.symm
 ·exact .inr rfl
theorem xA {w:World} {g:Nat} {t:TypeId} {cs:Array Value} (h:w.heap[g]?=some (.cells cs t (0,0))) (i:Nat):w.cell? ⟨g,i,none⟩=cs[i]?:=cell_of_row w g i cs t (0,0) h
theorem xC {w:World} {g:Nat} {t:TypeId} {cs:Array Value} (h:w.heap[g]?=some (.cells cs t (0,0))) (i:Nat):w.frozen? ⟨g,i,none⟩=false:=by simp[World.frozen?,h]
theorem xY {w:World} {g:Nat} {t:TypeId} {cs:Array Value} (h:w.heap[g]?=some (.cells cs t (0,0))) (i:Nat) (u:Value):(w.setCell ⟨g,i,none⟩ u).heap[g]?=some (.cells (cs.setIfInBounds i u) t (0,0)):=by
 simp[World.setCell,Array.getElem?_modify,h]
theorem _root_.xQn {w:World} {g:Nat} {t:TypeId} {c0:Value} {l:List Value} (h:w.heap[g]?=some (.cells (c0::l).toArray t (0,0))):w.cell? ⟨g,0,none⟩=some c0:=(xA h 0).trans σ
theorem _root_.zQ {w:World} {g:Nat} {t:TypeId} {c0 c1:Value} {l:List Value} (h:w.heap[g]?=some (.cells (c0::c1::l).toArray t (0,0))):w.cell? ⟨g,0,none⟩=some c0/\w.cell? ⟨g,1,none⟩=some c1:=⟨(xA h 0).trans σ,(xA h 1).trans σ⟩
theorem _root_.xH1 {w:World} {g:Nat} {t:TypeId} {c0 c1 c2:Value} {l:List Value} (h:w.heap[g]?=some (.cells (c0::c1::c2::l).toArray t (0,0))):w.cell? ⟨g,0,none⟩=some c0/\w.cell? ⟨g,1,none⟩=some c1/\w.cell? ⟨g,2,none⟩=some c2:=⟨(xA h 0).trans σ,(xA h 1).trans σ,(xA h 2).trans σ⟩
theorem _root_.cbl4 {w:World} {g:Nat} {t:TypeId} {c0 c1 c2 c3:Value} {l:List Value} (h:w.heap[g]?=some (.cells (c0::c1::c2::c3::l).toArray t (0,0))):w.cell? ⟨g,0,none⟩=some c0/\w.cell? ⟨g,1,none⟩=some c1/\w.cell? ⟨g,2,none⟩=some c2/\w.cell? ⟨g,3,none⟩=some c3:=⟨(xA h 0).trans σ,(xA h 1).trans σ,(xA h 2).trans σ,(xA h 3).trans σ⟩
theorem _root_.xU2 {w:World} {g:Nat} {t:TypeId} {c0 c1 c2 c3 c4:Value} {l:List Value} (h:w.heap[g]?=some (.cells (c0::c1::c2::c3::c4::l).toArray t (0,0))):w.cell? ⟨g,0,none⟩=some c0/\w.cell? ⟨g,1,none⟩=some c1/\w.cell? ⟨g,2,none⟩=some c2/\w.cell? ⟨g,3,none⟩=some c3/\w.cell? ⟨g,4,none⟩=some c4:=⟨(xA h 0).trans σ,(xA h 1).trans σ,(xA h 2).trans σ,(xA h 3).trans σ,(xA h 4).trans σ⟩
theorem _root_.cbl6 {w:World} {g:Nat} {t:TypeId} {c0 c1 c2 c3 c4 c5:Value} {l:List Value} (h:w.heap[g]?=some (.cells (c0::c1::c2::c3::c4::c5::l).toArray t (0,0))):w.cell? ⟨g,0,none⟩=some c0/\w.cell? ⟨g,1,none⟩=some c1/\w.cell? ⟨g,2,none⟩=some c2/\w.cell? ⟨g,3,none⟩=some c3/\w.cell? ⟨g,4,none⟩=some c4/\w.cell? ⟨g,5,none⟩=some c5:=⟨(xA h 0).trans σ,(xA h 1).trans σ,(xA h 2).trans σ,(xA h 3).trans σ,(xA h 4).trans σ,(xA h 5).trans σ⟩
theorem _root_.qO {w:World} {g:Nat} {t:TypeId} {c0 c1 c2 c3 c4 c5 c6:Value} {l:List Value} (h:w.heap[g]?=some (.cells (c0::c1::c2::c3::c4::c5::c6::l).toArray t (0,0))):w.cell? ⟨g,0,none⟩=some c0/\w.cell? ⟨g,1,none⟩=some c1/\w.cell? ⟨g,2,none⟩=some c2/\w.cell? ⟨g,3,none⟩=some c3/\w.cell? ⟨g,4,none⟩=some c4/\w.cell? ⟨g,5,none⟩=some c5/\w.cell? ⟨g,6,none⟩=some c6:=⟨(xA h 0).trans σ,(xA h 1).trans σ,(xA h 2).trans σ,(xA h 3).trans σ,(xA h 4).trans σ,(xA h 5).trans σ,(xA h 6).trans σ⟩
theorem _root_.yBn {w:World} {g:Nat} {t:TypeId} {c0 c1 c2 c3 c4 c5 c6 c7:Value} {l:List Value} (h:w.heap[g]?=some (.cells (c0::c1::c2::c3::c4::c5::c6::c7::l).toArray t (0,0))):w.cell? ⟨g,0,none⟩=some c0/\w.cell? ⟨g,1,none⟩=some c1/\w.cell? ⟨g,2,none⟩=some c2/\w.cell? ⟨g,3,none⟩=some c3/\w.cell? ⟨g,4,none⟩=some c4/\w.cell? ⟨g,5,none⟩=some c5/\w.cell? ⟨g,6,none⟩=some c6/\w.cell? ⟨g,7,none⟩=some c7:=⟨(xA h 0).trans σ,(xA h 1).trans σ,(xA h 2).trans σ,(xA h 3).trans σ,(xA h 4).trans σ,(xA h 5).trans σ,(xA h 6).trans σ,(xA h 7).trans σ⟩
theorem _root_.xHh {w:World} {g:Nat} {t:TypeId} {c0 c1 c2 c3 c4 c5 c6 c7 c8 c9:Value} {l:List Value} (h:w.heap[g]?=some (.cells (c0::c1::c2::c3::c4::c5::c6::c7::c8::c9::l).toArray t (0,0))):w.cell? ⟨g,0,none⟩=some c0/\w.cell? ⟨g,1,none⟩=some c1/\w.cell? ⟨g,2,none⟩=some c2/\w.cell? ⟨g,3,none⟩=some c3/\w.cell? ⟨g,4,none⟩=some c4/\w.cell? ⟨g,5,none⟩=some c5/\w.cell? ⟨g,6,none⟩=some c6/\w.cell? ⟨g,7,none⟩=some c7/\w.cell? ⟨g,8,none⟩=some c8/\w.cell? ⟨g,9,none⟩=some c9:=⟨(xA h 0).trans σ,(xA h 1).trans σ,(xA h 2).trans σ,(xA h 3).trans σ,(xA h 4).trans σ,(xA h 5).trans σ,(xA h 6).trans σ,(xA h 7).trans σ,(xA h 8).trans σ,(xA h 9).trans σ⟩
theorem yA {w:World} {g:Nat} {o:Obj} (h:w.heap[g]?=some o) {p:Addr} (hp:g≠p.block) (u:Value):(w.setCell p u).heap[g]?=some o:=(Below.heap_setCell w p u g hp).trans h
theorem xG {w:World} {g:Nat} {o:Obj} (h:w.heap[g]?=some o):g<w.heap.size:=(Array.getElem?_eq_some_iff.1 h).1
theorem xK {w:World} {g:Nat} {o:Obj} (h:w.heap[g]?=some o) (o':Obj):(w.alloc o').heap[g]?=some o:=(Below.heap_alloc w o' g (xG h)).trans h
theorem wG {w w':World} {g:Nat} {o:Obj} {row:Option Nat} (h:w.heap[g]?=some o) (hg:w.grownBy w' row) (hne:some g≠row):w'.heap[g]?=some o:=(hg.block g (xG h) hne).trans h
theorem xB {w w':World} {B g:Nat} {o:Obj} (h:w.heap[g]?=some o) (hb:Below B w w') (hg:g<B):w'.heap[g]?=some o:=(hb.block g hg).trans h
theorem xL (w:World) (o:Obj):(w.alloc o).heap[w.heap.size]?=some o:=heap_alloc_new w o
theorem zG (w:World) (o o':Obj):((w.alloc o).alloc o').heap[w.heap.size]?=some o:=xK (xL w o) o'
theorem yX (w:World) (o o':Obj):((w.alloc o).alloc o').heap[w.heap.size+1]?=some o':=by
 have:=xL (w.alloc o) o'
 rwa [show(w.alloc o).heap.size=w.heap.size+1 by simp] at this
theorem size_set (w:World) (p:Addr) (u:Value):(w.setCell p u).heap.size=w.heap.size:=by simp[World.setCell]
theorem uX (w:World) (o:Obj):(w.alloc o).heap.size=w.heap.size+1:=by simp
def RdS (w:World) (B:Nat) (v:Value) (xs:List (List UInt8)):Prop:=
 ∃A c,v=.slice A xs.length c/\xs.length<=c/\(0<xs.length->∃b off,A=some ⟨b,off,none⟩/\b<B/\∀j x,xs[j]?=some x->w.cell? ⟨b,off+j,none⟩=some (xO x))
theorem xR0.rd {w:World} {base:Nat} {v:Value} {xs:List (List UInt8)} (h:xR0 w base v xs):RdS w w.heap.size v xs:=by
 rcases h.2 with ⟨h1,h2⟩|⟨g,cap,cur,h1,hb,hg,hnc,_,_,htake⟩
 ·exact⟨none,0,by rw[h1,h2],ω,λh=>by omega⟩
 ·refine⟨_,cap,h1,hnc,λ_=>⟨g,0,rfl,xG hg,λj x hx=>?_⟩⟩;have:=World.ownsRow.cells h (g:=g) (by rw[h1];rfl) j (xO x) (by simp[hx]);rw[Nat.zero_add];have hadd:(⟨g,0,none⟩:Addr).add j=⟨g,j,none⟩:=by unfold Addr.add;split<;>simp_all
  rw[hadd] at this;exact this
theorem RdS.keep {w w':World} {B:Nat} {v:Value} {xs:List (List UInt8)} (h:RdS w B v xs) (hk:∀p:Addr,p.block<B->w'.cell? p=w.cell? p):RdS w' B v xs:=by
 obtain⟨A,c,h1,h2,h3⟩:=h;refine⟨A,c,h1,h2,λhn=>?_⟩;obtain⟨b,off,h4,h5,h6⟩:=h3 hn;exact⟨b,off,h4,h5,λj x hx=>(hk _ h5).trans (h6 j x hx)⟩
theorem RdS.below {w w':World} {B B':Nat} {v:Value} {xs:List (List UInt8)} (h:RdS w B v xs) (hb:Below B' w w') (hB:B<=B'):RdS w' B v xs:=h.keep λ_ hp=>hb.cell ω
theorem RdS.more {w:World} {B B':Nat} {v:Value} {xs:List (List UInt8)} (h:RdS w B v xs) (hB:B<=B'):RdS w B' v xs:=by
 obtain⟨A,c,h1,h2,h3⟩:=h;refine⟨A,c,h1,h2,λhn=>?_⟩;obtain⟨b,off,h4,h5,h6⟩:=h3 hn;exact⟨b,off,h4,ω,h6⟩
theorem yBp {x y:List UInt8}:(⟨x.toArray⟩:ByteArray)=⟨y.toArray⟩↔x=y:=by
 constructor
 ·intro h;injection h with h;exact List.toArray_inj h
 ·rintro rfl;rfl
def lenOf (v:Value):Nat:=match v with
 |.string b=>b.size
 |_=>0
end Go.Proofs.MM