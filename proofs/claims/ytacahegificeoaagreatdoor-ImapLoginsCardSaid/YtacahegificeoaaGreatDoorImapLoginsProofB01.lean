/- A region that draws its order, with effects, where each step may lean on what must have been done before: which operations are done is closed under what they wait for. No program; no conditions but those stated. -/
/- A region that draws its order, with effects and new blocks: where a new block lies hangs on the order, what else is computed does not. No program; no conditions but those stated. -/
import Derived.Test.YtacahegificeoaaGreatDoorImapLoginsProofB00
set_option maxHeartbeats 8000000
set_option maxRecDepth 100000
namespace Go.Proofs.RG
def closed (ops:Array Oper) (md:Region.Mode) (L:Nat->Bool):Prop:=∀i o,ops[i]?=some o->L i=true->∀j,j∈deps md o->L j=true
def pO (ops:Array Oper) (md:Region.Mode):Nat->Nat->List Nat
 |0,_=>[]
 |n+1,i=>match ops[i]? with
  |none=>[]
  |some o=>deps md o++(deps md o).flatMap (pO ops md n)
theorem closed.reach {ops:Array Oper} {md:Region.Mode} {L:Nat->Bool} (h:closed ops md L):∀(n i:Nat),L i=true->∀j,j∈pO ops md n i->L j=true
 |0,_,_,_,hj=>by simp[pO] at hj
 |n+1,i,hi,j,hj=>by
  unfold pO at hj;cases ho:ops[i]? with
  |none=>rw[ho] at hj;simp at hj
  |some o=>
   rw[ho] at hj;simp only[List.mem_append,List.mem_flatMap] at hj;rcases hj with hj|⟨m,hm,hj⟩
   ·exact h i o ho hi j hj
   ·exact closed.reach h n m (h i o ho hi m hm) j hj
theorem closed.not {ops:Array Oper} {md:Region.Mode} {L:Nat->Bool} (h:closed ops md L) (n:Nat) {i j:Nat} (hj:L j=false) (hm:(pO ops md n i).contains j=true):L i=false:=by
 cases hi:L i with
 |false=>rfl
 |true=>
  have:=h.reach n i hi j (by simpa using hm);rw[hj] at this;cases this
theorem closed.yes {ops:Array Oper} {md:Region.Mode} {L:Nat->Bool} (h:closed ops md L) (n:Nat) {i j:Nat} (hi:L i=true) (hm:(pO ops md n i).contains j=true):L j=true:=h.reach n i hi j (by simpa using hm)
def CI (ops:Array Oper) (md:Region.Mode) (I:(Nat->Bool)->World->Prop) (L:Nat->Bool) (w:World):Prop:=closed ops md L/\I L w
theorem xR {P:Program} {ops:Array Oper} {md:Region.Mode} {I:(Nat->Bool)->World->Prop} {K:Act->Prop} {n:Nat} {a:Act} {o:Oper} {os:List Oper} {i:Nat} {A:Act} (ho:ops[i]?=some o) (hi:(List.range n).contains i=true)
  (h:∀L w,L i=false->closed ops md L->closed ops md (λj=>j==i||L j)->I L w->wpList P ops (Only (CI ops md I (λj=>j==i||L j)) A) [o] a w) (hd:A.defers=a.defers)
  (h2:jB P ops md (List.range n) (CI ops md I) K os (i+1) A):jB P ops md (List.range n) (CI ops md I) K (o::os) i a:=by
 refine yL hi (λL w h0 hdp hw=>?_) hd h2;refine h L w h0 hw.1 (λj p hp hj m hm=>?_) hw.2
 by_cases e:j=i
 ·subst e;rw[ho] at hp;injection hp with hp;subst hp;simp[hdp m hm]
 ·have hj':L j=true:=by simpa[e] using hj
  simp[hw.1 j p hp hj' m hm]
theorem xPu {P:Program} {ops:Array Oper} {md:Region.Mode} {E:List Nat} {I:(Nat->Bool)->World->Prop} {K K':Act->Prop} (hK:∀a,K a->K' a):∀(os:List Oper) (i:Nat) (a:Act),jB P ops md E I K os i a->jB P ops md E I K' os i a
 |[],_,a,h=>hK a h
 |_::os,i,_,⟨A,h1,h2,h3⟩=>⟨A,h1,h2,xPu hK os (i+1) A h3⟩
theorem yT {P:Program} {Q:Exit->Act->World->Prop} {id:Nat} {l:List Oper} {a:Act} {w:World} (n:Nat) (I:(Nat->Bool)->World->Prop) (hI2:∀L L' w,(∀e,e<n->L e=L' e)->I L w->I L' w) (hm:P.follows .mixedOrders=true) (hf:fits .any l.toArray=true) (hn:l.length=n) (hI:I (λ_=>false) w.drew)
  (h:jB P l.toArray .any (List.range n) (CI l.toArray .any I) (λa=>∀w,I (λ_=>true) w->Q .normal a w) l 0 a):(Code.region id l.toArray true).wp P Q a w:=by
 refine zJ (List.range n) (CI l.toArray .any I) (λL L' w he h=>⟨λi o ho hi j hj=>?_,hI2 L L' w (λe h=>he e (by simpa using h)) h.2⟩) hm hf (by simp;omega) ⟨λi o _ hi=>(by cases hi),hI⟩ ?_
 ·have hin:i<l.length:=by
   have:=(Array.getElem?_eq_some_iff.1 ho).1;simpa using this
  have hjn:j<l.length:=Nat.lt_trans (qX hf ho hj) hin;rw[<-he j (by simp;omega)];exact h.1 i o ho (by rw[he i (by simp;omega)];exact hi) j hj
 ·refine xPu ?_ _ _ _ h;intro a ha w hw;exact ha w hw.2
abbrev Pl:=Nat->Nat
abbrev ptr (b:Nat):Value:=.pointer (some ⟨b,0,none⟩)
def kE (α:Pl) (i b:Nat):Pl:=λj=>if j=i then b else α j
theorem rA (α:Pl) (i b:Nat):kE α i b i=b:=by simp[kE]
theorem xBa (α:Pl) (i b:Nat) {j:Nat} (h:j≠i):kE α i b j=α j:=by simp[kE,h]
section
variable {P:Program} {ops:Array Oper} {Q:Exit->Act->World->Prop} {md:Region.Mode} {E N:List Nat} {J:(Nat->Bool)->Pl->World->Prop}
def late (md:Region.Mode) (N:List Nat) (o:Oper):Bool:=N.all λe=>(deps md o).contains e
def uC (P:Program) (ops:Array Oper) (md:Region.Mode) (E N:List Nat) (J:(Nat->Bool)->Pl->World->Prop) (K:Pl->Act->Prop):List Oper->Nat->(Pl->Act)->Prop
 |[],_,a=>∀α,K α (a α)
 |o::os,i,a=>
  (N.contains i=true/\(∀α L w,L i=false->closed ops md L->J L α w->∃b,wpList P ops (Only (J (λj=>j==i||L j) (kE α i b)) ((a α).put o.dst (ptr b))) [o] (a α) w)/\uC P ops md E N J K os (i+1) (λα=>(a α).put o.dst (ptr (α i))))∨
  (N.contains i=false/\∃(A:Pl->Act) (v:Pl->Value),(∀α,A α=(a α).put o.dst (v α))/\(late md N o=true∨∀α α',v α=v α')/\
   (∀α L w,L i=false->closed ops md L->closed ops md (λj=>j==i||L j)->J L α w->wpList P ops (Only (J (upd E L i) α) (A α)) [o] (a α) w)/\uC P ops md E N J K os (i+1) A)
theorem wK {K:Pl->Act->Prop} {a:Pl->Act} {i:Nat} (h:∀α,K α (a α)):uC P ops md E N J K [] i a:=h
theorem xN2 {K:Pl->Act->Prop} {a:Pl->Act} {o:Oper} {os:List Oper} {i:Nat} {A:Nat->Pl->Act} (hi:N.contains i=true)
  (h:∀α L w b,b=w.heap.size->L i=false->closed ops md L->J L α w->wpList P ops (Only (J (λj=>j==i||L j) (kE α i b)) (A b α)) [o] (a α) w)
  (hd:∀b α,A b α=(a α).put o.dst (ptr b)) (h2:uC P ops md E N J K os (i+1) (λα=>A (α i) α)):uC P ops md E N J K (o::os) i a:=by
 refine .inl ⟨hi,λα L w h0 hc hw=>⟨w.heap.size,?_⟩,?_⟩
 ·rw[<-hd];exact h α L w _ rfl h0 hc hw
 ·have e:(λα=>(a α).put o.dst (ptr (α i)))=λα=>A (α i) α:=funext λα=>(hd _ _).symm;rw[e];exact h2
theorem jW {K:Pl->Act->Prop} {a:Pl->Act} {o:Oper} {os:List Oper} {i:Nat} {A:Pl->Act} {v:Value} (hi:N.contains i=false) (he:E.contains i=false)
  (h:∀α L w,L i=false->closed ops md L->closed ops md (λj=>j==i||L j)->J L α w->wpList P ops (Only (J L α) (A α)) [o] (a α) w) (hd:∀α,A α=(a α).put o.dst v) (h2:uC P ops md E N J K os (i+1) A):uC P ops md E N J K (o::os) i a:=
 .inr ⟨hi,A,λ_=>v,hd,.inr λ_ _=>rfl,λα L w h0 hc hc2 hw=>by unfold upd;rw[he];exact h α L w h0 hc hc2 hw,h2⟩
theorem xIp {K:Pl->Act->Prop} {a:Pl->Act} {o:Oper} {os:List Oper} {i:Nat} {A:Pl->Act} {v:Value} (hi:N.contains i=false) (he:E.contains i=true)
  (h:∀α L w,L i=false->closed ops md L->closed ops md (λj=>j==i||L j)->J L α w->wpList P ops (Only (J (λj=>j==i||L j) α) (A α)) [o] (a α) w) (hd:∀α,A α=(a α).put o.dst v) (h2:uC P ops md E N J K os (i+1) A):uC P ops md E N J K (o::os) i a:=
 .inr ⟨hi,A,λ_=>v,hd,.inr λ_ _=>rfl,λα L w h0 hc hc2 hw=>by unfold upd;rw[he];exact h α L w h0 hc hc2 hw,h2⟩
theorem xGk {K:Pl->Act->Prop} {n0:Nat}:∀(os:List Oper) (i:Nat) (a:Pl->Act),(∀α,(a α).tmps.size=n0)->uC P ops md E N J K os i a->
  ∃V:Pl->Nat->Value,(∀n o,os[n]?=some o->∀α L w,L (i+n)=false->closed ops md L->closed ops md (λj=>j==i+n||L j)->J L α w->
   (N.contains (i+n)=true/\∃b,One P ops (J (λj=>j==i+n||L j) (kE α (i+n) b)) o (ptr b) n0 (fill (λj=>decide (j<i+n)) (V α) os i (a α)) w)∨
   (N.contains (i+n)=false/\One P ops (J (upd E L (i+n)) α) o (V α (i+n)) n0 (fill (λj=>decide (j<i+n)) (V α) os i (a α)) w))/\
   (∀n o,os[n]?=some o->(N.contains (i+n)=true/\∀α,V α (i+n)=ptr (α (i+n)))∨(N.contains (i+n)=false/\(late md N o=true∨∀α α',V α (i+n)=V α' (i+n))))/\
   ∀α,K α (fill (λ_=>true) (V α) os i (a α))
 |[],_,a,_,h=>⟨λ_ _=>undef,λn o ho=>by simp at ho,λn o ho=>by simp at ho,h⟩
 |o::os,i,a,hsz,h=>by
  have key:∀(A:Pl->Act) (v:Pl->Value),(∀α,A α=(a α).put o.dst (v α))->uC P ops md E N J K os (i+1) A->
    (∀α L w,L i=false->closed ops md L->closed ops md (λj=>j==i||L j)->J L α w->
     (N.contains i=true/\∃b,One P ops (J (λj=>j==i||L j) (kE α i b)) o (ptr b) n0 (a α) w)∨(N.contains i=false/\One P ops (J (upd E L i) α) o (v α) n0 (a α) w))->
    ((N.contains i=true/\∀α,v α=ptr (α i))∨(N.contains i=false/\(late md N o=true∨∀α α',v α=v α')))->
    ∃V:Pl->Nat->Value,(∀n p,(o::os)[n]?=some p->∀α L w,L (i+n)=false->closed ops md L->closed ops md (λj=>j==i+n||L j)->J L α w->
     (N.contains (i+n)=true/\∃b,One P ops (J (λj=>j==i+n||L j) (kE α (i+n) b)) p (ptr b) n0 (fill (λj=>decide (j<i+n)) (V α) (o::os) i (a α)) w)∨
     (N.contains (i+n)=false/\One P ops (J (upd E L (i+n)) α) p (V α (i+n)) n0 (fill (λj=>decide (j<i+n)) (V α) (o::os) i (a α)) w))/\
     (∀n p,(o::os)[n]?=some p->(N.contains (i+n)=true/\∀α,V α (i+n)=ptr (α (i+n)))∨(N.contains (i+n)=false/\(late md N p=true∨∀α α',V α (i+n)=V α' (i+n))))/\
     ∀α,K α (fill (λ_=>true) (V α) (o::os) i (a α)):=by
   intro A v hA h2 h1 hv;obtain⟨V,hV,hW,hK⟩:=xGk os (i+1) A (λα=>by rw[hA,xB9];exact hsz α) h2
   have hc:∀(α:Pl) (L:Nat->Bool) (b:Act),fill L (λj=>if j=i then v α else V α j) os (i+1) b=fill L (V α) os (i+1) b:=λα L b=>
    uI os (i+1) b (λ_ _=>rfl) (λn _ _=>by rw[if_neg ω])
   refine⟨λα j=>if j=i then v α else V α j,λn p hp α L w hL hcl xN hw=>?_,λn p hp=>?_,λα=>?_⟩
   ·cases n with
    |zero=>
     obtain rfl:o=p:=by simpa using hp
     simp only[Nat.add_zero,if_true];rw[kI _ _ _ (λn _=>by simp)];exact h1 α L w (by simpa using hL) hcl (by simpa using xN) hw
    |succ n=>
     have e3:i+1+n=i+(n+1):=by omega
     have:=hV n p (by simpa using hp) α L w (by rw[e3];exact hL) hcl (by rw[e3];exact xN) hw;have e1:¬i+(n+1)=i:=by omega
     simp only[e1,if_false];unfold fill;simp only[if_true];rw[if_pos σ,hc,<-e3,<-hA];exact this
   ·cases n with
    |zero=>
     obtain rfl:o=p:=by simpa using hp
     simpa using hv
    |succ n=>
     have:=hW n p (by simpa using hp);have e1:¬i+(n+1)=i:=by omega
     simp only[e1,if_false];rw[show i+(n+1)=i+1+n by omega];exact this
   ·unfold fill;simp only[if_true];rw[hc,<-hA];exact hK α
  rcases h with ⟨hi,h1,h2⟩|⟨hi,A,v,hA,hv,h1,h2⟩
  ·refine key _ (λα=>ptr (α i)) (λ_=>rfl) h2 (λα L w h0 hcl _ hw=>.inl ⟨hi,?_⟩) (.inl ⟨hi,λ_=>rfl⟩);obtain⟨b,hb⟩:=h1 α L w h0 hcl hw;exact⟨b,by have:=xA4 hb;rwa [hsz α] at this⟩
  ·refine key A v hA h2 (λα L w h0 hcl xN hw=>.inr ⟨hi,?_⟩) (.inr ⟨hi,hv⟩);have:=h1 α L w h0 hcl xN hw;rw[hA α] at this;have:=xA4 this
   rwa [hsz α] at this
theorem xR6 {a0:Act} {w0:World} (α0:Pl) (hf:fits md ops=true) (hE:∀L L' α α' w,(∀e,e∈E∨e∈N->L e=L' e)->(∀e∈N,L e=true->α e=α' e)->J L α w->J L' α' w) (hEl:∀e,e∈E∨e∈N->e<ops.size) (hI:J (λ_=>false) α0 w0)
  (h:uC P ops md E N J (λα a=>∀w,J (λ_=>true) α w->Q .normal a w) ops.toList 0 (λ_=>a0)):wpAny P md ops Q ops.size (Array.replicate ops.size false) a0 w0:=by
 obtain⟨V,hV,hW,hK⟩:=xGk (n0:=a0.tmps.size) ops.toList 0 (λ_=>a0) (λ_=>rfl) h;have hs:Region.noSelect ops=true:=by unfold fits at hf;rw[Bool.and_eq_true] at hf;exact hf.1
 have main:∀(fuel:Nat) (listed:Array Bool) (α:Pl) (w:World),listed.size=ops.size->wY listed=fuel->closed ops md (λj=>listed.getD j false)->J (λj=>listed.getD j false) α w->
   wpAny P md ops Q fuel listed (fill (λj=>listed.getD j false) (V α) ops.toList 0 a0) w:=by
  intro fuel
  have hfin:∀(listed:Array Bool) (α:Pl) (w:World),listed.size=ops.size->J (λj=>listed.getD j false) α w->Region.ready md ops listed=[]->Q .normal (fill (λj=>listed.getD j false) (V α) ops.toList 0 a0) w:=by
   intro listed α w hsz hw hr
   have hall:∀j,j<ops.size->listed.getD j true=true:=by
    intro j
    induction j using Nat.strongRecOn with
    |_ j ih=>
     intro hj;cases hc:listed.getD j true with
     |true=>rfl
     |false=>
      have:j∈Region.ready md ops listed:=mem_ready.2 ⟨hc,ops[j],Array.getElem?_eq_getElem hj,λe he hb=>by
       have hlt:=qX hf (Array.getElem?_eq_getElem hj) (tO.2 ⟨e,he,hb,rfl⟩);have:=ih e.on hlt ω;simp only[Array.getD_eq_getD_getElem?] at this⊢;rw[Array.getElem?_eq_getElem ω] at this⊢;simpa using this⟩
      rw[hr] at this;cases this
   have xM5:∀j,j<ops.size->listed.getD j false=true:=λj hj=>by
    have:=hall j hj;simp only[Array.getD_eq_getD_getElem?] at this⊢;rw[Array.getElem?_eq_getElem ω] at this⊢;simpa using this
   have e:fill (λj=>listed.getD j false) (V α) ops.toList 0 a0=fill (λ_=>true) (V α) ops.toList 0 a0:=uI _ _ _ (λn hn=>by
    have hn':n<ops.size:=by simpa using hn
    rw[Nat.zero_add];exact xM5 n hn') (λ_ _ _=>rfl)
   rw[e];exact hK α w (hE _ _ _ _ _ (λe he=>xM5 e (hEl e he)) (λ_ _ _=>rfl) hw)
  induction fuel with
  |zero=>
   intro listed α w hsz hu hcl hw
   have hr:Region.ready md ops listed=[]:=by
    cases hc:Region.ready md ops listed with
    |nil=>rfl
    |cons j _=>
     have hm:j∈Region.ready md ops listed:=by rw[hc];simp
     have:=vU (mem_ready.1 hm).1;omega
   exact⟨hr,hfin listed α w hsz hw hr⟩
  |succ fuel ih=>
   intro listed α w hsz hu hcl hw;refine⟨hfin listed α w hsz hw,λi hi=>?_⟩;obtain⟨hun,o,ho,xOb⟩:=mem_ready.1 hi;have hilt:i<ops.size:=(Array.getElem?_eq_some_iff.1 ho).1
   have hlf:listed.getD i false=false:=by
    simp only[Array.getD_eq_getD_getElem?] at hun⊢;rw[Array.getElem?_eq_getElem ω] at hun⊢;simpa using hun
   have hol:ops.toList[i]?=some o:=by simpa using ho
   have hdone:∀j,j∈deps md o->listed.getD j false=true:=λj hj=>by
    obtain⟨e,he,hb,rfl⟩:=tO.1 hj;have hlt:=qX hf ho hj;have:=xOb e he hb;simp only[Array.getD_eq_getD_getElem?] at this⊢;rw[Array.getElem?_eq_getElem ω] at this⊢;simpa using this
   have xN:closed ops md (λj=>j==i||listed.getD j false):=by
    intro j p hp hj m hm
    by_cases e:j=i
    ·subst e;rw[ho] at hp;injection hp with hp;subst hp;simp[hdone m hm]
    ·have hj':listed.getD j false=true:=by
      have e9:(j==i)=false:=by simpa using e
      simpa[e9] using hj
     have:=hcl j p hp hj' m hm;simp only[this,Bool.or_true]
   have hsz2:∀β:Pl,(fill (λj=>listed.getD j false) (V β) ops.toList 0 a0).tmps.size=a0.tmps.size:=λ_=>xAw _ _ _
   have mv:∀{I:World->Prop} {v:Value},One P ops I o v a0.tmps.size (fill (λj=>decide (j<i)) (V α) ops.toList 0 a0) w->One P ops I o v a0.tmps.size (fill (λj=>listed.getD j false) (V α) ops.toList 0 a0) w:=by
    intro I v h1;refine h1.move (λcs d=>Region.noSelect_spec hs i o cs d ho) λt ht=>?_;refine qQ _ _ _ _ rfl rfl λn p hp hd=>?_;have hp':ops[n]?=some p:=by simpa using hp
    simp only[Nat.zero_add]
    by_cases hni:i=n
    ·subst hni;rw[hlf];simp
    ·have hn:=(xBd hf ho hp' hni hd).2 ht;have hlt:=qX hf ho hn;rw[hdone n hn];simpa using hlt
   have e3:∀n,n<ops.size->(n==i||listed.getD n false)=(listed.setIfInBounds i true).getD n false:=λn hn=>by
    by_cases hni:i=n
    ·subst hni;simp only[BEq.rfl,Bool.true_or,Array.getD_eq_getD_getElem?];rw[Array.getElem?_setIfInBounds_self_of_lt ω]
     rfl
    ·rw[getD_set_ne false hni];have:(n==i)=false:=by simp;omega
     rw[this,Bool.false_or]
   have nxt:∀(β:Pl) (v:Value),V β i=v->(∀n,n<ops.size->listed.getD n false=true->V β n=V α n)->(fill (λj=>listed.getD j false) (V α) ops.toList 0 a0).put o.dst v=fill (λj=>(listed.setIfInBounds i true).getD j false) (V β) ops.toList 0 a0:=by
    intro β v hv hsame
    have e0:fill (λj=>listed.getD j false) (V α) ops.toList 0 a0=fill (λj=>listed.getD j false) (V β) ops.toList 0 a0:=uI _ _ _ (λ_ _=>rfl) (λn hn hl=>by
     have hn':n<ops.size:=by simpa using hn
     simp only[Nat.zero_add] at hl⊢;exact(hsame n hn' hl).symm)
    rw[e0]
    have e:=xD6 (L:=λj=>listed.getD j false) (V:=V β) (v:=v) ops.toList 0 i o a0 hol (by rw[Nat.zero_add];exact hlf) (λm p e hp hne he=>by
     have hp':ops[m]?=some p:=by simpa using hp
     exact(xBd hf hp' ho hne he).1)
    rw[e];refine uI _ _ _ (λn hn=>?_) (λn hn _=>?_)
    ·simp only[Nat.zero_add];exact e3 n (by simpa using hn)
    ·simp only[Nat.zero_add];split
     ·rename_i h;rw[h,hv]
     ·rfl
   have hun2:wY (listed.setIfInBounds i true)=fuel:=by have:=vU hun;omega
   have hcl3:closed ops md (λj=>(listed.setIfInBounds i true).getD j false):=by
    intro j p hp hj m hm;have hjl:j<ops.size:=(Array.getElem?_eq_some_iff.1 hp).1;have hml:m<ops.size:=Nat.lt_trans (qX hf hp hm) hjl;have hj2:(j==i||listed.getD j false)=true:=(e3 j hjl).trans hj;exact(e3 m hml).symm.trans (xN j p hp hj2 m hm)
   have h1:=hV i o hol α (λj=>listed.getD j false) w (by rw[Nat.zero_add];exact hlf) hcl (by rw[Nat.zero_add];exact xN) hw;simp only[Nat.zero_add] at h1;rcases h1 with ⟨hNi,b,h1⟩|⟨hNi,h1⟩
   ·have h2:=mv h1;rw[<-hsz2 α] at h2;refine h2.wpOp ho λw' hw'=>?_
    rw[nxt (kE α i b) (ptr b) (by
     rcases hW i o hol with ⟨_,h⟩|⟨h,_⟩
     ·rw[Nat.zero_add] at h;rw[h,rA]
     ·rw[Nat.zero_add] at h;rw[hNi] at h;cases h) (λn hn hl=>by
     obtain⟨p,hp⟩:∃p,ops.toList[n]?=some p:=⟨ops[n],by rw[Array.getElem?_toList,Array.getElem?_eq_getElem hn]⟩;rcases hW n p hp with ⟨_,h⟩|⟨_,h|h⟩
     ·rw[Nat.zero_add] at h;rw[h,h,xBa _ _ _ (λe=>by rw[e,hlf] at hl;cases hl)]
     ·have hin:i∈deps md p:=by
       have:=List.all_eq_true.1 h i (by simpa using hNi);simpa using this
      have hcl9:listed.getD i false=true:=hcl n p (by simpa using hp) hl i hin;rw[hlf] at hcl9;cases hcl9
     ·rw[Nat.zero_add] at h;exact h _ _)]
    refine ih _ _ w' (by simpa using hsz) hun2 hcl3 (hE _ _ _ _ _ (λe he=>e3 e (hEl e he)) (λ_ _ _=>rfl) hw')
   ·have h2:=mv h1;rw[<-hsz2 α] at h2;refine h2.wpOp ho λw' hw'=>?_;rw[nxt α _ rfl (λ_ _ _=>rfl)];refine ih _ _ w' (by simpa using hsz) hun2 hcl3 (hE _ _ _ _ _ (λe he=>?_) (λ_ _ _=>rfl) hw');rcases he with he|he
    ·rw[xCe (L':=λj=>listed.getD j false) (λ_ _=>rfl) e he];exact e3 e (hEl e (.inl he))
    ·have hne:e≠i:=λh=>by
       rw[h] at he;have:N.contains i=true:=by simpa using he
       rw[hNi] at this;cases this
     rw[<-e3 e (hEl e (.inr he))];have h9:(e==i)=false:=by simpa using hne
     unfold upd;split<;>simp[h9]
 have:=main ops.size (Array.replicate ops.size false) α0 w0 σ (by unfold wY;simp) (λj p hp hj=>by
  have hjl:j<ops.size:=(Array.getElem?_eq_some_iff.1 hp).1;simp[hjl] at hj) (hE _ _ _ _ _ (λe he=>by
  have:=hEl e he;simp[this]) (λ_ _ h=>by cases h) hI)
 rw[kI _ _ _ (λn hn=>by
  have hn':n<ops.size:=by simpa using hn
  simp[hn'])] at this
 exact this
theorem kW {id:Nat} {l:List Oper} {a:Act} {w:World} (E N:List Nat) (J:(Nat->Bool)->Pl->World->Prop) (hE:∀L L' α α' w,(∀e,e∈E∨e∈N->L e=L' e)->(∀e∈N,L e=true->α e=α' e)->J L α w->J L' α' w) (hm:P.follows .mixedOrders=true) (hf:fits .any l.toArray=true) (hEl:((E++N).all λe=>decide (e<l.length))=true) (hI:J (λ_=>false) (λ_=>0) w.drew)
  (h:uC P l.toArray .any E N J (λα a=>∀w,J (λ_=>true) α w->Q .normal a w) l 0 (λ_=>a)):(Code.region id l.toArray true).wp P Q a w:=
 wp_region_any hm (xR6 (λ_=>0) hf hE (λe he=>by have:=List.all_eq_true.1 hEl e (by simpa using he);simpa using this) hI (by simpa using h))
end
end Go.Proofs.RG