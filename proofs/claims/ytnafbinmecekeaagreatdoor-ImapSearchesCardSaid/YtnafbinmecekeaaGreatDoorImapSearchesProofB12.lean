/- Contracts of functions. Conditions: as stated. -/
import Derived.Test.YtnafbinmecekeaaGreatDoorImapSearchesProofB11
import Derived.RangeFuncNested
import Derived.RangeFuncBound
import Derived.Shelf.Strings.SlTrimAscii
open Go.Proofs.Tryz
set_option maxHeartbeats 8000000
set_option maxRecDepth 100000
namespace Mailsack
structure QV where
 seq:Int
 uid:Int
 flags:Int
 size:Int
 text:Bs
 seqs:Int
 uids:Int
inductive vU where
 |flags (there missing:Int)
 |size (more:Bool) (n:Int)
 |field (name word:Bs)
 |text (body:Bool) (word:Bs)
 |set (uid:Bool) (R:List (Int×Int))
 |not (k:vU)
 |or (a b:vU)
inductive xIp where
 |flags (there missing:Int)
 |size (more:Bool)
 |field (name:Bs)
 |header
 |text (body:Bool)
 |uid
 |not
 |or
def wALL:Bs:=[65,76,76]
def wSEEN:Bs:=[83,69,69,78]
def yA4:Bs:=[85,78,83,69,69,78]
def xRx:Bs:=[65,78,83,87,69,82,69,68]
def xL4:Bs:=[85,78,65,78,83,87,69,82,69,68]
def xWp:Bs:=[70,76,65,71,71,69,68]
def xP0:Bs:=[85,78,70,76,65,71,71,69,68]
def xWq:Bs:=[68,69,76,69,84,69,68]
def xP1:Bs:=[85,78,68,69,76,69,84,69,68]
def wDRAFT:Bs:=[68,82,65,70,84]
def xWm:Bs:=[85,78,68,82,65,70,84]
def yA5:Bs:=[82,69,67,69,78,84]
def wOLD:Bs:=[79,76,68]
def wNEW:Bs:=[78,69,87]
def yA6:Bs:=[76,65,82,71,69,82]
def xWn:Bs:=[83,77,65,76,76,69,82]
def yA8:Bs:=[70,82,79,77]
def wTO:Bs:=[84,79]
def xHa:Bs:=[83,85,66,74,69,67,84]
def yA7:Bs:=[72,69,65,68,69,82]
def wBODY:Bs:=[66,79,68,89]
def wTEXT:Bs:=[84,69,88,84]
def wUID:Bs:=[85,73,68]
def wNOT:Bs:=[78,79,84]
def wOR:Bs:=[79,82]
def kinds:List (Bs×xIp):=[
 (wALL,.flags 0 0),(wSEEN,.flags 1 0),(yA4,.flags 0 1),(xRx,.flags 2 0),(xL4,.flags 0 2),(xWp,.flags 4 0),(xP0,.flags 0 4),
 (xWq,.flags 8 0),(xP1,.flags 0 8),(wDRAFT,.flags 16 0),(xWm,.flags 0 16),(yA5,.flags 32 0),(wOLD,.flags 0 32),(wNEW,.flags 32 1),
 (yA6,.size true),(xWn,.size false),(yA8,.field yA8),(wTO,.field wTO),(xHa,.field xHa),(yA7,.header),(wBODY,.text true),(wTEXT,.text false),(wUID,.uid),(wNOT,.not),(wOR,.or)]
def kindOf (w:Bs):Option xIp:=(kinds.find? λp=>decide (p.1=w)).map (·.2)
def xR9 (s:Bs):Option Int:=if s.length=0∨9<s.length∨(1<s.length/\s.head?=some 48)∨s.all tO=false then none else some (xFf s)
def xKw {α:Type} (f:Bs->Option α):List Bs->Option (α×List Bs)
 |[]=>none
 |x::r=>(f x).map λa=>(a,r)
def yV:Nat->List Bs->Option (vU×List Bs)
 |0,_=>none
 |_+1,[]=>none
 |n+1,w::r=>match kindOf (upP w) with
  |none=>(jL w).map λR=>(.set false R,r)
  |some (.flags t m)=>some (.flags t m,r)
  |some (.size g)=>xKw (λx=>(xR9 x).map (.size g)) r
  |some (.field nm)=>xKw (λx=>some (.field nm x)) r
  |some .header=>match r with
   |x::y::r=>some (.field x y,r)
   |_=>none
  |some (.text b)=>xKw (λx=>some (.text b x)) r
  |some .uid=>xKw (λx=>(jL x).map (.set true)) r
  |some .not=>(yV n r).map λp=>(.not p.1,p.2)
  |some .or=>match yV n r with
   |none=>none
   |some (a,r1)=>(yV n r1).map λp=>(.or a p.1,p.2)
theorem xA4 (l:List Bs):yV 0 l=none:=by unfold yV;rfl
theorem rP (n:Nat):yV n []=none:=by cases n<;>(unfold yV;rfl)
theorem xBv {α:Type} {f:Bs->Option α} {l:List Bs} {a:α} {r:List Bs} (h:xKw f l=some (a,r)) (x:List Bs):xKw f (l++x)=some (a,r++x):=by
 cases l with
 |nil=>cases h
 |cons y l=>
  have h':(f y).map (λa=>(a,l))=some (a,r):=h;show(f y).map (λa=>(a,l++x))=some (a,r++x);simp only[Option.map_eq_some_iff,Prod.mk.injEq] at h'⊢;obtain⟨b,h1,rfl,rfl⟩:=h';exact⟨b,h1,rfl,rfl⟩
theorem xCr:∀(n:Nat) (l:List Bs) (k:vU) (r x:List Bs),yV n l=some (k,r)->yV n (l++x)=some (k,r++x)
 |0,l,k,r,x,h=>by rw[xA4] at h;cases h
 |n+1,[],k,r,x,h=>by rw[rP] at h;cases h
 |n+1,w::l,k,r,x,h=>by
  rw[List.cons_append];unfold yV at h⊢;cases hk:kindOf (upP w) with
  |none=>
   rw[hk] at h;simp only[Option.map_eq_some_iff,Prod.mk.injEq] at h⊢;obtain⟨R,h1,rfl,rfl⟩:=h;exact⟨R,h1,rfl,rfl⟩
  |some kd=>
   rw[hk] at h;cases kd with
   |flags t m=>simp only[Option.some.injEq,Prod.mk.injEq] at h⊢;obtain⟨rfl,rfl⟩:=h;exact⟨rfl,rfl⟩
   |size g=>exact xBv h x
   |field nm=>exact xBv h x
   |header=>
    match l,h with
    |y::z::l,h=>simp only[Option.some.injEq,Prod.mk.injEq] at h;obtain⟨rfl,rfl⟩:=h;rfl
   |text b=>exact xBv h x
   |uid=>exact xBv h x
   |not=>
    simp only[Option.map_eq_some_iff,Prod.mk.injEq] at h⊢;obtain⟨⟨k1,r1⟩,h1,rfl,rfl⟩:=h;exact⟨(k1,r1++x),xCr n l k1 r1 x h1,rfl,rfl⟩
   |or=>
    simp only at h⊢;cases h1:yV n l with
    |none=>rw[h1] at h;cases h
    |some p=>
     obtain⟨a,r1⟩:=p;rw[h1] at h;rw[xCr n l a r1 x h1];simp only[Option.map_eq_some_iff,Prod.mk.injEq] at h⊢;obtain⟨⟨b,r2⟩,h2,rfl,rfl⟩:=h;exact⟨(b,r2++x),xCr n r1 b r2 x h2,rfl,rfl⟩
theorem xBw {α:Type} {f:Bs->Option α} {l:List Bs} {a:α} {r:List Bs} (h:xKw f l=some (a,r)):r.length<l.length:=by
 cases l with
 |nil=>cases h
 |cons y l=>
  have h':(f y).map (λa=>(a,l))=some (a,r):=h;simp only[Option.map_eq_some_iff,Prod.mk.injEq] at h';obtain⟨_,_,_,rfl⟩:=h';simp
theorem jT:∀(n:Nat) (l:List Bs) (k:vU) (r:List Bs),yV n l=some (k,r)->r.length<l.length
 |0,l,k,r,h=>by rw[xA4] at h;cases h
 |n+1,[],k,r,h=>by rw[rP] at h;cases h
 |n+1,w::l,k,r,h=>by
  rw[List.length_cons];unfold yV at h;cases hk:kindOf (upP w) with
  |none=>rw[hk] at h;simp only[Option.map_eq_some_iff,Prod.mk.injEq] at h;obtain⟨R,h1,_,rfl⟩:=h;omega
  |some kd=>
   rw[hk] at h;cases kd with
   |flags t m=>simp only[Option.some.injEq,Prod.mk.injEq] at h;obtain⟨_,rfl⟩:=h;omega
   |size g=>have:=xBw h;omega
   |field nm=>have:=xBw h;omega
   |header=>
    match l,h with
    |y::z::l,h=>simp only[Option.some.injEq,Prod.mk.injEq] at h;obtain⟨_,rfl⟩:=h;simp only[List.length_cons];omega
   |text b=>have:=xBw h;omega
   |uid=>have:=xBw h;omega
   |not=>
    simp only[Option.map_eq_some_iff,Prod.mk.injEq] at h;obtain⟨⟨k1,r1⟩,h1,_,rfl⟩:=h;have:=jT n l k1 r1 h1;simp only;omega
   |or=>
    simp only at h;cases h1:yV n l with
    |none=>rw[h1] at h;cases h
    |some p=>
     obtain⟨a,r1⟩:=p;rw[h1] at h;simp only[Option.map_eq_some_iff,Prod.mk.injEq] at h;obtain⟨⟨b,r2⟩,h2,_,rfl⟩:=h;have:=jT n l a r1 h1;have:=jT n r1 b r2 h2;simp only;omega
theorem pJ {α:Type} {f:Bs->Option α} {l:List Bs} {a:α} {r:List Bs} (h:xKw f l=some (a,r)):∃x,l=x++r:=by
 cases l with
 |nil=>cases h
 |cons y l=>
  have h':(f y).map (λa=>(a,l))=some (a,r):=h;simp only[Option.map_eq_some_iff,Prod.mk.injEq] at h';obtain⟨_,_,_,rfl⟩:=h';exact⟨[y],rfl⟩
theorem qL:∀(n:Nat) (l:List Bs) (k:vU) (r:List Bs),yV n l=some (k,r)->∃x,l=x++r
 |0,l,k,r,h=>by rw[xA4] at h;cases h
 |n+1,[],k,r,h=>by rw[rP] at h;cases h
 |n+1,w::l,k,r,h=>by
  have fin:(∃x,l=x++r)->∃x,w::l=x++r:=λ⟨x,hx⟩=>⟨w::x,by rw[hx];rfl⟩;apply fin;unfold yV at h;cases hk:kindOf (upP w) with
  |none=>rw[hk] at h;simp only[Option.map_eq_some_iff,Prod.mk.injEq] at h;obtain⟨R,h1,_,rfl⟩:=h;exact⟨[],rfl⟩
  |some kd=>
   rw[hk] at h;cases kd with
   |flags t m=>simp only[Option.some.injEq,Prod.mk.injEq] at h;obtain⟨_,rfl⟩:=h;exact⟨[],rfl⟩
   |size g=>exact pJ h
   |field nm=>exact pJ h
   |header=>
    match l,h with
    |y::z::l,h=>simp only[Option.some.injEq,Prod.mk.injEq] at h;obtain⟨_,rfl⟩:=h;exact⟨[y,z],rfl⟩
   |text b=>exact pJ h
   |uid=>exact pJ h
   |not=>
    simp only[Option.map_eq_some_iff,Prod.mk.injEq] at h;obtain⟨⟨k1,r1⟩,h1,_,rfl⟩:=h;exact qL n l k1 r1 h1
   |or=>
    simp only at h;cases h1:yV n l with
    |none=>rw[h1] at h;cases h
    |some p=>
     obtain⟨a,r1⟩:=p;rw[h1] at h;simp only[Option.map_eq_some_iff,Prod.mk.injEq] at h;obtain⟨⟨b,r2⟩,h2,_,rfl⟩:=h;obtain⟨x,hx⟩:=qL n l a r1 h1;obtain⟨y,hy⟩:=qL n r1 b r2 h2;exact⟨x++y,by rw[hx,hy];simp⟩
def qB:Nat->List Bs->Option (List vU)
 |_,[]=>some []
 |0,_::_=>none
 |m+1,w::l=>match yV 16 (w::l) with
  |none=>none
  |some (k,r)=>(qB m r).map (k::·)
def zW (l:List Bs):Option (List vU):=if l=[] then none else qB l.length l
theorem xGt:∀(m m':Nat) (l:List Bs),l.length<=m->l.length<=m'->qB m l=qB m' l
 |m,m',[],_,_=>by cases m<;>cases m'<;>rfl
 |0,m',w::l,h,_=>by simp at h
 |m+1,0,w::l,_,h=>by simp at h
 |m+1,m'+1,w::l,h1,h2=>by
  unfold qB;cases hk:yV 16 (w::l) with
  |none=>rfl
  |some p=>
   obtain⟨k,r⟩:=p;have:=jT 16 (w::l) k r hk;simp only;rw[xGt m m' r (by simp at this h1;omega) (by simp at this h2;omega)]
theorem xGr {l:List Bs} {k:vU} {r:List Bs} (h:yV 16 l=some (k,r)):qB l.length l=(qB r.length r).map (k::·):=by
 cases l with
 |nil=>rw[rP] at h;cases h
 |cons w l=>
  have:=jT 16 (w::l) k r h;rw[List.length_cons]
  conv=>lhs;unfold qB
  rw[h];simp only;rw[xGt l.length r.length r (by simp at this;omega) ν]
theorem xGs {l:List Bs} (hl:l≠[]) (h:yV 16 l=none):qB l.length l=none:=by
 cases l with
 |nil=>exact absurd rfl hl
 |cons w l=>rw[List.length_cons];unfold qB;rw[h]
end Mailsack
namespace Go.Proofs.QU
open Go.RowKit Mailsack MM Go.ChangeMaps Go.WideMaps Go.WideShapes
def uL (v:QV):Value:=.agg #[.int .i64 v.seq,.int .i64 v.uid,.int .i64 v.flags,.int .i64 v.size,xK v.text,.int .i64 v.seqs,.int .i64 v.uids]
def yB (w:World) (b:Nat) (tab:List (Bs×Value)):Prop:=
 ∃es clock,w.heap[b]?=some (.map es clock)/\es.toList.map (λe=>(e.key,e.val))=tab.map (λp=>(xK p.1,p.2))
theorem yB.new (w:World):yB (w.alloc (.map #[] 0)) w.heap.size []:=⟨#[],0,xI w _,rfl⟩
theorem yB.kept {w w':World} {b:Nat} {tab:List (Bs×Value)} {row:Option Nat} (h:yB w b tab) (hg:w.grownBy w' row) (hne:some b≠row):yB w' b tab:=by
 obtain⟨es,c,h1,h2⟩:=h;exact⟨es,c,wR h1 hg hne,h2⟩
theorem yB.lt {w:World} {b:Nat} {tab:List (Bs×Value)} (h:yB w b tab):b<w.heap.size:=by
 obtain⟨es,c,h1,_⟩:=h;exact xJ h1
theorem tH:KeyLaw prog 9:=WideMaps.string_law underlying9
theorem xM9 {s:Bs} (h:s.length<=1000000):keyOf prog 9 (xK s)=some (.string s):=
 WideMaps.keyOf_string_mk underlying9 (by show s.length<=_;unfold maxLen;omega)
theorem pG {a b:Bs} (h:xK a=xK b):a=b:=by
 injection h with h;exact xOj.1 h
theorem yB.keys {tab:List (Bs×Value)} {es:Array MapEntry} (h2:es.toList.map (λe=>(e.key,e.val))=tab.map (λp=>(xK p.1,p.2))) (hl:∀p∈tab,p.1.length<=1000000):
  ∀e∈es.toList,∃l,keyOf prog 9 e.key=some l:=by
 intro e he;have:(e.key,e.val)∈es.toList.map (λe=>(e.key,e.val)):=List.mem_map_of_mem (f:=λe:MapEntry=>(e.key,e.val)) he;rw[h2] at this;obtain⟨p,hp,hpe⟩:=List.mem_map.1 this;injection hpe with h3 h4;exact⟨_,by rw[<-h3];exact xM9 (hl p hp)⟩
theorem yB.miss {w:World} {b:Nat} {tab:List (Bs×Value)} {t e:TypeId} {z:Value} (h:yB w b tab) (hl:∀p∈tab,p.1.length<=1000000) (ht:prog.underlying t=some (.map 9 e)) (hz:(zeroValue e).run prog w=.ok z w)
  {s:Bs} (hs:s.length<=1000000) (hno:∀p∈tab,p.1≠s):(Instr.lookup t (.map (some b)) (xK s) true).run prog w=.ok (.tuple #[z,.bool false]) w:=by
 obtain⟨es,clock,hb,h2⟩:=h;rcases tH.find w (xM9 hs) es.toList (yB.keys h2 hl) with ⟨h1,_⟩|⟨j,e0,h1,h3,h4⟩
 ·simp[Instr.lookup,run_underlying ht,MapKept.run_getObj_map hb,tH.check w _ (xM9 hs),h1,hz,Result.andThen]
 ·exfalso
  have:(e0.key,e0.val)∈es.toList.map (λe=>(e.key,e.val)):=List.mem_map_of_mem (f:=λe:MapEntry=>(e.key,e.val)) (List.mem_of_getElem? h3);rw[h2] at this;obtain⟨p,hp,hpe⟩:=List.mem_map.1 this;injection hpe with h5 h6;exact hno p hp (pG (h5.trans h4))
theorem yB.hit {w:World} {b:Nat} {tab:List (Bs×Value)} {t e:TypeId} (h:yB w b tab) (hl:∀p∈tab,p.1.length<=1000000) (ht:prog.underlying t=some (.map 9 e))
  {s:Bs} (hs:s.length<=1000000) {v:Value} (hv:(s,v)∈tab) (uR:∀u,(s,u)∈tab->u=v):(Instr.lookup t (.map (some b)) (xK s) true).run prog w=.ok (.tuple #[v,.bool true]) w:=by
 obtain⟨es,clock,hb,h2⟩:=h;rcases tH.find w (xM9 hs) es.toList (yB.keys h2 hl) with ⟨h1,h3⟩|⟨j,e0,h1,h3,h4⟩
 ·exfalso
  have:(xK s,v)∈tab.map (λp=>(xK p.1,p.2)):=List.mem_map_of_mem (f:=λp:Bs×Value=>(xK p.1,p.2)) hv;rw[<-h2] at this;obtain⟨x,hx,hxe⟩:=List.mem_map.1 this;injection hxe with h5 h6;exact h3 x hx h5
 ·have:(e0.key,e0.val)∈es.toList.map (λe=>(e.key,e.val)):=List.mem_map_of_mem (f:=λe:MapEntry=>(e.key,e.val)) (List.mem_of_getElem? h3);rw[h2] at this;obtain⟨p,hp,hpe⟩:=List.mem_map.1 this;have h5:xK p.1=e0.key:=congrArg Prod.fst hpe;have h6:p.2=e0.val:=congrArg Prod.snd hpe
  have h7:p.1=s:=pG (h5.trans h4);have h8:e0.val=v:=by rw[<-h6];exact uR p.2 (by rw[<-h7];exact hp)
  have e9:(Instr.lookup t (.map (some b)) (xK s) true).run prog w=.ok (.tuple #[e0.val,.bool true]) w:=by
   clear h8 uR hv h6 h7 h5 hp this h2 hl;simp[Instr.lookup,run_underlying ht,MapKept.run_getObj_map hb,tH.check w _ (xM9 hs),h1,Result.andThen]
  rw[e9,h8]
theorem yB.put {w:World} {b:Nat} {tab:List (Bs×Value)} {t e:TypeId} (h:yB w b tab) (hl:∀p∈tab,p.1.length<=1000000) (ht:prog.underlying t=some (.map 9 e))
  {s:Bs} (hs:s.length<=1000000) (v:Value) (hno:∀p∈tab,p.1≠s):∃w',(Instr.mapUpdate t (.map (some b)) (xK s) v).run prog w=.ok () w'/\yB w' b (tab++[(s,v)])/\w.grownBy w' (some b):=by
 obtain⟨es,clock,hb,h2⟩:=h;rcases tH.find w (xM9 hs) es.toList (yB.keys h2 hl) with ⟨h1,_⟩|⟨j,e0,h1,h3,h4⟩
 ·refine⟨setBlock w b (.map (es.push ⟨xK s,v,clock⟩) (clock+1)),?_,⟨es.push ⟨xK s,v,clock⟩,clock+1,heap_setBlock_same hb _,?_⟩,⟨rfl,rfl,rfl,by simp[setBlock],λi _ hi=>heap_setBlock_other hb _ (λe=>hi (by rw[e]))⟩⟩
  ·simp[Instr.mapUpdate,run_underlying ht,MapKept.run_getObj_map hb,tH.check w false (xM9 hs),h1,MapKept.run_setObj_map _ hb,Result.andThen,setBlock]
  ·rw[Array.toList_push,List.map_append,h2,List.map_append];rfl
 ·exfalso
  have:(e0.key,e0.val)∈es.toList.map (λe=>(e.key,e.val)):=List.mem_map_of_mem (f:=λe:MapEntry=>(e.key,e.val)) (List.mem_of_getElem? h3);rw[h2] at this;obtain⟨p,hp,hpe⟩:=List.mem_map.1 this;injection hpe with h5 h6;exact hno p hp (pG (h5.trans h4))
end Go.Proofs.QU
namespace Go.Proofs.RB
open Go.RowKit
def SeqB {α:Type} (F:Fence) (n:Nat) (P:Program) (g:Nat) (lb:Array Value) (encs:α->Array Value) (Kp:World->World->Prop) (S Sp:List α->Prop) (N:Nat) (w:World) (b:Nat):Prop:=
 ∀(l:Nat) (J Jx:List α->World->Prop) (W:World),ψ w W->AbidesFrom W.heap.size J->(∀s A v,J s A->J s (A.setCell ⟨b,0,none⟩ v))->
  (∀pre x W1,J pre W1->pre.length<N->YieldAt F (n-1) P l (encs x) W1 λe W'=>
   (e=.returned (.bool true)/\J (pre++[x]) W'/\Kp W1 W')∨(e=.returned (.bool false)/\Jx (pre++[x]) W'))->
  J [] W->
  CallsIn F n P g (#[.func (.yield l) #[] #[]]++lb) W λe W'=>(∃v,e=.returned v)/\((∃xs,S xs/\J xs W')∨(∃pre,Sp pre/\Jx pre W'))
theorem xL1 {F:Fence} {n:Nat} {P:Program} {α:Type} {g:Operand} {ps:Array Tmp} {assign body:Code} {Q:Exit->Act->World->Prop} {a:Act} {w:World} {b:Nat}
  (hro:F.round=none) (h1:1<=n) {gf:Nat} {lb:Array Value} (hg:a.eval g=.func (.func gf) #[] lb) (hFg:F.fn gf) (eg:∀args w,(callFunc gf args).run P w=.ok (.enter gf args) w)
  {encs:α->Array Value} {Kp:World->World->Prop} {S Sp:List α->Prop} {N:Nat} (hseq:SeqB F (n-1) P gf lb encs Kp S Sp N w b) (hb:b<w.heap.size)
  (hKt:∀{A B C:World},Kp A B->Kp B C->Kp A C) (hKb:∀(W:World) (l:Nat) (o':Obj),w.heap.size<=l->Kp W (W.putObj l o')) (hps:∀x,(encs x).size=ps.size)
  (I:List α->World->Prop) (Ix:Code->List α->World->Prop) (hI:OwnFrom w.heap.size I) (hIx:∀c,OwnFrom w.heap.size (Ix c)) (hIb:∀s A v,I s A->I s (A.setCell ⟨b,0,none⟩ v)) (h0:I [] w) (a₁:α->Act)
  (hassign:∀(l:Nat) (x:α) (W:World) (K:Act->World->Prop),K (a₁ x) W->
   assign.wpIn (F.inRound l) (n-1-1) P (Exit.then K (λ_ _ _=>False)) {tmps:=(ps.zip (encs x)).foldl (λt (p,v)=>t.setIfInBounds p v) a.tmps,defers:=[]} W)
  (hbody:∀(l:Nat) (pre:List α) (x:α) (W:World),I pre W->pre.length<N->body.wpIn (F.inRound l) (n-1-1) P (ownPostG w.heap.size Kp I Ix (pre++[x]) W) (a₁ x) W)
  (hdone:∀(D:Nat) (xs:List α) (W:World),w.heap.size<=D->S xs->I xs W->W.heap[D]?=some (.deferred (some []))->Q .normal {a with defers:={target:=.collected D,args:=#[]}::a.defers} W)
  (hstop:∀(D:Nat) (c:Code) (pre:List α) (W:World),w.heap.size<=D->Sp pre->Ix c pre W->W.heap[D]?=some (.deferred (some []))->c.wpIn F n P Q {a with defers:={target:=.collected D,args:=#[]}::a.defers} W):
  (Code.rangeFunc g ps assign body).wpIn F n P Q a w:=by
 refine wpIn_rangeFunc λfn hfn=>?_;rw[hro];obtain⟨rec,hrec⟩:∃rec:LoopState->Option Code->Loop,rec=λst pe=>{state:=st,pending:=pe,fn,tmps:=a.tmps,params:=ps,assign,body,defers:=w.heap.size}:=⟨_,rfl⟩
 obtain⟨W1,hW1⟩:∃W1,(w.alloc (.deferred (some []))).alloc (.loop (rec .ready none))=W1:=⟨_,rfl⟩
 have hL1:W1.heap[w.heap.size+1]?=some (.loop (rec .ready none)):=by
  rw[<-hW1];have:=World.alloc_heap_new (w.alloc (.deferred (some []))) (.loop (rec .ready none));rwa [World.size_alloc] at this
 have hK1:W1.heap[w.heap.size]?=some (.deferred (some [])):=by
  rw[<-hW1];exact(Below.heap_alloc _ _ _ σ).trans (World.alloc_heap_new w _)
 have hI1:I [] W1:=by rw[<-hW1];exact hI.alloc _ (hI.alloc _ h0)
 have hb1:ψ w W1:=by
  rw[<-hW1];exact((Below.refl _ w).alloc ν _).alloc σ _
 refine⟨w.heap.size+1,[{target:=.collected w.heap.size,args:=#[]}],W1,{target:=.fn (.func gf) lb,args:=#[.func (.yield (w.heap.size+1)) #[] #[]]},W1,gf,
  #[.func (.yield (w.heap.size+1)) #[] #[]]++lb,W1,?_,?_,?_,?_,λ_=>h1,?_⟩
 ·rw[<-hW1,hrec];exact run_enterLoop_outer _ _ _ _ _
 ·simp only[resolve,hg];simp[go_sem]
 ·intro f' hf';simp[Target.leads] at hf';subst hf';exact hFg
 ·simp[invoke,go_sem,eg]
 ·have far:∀(A:World) (v:Value) (k:Nat) (o:Obj),w.heap.size<=k->A.heap[k]?=some o->(A.setCell ⟨b,0,none⟩ v).heap[k]?=some o:=λA v k o hk ho=>
   (Below.heap_setCell A ⟨b,0,none⟩ v k (by show k≠b;omega)).trans ho
  refine(hseq (w.heap.size+1)
   (λpre W=>I pre W/\W.heap[w.heap.size+1]?=some (.loop (rec .ready none))/\W.heap[w.heap.size]?=some (.deferred (some [])))
   (λpre W=>∃c,Ix c pre W/\W.heap[w.heap.size+1]?=some (.loop (rec .done (some c)))/\W.heap[w.heap.size]?=some (.deferred (some [])))
   W1 hb1
   (λs A B row hs hg' hr=>⟨hI s A B row hs.1 hg' (λr e=>by obtain⟨hB,o,ho,hw⟩:=hr r e;exact⟨by rw[<-hW1] at hB;simp at hB;omega,o,ho,Obj.not_cells_of_walk hw⟩),
    (grownBy_keeps hg' (λr e=>(hr r e).2) hs.2.1 rfl).trans hs.2.1,(grownBy_keeps hg' (λr e=>(hr r e).2) hs.2.2 rfl).trans hs.2.2⟩)
   (λs A v hs=>⟨hIb s A v hs.1,far A v _ _ ω hs.2.1,far A v _ _ ν hs.2.2⟩)
   ?_ ⟨hI1,hL1,hK1⟩).mono ?_
  ·rintro pre x W ⟨hi,hl,hk⟩ hlen;have hlt:w.heap.size+1<W.heap.size:=(Array.getElem?_eq_some_iff.1 hl).1;have hy:=run_yield (P:=P) (args:=encs x) hl (by rw[hrec];exact hps x);rw[hrec] at hy
   refine⟨fn,_,assign,body,hy,roundIn_of_wpIn hfn (hassign _ x W _ ⟨_,run_beginRound hl (by rw[hrec]),?_⟩)⟩
   have hl2:(W.putObj (w.heap.size+1) (.loop {rec .ready none with state:=.busy})).heap[w.heap.size+1]?=some (.loop {rec .ready none with state:=.busy}):=World.putObj_heap_same hlt
   have hk2:(W.putObj (w.heap.size+1) (.loop {rec .ready none with state:=.busy})).heap[w.heap.size]?=some (.deferred (some [])):=(World.putObj_heap_other ω).trans hk;refine wpIn_mono (hbody _ pre x _ (hI.putObj _ hi ω hl rfl) hlen) ?_
   have fin:∀(jump:Option Code) (W3:World),KeepsFrom w.heap.size (W.putObj (w.heap.size+1) (.loop {rec .ready none with state:=.busy})) W3->
     (Instr.endRound (w.heap.size+1) jump).run P W3=.ok (.bool jump.isNone) (W3.putObj (w.heap.size+1) (.loop (rec (if jump.isNone then .ready else .done) jump)))/\
     W3.heap[w.heap.size+1]?=some (.loop {rec .ready none with state:=.busy})/\
     (W3.putObj (w.heap.size+1) (.loop (rec (if jump.isNone then .ready else .done) jump))).heap[w.heap.size+1]?=some (.loop (rec (if jump.isNone then .ready else .done) jump))/\
     (W3.putObj (w.heap.size+1) (.loop (rec (if jump.isNone then .ready else .done) jump))).heap[w.heap.size]?=some (.deferred (some [])):=λjump W3 hk3=>by
    have hl3:=hk3.same _ _ ω hl2 rfl;have:=run_endRound (P:=P) jump hl3;rw[hrec] at this⊢;exact⟨this,by rw[hrec] at hl3;exact hl3,World.putObj_heap_same (Array.getElem?_eq_some_iff.1 hl3).1,(World.putObj_heap_other ω).trans (hk3.same _ _ ν hk2 rfl)⟩
   rintro e a3 W3 hp;cases e with
   |normal=>
    obtain⟨hk3,hkp3,hi3⟩:=hp;obtain⟨hr,hl3,hl4,hk4⟩:=fin none W3 hk3;exact⟨_,_,hr,.inl ⟨rfl,⟨hI.putObj _ hi3 ω hl3 rfl,hl4,hk4⟩,hKt (hKt (hKb _ _ _ ω) hkp3) (hKb _ _ _ ω)⟩⟩
   |ret=>
    obtain⟨hk3,hi3⟩:=hp;obtain⟨hr,hl3,hl4,hk4⟩:=fin (some .ret) W3 hk3;exact⟨_,_,hr,.inr ⟨rfl,.ret,(hIx _).putObj _ hi3 ω hl3 rfl,hl4,hk4⟩⟩
   |exit id=>
    obtain⟨hk3,hi3⟩:=hp;obtain⟨hr,hl3,hl4,hk4⟩:=fin (some (.exit id)) W3 hk3;exact⟨_,_,hr,.inr ⟨rfl,.exit id,(hIx _).putObj _ hi3 ω hl3 rfl,hl4,hk4⟩⟩
   |goto t=>
    obtain⟨hk3,hi3⟩:=hp;obtain⟨hr,hl3,hl4,hk4⟩:=fin (some (.goto t)) W3 hk3;exact⟨_,_,hr,.inr ⟨rfl,.goto t,(hIx _).putObj _ hi3 ω hl3 rfl,hl4,hk4⟩⟩
   |panic ch=>exact hp.elim
   |outgrown=>exact hp.elim
  ·rintro e W2 ⟨⟨v,rfl⟩,(⟨xs,hS,hi,hl,hk⟩|⟨pre,hSp,c,hi,hl,hk⟩)⟩
   ·exact⟨none,_,by have:=run_endLoop (P:=P) hl (by rw[hrec];simp);rw[hrec] at this;exact this,hdone _ xs _ ν hS (hI.putObj _ hi ω hl rfl) ((World.putObj_heap_other ω).trans hk)⟩
   ·exact⟨some c,_,by have:=run_endLoop (P:=P) hl (by rw[hrec];simp);rw[hrec] at this;exact this,hstop _ c pre _ ν hSp ((hIx c).putObj _ hi ω hl rfl) ((World.putObj_heap_other ω).trans hk)⟩
end Go.Proofs.RB
namespace Go.Proofs.RB
open Go.RowKit Go.Shelf Mailsack MM
attribute [local go_sem] Oper.semAt_some
structure xW1 (bs:Nat) (r:ByteArray) (W:World):Prop where
 txt:Boxed W bs 9 (.string r)
 sep:Boxed W (bs+1) 9 (.string ⟨#[44]⟩)
 keep:Boxed W (bs+2) 3 (.int .i64 0)
def KpI (bs:Nat) (W W':World):Prop:=∀k,bs<=k->k<bs+3->W'.heap[k]?=W.heap[k]?
theorem xW1.kept {bs:Nat} {r:ByteArray} {W W':World} (h:xW1 bs r W) (hk:KpI bs W W'):xW1 bs r W':=
 ⟨(hk bs ω ω).trans h.txt,(hk (bs+1) ω ω).trans h.sep,(hk (bs+2) ω ω).trans h.keep⟩
theorem xW1.set {bs:Nat} {r:ByteArray} {W:World} (h:xW1 bs r W) (q:ByteArray):xW1 bs q (W.setCell ⟨bs,0,none⟩ (.string q)):=
 ⟨h.txt.set _,(Below.heap_setCell W ⟨bs,0,none⟩ _ (bs+1) σ).trans h.sep,(Below.heap_setCell W ⟨bs,0,none⟩ _ (bs+2) σ).trans h.keep⟩
def yB9 (bs:Nat) (W:World):Nat:=match W.cell? ⟨bs,0,none⟩ with
 |some (.string b)=>b.size
 |_=>0
theorem xNs {bs:Nat} {r:ByteArray} {W:World} (h:xW1 bs r W):yB9 bs W=r.size:=by unfold yB9;rw[h.txt.cell]
abbrev Sm:={x:ByteArray // x.size<=1000000}
def ptz (xs:List Sm):List Bs:=xs.map λx=>x.1.data.toList
theorem xSi (n:Nat) (hn:1<=n) (l bs:Nat) (s:ByteArray) (hs:s.size<=1000000) (J Jx:List Sm->World->Prop)
  (hJb:∀s A v,J s A->J s (A.setCell ⟨bs,0,none⟩ v))
  (hY:∀(pre:List Sm) (x:Sm) W1,J pre W1->pre.length<s.size+1->YieldAt Fence.wide (n-1) prog l #[.string x.1] W1 λe W'=>
   (e=.returned (.bool true)/\J (pre++[x]) W'/\KpI bs W1 W')∨(e=.returned (.bool false)/\Jx (pre++[x]) W'))
  (W:World) (hI:xW1 bs s W) (h0:J [] W):
  CallsIn Fence.wide n prog 385 #[.func (.yield l) #[] #[],.pointer (some ⟨bs+1,0,none⟩),.pointer (some ⟨bs,0,none⟩),.pointer (some ⟨bs+2,0,none⟩)] W λe W'=>(∃v,e=.returned v)/\
   ((∃xs,ptz xs=zZ 44 s.data.toList/\J xs W')∨(∃pre,(∃q,ptz pre++q=zZ 44 s.data.toList)/\Jx pre W')):=by
 refine callsIn_of_wp func385 rfl trivial ?_ rfl;simp only[ntmps385,List.size_toArray,List.length_cons,List.length_nil,Nat.reduceAdd,Nat.reduceSub,Array.replicate_succ,Array.replicate_zero,List.push_toArray,List.append_toArray,List.nil_append,List.cons_append]
 have k0:=hI.txt.cell;have k1:=hI.sep.cell;have k2:=hI.keep.cell
 gi_wp2
 gi_loopw [7] (λ_ wr=>∃(pre:List Sm) (r:ByteArray),Hid (xW1 bs r wr)/\Hid (ptz pre++zZ 44 r.data.toList=zZ 44 s.data.toList)/\pre.length+r.size<=s.size/\Hid (J pre wr)) (λ_ wr=>yB9 bs wr)
 case atStart=>exact⟨[],s,ι hI,ι rfl,σ,ι h0⟩
 case round=>
  obtain⟨pre,r,hit,hsp,hlen,hJs⟩:=hrel;have j0:=hit.o.txt.cell;have j1:=hit.o.sep.cell;have j2:=hit.o.keep.cell;clear k0 k1 k2 hI h0;rcases xU4 r.data.toList 44 with ⟨hi,hno⟩|⟨i,hi,hlt,hno,hcut⟩
  ·obtain⟨fn,tmps,assign,body,hy,hR⟩:=hY pre ⟨r,ω⟩ wr hJs.o ω;have Hend:=ι (show ptz (pre++[⟨r,ω⟩])=zZ 44 s.data.toList by rw[<-hsp.o,xEe hno];simp[ptz]);clear hno hsp hY hJs
   gi_wp2_with (refine⟨trivial,?_⟩;gi_at_call 236;refine(callsIn_wide.2 (Tryz.strings_Index_one r 44 _)).mono ?_;rintro e w' ⟨rfl,rfl⟩;rw[hi])
   refine hR.mono ?_;rintro e W3 (⟨rfl,hJ3,hk3⟩|⟨rfl,hJx3⟩)
   ·gi_wp2
    go_end0
    exact⟨⟨_,rfl⟩,.inl ⟨_,Hend.o,hJ3⟩⟩
   ·gi_wp2
    go_end0
    exact⟨⟨_,rfl⟩,.inr ⟨_,⟨[],by rw[List.append_nil];exact Hend.o⟩,hJx3⟩⟩
  ·rw[yA] at hlt;obtain⟨fn,tmps,assign,body,hy,hR⟩:=hY pre ⟨r.extract 0 i,by rw[ext_size];omega⟩ wr hJs.o ω
   have xMy:=ι (show zZ 44 r.data.toList=(r.extract 0 i).data.toList::zZ 44 (r.extract (i+1) r.size).data.toList by
    rw[xOb,xC9];have h5:=xG9 (b:=r.data.toList.drop (i+1)) hno;rw[<-hcut] at h5;exact h5)
   clear hno hcut hJs
   gi_wp2_with (refine⟨trivial,?_⟩;gi_at_call 236;refine(callsIn_wide.2 (Tryz.strings_Index_one r 44 _)).mono ?_;rintro e w' ⟨rfl,rfl⟩;rw[hi])
   refine hR.mono ?_;rintro e W3 (⟨rfl,hJ3,hk3⟩|⟨rfl,hJx3⟩)
   ·have hit3:=ι (hit.o.kept hk3);have i0:=hit3.o.txt.cell;have i0f:=hit3.o.txt.frozen;have i1:=hit3.o.sep.cell
    gi_wp2
    go_roundw
    case rel=>
     refine⟨_,r.extract (i+1) r.size,ι (hit3.o.set _),ι ?_,?_,ι (hJb _ _ _ hJ3)⟩
     ·rw[<-hsp.o,xMy.o];simp[ptz]
     ·rw[List.length_append,ext_size r (i+1) r.size];simp only[List.length_cons,List.length_nil];omega
    case measure=>rw[xNs (hit3.o.set _),xNs hit.o,ext_size];omega
   ·gi_wp2
    refine bodyPost_ret (results_none rfl _ _ _) rfl ?_;exact⟨⟨_,rfl⟩,.inr ⟨_,⟨zZ 44 (r.extract (i+1) r.size).data.toList,by rw[<-hsp.o,xMy.o];simp[ptz]⟩,hJx3⟩⟩
theorem xLf (n:Nat) (hn:1<=n) (bs:Nat) (s:ByteArray) (hs:s.size<=1000000) (w:World) (hI:xW1 bs s w):
  SeqB Fence.wide n prog 385 #[.pointer (some ⟨bs+1,0,none⟩),.pointer (some ⟨bs,0,none⟩),.pointer (some ⟨bs+2,0,none⟩)] (λx:Sm=>#[.string x.1]) (KpI bs)
   (λxs=>ptz xs=zZ 44 s.data.toList) (λpre=>∃q,ptz pre++q=zZ 44 s.data.toList) (s.size+1) w bs:=
 λl J Jx W hW _ hJb hY h0=>xSi n hn l bs s hs J Jx hJb hY W
  ⟨(hW.block bs hI.txt.lt).trans hI.txt,(hW.block (bs+1) hI.sep.lt).trans hI.sep,(hW.block (bs+2) hI.keep.lt).trans hI.keep⟩ h0
def xRd (s:ByteArray) (w:World):World:=((w.alloc (.cells #[.string s] 9)).alloc (.cells #[.string ⟨#[44]⟩] 9)).alloc (.cells #[.int .i64 0] 3)
theorem yCd (s:ByteArray) (w:World):xW1 w.heap.size s (xRd s w):=by
 refine⟨((Boxed.new w _ _).alloc _).alloc _,?_,?_⟩
 ·have:=(Boxed.new (w.alloc (.cells #[.string s] 9)) 9 (.string ⟨#[44]⟩)).alloc (.cells #[.int .i64 0] 3)
  rwa [World.size_alloc] at this
 ·have:=Boxed.new ((w.alloc (.cells #[.string s] 9)).alloc (.cells #[.string ⟨#[44]⟩] 9)) 3 (.int .i64 0)
  rwa [World.size_alloc,World.size_alloc] at this
theorem xVi (s:ByteArray) (w:World):(xRd s w).heap.size=w.heap.size+3:=by simp[xRd]
theorem xQv {B:Nat} {a w:World} (h:Below B a w) (hB:B<=w.heap.size) (s:ByteArray):Below B a (xRd s w):=((h.alloc hB _).alloc (by simp;omega) _).alloc (by simp;omega) _
theorem xJ9 (s:ByteArray) (w:World):
  Calls prog 319 #[.string s,.string ⟨#[44]⟩,.int .i64 0] w λe w'=>e=.returned (.func (.func 385) #[] #[.pointer (some ⟨w.heap.size+1,0,none⟩),.pointer (some ⟨w.heap.size,0,none⟩),.pointer (some ⟨w.heap.size+2,0,none⟩)])/\w'=xRd s w:=by
 go_enter func319,ntmps319;go_wp2;go_ret;exact⟨rfl,rfl⟩
theorem xKj (s:ByteArray) (w:World):
  Calls prog 237 #[.string s,.string ⟨#[44]⟩] w λe w'=>e=.returned (.func (.func 385) #[] #[.pointer (some ⟨w.heap.size+1,0,none⟩),.pointer (some ⟨w.heap.size,0,none⟩),.pointer (some ⟨w.heap.size+2,0,none⟩)])/\w'=xRd s w:=by
 go_enter func237,ntmps237;go_wp2_with fail
 refine(xJ9 s _).mono ?_;rintro e w2 ⟨rfl,rfl⟩;go_wp2;go_ret;exact⟨rfl,rfl⟩
end Go.Proofs.RB
namespace Go.Proofs.SP
open Go.RowKit Mailsack
theorem xG4 (s:ByteArray) (k:Nat) (h:k<s.size):s.data.toList.take (k+1)=s.data.toList.take k++[s[k]]:=by
 rw[List.take_add_one,List.getElem?_eq_getElem (by rw[yA];exact h)];rfl
theorem wF (s:ByteArray) (w:World) (hl:s.size<=9223372036854775807):
  Calls prog 239 #[.string s] w λe w'=>e=.returned (.tuple #[.int .i64 (xLx s.data.toList).1,.bool (xLx s.data.toList).2])/\w=w':=by
 have hz:=yA s
 by_cases hstar:s.data.toList=[42]
 ·rw[hstar,xTa];have hB:(s.toList==[42])=true:=by rw[ByteArray.toList_eq];exact beq_iff_eq.2 hstar
  clear hstar hz;go_enter func239,ntmps239;go_wp2;go_ret2;exact⟨rfl,rfl⟩
 have hB:(s.toList==[42])=false:=by rw[ByteArray.toList_eq];exact beq_eq_false_iff_ne.2 hstar
 by_cases h0:s.size=0
 ·rw[xEn hstar (.inl ω)];have hE:s.toList.isEmpty=true:=by rw[ByteArray.toList_eq,List.isEmpty_iff,<-List.length_eq_zero_iff,hz];exact h0
  have hE2:(s.toList==[])=true:=by rw[ByteArray.toList_eq,beq_iff_eq,<-List.length_eq_zero_iff,hz];exact h0
  clear hstar hz h0;go_enter func239,ntmps239;go_wp2
  all_goals (go_ret2;exact⟨rfl,rfl⟩)
 have hE:s.toList.isEmpty=false:=by rw[ByteArray.toList_eq,List.isEmpty_eq_false_iff,ne_eq,<-List.length_eq_zero_iff,hz];exact h0
 have hE2:(s.toList==[])=false:=by rw[ByteArray.toList_eq,beq_eq_false_iff_ne,ne_eq,<-List.length_eq_zero_iff,hz];exact h0
 have hp:0<s.size:=ω
 by_cases h10:10<s.size
 ·rw[xEn hstar (.inr (.inl ω))];clear hstar hz h0;go_enter func239,ntmps239;go_wp2;go_ret2;exact⟨rfl,rfl⟩
 by_cases h48:((s[0]'hp).toNat:Int)=48
 ·rw[xEn hstar (.inr (.inr (.inl (by
   rw[List.getElem?_eq_getElem ω];have:s.data.toList[0]'ω=48:=(vO (x:=s.data.toList[0]'ω) (n:=48) δ).1 h48;rw[this]))))]
  clear hstar hz h0;go_enter func239,ntmps239;go_wp2;go_ret2;exact⟨rfl,rfl⟩
 have hb48:(((s[0]'hp).toNat:Int)==48)=false:=by simpa using h48
 have Hyes:=ι (show s.data.toList.all tO=true->xFf s.data.toList<=4294967295->xLx s.data.toList=(xFf s.data.toList,true) from
  xXm hstar ω ω (by
   rw[List.getElem?_eq_getElem ω];intro e;exact h48 ((vO (x:=s.data.toList[0]'ω) (n:=48) δ).2 (Option.some.inj e))))
 have Hbig:=ι (λ(h:4294967295<xFf s.data.toList)=>xEn hstar (.inr (.inr (.inr (.inr h)))));have yCq:=ι (λ(h:s.data.toList.all tO=false)=>xEn hstar (.inr (.inr (.inr (.inl h)))));have Hz:=ι hz;clear hz hstar h48 h0;go_enter func239,ntmps239;go_wp2
 go_loop [4,22] (λn i=>∃k:Nat,k<=s.size/\i=.int .i64 k/\n=.int .i64 (xFf (s.data.toList.take k))/\Hid (∀c∈s.data.toList.take k,tO c=true)) (λ_ i=>s.size- (intOf i).toNat)
 case atStart=>exact⟨0,Nat.zero_le _,rfl,rfl,ι σ⟩
 case round=>
  obtain⟨k,hk,rfl,rfl,hd⟩:=hrel;have hn:=xNi hd.o (by rw[List.length_take];omega)
  by_cases hlt:k<s.size
  ·have hn9:xFf (s.data.toList.take k)<1000000000:=by
    have h1:=xGi hd.o;have h2:((10^(s.data.toList.take k).length:Nat):Int)<=((10^9:Nat):Int):=Int.ofNat_le.2 (Nat.pow_le_pow_right δ (by rw[List.length_take];omega))
    have h3:((10^(s.data.toList.take k).length:Nat):Int)=(10:Int)^(s.data.toList.take k).length:=by rw[Int.natCast_pow];rfl
    rw[h3] at h2;have h4:((10^9:Nat):Int)=1000000000:=δ;omega
   by_cases hdg:48<=((s[k]'hlt).toNat:Int)/\((s[k]'hlt).toNat:Int)<=57
   ·have Hs:=ι (xJq (s.data.toList.take k) (s[k]'hlt));have Hd2:=ι (xOf (l:=s.data.toList) (k:=k) (by rw[Hz.o];exact hlt) hd.o (xMn.2 hdg));obtain⟨hd1,hd2⟩:=hdg;go_wp2
    go_round
    case rel=>exact⟨k+1,ω,by go_num,(by rw[xG4 s k hlt];exact congrArg (Value.int .i64) Hs.o.symm),Hd2⟩
    case measure=>simp[intOf];omega
   ·have Hn:=ι (yCq.o (by
     rw[List.all_eq_false];exact⟨s[k]'hlt,List.getElem_mem (by rw[Hz.o];exact hlt),by rw[xNz hdg];decide⟩))
    have hdg:((s[k]'hlt).toNat:Int)<48∨57<((s[k]'hlt).toNat:Int):=ω;rcases hdg with hdg|hdg
    ·go_wp2;go_ret2;rw[Hn.o];exact⟨rfl,rfl⟩
    ·go_wp2;go_ret2;rw[Hn.o];exact⟨rfl,rfl⟩
  ·have e:s.data.toList.take k=s.data.toList:=List.take_of_length_le (by rw[Hz.o];omega);rw[e] at hd hn⊢;have hall:=ι (List.all_eq_true.2 hd.o);clear e
   by_cases hbig:4294967295<xFf s.data.toList
   ·have Hn:=ι (Hbig.o hbig);go_wp2;go_ret2;rw[Hn.o];exact⟨rfl,rfl⟩
   ·have Hn:=ι (Hyes.o hall.o ω);go_wp2;go_ret2;rw[Hn.o];exact⟨rfl,rfl⟩
end Go.Proofs.SP
namespace Go.Proofs.SP
open Go.RowKit Go.Shelf Mailsack MM RB
attribute [local go_sem] Oper.semAt_some
def wE (L:List (Int×Int)):List Value:=L.flatMap λr=>[.int .i64 r.1,.int .i64 r.2]
theorem xHn (L:List (Int×Int)) (r:Int×Int):wE (L++[r])=wE L++[.int .i64 r.1,.int .i64 r.2]:=by simp[wE]
def zP (w:World) (B:Nat) (v:Value) (L:List (Int×Int)):Prop:=w.ownsRow B 296 2 v L.length (wE L)
theorem zP.nil (w:World) (B:Nat):zP w B (.slice none 0 0) []:=World.ownsRow_nil w B _ _
theorem xA3 {w:World} {base base':Nat} {E:TypeId} {size n:Nat} {v:Value} {xs:List Value} (h:w.ownsRow base E size v n xs) (hb:base'<=base):w.ownsRow base' E size v n xs:=by
 refine⟨h.1,?_⟩;rcases h.2 with hn|⟨g,cap,cur,h1,h2,h3⟩
 ·exact .inl hn
 ·exact .inr ⟨g,cap,cur,h1,ω,h3⟩
theorem infoR:(prog.info? 296).map (λi=>(i.zero.map (·.cells.size),i.size,i.bytes))=some (some 2,2,16):=κ
def xVx (w:World) (R:Option (List (Int×Int))) (e:Ending) (w':World):Prop:=match R with
 |none=>e=.returned (.tuple #[.slice none 0 0,.int .i64 3])/\ψ w w'
 |some L=>∃v,e=.returned (.tuple #[v,.int .i64 0])/\zP w' w.heap.size v L/\ψ w w'
structure PAt (w:World) (pre:List Sm) (W:World):Prop where
 box:∃v,Boxed W (w.heap.size+1+1) 199 v/\zP W (w.heap.size+6) v ((ptz pre).map xAw)
 ok:∀p∈ptz pre,rC p=true
 r0:Boxed W w.heap.size 199 (.slice none 0 0)
 r1:Boxed W (w.heap.size+1) 52 (.int .i64 0)
 bel:ψ w W
 big:w.heap.size+6<=W.heap.size
structure PX (w:World) (pre:List Sm) (W:World):Prop where
 bad:∃p∈ptz pre,rC p=false
 r0:Boxed W w.heap.size 199 (.slice none 0 0)
 r1:Boxed W (w.heap.size+1) 52 (.int .i64 3)
 bel:ψ w W
theorem xZf {a:Bs} {na:Int} {oa:Bool} (h:xLx a=(na,oa)) (hl:a.length<=1000000) (W:World):
  Calls prog 239 #[.string ⟨a.toArray⟩] W λe w'=>e=.returned (.tuple #[.int .i64 na,.bool oa])/\W=w':=by
 have:=wF ⟨a.toArray⟩ W (by show a.length<=_;omega);rw[show(⟨a.toArray⟩:ByteArray).data.toList=a from rfl,h] at this;exact this
theorem PAt.own (w:World) (B:Nat) (hB:w.heap.size<=B):OwnFrom B (PAt w):=λs W W' row hs hg hr=>by
 obtain⟨v,h1,h2⟩:=hs.box;obtain⟨v',h1',h2',_⟩:=((holdsRow_own (w.heap.size+6) (w.heap.size+1+1) 199 296 2 (λs:List Sm=>((ptz s).map xAw).length) (λs=>wE ((ptz s).map xAw)) (λ_ _=>True)).from B) s W W' row ⟨v,h1,h2,trivial⟩ hg hr
 exact⟨⟨v',h1',h2'⟩,hs.ok,((boxed_own (β:=List Sm) _ _ (λ_=>_)).from B) s W W' row hs.r0 hg hr,((boxed_own (β:=List Sm) _ _ (λ_=>_)).from B) s W W' row hs.r1 hg hr,
  (ownFrom_below (β:=List Sm) ν hB) s W W' row hs.bel hg hr,Nat.le_trans hs.big hg.size⟩
theorem PX.own (w:World) (B:Nat) (hB:w.heap.size<=B):OwnFrom B (PX w):=λs W W' row hs hg hr=>
 ⟨hs.bad,((boxed_own (β:=List Sm) _ _ (λ_=>_)).from B) s W W' row hs.r0 hg hr,((boxed_own (β:=List Sm) _ _ (λ_=>_)).from B) s W W' row hs.r1 hg hr,
  (ownFrom_below (β:=List Sm) ν hB) s W W' row hs.bel hg hr⟩
theorem PAt.set {w:World} {pre:List Sm} {W:World} (h:PAt w pre W) (v:Value):PAt w pre (W.setCell ⟨w.heap.size+1+1+1,0,none⟩ v):=by
 obtain⟨u,h1,h2⟩:=h.box;exact⟨⟨u,h1.other ω _,ownsRow_setCell_below h2 (by show w.heap.size+1+1+1<_;omega) _⟩,h.ok,h.r0.other ω _,h.r1.other ω _,h.bel.setCell (p:=⟨w.heap.size+1+1+1,0,none⟩) (by show w.heap.size<=w.heap.size+1+1+1;omega) _,by rw[size_set];exact h.big⟩
theorem xF5 {l sep a b:Bs} {two:Bool} (h:Lib.cut l sep=(a,b,two)):a.length<=l.length/\b.length<=l.length:=by
 rcases xB3 l sep with hi|⟨i,hi⟩
 ·rw[xOh hi] at h;injection h with h1 h2;injection h2 with h2 _;subst h1 h2;simp
 ·rw[xV7 hi] at h;injection h with h1 h2;injection h2 with h2 _;subst h1 h2;simp;omega
theorem xCs (pre:List Sm) (x:Sm):ptz (pre++[x])=ptz pre++[x.1.data.toList]:=by simp[ptz]
theorem xId {w:World} {pre:List Sm} {W:World} {x:ByteArray} {hx:x.size<=1000000} (h:PAt w pre W) (n:Nat) (hbad:rC x.data.toList=false):
  PX w (pre++[⟨x,hx⟩]) (((W.drewN n).setCell ⟨w.heap.size,0,none⟩ (.slice none 0 0)).setCell ⟨w.heap.size+1,0,none⟩ (.int .i64 3)):=by
 refine⟨⟨_,by rw[xCs];exact List.mem_append_right _ (List.mem_singleton.2 rfl),hbad⟩,?_,?_,?_⟩
 ·exact(Boxed.set (W:=W.drewN n) _ (show Boxed (W.drewN n) _ _ _ from h.r0)).other ω _
 ·exact(Boxed.other (W:=W.drewN n) (show Boxed (W.drewN n) _ _ _ from h.r1) ω _).set _
 ·exact((below_drewN h.bel n).setCell (p:=⟨w.heap.size,0,none⟩) ν _).setCell (p:=⟨w.heap.size+1,0,none⟩) (by show w.heap.size<=w.heap.size+1;omega) _
theorem xO6 {w:World} {pre:List Sm} {W w1:World} {x:ByteArray} {hx:x.size<=1000000} {L:List (Int×Int)} {v v':Value} {tmp:Obj} {na nb:Int} (h:PAt w pre W) (hL:(ptz pre).map xAw=L) (n:Nat)
  (hv1:Boxed w1 (w.heap.size+1+1) 199 v) (hrow:W.ownsRow (w.heap.size+6) 296 2 v L.length (wE L))
  (hown:w1.ownsRow (w.heap.size+6) 296 2 v' (L.length+1) (wE L++[.int .i64 na,.int .i64 nb])) (hgrow:((W.drewN n).alloc tmp).grownBy w1 v.ownBlock)
  (hval:xAw x.data.toList=(na,nb)) (hok:rC x.data.toList=true):
  KpI (w.heap.size+1+1+1) W (w1.setCell ⟨w.heap.size+1+1,0,none⟩ v')/\PAt w (pre++[⟨x,hx⟩]) (w1.setCell ⟨w.heap.size+1+1,0,none⟩ v'):=by
 have hbig:=h.big
 have hk:∀k,k<w.heap.size+6->w1.heap[k]?=W.heap[k]?:=λk hk=>
  (hgrow.block k (by rw[World.size_alloc];show k<W.heap.size+1;omega) (λe=>by have:=(World.ownsRow.lt hrow k e.symm).1;omega)).trans (Below.heap_alloc (W.drewN n) tmp k (show k<W.heap.size by omega))
 have hsz:W.heap.size+1<=w1.heap.size:=by have:=hgrow.size;rw[World.size_alloc] at this;exact this
 refine⟨λk h1 h2=>(Below.heap_setCell w1 ⟨w.heap.size+1+1,0,none⟩ v' k (by show k≠w.heap.size+1+1;omega)).trans (hk k ω),⟨v',hv1.set v',?_⟩,?_,?_,?_,?_,?_⟩
 ·unfold zP;rw[xCs,List.map_append,hL,List.map_cons,List.map_nil,hval,xHn,List.length_append];exact ownsRow_setCell_below hown (a:=⟨w.heap.size+1+1,0,none⟩) (by show w.heap.size+1+1<w.heap.size+6;omega) v'
 ·intro p hp;rw[xCs] at hp;rcases List.mem_append.1 hp with hp|hp
  ·exact h.ok p hp
  ·rw[List.mem_singleton.1 hp];exact hok
 ·exact Boxed.other (show Boxed w1 _ _ _ from(hk _ ω).trans h.r0) ω _
 ·exact Boxed.other (show Boxed w1 _ _ _ from(hk _ ω).trans h.r1) ω _
 ·refine Below.setCell ?_ (p:=⟨w.heap.size+1+1,0,none⟩) (by show w.heap.size<=w.heap.size+1+1;omega) v'
  exact((below_drewN h.bel n).alloc (show w.heap.size<=W.heap.size by omega) tmp).grown hgrow (by rw[World.size_alloc];show w.heap.size<=W.heap.size+1;omega) (λk e=>by have:=(World.ownsRow.lt hrow k e).1;omega)
 ·rw[size_set];omega
theorem xBs (s:ByteArray) (m:Int) (w:World) (hs:s.size<=1000000) (hm:w.cell? ⟨2,0,none⟩=some (.int .i64 m)):
  Calls prog 145 #[.string s] w (xVx w (jL s.data.toList)):=by
 have hw0:2<w.heap.size:=World.block_lt_of_cell? w _ hm;have Hm:=ι hm;clear hm;obtain⟨i0,hi,hi'⟩:=Option.map_eq_some_iff.1 infoR;injection hi' with hz0 hi';injection hi' with hz1 hz2;obtain⟨z,hz0,hzs⟩:=Option.map_eq_some_iff.1 hz0;refine(callsIn_wide (n:=3)).1 ?_
 refine callsIn_of_wp_marks func145 rfl trivial ?_ rfl;simp only[ntmps145,List.size_toArray,List.length_cons,List.length_nil,Nat.reduceAdd,Nat.reduceSub,Array.replicate_succ,Array.replicate_zero,List.push_toArray,List.append_toArray,List.nil_append,List.cons_append]
 gi_wp2_with (refine⟨trivial,?_⟩;gi_at_call 237;refine(callsIn_wide.2 (xKj s _)).mono ?_;rintro e w' ⟨rfl,rfl⟩)
 have hit:=yCd s (((w.alloc (Obj.cells #[Value.slice none 0 0] 199)).alloc (Obj.cells #[Value.int IntKind.i64 0] 52)).alloc (Obj.cells #[Value.slice none 0 0] 199));rw[World.size_alloc,World.size_alloc,World.size_alloc] at hit
 have hsz:(xRd s (((w.alloc (Obj.cells #[Value.slice none 0 0] 199)).alloc (Obj.cells #[Value.int IntKind.i64 0] 52)).alloc (Obj.cells #[Value.slice none 0 0] 199))).heap.size=w.heap.size+6:=by rw[xVi];simp
 have hbe:ψ w (xRd s (((w.alloc (Obj.cells #[Value.slice none 0 0] 199)).alloc (Obj.cells #[Value.int IntKind.i64 0] 52)).alloc (Obj.cells #[Value.slice none 0 0] 199))):=
  xQv ((((Below.refl _ w).alloc ν _).alloc σ _).alloc (by simp;omega) _) (by simp;omega) s
 have b0:Boxed (xRd s (((w.alloc (Obj.cells #[Value.slice none 0 0] 199)).alloc (Obj.cells #[Value.int IntKind.i64 0] 52)).alloc (Obj.cells #[Value.slice none 0 0] 199))) w.heap.size 199 (.slice none 0 0):=
  (((((Boxed.new w _ _).alloc _).alloc _).alloc _).alloc _).alloc _
 have b1:Boxed (xRd s (((w.alloc (Obj.cells #[Value.slice none 0 0] 199)).alloc (Obj.cells #[Value.int IntKind.i64 0] 52)).alloc (Obj.cells #[Value.slice none 0 0] 199))) (w.heap.size+1) 52 (.int .i64 0):=by
  have:=((((Boxed.new (w.alloc (Obj.cells #[Value.slice none 0 0] 199)) 52 (.int .i64 0)).alloc (Obj.cells #[Value.slice none 0 0] 199)).alloc (.cells #[.string s] 9)).alloc (.cells #[.string ⟨#[44]⟩] 9)).alloc (.cells #[.int .i64 0] 3)
  rwa [World.size_alloc] at this
 have b2:Boxed (xRd s (((w.alloc (Obj.cells #[Value.slice none 0 0] 199)).alloc (Obj.cells #[Value.int IntKind.i64 0] 52)).alloc (Obj.cells #[Value.slice none 0 0] 199))) (w.heap.size+1+1) 199 (.slice none 0 0):=by
  have:=(((Boxed.new ((w.alloc (Obj.cells #[Value.slice none 0 0] 199)).alloc (Obj.cells #[Value.int IntKind.i64 0] 52)) 199 (.slice none 0 0)).alloc (.cells #[.string s] 9)).alloc (.cells #[.string ⟨#[44]⟩] 9)).alloc (.cells #[.int .i64 0] 3)
  rwa [World.size_alloc,World.size_alloc] at this
 generalize (xRd s (((w.alloc (Obj.cells #[Value.slice none 0 0] 199)).alloc (Obj.cells #[Value.int IntKind.i64 0] 52)).alloc (Obj.cells #[Value.slice none 0 0] 199)))=w6 at hit hsz hbe b0 b1 b2⊢
 refine xL1 (b:=w.heap.size+1+1+1) rfl ω rfl trivial (enters_of func385 κ rfl) (xLf 2 ω _ s hs _ hit) ω
  (λh k i h1 h2=>(k i h1 h2).trans (h i h1 h2)) (λW l o' hl k h1 h2=>World.putObj_heap_other ω) (λ_=>rfl)
  (PAt w) (λc pre W=>c=.ret/\PX w pre W) (PAt.own w _ ω) (λc=>OwnFrom.and (ownFrom_pure _ _) (PX.own w _ ω)) (λs A v h=>h.set v)
  ⟨⟨_,b2,zP.nil _ _⟩,by simp[ptz],b0,b1,hbe,ω⟩
  (λx=>{tmps:=#[Value.string s,undef,Value.pointer (some ⟨w.heap.size,0,none⟩),Value.pointer (some ⟨w.heap.size+1,0,none⟩),Value.pointer (some ⟨w.heap.size+1+1,0,none⟩),.string x.1,undef,undef,undef,undef,undef,undef,undef,Value.string s,Value.func (Fn.func 385) #[] #[Value.pointer (some ⟨w.heap.size+1+1+1+1,0,none⟩),Value.pointer (some ⟨w.heap.size+1+1+1,0,none⟩),Value.pointer (some ⟨w.heap.size+1+1+1+2,0,none⟩)],.string x.1,undef,undef,undef,undef,undef,undef,undef,undef,undef,undef,undef,undef,undef,undef,undef,undef,undef,undef,undef,undef,undef,undef,undef,undef,undef,undef,undef,undef,undef,undef,undef,undef],defers:=[]}) ?assign ?body ?done ?stop
 case assign=>
  intro l x W K hK
  gi_wp2
  exact hK
 case body=>
  intro l pre x W hP hlen;have hm2:=ι ((hP.bel.cell hw0).trans Hm.o);obtain⟨x,hx⟩:=x;have HP:=ι hP;obtain⟨v,hv,hrow⟩:=hP.box
  obtain⟨A,c,e9⟩:∃A c,v=.slice A ((ptz pre).map xAw).length c:=by
   rcases hrow.2 with ⟨h1,h2⟩|⟨g,cap,cur,h1,_⟩
   ·exact⟨none,0,by rw[h1,h2]⟩
   ·exact⟨_,_,h1⟩
  subst e9;have hL:((ptz pre).map xAw).length<=1000000:=by simp[ptz];omega
  obtain⟨L,hLL⟩:∃L,(ptz pre).map xAw=L:=⟨_,rfl⟩;rw[hLL] at hrow hL hv;have HLL:=ι hLL;clear hLL
  obtain⟨a,b,two,hcut,xI6⟩:∃a b two,Lib.cut x.data.toList (⟨#[58]⟩:ByteArray).data.toList=(a,b,two)/\ends x.data.toList=(a,if two=true then b else a):=by
   rcases xB3 x.data.toList [58] with hi|⟨i,hi⟩
   ·exact⟨_,_,_,xOh hi,by unfold ends;rw[if_neg ω];rfl⟩
   ·exact⟨_,_,_,xV7 hi,by unfold ends;rw[if_pos ω,hi];rfl⟩
  -- BODY BEGINS
  have xMy:=ι hcut;have yCk:=ι hrow;have c4:=hv.cell;have f4:=hv.frozen;have c0:=HP.o.r0.cell;have f0:=HP.o.r0.frozen;have c5:=HP.o.r1.cell;have f5:=HP.o.r1.frozen;obtain⟨na,oa,ha⟩:∃n o,xLx a=(n,o):=⟨_,_,rfl⟩
  have hla:a.length<=1000000:=Nat.le_trans (xF5 hcut).1 (by rw[yA];exact hx);have hlb:b.length<=1000000:=Nat.le_trans (xF5 hcut).2 (by rw[yA];exact hx);have Na:=ι (xZf ha hla);have hbig:=hP.big;have hpre:pre.length<=1000000:=ω;clear hP;cases two
  ·have hok:rC x.data.toList=oa:=by unfold rC;rw[xI6];simp[ha]
   have hval:xAw x.data.toList=(na,na):=by unfold xAw;rw[xI6];simp[ha]
   cases oa
   ·have yCq:=ι hok;clear hcut xI6 hrow ha hok hval
    gi_wp2_with (first|(refine⟨trivial,?_⟩;gi_at_call 238;refine(CallsIn.inRound l (callsIn_wide.2 (Tryz.strings_Cut x ⟨#[58]⟩ m _ ω hm2.o))).mono ?_;rintro e w' ⟨rfl,n1,rfl⟩;rw[xMy.o];have xKp:=ι (show(W.drewN n1).ownsRow _ _ _ _ _ _ from yCk.o);have Hv1:=ι (show Boxed (W.drewN n1) _ _ _ from hv))|(refine⟨trivial,?_⟩;gi_at_call 239;refine(CallsIn.inRound l (callsIn_wide.2 (Na.o _))).mono ?_;rintro e w' ⟨rfl,rfl⟩))
    refine⟨?_,rfl,?_⟩
    ·exact(KeepsOthers.from ((show KeepsOthers W (W.drewN n1) from⟨Nat.le_refl _,λ_ _ h _=>h⟩).trans ((KeepsOthers.setCell _ _ _).trans (KeepsOthers.setCell _ _ _))) _)
    ·exact xId HP.o n1 (yCq.o)
   ·have Hok:=ι hok;have Hval:=ι hval;clear hcut xI6 hrow ha hok hval
    gi_wp2_with (first|(refine⟨trivial,?_⟩;gi_at_call 238;refine(CallsIn.inRound l (callsIn_wide.2 (Tryz.strings_Cut x ⟨#[58]⟩ m _ ω hm2.o))).mono ?_;rintro e w' ⟨rfl,n1,rfl⟩;rw[xMy.o];have xKp:=ι (show(W.drewN n1).ownsRow _ _ _ _ _ _ from yCk.o);have Hv1:=ι (show Boxed (W.drewN n1) _ _ _ from hv))|(refine⟨trivial,?_⟩;gi_at_call 239;refine(CallsIn.inRound l (callsIn_wide.2 (Na.o _))).mono ?_;rintro e w' ⟨rfl,rfl⟩)|(gi_at_builtin;refine wpListIn_append_own _ rfl _ _ 199 rfl (w.heap.size+6) 296 i0 z 2 16 underlying199 hi hz0 hz1 hz2 hzs δ _ _ _ rfl (World.ownsRow.alloc xKp.o _) ⟨W.heap.size,0,none⟩ 1 1 [.int .i64 na,.int .i64 na] rfl rfl (World.news_of_block (xI _ _)) (by intro u hu;simp at hu;rcases hu with rfl|rfl<;>rfl) (by unfold maxLen;omega) ω (by simp;omega) ?_;intro v' w1 hown' hgrow _;obtain⟨g',cap',rfl⟩:=ownsRow_succ hown';obtain⟨hv1,hv2,hr2,hk2,hb2⟩:=Hv1.o.appended δ (xA3 xKp.o (show w.heap.size<=w.heap.size+6 by omega)) (show w.heap.size<=W.heap.size by omega) ω (xA3 hown' (show w.heap.size<=w.heap.size+6 by omega)) hgrow;have yCm:=ι hown';have xFd:=ι hgrow;have Hk2:=ι hk2;have Hb2:=ι hb2;have c1:=hv1.cell;have f1:=hv1.frozen;clear hown' hgrow hk2 hb2 hr2))
    obtain⟨o1,o2⟩:=xO6 (x:=x) (hx:=hx) HP.o HLL.o n1 hv1 yCk.o yCm.o xFd.o Hval.o Hok.o;exact⟨KeepsOthers.from (show KeepsOthers W _ from⟨Hk2.o.size,Hk2.o.same⟩) _,o1,o2⟩
  ·obtain⟨nb,ob,hb⟩:∃n o,xLx b=(n,o):=⟨_,_,rfl⟩;have Nb:=ι (xZf hb hlb);have hok:rC x.data.toList=(oa&&ob):=by unfold rC;rw[xI6];simp[ha,hb]
   have hval:xAw x.data.toList=(na,nb):=by unfold xAw;rw[xI6];simp[ha,hb]
   cases oa
   ·have yCq:=ι (show rC x.data.toList=false from hok);clear hcut xI6 hrow ha hb hok hval
    gi_wp2_with (first|(refine⟨trivial,?_⟩;gi_at_call 238;refine(CallsIn.inRound l (callsIn_wide.2 (Tryz.strings_Cut x ⟨#[58]⟩ m _ ω hm2.o))).mono ?_;rintro e w' ⟨rfl,n1,rfl⟩;rw[xMy.o];have xKp:=ι (show(W.drewN n1).ownsRow _ _ _ _ _ _ from yCk.o);have Hv1:=ι (show Boxed (W.drewN n1) _ _ _ from hv))|(refine⟨trivial,?_⟩;gi_at_call 239;refine(CallsIn.inRound l (callsIn_wide.2 (Na.o _))).mono ?_;clear Na;rintro e w' ⟨rfl,rfl⟩)|(refine⟨trivial,?_⟩;gi_at_call 239;refine(CallsIn.inRound l (callsIn_wide.2 (Nb.o _))).mono ?_;clear Nb;rintro e w' ⟨rfl,rfl⟩))
    refine⟨?_,rfl,?_⟩
    ·exact(KeepsOthers.from ((show KeepsOthers W (W.drewN n1) from⟨Nat.le_refl _,λ_ _ h _=>h⟩).trans ((KeepsOthers.setCell _ _ _).trans (KeepsOthers.setCell _ _ _))) _)
    ·exact xId HP.o n1 (yCq.o)
   ·cases ob
    ·have yCq:=ι (show rC x.data.toList=false from hok);clear hcut xI6 hrow ha hb hok hval
     gi_wp2_with (first|(refine⟨trivial,?_⟩;gi_at_call 238;refine(CallsIn.inRound l (callsIn_wide.2 (Tryz.strings_Cut x ⟨#[58]⟩ m _ ω hm2.o))).mono ?_;rintro e w' ⟨rfl,n1,rfl⟩;rw[xMy.o];have xKp:=ι (show(W.drewN n1).ownsRow _ _ _ _ _ _ from yCk.o);have Hv1:=ι (show Boxed (W.drewN n1) _ _ _ from hv))|(refine⟨trivial,?_⟩;gi_at_call 239;refine(CallsIn.inRound l (callsIn_wide.2 (Na.o _))).mono ?_;clear Na;rintro e w' ⟨rfl,rfl⟩)|(refine⟨trivial,?_⟩;gi_at_call 239;refine(CallsIn.inRound l (callsIn_wide.2 (Nb.o _))).mono ?_;clear Nb;rintro e w' ⟨rfl,rfl⟩))
     refine⟨?_,rfl,?_⟩
     ·exact(KeepsOthers.from ((show KeepsOthers W (W.drewN n1) from⟨Nat.le_refl _,λ_ _ h _=>h⟩).trans ((KeepsOthers.setCell _ _ _).trans (KeepsOthers.setCell _ _ _))) _)
     ·exact xId HP.o n1 (yCq.o)
    ·have Hok:=ι (show rC x.data.toList=true from hok);have Hval:=ι hval;clear hcut xI6 hrow ha hb hok hval
     gi_wp2_with (first|(refine⟨trivial,?_⟩;gi_at_call 238;refine(CallsIn.inRound l (callsIn_wide.2 (Tryz.strings_Cut x ⟨#[58]⟩ m _ ω hm2.o))).mono ?_;rintro e w' ⟨rfl,n1,rfl⟩;rw[xMy.o];have xKp:=ι (show(W.drewN n1).ownsRow _ _ _ _ _ _ from yCk.o);have Hv1:=ι (show Boxed (W.drewN n1) _ _ _ from hv))|(refine⟨trivial,?_⟩;gi_at_call 239;refine(CallsIn.inRound l (callsIn_wide.2 (Na.o _))).mono ?_;clear Na;rintro e w' ⟨rfl,rfl⟩)|(refine⟨trivial,?_⟩;gi_at_call 239;refine(CallsIn.inRound l (callsIn_wide.2 (Nb.o _))).mono ?_;clear Nb;rintro e w' ⟨rfl,rfl⟩)|(gi_at_builtin;refine wpListIn_append_own _ rfl _ _ 199 rfl (w.heap.size+6) 296 i0 z 2 16 underlying199 hi hz0 hz1 hz2 hzs δ _ _ _ rfl (World.ownsRow.alloc xKp.o _) ⟨W.heap.size,0,none⟩ 1 1 [.int .i64 na,.int .i64 nb] rfl rfl (World.news_of_block (xI _ _)) (by intro u hu;simp at hu;rcases hu with rfl|rfl<;>rfl) (by unfold maxLen;omega) ω (by simp;omega) ?_;intro v' w1 hown' hgrow _;obtain⟨g',cap',rfl⟩:=ownsRow_succ hown';obtain⟨hv1,hv2,hr2,hk2,hb2⟩:=Hv1.o.appended δ (xA3 xKp.o (show w.heap.size<=w.heap.size+6 by omega)) (show w.heap.size<=W.heap.size by omega) ω (xA3 hown' (show w.heap.size<=w.heap.size+6 by omega)) hgrow;have yCm:=ι hown';have xFd:=ι hgrow;have Hk2:=ι hk2;have Hb2:=ι hb2;have c1:=hv1.cell;have f1:=hv1.frozen;clear hown' hgrow hk2 hb2 hr2))
     obtain⟨o1,o2⟩:=xO6 (x:=x) (hx:=hx) HP.o HLL.o n1 hv1 yCk.o yCm.o xFd.o Hval.o Hok.o;exact⟨KeepsOthers.from (show KeepsOthers W _ from⟨Hk2.o.size,Hk2.o.same⟩) _,o1,o2⟩
  -- BODY ENDS
 case done=>
  rintro D xs W hD hx hP hK;have Hres:=ι (show jL s.data.toList=some ((ptz xs).map xAw) by unfold jL;rw[<-hx,if_pos (List.all_eq_true.2 hP.ok)]);obtain⟨v,hv,hrow⟩:=hP.box;clear hx;generalize (ptz xs).map xAw=L at Hres hrow
  obtain⟨A,c,e9⟩:∃A c,v=.slice A L.length c:=by
   rcases hrow.2 with ⟨h1,h2⟩|⟨g,cap,cur,h1,_⟩
   ·exact⟨none,0,by rw[h1,h2]⟩
   ·exact⟨_,_,h1⟩
  subst e9;have c2:=hv.cell;have c0:=hP.r0.cell;have f0:=hP.r0.frozen;have c1:=hP.r1.cell;have f1:=hP.r1.frozen
  gi_wp2
  have p0:=(hP.r0.set (.slice A L.length c)).other (show w.heap.size≠w.heap.size+1 by omega) (.int .i64 0);have p1:=(hP.r1.other (show w.heap.size+1≠w.heap.size by omega) (.slice A L.length c)).set (.int .i64 0)
  have hK2:=(KeepsOthers.setCell (W.setCell ⟨w.heap.size,0,none⟩ (.slice A L.length c)) ⟨w.heap.size+1,0,none⟩ (.int .i64 0)).same D _ ((KeepsOthers.setCell W ⟨w.heap.size,0,none⟩ (.slice A L.length c)).same D _ hK rfl) rfl
  have hrow2:=ownsRow_setCell_below (ownsRow_setCell_below hrow (a:=⟨w.heap.size,0,none⟩) (by show w.heap.size<w.heap.size+6;omega) (.slice A L.length c)) (a:=⟨w.heap.size+1,0,none⟩) (by show w.heap.size+1<w.heap.size+6;omega) (.int .i64 0)
  have hB2:=(hP.bel.setCell (p:=⟨w.heap.size,0,none⟩) ν (.slice A L.length c)).setCell (p:=⟨w.heap.size+1,0,none⟩) (by show w.heap.size<=w.heap.size+1;omega) (.int .i64 0);refine⟨σ,.inl ⟨_,_,rfl,run_takeDeferred hK2,?_⟩⟩
  generalize (W.setCell ⟨w.heap.size,0,none⟩ (.slice A L.length c)).setCell ⟨w.heap.size+1,0,none⟩ (.int .i64 0)=W2 at p0 p1 hK2 hrow2 hB2⊢;have q0:=(p0.kept (grownBy_putObj' W2 D (.deferred none)) (λe=>by injection e;omega)).cell
  have q1:=(p1.kept (grownBy_putObj' W2 D (.deferred none)) (λe=>by injection e;omega)).cell;refine⟨_,by simp[results,go_sem,q0,q1];rfl,?_⟩;rw[Hres.o];exact⟨_,rfl,xA3 (ownsRow_putObj hrow2 _ hK2 rfl) ω,hB2.grown (grownBy_putObj' W2 D _) hB2.size (λk e=>by cases e;omega)⟩
 case stop=>
  rintro D c pre W hD ⟨q,hq⟩ ⟨rfl,hX⟩ hK
  have hres:jL s.data.toList=none:=by
   obtain⟨p,hp,hbad⟩:=hX.bad;unfold jL;rw[if_neg];intro h;have:=List.all_eq_true.1 h p (by rw[<-hq];exact List.mem_append_left _ hp);rw[hbad] at this;cases this
  rw[hres]
  gi_wp2
  have p0:=hX.r0;have p1:=hX.r1;refine⟨σ,.inl ⟨_,_,rfl,run_takeDeferred hK,?_⟩⟩;have q0:=(p0.kept (grownBy_putObj' W D (.deferred none)) (λe=>by injection e;omega)).cell;have q1:=(p1.kept (grownBy_putObj' W D (.deferred none)) (λe=>by injection e;omega)).cell
  refine⟨_,by simp[results,go_sem,q0,q1];rfl,?_⟩;exact⟨rfl,hX.bel.grown (grownBy_putObj' W D _) hX.bel.size (λk e=>by cases e;omega)⟩
end Go.Proofs.SP
namespace Go.Proofs.SP
open Go.RowKit Mailsack MM
def RdR (w:World) (B:Nat) (v:Value) (L:List (Int×Int)):Prop:=
 ∃A c,v=.slice A L.length c/\L.length<=c/\(0<L.length->∃b off,A=some ⟨b,off,none⟩/\b<B/\∀j r,L[j]?=some r->w.cell? ⟨b,off+j*2,none⟩=some (.int .i64 r.1)/\w.cell? ⟨b,off+j*2+1,none⟩=some (.int .i64 r.2))
theorem RdR.keep {w w':World} {B:Nat} {v:Value} {L:List (Int×Int)} (h:RdR w B v L) (hk:∀p:Addr,p.block<B->w'.cell? p=w.cell? p):RdR w' B v L:=by
 obtain⟨A,c,h1,h2,h3⟩:=h;refine⟨A,c,h1,h2,λhn=>?_⟩;obtain⟨b,off,h4,h5,h6⟩:=h3 hn;exact⟨b,off,h4,h5,λj x hx=>⟨(hk _ h5).trans (h6 j x hx).1,(hk _ h5).trans (h6 j x hx).2⟩⟩
theorem RdR.below {w w':World} {B B':Nat} {v:Value} {L:List (Int×Int)} (h:RdR w B v L) (hb:Below B' w w') (hB:B<=B'):RdR w' B v L:=h.keep λ_ hp=>hb.cell ω
theorem xAu:∀(L:List (Int×Int)) (j:Nat) (r:Int×Int),L[j]?=some r->(wE L)[j*2]?=some (.int .i64 r.1)/\(wE L)[j*2+1]?=some (.int .i64 r.2)
 |[],j,r,h=>by simp at h
 |q::L,0,r,h=>by simp at h;subst h;simp[wE]
 |q::L,j+1,r,h=>by
  have ih:=xAu L j r (by simpa using h);have e:wE (q::L)=.int .i64 q.1::.int .i64 q.2::wE L:=by simp[wE]
  rw[e,show(j+1)*2=j*2+1+1 by omega];exact ih
theorem zP.rd {w:World} {B:Nat} {v:Value} {L:List (Int×Int)} (h:zP w B v L):RdR w w.heap.size v L:=by
 rcases h.2 with ⟨h1,h2⟩|⟨g,cap,cur,h1,hb,hg,hnc,_,_,htake⟩
 ·exact⟨none,0,by rw[h1,h2],ω,λh=>by omega⟩
 ·refine⟨_,cap,h1,hnc,λ_=>⟨g,0,rfl,xJ hg,λj x hx=>?_⟩⟩;have hadd:∀i,(⟨g,0,none⟩:Addr).add i=⟨g,i,none⟩:=λi=>by unfold Addr.add;split<;>simp_all
  have t1:=World.ownsRow.cells h (g:=g) (by rw[h1];rfl) (j*2) _ (xAu L j x hx).1;have t2:=World.ownsRow.cells h (g:=g) (by rw[h1];rfl) (j*2+1) _ (xAu L j x hx).2;rw[hadd] at t1 t2;rw[Nat.zero_add];exact⟨t1,t2⟩
theorem xDy {f:(Int×Int)->Bool} {L:List (Int×Int)} {k:Nat} {r:Int×Int} (h:L[k]?=some r) (hf:f r=true):L.any f=true:=
 List.any_eq_true.2 ⟨r,List.mem_of_getElem? h,hf⟩
theorem any_none {f:(Int×Int)->Bool} {L:List (Int×Int)} (h:∀r∈L.take L.length,f r=false):L.any f=false:=by
 rw[List.take_length] at h;rw[List.any_eq_false];intro r hr;rw[h r hr];decide
theorem xBx {f:(Int×Int)->Bool} {L:List (Int×Int)} {k:Nat} {r:Int×Int} (h:L[k]?=some r) (hf:f r=false) (h0:∀r∈L.take k,f r=false):∀r∈L.take (k+1),f r=false:=by
 intro q hq;rw[List.take_add_one,h] at hq;rcases List.mem_append.1 hq with hq|hq
 ·exact h0 q hq
 ·simp at hq;subst hq;exact hf
theorem xO3 {n g x y p q:Int} (hp:kT g x=p) (hq:kT g y=q) (h:min p q<=n/\n<=max p q):hasR n g (x,y)=true:=by
 unfold hasR;subst hp hq;exact decide_eq_true h
theorem xO4 {n g x y p q:Int} (hp:kT g x=p) (hq:kT g y=q) (h:¬(min p q<=n/\n<=max p q)):hasR n g (x,y)=false:=by
 unfold hasR;subst hp hq;exact decide_eq_false h
theorem xEu (v:Value) (L:List (Int×Int)) (n g:Int) (w:World) (hv:RdR w w.heap.size v L) (hlen:L.length<=1000000):
  Calls prog 147 #[v,.int .i64 n,.int .i64 g] w λe w'=>e=.returned (.bool (xZq L n g))/\ψ w w':=by
 obtain⟨A,c,rfl,hc,hcell⟩:=hv;have Hcell:=ι hcell;clear hcell;go_enter func147,ntmps147;go_wp2
 go_loopw [13] (λi wr=>∃k:Nat,k<=L.length/\i=.int .i64 k/\Hid (ψ w wr)/\Hid (∀r∈L.take k,hasR n g r=false)) (λi _=>L.length- (intOf i).toNat)
 case atStart=>exact⟨0,Nat.zero_le _,rfl,ι (Below.refl _ _),ι σ⟩
 case round=>
  obtain⟨k,hk,rfl,hb,hno⟩:=hrel
  by_cases hlt:k<L.length
  ·obtain⟨b,off,rfl,hbB,hcs⟩:=Hcell.o ω;obtain⟨r,hr⟩:∃r,L[k]?=some r:=⟨_,List.getElem?_eq_getElem hlt⟩;obtain⟨x,y⟩:=r;obtain⟨c1,c2⟩:=hcs k _ hr;have d1:=(hb.o.cell (p:=⟨b,off+k*2,none⟩) hbB).trans c1;have d2:=(hb.o.cell (p:=⟨b,off+k*2+1,none⟩) hbB).trans c2;have Hr:=ι hr
   clear c1 c2 hcs hr;go_upto_region 4 with fail
   refine RG.xH (λW=>Hid (Below wr.heap.size.succ (wr.alloc (Obj.cells #[Value.int IntKind.i64 x,Value.int IntKind.i64 y] 296)) W)) κ κ (ι (Below.refl _ _).drew) ?_
   iterate 6
    apply RG.xG
    ·intro w9 hw9;have p9:=xC (xI wr (Obj.cells #[Value.int IntKind.i64 x,Value.int IntKind.i64 y] 296)) hw9.o (Nat.lt_succ_self _);have k0:w9.cell? ⟨wr.heap.size,0,none⟩=some (.int .i64 x):=xA p9 0;have k1:w9.cell? ⟨wr.heap.size,1,none⟩=some (.int .i64 y):=xA p9 1;clear p9
     repeat go_step
     exact RG.xB hw9
    ·rfl
   refine RG.xL (λw9 hw9=>?_);have hb9:=ι ((hb.o.alloc hb.o.size (Obj.cells #[Value.int IntKind.i64 x,Value.int IntKind.i64 y] 296)).trans (hw9.o.mono (by simp;have:=hb.o.size;omega)));clear hw9 d1 d2 hbB Hcell
   by_cases hx0:x=0<;>by_cases hy0:y=0
   ·have Hp:=ι (show kT g x=g by simp[kT,hx0]);have Hq:=ι (show kT g y=g by simp[kT,hy0]);have hxb:(x==0)=true:=by simpa using hx0
    have hyb:(y==0)=true:=by simpa using hy0
    clear hx0 hy0;go_wp2
    all_goals first
     |(refine⟨⟨k+1,ω,by go_num,hb9,ι (xBx Hr.o (xO4 Hp.o Hq.o ω) hno.o)⟩,by simp[intOf];omega⟩)
     |(go_ret;refine⟨?_,hb9.o⟩;rw[show xZq L n g=true from xDy Hr.o (xO3 Hp.o Hq.o ω)];rfl)
   ·have Hp:=ι (show kT g x=g by simp[kT,hx0]);have Hq:=ι (show kT g y=y by simp[kT,hy0]);have hxb:(x==0)=true:=by simpa using hx0
    have hyb:(y==0)=false:=by simpa using hy0
    clear hx0 hy0;go_wp2
    all_goals first
     |(refine⟨⟨k+1,ω,by go_num,hb9,ι (xBx Hr.o (xO4 Hp.o Hq.o ω) hno.o)⟩,by simp[intOf];omega⟩)
     |(go_ret;refine⟨?_,hb9.o⟩;rw[show xZq L n g=true from xDy Hr.o (xO3 Hp.o Hq.o ω)];rfl)
   ·have Hp:=ι (show kT g x=x by simp[kT,hx0]);have Hq:=ι (show kT g y=g by simp[kT,hy0]);have hxb:(x==0)=false:=by simpa using hx0
    have hyb:(y==0)=true:=by simpa using hy0
    clear hx0 hy0;go_wp2
    all_goals first
     |(refine⟨⟨k+1,ω,by go_num,hb9,ι (xBx Hr.o (xO4 Hp.o Hq.o ω) hno.o)⟩,by simp[intOf];omega⟩)
     |(go_ret;refine⟨?_,hb9.o⟩;rw[show xZq L n g=true from xDy Hr.o (xO3 Hp.o Hq.o ω)];rfl)
   ·have Hp:=ι (show kT g x=x by simp[kT,hx0]);have Hq:=ι (show kT g y=y by simp[kT,hy0]);have hxb:(x==0)=false:=by simpa using hx0
    have hyb:(y==0)=false:=by simpa using hy0
    clear hx0 hy0;go_wp2
    all_goals first
     |(refine⟨⟨k+1,ω,by go_num,hb9,ι (xBx Hr.o (xO4 Hp.o Hq.o ω) hno.o)⟩,by simp[intOf];omega⟩)
     |(go_ret;refine⟨?_,hb9.o⟩;rw[show xZq L n g=true from xDy Hr.o (xO3 Hp.o Hq.o ω)];rfl)
  ·obtain rfl:k=L.length:=ω;have Hn:=ι (show xZq L n g=false from any_none hno.o);go_wp2;go_ret;rw[Hn.o];exact⟨rfl,hb.o⟩
end Go.Proofs.SP
namespace Go.Proofs.PT
open Go.RowKit Mailsack MM
structure wS (s:ByteArray) (w:World) (k:Nat) (wr:World):Prop where
 cells:∀j,j<s.size->wr.cell? ⟨w.heap.size,j,none⟩=some (.int .u8 (upTo s.data.toList k j).toNat)
 free:∀j,j<s.size->wr.frozen? ⟨w.heap.size,j,none⟩=false
 bel:ψ w wr
theorem wS.start (s:ByteArray) (w:World):wS s w 0 (Lib.bytesWorld w 5 s):=by
 refine⟨λj hj=>?_,λj hj=>?_,⟨rfl,rfl,rfl,?_,λk hk=>Lib.bytesWorld_at_old w _ s k hk⟩⟩
 ·rw[Lib.bytesWorld_cell w _ s j hj];simp[upTo]
 ·simp only[World.frozen?,Lib.bytesWorld_at_new];have hz:(Lib.bytesCells w 5 s).size=s.data.size+(grownCap w s.size 0 5-s.size):=by simp[Lib.bytesCells]
  have hs:s.data.size=s.size:=rfl;simp;omega
 ·rw[Lib.bytesWorld_size];omega
theorem wS.keep {s:ByteArray} {w wr:World} {k:Nat} (h:wS s w k wr) (hc:¬(97<=(s.data.toList.getD k 0).toNat/\(s.data.toList.getD k 0).toNat<=122)):wS s w (k+1) wr:=
 ⟨λj hj=>by rw[xE8 hc];exact h.cells j hj,h.free,h.bel⟩
theorem wS.put {s:ByteArray} {w wr:World} {k:Nat} (h:wS s w k wr) (hk:k<s.size) (h1:97<=(s.data.toList.getD k 0).toNat) (h2:(s.data.toList.getD k 0).toNat<=122):
  wS s w (k+1) (wr.setCell ⟨w.heap.size,k,none⟩ (.int .u8 ((s.data.toList.getD k 0).toNat-97+65))):=by
 refine⟨λj hj=>?_,λj hj=>?_,h.bel.setCell σ _⟩
 ·by_cases e:j=k
  ·subst e;rw[World.cell?_setCell_same _ _ _ (h.cells j hj),xHc,xHb h1 h2]
   congr 2;omega
  ·rw[World.cell?_setCell_other _ _ _ _ (λe'=>e (by injection e' with _ e';exact e'.symm)),xBd e];exact h.cells j hj
 ·rw[World.frozen?_setCell];exact h.free j hj
theorem vV (s:ByteArray) (w:World) (hs:s.size<4611686018427387904):
  Calls prog 234 #[.string s] w λe w'=>e=.returned (xK (upP s.data.toList))/\ψ w w':=by
 have xI7:=λW=>Lib.run_convert_string_bytes (P:=prog) W 9 125 5 s underlying9 underlying125 underlying5;have h0:=ι (wS.start s w);go_enter func234,ntmps234;go_wp2;generalize Lib.bytesWorld w 5 s=w0 at h0⊢;generalize grownCap w s.size 0 5=cap
 clear xI7
 go_loopw [10] (λiv wr=>∃k:Nat,k<=s.size/\iv=.int .i64 k/\Hid (wS s w k wr)) (λiv _=>s.size- (intOf iv).toNat)
 case atStart=>exact⟨0,Nat.zero_le _,rfl,h0⟩
 case round=>
  obtain⟨k,hk,rfl,hr⟩:=hrel
  by_cases hlt:k<s.size
  ·have hc:=hr.o.cells k hlt;have hf:=hr.o.free k hlt;rw[xDh] at hc
   by_cases hd:97<=(s.data.toList.getD k 0).toNat/\(s.data.toList.getD k 0).toNat<=122
   ·have hp:=ι (hr.o.put hlt hd.1 hd.2);generalize (s.data.toList.getD k 0).toNat=c at hc hd hp;obtain⟨h1,h2⟩:=hd;go_wp2
    go_roundw
    case rel=>exact⟨k+1,ω,by go_num,hp⟩
    case measure=>first|(simp[intOf];done)|(simp[intOf];omega)
   ·have hp:=ι (hr.o.keep hd);have yBt:(s.data.toList.getD k 0).toNat<256:=UInt8.toNat_lt _;generalize (s.data.toList.getD k 0).toNat=c at hc hd yBt;have hd:c<97∨122<c:=ω;rcases hd with hd|hd
    all_goals
     go_wp2
     go_roundw
     case rel=>exact⟨k+1,ω,by go_num,hp⟩
     case measure=>first|(simp[intOf];done)|(simp[intOf];omega)
  ·have hback:=run_convert_bytes_back (P:=prog) wr 125 9 5 ⟨w.heap.size,0,none⟩ cap (upP s.data.toList) underlying125 underlying5 underlying9 (λj hj=>by
    have hj':j<s.size:=by rw[jB,yA] at hj;exact hj
    have hadd:(⟨w.heap.size,0,none⟩:Addr).add j=⟨w.heap.size,j,none⟩:=by unfold Addr.add;split<;>simp_all
    have hks:k=s.size:=ω;rw[hadd,hr.o.cells j hj',xE9 _ j (by rw[yA];exact hj'),yA,hks])
   rw[jB,yA] at hback;go_wp2;go_ret;exact⟨rfl,hr.o.bel⟩
theorem xJ6 (s:ByteArray) (i:Nat):xK (s.data.toList.take i)=.string (s.extract 0 i):=by rw[xOb]
theorem xJ7 (s:ByteArray) (i:Nat):xK (s.data.toList.drop i)=.string (s.extract i s.size):=by rw[xC9]
def splitN (l:Bs):Nat:=if Lib.hasPrefix l [13,10]=true then 2 else if 0<=Lib.index l [13,10,13,10] then(Lib.index l [13,10,13,10]).toNat+4 else l.length
theorem xG6 {l:Bs} (h:Lib.hasPrefix l [13,10]=true):splitN l=2/\2<=l.length:=by
 refine⟨by unfold splitN;rw[if_pos h],?_⟩;have:=(List.isPrefixOf_iff_prefix.1 h).length_le;simpa using this
theorem xG7 {l:Bs} {i:Nat} (h:Lib.hasPrefix l [13,10]=false) (hi:Lib.index l [13,10,13,10]=i):splitN l=i+4/\i+4<=l.length:=by
 refine⟨by unfold splitN;rw[if_neg (by rw[h];simp),if_pos ω,hi];simp,?_⟩;have:=index_le hi;simpa using this
theorem xLg {l:Bs} (h:Lib.hasPrefix l [13,10]=false) (hi:Lib.index l [13,10,13,10]=-1):splitN l=l.length:=by
 unfold splitN;rw[if_neg (by rw[h];simp),if_neg ω]
theorem rM (s:ByteArray) (m:Int) (w:World) (hs:s.size<4294967281) (hm:w.cell? ⟨2,0,none⟩=some (.int .i64 m)):
  Calls prog 141 #[.string s] w λe w'=>e=.returned (.tuple #[xK (s.data.toList.take (splitN s.data.toList)),xK (s.data.toList.drop (splitN s.data.toList))])/\ψ w w':=by
 have Hm:=ι hm;clear hm;cases hp:Lib.hasPrefix s.data.toList [13,10]
 ·have Hp:=ι (show Lib.hasPrefix s.data.toList (⟨#[13,10]⟩:ByteArray).data.toList=false from hp);rcases xB3 s.data.toList [13,10,13,10] with h1|⟨i,h1⟩
  ·have Hi:=ι (show Lib.index s.data.toList (⟨#[13,10,13,10]⟩:ByteArray).data.toList=-1 from h1);have HN:=ι (xLg hp h1);clear hp h1;go_enter func141,ntmps141;go_wp2_with fail
   refine(Tryz.strings_HasPrefix s _ _).mono ?_;rw[Hp.o];rintro e w' ⟨rfl,rfl⟩;go_wp2_with fail
   refine(Tryz.strings_Index s _ m _ hs Hm.o).mono ?_;rw[Hi.o];rintro e w' ⟨rfl,rfl⟩;have q0:decide ((-1:Int)<0)=true:=rfl;go_wp2
   all_goals first|(exfalso;omega)|skip
   go_ret2;refine⟨?_,Below.refl _ _⟩;rw[HN.o,List.take_length,List.drop_length]
   rfl
  ·have hl:=(xG7 hp h1).2;rw[yA] at hl;have Hi:=ι (show Lib.index s.data.toList (⟨#[13,10,13,10]⟩:ByteArray).data.toList=i from h1);have HN:=ι (xG7 hp h1).1;clear hp h1;go_enter func141,ntmps141;go_wp2_with fail
   refine(Tryz.strings_HasPrefix s _ _).mono ?_;rw[Hp.o];rintro e w' ⟨rfl,rfl⟩;go_wp2_with fail
   refine(Tryz.strings_Index s _ m _ hs Hm.o).mono ?_;rw[Hi.o];rintro e w' ⟨rfl,rfl⟩;have q0:decide ((i:Int)<0)=false:=σ;have q1:(0:Int)<=(i:Int)+4:=ω;have q2:((i:Int)+4).toNat=i+4:=ω;have q3:(i:Int)+4<=(s.size:Int):=ω;go_upto_region 7 with fail
   refine RG.xH (λW=>ψ w' W) κ κ ((Below.refl _ _).drew) ?_;iterate 8 refine RG.dS ?_
   refine RG.xL (λw9 hw9=>?_);go_wp2;go_ret2;refine⟨?_,hw9⟩;rw[HN.o];rw[xJ6,xJ7]
   rfl
 ·have Hp:=ι (show Lib.hasPrefix s.data.toList (⟨#[13,10]⟩:ByteArray).data.toList=true from hp);have hl:=(xG6 hp).2;rw[yA] at hl;have HN:=ι (xG6 hp).1;clear hp;have q3:(2:Int)<=(s.size:Int):=ω;go_enter func141,ntmps141;go_wp2_with fail
  refine(Tryz.strings_HasPrefix s _ _).mono ?_;rw[Hp.o];rintro e w' ⟨rfl,rfl⟩;go_upto_region 2 with fail
  refine RG.xH (λW=>ψ w' W) κ κ ((Below.refl _ _).drew) ?_;iterate 6 refine RG.dS ?_
  refine RG.xL (λw9 hw9=>?_);go_wp2;go_ret2;refine⟨?_,hw9⟩;rw[HN.o,xJ6,xJ7]
  rfl
theorem xEu (s t:ByteArray) (m:Int) (w:World) (hs:s.size<4294967281) (ht:t.size<4294967281) (hm:w.cell? ⟨2,0,none⟩=some (.int .i64 m)):
  Calls prog 140 #[.string s,.string t] w λe w'=>e=.returned (.bool (hasP s.data.toList t.data.toList))/\ψ w w':=by
 have hw0:2<w.heap.size:=World.block_lt_of_cell? w _ hm;have Hm:=ι hm;clear hm;go_enter func140,ntmps140;go_wp2_with fail
 refine(vV s _ ω).mono ?_;rintro e w1 ⟨rfl,hb1⟩;go_wp2_with fail
 refine(vV t _ ω).mono ?_;rintro e w2 ⟨rfl,hb2⟩;have hb:ψ w w2:=hb1.trans (hb2.mono hb1.size);go_wp2_with fail
 refine(Tryz.strings_Contains _ _ m _ (by rw[<-yA];show(upP s.data.toList).length<_;rw[jB,yA];exact hs) ((hb.cell hw0).trans Hm.o)).mono ?_;rintro e w3 ⟨rfl,rfl⟩;go_wp2;go_ret;exact⟨rfl,hb⟩
theorem xHu {E:TypeId} {size:Nat} {w w2 w1:World} {B n:Nat} {tv:Value} {xs:List Value} {o:Obj} (hT:w2.ownsRow B E size tv n xs) (hg:(w2.alloc o).grownBy w1 tv.ownBlock) (hb:Below B w w2) (hB:B<=w2.heap.size):Below B w w1:=
 (hb.alloc hB o).grown hg (by simp;omega) (λk hk=>(World.ownsRow.lt hT k hk).1)
def stands (S T:ByteArray) (k:Nat):Prop:=k+T.size<=S.size/\S.extract k (k+T.size)=T
theorem yBj:(prog.info? 9).map (λi=>(i.zero,i.size,i.bytes))=some (some (.string ⟨#[]⟩),1,16):=κ
theorem xN2 (s:ByteArray) (w:World) (hs:s.size<=9223372036854775807):
  Calls prog 380 #[.string s,.string ⟨#[32,9]⟩] w λe w'=>e=.returned (xK (Lib.trimS s.data.toList [32,9]))/\ψ w w':=
 Any.strings_Trim_laid Tryz.lays160 κ s ⟨#[32,9]⟩ w hs δ (ascii_of_all δ)
theorem xYq (s:ByteArray) (h:0<s.size):yL s.data.toList=(s[0]==32||s[0]==9):=by
 rcases s with ⟨⟨l⟩⟩;rcases l with _|⟨c,r⟩
 ·exact absurd h (Nat.lt_irrefl _)
 ·rfl
theorem xP9 (s:ByteArray) (h:0<s.size):s.toList.isEmpty=false:=by
 rw[ByteArray.toList_eq,List.isEmpty_eq_false_iff,ne_eq,<-List.length_eq_zero_iff,yA];omega
theorem xDw (s:ByteArray) (w:World):
  Calls prog 379 #[.string s] w λe w'=>e=.returned (.bool (yL s.data.toList))/\w=w':=by
 by_cases h0:0<s.size
 ·have Hc:=ι (xYq s h0);have e1:=xP9 s h0;have e2:(!s.toList.isEmpty)=true:=by rw[e1];rfl
  have hi:(0:Int)<(s.size:Int):=ω
  by_cases h32:s[0]=32
  ·have b1:((s[0].toNat:Int)==32)=true:=by rw[h32];rfl
   have Hv:=ι (show yL s.data.toList=true by rw[Hc.o,h32];rfl);clear h32 Hc;rw[Hv.o];go_enter func379,ntmps379;go_wp2;go_ret;exact⟨rfl,rfl⟩
  ·have b1:((s[0].toNat:Int)==32)=false:=by rw[beq_eq_false_iff_ne];intro e;exact h32 ((vO δ).1 e)
   have d1:(s[0]==32)=false:=by simpa using h32
   by_cases h9:s[0]=9
   ·have b2:((s[0].toNat:Int)==9)=true:=by rw[h9];rfl
    have Hv:=ι (show yL s.data.toList=true by rw[Hc.o,h9];rfl);clear h32 h9 d1 Hc;rw[Hv.o];go_enter func379,ntmps379;go_wp2;go_ret;exact⟨rfl,rfl⟩
   ·have b2:((s[0].toNat:Int)==9)=false:=by rw[beq_eq_false_iff_ne];intro e;exact h9 ((vO δ).1 e)
    have d2:(s[0]==9)=false:=by simpa using h9
    have Hv:=ι (show yL s.data.toList=false by rw[Hc.o,d1,d2];rfl);clear h32 h9 d1 d2 Hc;rw[Hv.o];go_enter func379,ntmps379;go_wp2;go_ret;exact⟨rfl,rfl⟩
 ·have:s=⟨#[]⟩:=by
   rcases s with ⟨⟨l⟩⟩;rcases l with _|⟨c,r⟩
   ·rfl
   ·exact absurd (Nat.succ_pos _) h0
  subst this;go_enter func379,ntmps379;go_wp2;go_ret;exact⟨rfl,rfl⟩
end Go.Proofs.PT