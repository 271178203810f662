/- Contracts of functions. Conditions: as stated. -/
import Derived.Test.YtacahegificeoaaGreatDoorImapLoginsProofB43
set_option maxHeartbeats 8000000
set_option maxRecDepth 100000
namespace Mailsack
def xAs:List Bs->Bs
 |[]=>[]
 |[x]=>x
 |x::y::l=>x++32::xAs (y::l)
theorem xKn {x r:Bs} (h:x.all (λc=>!uV c)=true) (hr:∀c r',r=c::r'->uV c=true):jP (x++r)=x.length:=by
 unfold jP;rw[List.takeWhile_append_of_pos (λc hc=>List.all_eq_true.1 h c hc)];cases r with
 |nil=>simp
 |cons c r'=>rw[List.takeWhile_cons,hr c r' rfl];simp
theorem xPi {f:Nat} {x r:Bs} {T:List Tok} {d:Nat} (hw:isWord x=true) (hr:∀c r',r=c::r'->uV c=true):wM (f+1) (x++r) T d=wM f r (kL T (0,x)) d:=by
 unfold isWord at hw;simp only[Bool.and_eq_true,decide_eq_true_eq] at hw;have hl:=xKn hw.2 hr;cases x with
 |nil=>exact absurd hw.1 σ
 |cons c x=>
  have hc:uV c=false:=by
   have:=List.all_eq_true.1 hw.2 c σ;simpa using this
  have hc':=hc;unfold uV at hc';simp only[Bool.or_eq_false_iff,beq_eq_false_iff_ne] at hc';obtain⟨⟨⟨h1,h2⟩,h3⟩,h4⟩:=hc';rw[List.cons_append] at hl⊢;show(if c=32 then _ else _)=_;rw[if_neg h1,if_neg h2,if_neg h3,if_neg h4,hl,<-List.cons_append,List.drop_left,List.take_left]
theorem xL1:∀(l:List Bs) (f:Nat) (T:List Tok),(∀x∈l,isWord x=true)->(xAs l).length<=f->T.length+l.length<=41->wM f (xAs l) T 0=some (T++l.map (λx=>(0,x)),0)
 |[],f,T,_,_,_=>by cases f<;>simp[xAs,wM]
 |[x],f,T,hw,hf,hT=>by
  have hx:=hw x σ
  have hp:0<x.length:=by
   unfold isWord at hx;simp only[Bool.and_eq_true,decide_eq_true_eq] at hx;exact hx.1
  simp only[xAs] at hf⊢;obtain⟨f,rfl⟩:∃g,f=g+1:=⟨f-1,ω⟩;have:=xPi (f:=f) (r:=[]) (T:=T) (d:=0) hx σ;rw[List.append_nil] at this;rw[this];have ha:kL T (0,x)=T++[(0,x)]:=by unfold kL;rw[if_pos (by simp at hT;omega)]
  rw[ha];cases f<;>simp[wM]
 |x::y::l,f,T,hw,hf,hT=>by
  have hx:=hw x σ
  have hp:0<x.length:=by
   unfold isWord at hx;simp only[Bool.and_eq_true,decide_eq_true_eq] at hx;exact hx.1
  simp only[xAs,List.length_append,List.length_cons] at hf⊢;obtain⟨f,rfl⟩:∃g,f=g+1+1:=⟨f-2,ω⟩;rw[xPi hx (by rintro c r' e;injection e with e _;subst e;rfl)];have ha:kL T (0,x)=T++[(0,x)]:=by unfold kL;rw[if_pos (by simp at hT;omega)]
  rw[ha];show(if (32:UInt8)=32 then wM f (xAs (y::l)) (T++[(0,x)]) 0 else _)=_;rw[if_pos rfl,xL1 (y::l) f (T++[(0,x)]) (λz hz=>hw z (by simp[hz])) ω (by simp at hT⊢;omega)];simp
theorem xI5:∀(l:List Bs),(∀x∈l,uQ x=true)->uQ (xAs l)=true
 |[],_=>rfl
 |[x],h=>h x σ
 |x::y::l,h=>by
  have h1:=h x σ;have h2:=xI5 (y::l) (λz hz=>h z (by simp[hz]));unfold uQ at h1 h2⊢;simp only[xAs,List.all_append,List.all_cons,h1,h2]
  rfl
theorem xN9 (l:List Bs) (h1:∀x∈l,isWord x=true) (h2:∀x∈l,uQ x=true) (hl:l.length<=40):rV [xAs l] []=some (l.map (λx=>(0,x))):=by
 have hs:=xL1 l (xAs l).length [] h1 ν (by simp;omega);unfold rV;rw[if_pos (show[xAs l].length=([]:List Bs).length+1 from rfl)];simp only[xCh,xI5 l h2,if_true,Nat.lt_irrefl,if_false,hs,List.nil_append];rw[if_pos ⟨trivial,by simpa using hl⟩]
end Mailsack
namespace Go.Proofs.IM
open Go.RowKit MM BU Mailsack VB
def xEc (x:Bs):Prop:=isWord x=true/\uQ x=true/\x.length<=60
def WordsB (L:List Bs) (e:Ending):Prop:=∃r,e=.returned (.bool r)/\(r=true->∀x∈L,xEc x)
theorem xZa {L:List Bs} (h:∀(j:Nat) x,j<L.length->L[j]?=some x->xEc x):∀x∈L,xEc x:=λx hx=>by
 obtain⟨j,hj⟩:=List.mem_iff_getElem?.1 hx;exact h j x (List.getElem?_eq_some_iff.1 hj).1 hj
theorem xUe (v:Value) (L:List Bs) (w:World) (h:RdS w w.heap.size v L) (hl:L.length<=1000000) (hL:∀x∈L,x.length<=9223372036854775807):
  Calls Tryz.prog 5 #[v] w λe w'=>WordsB L e/\w'=w:=by
 obtain⟨A,c,rfl,hc,hcell⟩:=h;have Hc:=ι hcell;have HLs:=ι hL;clear hcell hL;go_enter Tryz.func5,Tryz.ntmps5;go_wp2
 go_loop [8] (λiv=>∃k:Nat,k<=L.length/\iv=.int .i64 k/\Hid (∀(j:Nat) x,j<k->L[j]?=some x->xEc x)) (λiv=>L.length- (intOf iv).toNat)
 case atStart=>exact⟨0,Nat.zero_le _,rfl,ι (λj x hj _=>by omega)⟩
 case round=>
  obtain⟨k,hk,rfl,hr⟩:=hrel
  by_cases hlt:k<L.length
  ·obtain⟨b,off,rfl,hb,hcl⟩:=Hc.o ω;obtain⟨x,hx⟩:∃x,L[k]?=some x:=⟨_,List.getElem?_eq_getElem hlt⟩;obtain⟨xb,hxb⟩:∃xb:ByteArray,(⟨x.toArray⟩:ByteArray)=xb:=⟨_,rfl⟩;have q:w.cell? ⟨b,off+k,none⟩=some (.string xb):=by rw[<-hxb];exact hcl k x hx
   have hxm:xb.size<=9223372036854775807:=by rw[<-hxb];exact HLs.o x (List.mem_of_getElem? hx)
   have HX:Hid (xb.data.toList=x):=ι (by rw[<-hxb]);have HXK:=ι hx;clear hxb hcl hx
   by_cases h0:xb.toList=[]
   ·have e0:(xb.toList==[])=true:=by simp[h0]
    clear h0;go_wp2;go_ret;exact⟨⟨_,rfl,λh=>by simp at h⟩,rfl⟩
   ·have e0:(xb.toList==[])=false:=by simp[h0]
    have HNE:Hid (0<xb.size):=ι (by
     rcases Nat.eq_zero_or_pos xb.size with e|e
     ·exact absurd (by rw[ByteArray.toList_eq];exact List.eq_nil_of_length_eq_zero (by simpa using e)) h0
     ·exact e)
    clear h0
    by_cases h60:60<xb.size
    ·have h60':(60:Int)<(xb.size:Int):=by omega
     go_wp2;go_ret;exact⟨⟨_,rfl,λh=>by simp at h⟩,rfl⟩
    ·have h60':¬((60:Int)<(xb.size:Int)):=by omega
     have HPL:=ι (xRt xb w ω);obtain⟨pl,hpl⟩:∃pl,uQ xb.data.toList=pl:=⟨_,rfl⟩;rw[hpl] at HPL;have HP:=ι hpl;clear hpl;go_wp2_with fail
     refine HPL.o.mono ?_;rintro e w1 ⟨rfl,rfl⟩;clear HPL;cases pl with
     |false=>
      go_wp2;go_ret;exact⟨⟨_,rfl,λh=>by simp at h⟩,rfl⟩
     |true=>
      go_wp2_with fail
      go_loop [26] (λiv=>∃m:Nat,m<=xb.size/\iv=.int .i64 m/\Hid ((xb.data.toList.take m).all (λc=>!uV c)=true)) (λiv=>xb.size- (intOf iv).toNat)
      case atStart=>exact⟨0,Nat.zero_le _,rfl,ι rfl⟩
      case round=>
       obtain⟨m,hm,rfl,hs⟩:=hrel
       by_cases hlm:m<xb.size
       ·have b1:((xb[m].toNat:Int)==32)=(xb[m]==32):=by rw[Bool.eq_iff_iff,beq_iff_eq,beq_iff_eq];exact qK (n:=32) δ
        have b2:((xb[m].toNat:Int)==40)=(xb[m]==40):=by rw[Bool.eq_iff_iff,beq_iff_eq,beq_iff_eq];exact qK (n:=40) δ
        have b3:((xb[m].toNat:Int)==41)=(xb[m]==41):=by rw[Bool.eq_iff_iff,beq_iff_eq,beq_iff_eq];exact qK (n:=41) δ
        have b4:((xb[m].toNat:Int)==34)=(xb[m]==34):=by rw[Bool.eq_iff_iff,beq_iff_eq,beq_iff_eq];exact qK (n:=34) δ
        have HST:Hid (uV xb[m]=false->(xb.data.toList.take (m+1)).all (λc=>!uV c)=true):=ι (λhsp=>by
         have hg:xb.data.toList[m]?=some xb[m]:=by
          rw[List.getElem?_eq_getElem (by simpa using hlm)]
          rfl
         rw[List.take_add_one,hg,List.all_append,hs.o];simp[hsp])
        have HSP:Hid (uV xb[m]=((xb[m]==32)||(xb[m]==40)||(xb[m]==41)||(xb[m]==34))):=ι rfl;cases h1:xb[m]==32<;>rw[h1] at b1 HSP
        ·cases h2:xb[m]==40<;>rw[h2] at b2 HSP
         ·cases h3:xb[m]==41<;>rw[h3] at b3 HSP
          ·cases h4:xb[m]==34<;>rw[h4] at b4 HSP
           ·have HN:=ι (HST.o HSP.o);clear h1 h2 h3 h4;go_wp2
            go_round
            case rel=>exact⟨m+1,ω,by go_num,HN⟩
            case measure=>simp[intOf];omega
           ·clear h1 h2 h3 h4;go_wp2;go_ret;exact⟨⟨_,rfl,λh=>by simp at h⟩,rfl⟩
          ·clear h1 h2 h3;go_wp2;go_ret;exact⟨⟨_,rfl,λh=>by simp at h⟩,rfl⟩
         ·clear h1 h2;go_wp2;go_ret;exact⟨⟨_,rfl,λh=>by simp at h⟩,rfl⟩
        ·clear h1;go_wp2;go_ret;exact⟨⟨_,rfl,λh=>by simp at h⟩,rfl⟩
       ·have HK:Hid (∀(j:Nat) y,j<k+1->L[j]?=some y->xEc y):=ι (λj y hj hy=>by
         by_cases e:j=k
         ·subst e;rw[HXK.o] at hy;injection hy with hy;subst hy;rw[<-HX.o];refine⟨?_,HP.o,by simp;omega⟩;unfold isWord;rw[Bool.and_eq_true];refine⟨by have:=HNE.o;simpa using this,?_⟩;have:=hs.o
          rwa [List.take_of_length_le (by simp;omega)] at this
         ·exact hr.o j y ω hy)
        go_wp2
        go_round
        case rel=>exact⟨k+1,ω,by go_num,HK⟩
        case measure=>simp[intOf];omega
  ·have HK:Hid (∀x∈L,xEc x):=ι (xZa (λj x hj hx=>hr.o j x ω hx));go_wp2;go_ret;exact⟨⟨_,rfl,λ_=>HK.o⟩,rfl⟩
end Go.Proofs.IM
namespace Go.Proofs.IM
open Go.RowKit MM BU Mailsack SV RK DS IX Go.Proofs.VA
theorem xWc (b:Nat) (su:ByteArray) (w:World) (h:w.cell? ⟨b,2,none⟩=some (.string su)):
  Calls Tryz.prog 26 #[xY0 b,.int .i64 1] w λe w'=>e=.returned (.bool (su.toList==[]))/\w'=w:=by
 generalize hq:(su.toList==[])=q;go_enter Tryz.func26,Tryz.ntmps26;go_wp2;go_ret;exact⟨rfl,rfl⟩
theorem yE7 (u pw:ByteArray):(⟨#[116,32,76,79,71,73,78,32]⟩:ByteArray)++u++⟨#[32]⟩++pw=⟨(xAs [[116],[76,79,71,73,78],u.data.toList,pw.data.toList]).toArray⟩:=by
 apply ByteArray.ext;simp[xAs]
theorem yBi (d0 d1 bv sv:Value) (su sp so bx f1 f2 f3 f4 f5:ByteArray) (se gv rd:Int) (o1 o2:Bool) (d:Dk) (u pw:ByteArray) (w:World) (hD:RdD w w.heap.size d0 d1 d) (hu:xEc u.data.toList) (hp:xEc pw.data.toList) (hc:d.cache.length<=10000) (hT:VaT w)
  (h1:bv.oneCell'=true) (h2:sv.oneCell'=true):
  Calls Tryz.prog 7 #[.agg #[d0,d1],.agg #[.string su,.string sp,.string so,.int .i64 se,bv,sv,.int .i64 gv,.string bx,.bool o1,.bool o2],.string ((⟨#[116,32,76,79,71,73,78,32]⟩:ByteArray)++u++⟨#[32]⟩++pw),.agg #[.string f1,.string f2,.string f3,.string f4,.string f5,.int .i64 rd]] w
   (xB6 (λvs l W=>su=⟨#[]⟩/\LgK d u pw f1 d0 d1 (.string bx) (.bool o1) (.bool o2) vs l W) (su=⟨#[]⟩/\lgE d u pw f1≠0) (su≠⟨#[]⟩) d0 d1 (.string su) (.string sp) (.string so) (.int .i64 se) bv sv (.int .i64 gv) (.string bx) (.bool o1) (.bool o2) [116] w):=by
 rw[yE7]
 have hone:∀v∈[d0,d1,.string su,.string sp,.string so,.int .i64 se,bv,sv,.int .i64 gv,.string bx,.bool o1,.bool o2],v.oneCell'=true:=by
  obtain⟨A1,c1,A2,c2,rfl,rfl⟩:=yE hD;intro v hv;simp only[List.mem_cons,List.not_mem_nil,or_false] at hv;rcases hv with rfl|rfl|rfl|rfl|rfl|rfl|rfl|rfl|rfl|rfl|rfl|rfl<;>first|rfl|exact h1|exact h2
 have hK:∀vs l,Stb (λW=>su=⟨#[]⟩/\LgK d u pw f1 d0 d1 (.string bx) (.bool o1) (.bool o2) vs l W):=λvs l=>
  ⟨λh hs=>⟨h.1,(LgK.stb _ _ _ _ _ _ _ _ _ vs l).still h.2 hs⟩,λxs h hg ho=>⟨h.1,(LgK.stb _ _ _ _ _ _ _ _ _ vs l).put xs h.2 hg ho⟩⟩
 have hlen:(xAs [[116],[76,79,71,73,78],u.data.toList,pw.data.toList]).length<=1000000:=by
  have h1:=hu.2.2;have h2:=hp.2.2;simp only[xAs,List.length_append,List.length_cons,List.length_nil];omega
 refine xLs _ _ _ d0 d1 _ _ _ _ _ _ _ _ _ _ _ _ _ _ _ _ [116] _ w hK hone (λW xv hb hx=>?_)
 refine yCj _ _ _ d0 d1 _ _ _ _ _ _ _ _ _ _ _ _ _ _ _ _ xv (.slice none 0 0) [xAs [[116],[76,79,71,73,78],u.data.toList,pw.data.toList]] [] [116] [76,79,71,73,78] [76,79,71,73,78] [(0,u.data.toList),(0,pw.data.toList)] 1 54 (su.toList==[]) W hK hx (VB.xPk W _)
  (λx hx=>by rw[List.mem_singleton.1 hx];exact hlen) σ σ hone
  (xN9 [[116],[76,79,71,73,78],u.data.toList,pw.data.toList] (by
   intro x hx;simp only[List.mem_cons,List.not_mem_nil,or_false] at hx;rcases hx with rfl|rfl|rfl|rfl
   ·decide
   ·decide
   ·exact hu.1
   ·exact hp.1) (by
   intro x hx;simp only[List.mem_cons,List.not_mem_nil,or_false] at hx;rcases hx with rfl|rfl|rfl|rfl
   ·decide
   ·decide
   ·exact hu.2.1
   ·exact hp.2.1) σ) δ δ δ δ δ
  (List.mem_of_getElem? (i:=3) rfl) (λv hv=>by simpa[vD] using hv) (λargs W=>enters_of Tryz.func54 κ rfl args W)
  (λb sl W h=>xWc b su W (xA h 2)) (λh e=>by rw[e,ByteArray.toList_eq] at h;simp at h) (λhmt b sl W2 hb2 hle hC hA=>?_)
 have hsu:su=⟨#[]⟩:=by
  have h3:su.toList=[]:=by simpa using hmt
  rw[ByteArray.toList_eq] at h3;exact ByteArray.ext (by simpa using h3)
 subst hsu;have hbw:=hb.trans (hb2.mono hb.size)
 refine(xWf b d0 d1 _ _ _ _ _ _ _ _ _ _ _ _ _ _ sl d u pw f1 W2 hC (by intro v hv;simp at hv;rcases hv with rfl|rfl|rfl<;>rfl) ((hD.below hbw ν).more (Nat.le_trans hb.size hle)) hA (by have:=hu.2.2;simp at this;omega) (by have:=hp.2.2;simp at this;omega) hc (hT.below hbw)).mono ?_
 rintro e W3 (⟨v0,v1,v2,v3,v4,v5,v6,v7,v8,v9,v10,v11,vp,vq,l,rfl,hcm,hk,ho,hl,hb5⟩|⟨rfl,hn,hb5⟩|⟨_,hn,_⟩)
 ·exact .inl ⟨v0,v1,v2,v3,v4,v5,v6,v7,v8,v9,v10,v11,vp,vq,l,rfl,hcm,⟨rfl,hk⟩,ho,hl,hb5⟩
 ·exact .inr (.inl ⟨rfl,⟨rfl,hn⟩,hb5⟩)
 ·exact hn.elim
end Go.Proofs.IM
namespace Mailsack
def xO8 (C:List Wr) (i:Nat):Nat->Option Bs
 |0=>none
 |m+1=>if (C.getD m ⟨0,[]⟩).at_=(i:Int) then some (C.getD m ⟨0,[]⟩).data else xO8 C i m
def xJ2 (d:Dk) (i:Nat):Bs:=match xO8 d.cache i d.cache.length with
 |some x=>x
 |none=>d.secs.getD i []
end Mailsack
namespace Go.Proofs.VA
open Go.RowKit Mailsack MM BB SH SV RK DS IX Go.Proofs.ST
theorem xZw (va vb:Value) (d:Dk) (i:Nat) (w:World) (h:RdD w w.heap.size va vb d) (hr:yZ d=true) (hi:i<d.secs.length):
  Calls Tryz.prog 18 #[.agg #[va,vb],.int .i64 i] w λe w'=>e=.returned (.tuple #[xO (xJ2 d i),.int .i64 0])/\Below w.heap.size w w':=by
 obtain⟨A1,c1,A2,c2,rfl,rfl⟩:=yE h;have HR:=ι (λW (hb:Below w.heap.size w W)=>wE (.slice A1 d.secs.length c1) (.slice A2 d.cache.length c2) d W ((h.below hb ν).more hb.size));rw[hr] at HR
 have HD:Hid (∀W,Below w.heap.size w W->RdD W w.heap.size (.slice A1 d.secs.length c1) (.slice A2 d.cache.length c2) d):=ι (λW hb=>h.below hb ν);have HE:Hid (∀x,xO8 d.cache i d.cache.length=x->xJ2 d i=match x with|some x=>x|none=>d.secs.getD i []):=ι (λx e=>by rw[<-e];rfl)
 generalize xJ2 d i=rp at HE⊢;have hi1:¬(d.secs.length<=i):=by omega
 have hi2:¬((d.secs.length:Int)<=(i:Int)):=by omega
 have hi3:¬((i:Int)<0):=by omega
 clear h hr;go_enter Tryz.func18,Tryz.ntmps18;go_upto_region 1 with fail
 have H1:=ι (And.intro (xL w (xX (.slice A1 d.secs.length c1) (.slice A2 d.cache.length c2))) ((Below.refl w.heap.size w).alloc ν (xX (.slice A1 d.secs.length c1) (.slice A2 d.cache.length c2))))
 obtain⟨w1,hw1⟩:∃w1,w.alloc (xX (.slice A1 d.secs.length c1) (.slice A2 d.cache.length c2))=w1:=⟨_,rfl⟩;rw[hw1] at H1;rw[hw1];clear hw1;have hb:=H1.o.1;obtain⟨e0,e1⟩:=zQ hb;clear hb;go_wp2_with fail
 refine(HR.o _ H1.o.2).mono ?_;rintro e w2 ⟨rfl,hb2⟩;have H2:=ι (And.intro (xB H1.o.1 hb2 (xG H1.o.1)) (H1.o.2.trans (hb2.mono H1.o.2.size)));clear H1 HR hb2 e0 e1;have hb:=H2.o.1;obtain⟨e0,e1⟩:=zQ hb;clear hb;have hlc:d.cache.length<=1000000:=(HD.o _ H2.o.2).lc;go_wp2_with fail
 clear e0 e1
 go_loopw [6] (λiv wr=>∃m:Nat,m<=d.cache.length/\iv=.int .i64 ((m:Int)-1)/\Hid (xO8 d.cache i d.cache.length=xO8 d.cache i m/\wr.heap[w.heap.size]?=some (xX (.slice A1 d.secs.length c1) (.slice A2 d.cache.length c2))/\Below w.heap.size w wr)) (λiv _=>(intOf iv+1).toNat)
 case atStart=>exact⟨_,Nat.le_refl _,rfl,ι ⟨rfl,H2.o.1,H2.o.2⟩⟩
 case round=>
  obtain⟨m,hm,rfl,HI⟩:=hrel;rcases m with _|k
  ·rw[show(((0:Nat):Int)-1)=-1 from rfl];have HE2:=ι (HE.o _ HI.o.1);simp only[xO8] at HE2
   obtain⟨b,off,rfl,hbw,hcs⟩:∃b off,A1=some ⟨b,off,none⟩/\b<w.heap.size/\wr.cell? ⟨b,off+i,none⟩=some (xO (d.secs.getD i [])):=by
    obtain⟨A,c,e1,_,h3⟩:=(HD.o _ HI.o.2.2).s;obtain⟨b,off,h4,h5,h6⟩:=h3 ω;injection e1 with e1 _ e3;subst e1 e3;exact⟨b,off,h4,h5,by rw[List.getD_eq_getElem?_getD,List.getElem?_eq_getElem hi];exact h6 i _ (List.getElem?_eq_getElem hi)⟩
   have hb:=HI.o.2.1;obtain⟨e0,e1⟩:=zQ hb;have HB:=ι HI.o.2.2;clear hb HI;rw[<-HE2.o] at hcs;go_wp2;go_ret2;exact⟨rfl,HB.o⟩
  ·rw[show(((k+1:Nat):Int)-1)=(k:Int) by omega];have hx:d.cache[k]?=some d.cache[k]:=List.getElem?_eq_getElem ω;have HI3:=HI.o.1;simp only[xO8] at HI3;rw[show d.cache.getD k ⟨0,[]⟩=d.cache[k] by rw[List.getD_eq_getElem?_getD,hx];rfl] at HI3;generalize d.cache[k]=x at hx HI3
   obtain⟨b,off,rfl,hbw,hc1,hc2⟩:∃b off,A2=some ⟨b,off,none⟩/\b<w.heap.size/\wr.cell? ⟨b,off+k*2,none⟩=some (.int .i64 x.at_)/\wr.cell? ⟨b,off+k*2+1,none⟩=some (xO x.data):=by
    obtain⟨A,c,e1,_,h3⟩:=(HD.o _ HI.o.2.2).c;obtain⟨b,off,h4,h5,h6⟩:=h3 ω;injection e1 with e1 _ e3;subst e1 e3;exact⟨b,off,h4,h5,(h6 k x hx).1,(h6 k x hx).2⟩
   have hb:=HI.o.2.1;obtain⟨e0,e1⟩:=zQ hb;have HB:=ι HI.o.2.2;have HBK:=ι HI.o.2.1;have hk1:k<d.cache.length:=by omega
   clear hb HI hx
   by_cases hxi:x.at_=(i:Int)
   ·rw[if_pos hxi] at HI3;have HE2:=ι (HE.o _ HI3);have hxe:(x.at_==(i:Int))=true:=by simpa using hxi
    have HXD:Hid (rp=x.data):=ι HE2.o;rw[<-HXD.o] at hc2;clear HE2 HXD HI3 hxi;go_wp2;go_ret2;exact⟨rfl,HB.o⟩
   ·rw[if_neg hxi] at HI3;have hxe:(x.at_==(i:Int))=false:=by simpa using hxi
    have HI4:=ι HI3;clear HI3;go_wp2;exact⟨⟨k,ω,rfl,ι ⟨HI4.o,HBK.o,HB.o⟩⟩,by simp only[intOf];omega⟩
def rdG (d:Dk) (i:Nat):Bs:=if yZ d=true then xJ2 d i else[]
def rdE (d:Dk):Int:=if yZ d=true then 0 else 1
theorem xL9 (va vb:Value) (d:Dk) (i:Nat) (w:World) (h:RdD w w.heap.size va vb d) (hi:i<d.secs.length):
  Calls Tryz.prog 18 #[.agg #[va,vb],.int .i64 i] w λe w'=>e=.returned (.tuple #[xO (rdG d i),.int .i64 (rdE d)])/\Below w.heap.size w w':=by
 cases hr:yZ d with
 |true=>
  have:=xZw va vb d i w h hr hi;unfold rdG rdE;rw[hr];exact this
 |false=>
  unfold rdG rdE;rw[hr];obtain⟨A1,c1,A2,c2,rfl,rfl⟩:=yE h;have HR:=ι (λW (hb:Below w.heap.size w W)=>wE (.slice A1 d.secs.length c1) (.slice A2 d.cache.length c2) d W ((h.below hb ν).more hb.size));rw[hr] at HR;clear h hr;go_enter Tryz.func18,Tryz.ntmps18
  go_upto_region 1 with fail
  have H1:=ι (And.intro (xL w (xX (.slice A1 d.secs.length c1) (.slice A2 d.cache.length c2))) ((Below.refl w.heap.size w).alloc ν (xX (.slice A1 d.secs.length c1) (.slice A2 d.cache.length c2))))
  obtain⟨w1,hw1⟩:∃w1,w.alloc (xX (.slice A1 d.secs.length c1) (.slice A2 d.cache.length c2))=w1:=⟨_,rfl⟩;rw[hw1] at H1;rw[hw1];clear hw1;have hb:=H1.o.1;obtain⟨e0,e1⟩:=zQ hb;clear hb;go_wp2_with fail
  refine(HR.o _ H1.o.2).mono ?_;rintro e w2 ⟨rfl,hb2⟩;have HB:=ι (H1.o.2.trans (hb2.mono H1.o.2.size));clear H1 HR hb2 e0 e1;go_wp2;go_ret2;exact⟨rfl,HB.o⟩
theorem xDp (va vb ua ub:Value) (d:Dk) (w:World) (h:RdD w w.heap.size va vb d) (h2:RdD w w.heap.size ua ub d):
  Calls Tryz.prog 9 #[.agg #[va,vb],.agg #[ua,ub]] w λe w'=>e=.returned (.bool true)/\Below w.heap.size w w':=by
 obtain⟨A1,c1,A2,c2,rfl,rfl⟩:=yE h;obtain⟨A3,c3,A4,c4,rfl,rfl⟩:=yE h2;have HR:=ι (λ(i:Nat) W (hb:Below w.heap.size w W) (hi:i<d.secs.length)=>xL9 (.slice A1 d.secs.length c1) (.slice A2 d.cache.length c2) d i W ((h.below hb ν).more hb.size) hi)
 have HS:=ι (λ(i:Nat) W (hb:Below w.heap.size w W) (hi:i<d.secs.length)=>xL9 (.slice A3 d.secs.length c3) (.slice A4 d.cache.length c4) d i W ((h2.below hb ν).more hb.size) hi);have hls:d.secs.length<=1000000:=h.ls
 have hb0:=((Below.refl w.heap.size w).alloc ν (xX (.slice A1 d.secs.length c1) (.slice A2 d.cache.length c2))).alloc σ (xX (.slice A3 d.secs.length c3) (.slice A4 d.cache.length c4))
 have H1:Hid (((w.alloc (xX (.slice A1 d.secs.length c1) (.slice A2 d.cache.length c2))).alloc (xX (.slice A3 d.secs.length c3) (.slice A4 d.cache.length c4))).heap[w.heap.size]?=some (xX (.slice A1 d.secs.length c1) (.slice A2 d.cache.length c2))/\((w.alloc (xX (.slice A1 d.secs.length c1) (.slice A2 d.cache.length c2))).alloc (xX (.slice A3 d.secs.length c3) (.slice A4 d.cache.length c4))).heap[w.heap.size+1]?=some (xX (.slice A3 d.secs.length c3) (.slice A4 d.cache.length c4))/\Below w.heap.size w ((w.alloc (xX (.slice A1 d.secs.length c1) (.slice A2 d.cache.length c2))).alloc (xX (.slice A3 d.secs.length c3) (.slice A4 d.cache.length c4)))):=ι ⟨zG _ _ _,yX _ _ _,hb0⟩
 clear h h2 hb0;go_enter Tryz.func9,Tryz.ntmps9;go_upto_region 1 with fail
 obtain⟨w1,hw1⟩:∃w1,(w.alloc (xX (.slice A1 d.secs.length c1) (.slice A2 d.cache.length c2))).alloc (xX (.slice A3 d.secs.length c3) (.slice A4 d.cache.length c4))=w1:=⟨_,rfl⟩;rw[hw1] at H1;rw[hw1];clear hw1;have hb:=H1.o.1;have hd:=H1.o.2.1;obtain⟨e0,e1⟩:=zQ hb
 obtain⟨o0,o1⟩:=zQ hd;clear hb hd;go_upto_region 3 with fail
 go_wp2_with fail
 clear e0 e1 o0 o1
 go_loopw [20] (λiv wr=>∃k:Nat,k<=d.secs.length/\iv=.int .i64 k/\Hid (wr.heap[w.heap.size]?=some (xX (.slice A1 d.secs.length c1) (.slice A2 d.cache.length c2))/\wr.heap[w.heap.size+1]?=some (xX (.slice A3 d.secs.length c3) (.slice A4 d.cache.length c4))/\Below w.heap.size w wr)) (λiv _=>d.secs.length- (intOf iv).toNat)
 case atStart=>exact⟨0,Nat.zero_le _,rfl,H1⟩
 case round=>
  obtain⟨k,hk,rfl,HI⟩:=hrel
  by_cases hlt:k<d.secs.length
  ·have hb:=HI.o.1;obtain⟨e0,e1⟩:=zQ hb;clear hb;have hlt2:((k:Int)<(d.secs.length:Int)):=by omega
   go_wp2_with fail
   refine(HR.o k _ HI.o.2.2 hlt).mono ?_;rintro e w2 ⟨rfl,hb2⟩;have H2:=ι (And.intro (xB HI.o.1 hb2 (xG HI.o.1)) (And.intro (xB HI.o.2.1 hb2 (xG HI.o.2.1)) (HI.o.2.2.trans (hb2.mono HI.o.2.2.size))));clear HI hb2 e0 e1;have hb:=H2.o.2.1;obtain⟨e0,e1⟩:=zQ hb;clear hb
   go_wp2_with fail
   refine(HS.o k _ H2.o.2.2 hlt).mono ?_;rintro e w3 ⟨rfl,hb3⟩;have H3:=ι (And.intro (xB H2.o.1 hb3 (xG H2.o.1)) (And.intro (xB H2.o.2.1 hb3 (xG H2.o.2.1)) (H2.o.2.2.trans (hb3.mono H2.o.2.2.size))));clear H2 hb3 e0 e1;generalize rdG d k=rk;generalize rdE d=re;go_wp2
   exact⟨⟨k+1,ω,σ,H3⟩,by simp only[intOf];omega⟩
  ·have hlt2:¬((k:Int)<(d.secs.length:Int)):=by omega
   have HB:=ι HI.o.2.2;clear HI;go_wp2;go_ret;exact⟨rfl,HB.o⟩
end Go.Proofs.VA
namespace Go.Proofs.IX
open Go.RowKit Mailsack MM BU VB
theorem xGd (a b c bx:ByteArray) (ep:Int) (bv sv bv2 sv2:Value) (x:yD) (o1 o2:Bool) (w:World) (h:xHk w w.heap.size bv sv x) (h2:xHk w w.heap.size bv2 sv2 x) (hm:∀b∈x.boxes,b.yB.length<=9223372036854775807) (hl:x.boxes.length<=9223372036854775807) (hl2:x.subs.length<=9223372036854775807):
  Calls Tryz.prog 10 #[.agg #[.string a,.string b,.string c,.int .i64 ep,bv,sv,.int .i64 x.given,.string bx,.bool o1,.bool o2],.agg #[.string a,.string b,.string c,.int .i64 ep,bv2,sv2,.int .i64 x.given,.string bx,.bool o1,.bool o2]] w λe w'=>e=.returned (.bool true)/\Below w.heap.size w w':=by
 have HP:Hid (∀W,Below w.heap.size w W->Calls Tryz.prog 19 #[.agg #[bv,sv,.int .i64 x.given]] W λe w'=>e=.returned (.tuple #[xO (xLa x),.int .i64 (yC8 x)])/\Below W.heap.size W w'):=
  ι (λW hb=>xG1 bv sv x W ((h.below hb ν).more hb.size) hm hl hl2)
 have HP2:Hid (∀W,Below w.heap.size w W->Calls Tryz.prog 19 #[.agg #[bv2,sv2,.int .i64 x.given]] W λe w'=>e=.returned (.tuple #[xO (xLa x),.int .i64 (yC8 x)])/\Below W.heap.size W w'):=
  ι (λW hb=>xG1 bv2 sv2 x W ((h2.below hb ν).more hb.size) hm hl hl2)
 have hb1:bv.oneCell'=true:=by obtain⟨A,c,rfl,_⟩:=h.boxes;rfl
 have hb2:sv.oneCell'=true:=by obtain⟨A,c,rfl,_⟩:=h.subs;rfl
 have hb3:bv2.oneCell'=true:=by obtain⟨A,c,rfl,_⟩:=h2.boxes;rfl
 have hb4:sv2.oneCell'=true:=by obtain⟨A,c,rfl,_⟩:=h2.subs;rfl
 clear h h2 hm hl hl2;obtain⟨T,hT⟩:∃T:ByteArray,(⟨(xLa x).toArray⟩:ByteArray)=T:=⟨_,rfl⟩;rw[show xO (xLa x)=.string T by rw[<-hT]] at HP HP2;clear hT;generalize yC8 x=E at HP HP2
 have HW:=ι (qF (qF (Below.refl w.heap.size w) ν (.cells #[.string a,.string b,.string c,.int .i64 ep,bv,sv,.int .i64 x.given,.string bx,.bool o1,.bool o2] 32)) ν (.cells #[.string a,.string b,.string c,.int .i64 ep,bv2,sv2,.int .i64 x.given,.string bx,.bool o1,.bool o2] 32))
 have P1:=ι (zG w (.cells #[.string a,.string b,.string c,.int .i64 ep,bv,sv,.int .i64 x.given,.string bx,.bool o1,.bool o2] 32) (.cells #[.string a,.string b,.string c,.int .i64 ep,bv2,sv2,.int .i64 x.given,.string bx,.bool o1,.bool o2] 32))
 have P2:=ι (yX w (.cells #[.string a,.string b,.string c,.int .i64 ep,bv,sv,.int .i64 x.given,.string bx,.bool o1,.bool o2] 32) (.cells #[.string a,.string b,.string c,.int .i64 ep,bv2,sv2,.int .i64 x.given,.string bx,.bool o1,.bool o2] 32));go_enter Tryz.func10,Tryz.ntmps10
 go_wp2_with fail
 refine(HP.o _ HW.o).mono ?_;rintro e w2 ⟨rfl,hb⟩;have q1:=xB P1.o hb (by simp;omega);have q2:=xB P2.o hb σ;have HB2:=ι (HW.o.trans (hb.mono HW.o.size));have y4:w2.cell? ⟨w.heap.size+1,4,none⟩=some (bv2):=xA q2 4;have y5:w2.cell? ⟨w.heap.size+1,5,none⟩=some (sv2):=xA q2 5
 have y6:w2.cell? ⟨w.heap.size+1,6,none⟩=some (.int .i64 x.given):=xA q2 6;have Q1:=ι q1;have Q2:=ι q2;clear hb q1 q2;go_wp2_with fail
 refine(HP2.o _ HB2.o).mono ?_;rintro e w3 ⟨rfl,hb⟩;have hsz:=xG Q2.o;have q1:=xB Q1.o hb ω;have q2:=xB Q2.o hb hsz;have HB3:=ι (HB2.o.trans (hb.mono HB2.o.size));have z0:w3.cell? ⟨w.heap.size,0,none⟩=some (.string a):=xA q1 0
 have z1:w3.cell? ⟨w.heap.size,1,none⟩=some (.string b):=xA q1 1;have z2:w3.cell? ⟨w.heap.size,2,none⟩=some (.string c):=xA q1 2;have z3:w3.cell? ⟨w.heap.size,3,none⟩=some (.int .i64 ep):=xA q1 3;have z7:w3.cell? ⟨w.heap.size,7,none⟩=some (.string bx):=xA q1 7
 have z8:w3.cell? ⟨w.heap.size,8,none⟩=some (.bool o1):=xA q1 8;have z9:w3.cell? ⟨w.heap.size,9,none⟩=some (.bool o2):=xA q1 9;have v0:w3.cell? ⟨w.heap.size+1,0,none⟩=some (.string a):=xA q2 0;have v1:w3.cell? ⟨w.heap.size+1,1,none⟩=some (.string b):=xA q2 1
 have v2:w3.cell? ⟨w.heap.size+1,2,none⟩=some (.string c):=xA q2 2;have v3:w3.cell? ⟨w.heap.size+1,3,none⟩=some (.int .i64 ep):=xA q2 3;have v7:w3.cell? ⟨w.heap.size+1,7,none⟩=some (.string bx):=xA q2 7;have v8:w3.cell? ⟨w.heap.size+1,8,none⟩=some (.bool o1):=xA q2 8
 have v9:w3.cell? ⟨w.heap.size+1,9,none⟩=some (.bool o2):=xA q2 9;clear hb q1 q2 y4 y5 y6;go_wp2_with fail
 go_ret;exact⟨rfl,HB3.o⟩
def SmB (n1 n2:Nat) (e:Ending):Prop:=∃r,e=.returned (.bool r)/\(r=true->n1<=400/\n2<=100)
theorem xVd (A1 A2:Option Addr) (n1 c1 n2 c2:Nat) (a b c bx f1 f2 f3 f4 f5:ByteArray) (ep rd:Int) (bv sv:Value) (x:yD) (o1 o2:Bool) (w:World) (h:xHk w w.heap.size bv sv x) (hm:∀b∈x.boxes,b.yB.length<=9223372036854775807) (hl:x.boxes.length<=9223372036854775807) (hl2:x.subs.length<=9223372036854775807):
  Calls Tryz.prog 4 #[.agg #[.slice A1 n1 c1,.slice A2 n2 c2],.agg #[.string a,.string b,.string c,.int .i64 ep,bv,sv,.int .i64 x.given,.string bx,.bool o1,.bool o2],.agg #[.string f1,.string f2,.string f3,.string f4,.string f5,.int .i64 rd]] w λe w'=>SmB n1 n2 e/\Below w.heap.size w w':=by
 have HP:Hid (∀W,Below w.heap.size w W->Calls Tryz.prog 11 #[.agg #[bv,sv,.int .i64 x.given]] W λe w'=>e=.returned (.bool (zI x))/\Below W.heap.size W w'):=
  ι (λW hb=>wE bv sv x W ((h.below hb ν).more hb.size) hm hl hl2)
 have hb1:bv.oneCell'=true:=by obtain⟨A,c,rfl,_⟩:=h.boxes;rfl
 have hb2:sv.oneCell'=true:=by obtain⟨A,c,rfl,_⟩:=h.subs;rfl
 clear h hm hl hl2;generalize zI x=R at HP
 have HW:=ι (qF (qF (qF (qF (Below.refl w.heap.size w) ν (.cells #[.slice A1 n1 c1,.slice A2 n2 c2] 25)) ν (.cells #[.string a,.string b,.string c,.int .i64 ep,bv,sv,.int .i64 x.given,.string bx,.bool o1,.bool o2] 32)) ν (.cells #[.string f1,.string f2,.string f3,.string f4,.string f5,.int .i64 rd] 36)) ν (.cells #[.string f3,.string f4,.string f5,.int .i64 rd] 34))
 have P3:Hid (((((w.alloc (.cells #[.slice A1 n1 c1,.slice A2 n2 c2] 25)).alloc (.cells #[.string a,.string b,.string c,.int .i64 ep,bv,sv,.int .i64 x.given,.string bx,.bool o1,.bool o2] 32)).alloc (.cells #[.string f1,.string f2,.string f3,.string f4,.string f5,.int .i64 rd] 36)).alloc (.cells #[.string f3,.string f4,.string f5,.int .i64 rd] 34)).heap[w.heap.size+1+1]?=some (.cells #[.string f1,.string f2,.string f3,.string f4,.string f5,.int .i64 rd] 36)):=ι (by have:=xK (xL ((w.alloc (.cells #[.slice A1 n1 c1,.slice A2 n2 c2] 25)).alloc (.cells #[.string a,.string b,.string c,.int .i64 ep,bv,sv,.int .i64 x.given,.string bx,.bool o1,.bool o2] 32)) (.cells #[.string f1,.string f2,.string f3,.string f4,.string f5,.int .i64 rd] 36)) (.cells #[.string f3,.string f4,.string f5,.int .i64 rd] 34);simpa only[uX] using this)
 have P4:Hid (((((w.alloc (.cells #[.slice A1 n1 c1,.slice A2 n2 c2] 25)).alloc (.cells #[.string a,.string b,.string c,.int .i64 ep,bv,sv,.int .i64 x.given,.string bx,.bool o1,.bool o2] 32)).alloc (.cells #[.string f1,.string f2,.string f3,.string f4,.string f5,.int .i64 rd] 36)).alloc (.cells #[.string f3,.string f4,.string f5,.int .i64 rd] 34)).heap[w.heap.size+1+1+1]?=some (.cells #[.string f3,.string f4,.string f5,.int .i64 rd] 34)):=ι (by have:=xL (((w.alloc (.cells #[.slice A1 n1 c1,.slice A2 n2 c2] 25)).alloc (.cells #[.string a,.string b,.string c,.int .i64 ep,bv,sv,.int .i64 x.given,.string bx,.bool o1,.bool o2] 32)).alloc (.cells #[.string f1,.string f2,.string f3,.string f4,.string f5,.int .i64 rd] 36)) (.cells #[.string f3,.string f4,.string f5,.int .i64 rd] 34);simpa only[uX] using this)
 obtain⟨r0,hr0⟩:∃r0,(a.toList==[])=r0:=⟨_,rfl⟩
 by_cases hn1:(n1:Int)<=400
 case neg=>
  go_enter Tryz.func4,Tryz.ntmps4;go_upto_region 2 with fail
  refine RG.yP (λW=>W=_) rfl ?_
  iterate 70
   apply RG.xJ
   ·rintro _ rfl
    first
     |(repeat go_step
       with_reducible exact RG.xD rfl
       done)
     |exact RG.xAp (by rfl) rfl rfl
   ·rfl
  refine RG.xS (λw4 hb4=>?_);subst hb4;go_wp2;go_ret;exact⟨⟨_,rfl,λh=>by simp at h⟩,HW.o⟩
 by_cases hn2:(n2:Int)<=100
 case neg=>
  go_enter Tryz.func4,Tryz.ntmps4;go_upto_region 2 with fail
  refine RG.yP (λW=>W=_) rfl ?_
  iterate 70
   apply RG.xJ
   ·rintro _ rfl
    first
     |(repeat go_step
       with_reducible exact RG.xD rfl
       done)
     |exact RG.xAp (by rfl) rfl rfl
   ·rfl
  refine RG.xS (λw4 hb4=>?_);subst hb4;go_wp2;go_ret;exact⟨⟨_,rfl,λh=>by simp at h⟩,HW.o⟩
 have HN:Hid (n1<=400/\n2<=100):=ι ⟨ω,ω⟩;have hq:(¬(a.size:Int)<=100)∨((a.size:Int)<=100/\¬(b.size:Int)<=100)∨((a.size:Int)<=100/\(b.size:Int)<=100/\¬(c.size:Int)<=100)∨((a.size:Int)<=100/\(b.size:Int)<=100/\(c.size:Int)<=100):=by omega
 have h1q:(¬(f1.size:Int)<=100)∨((f1.size:Int)<=100/\¬(f2.size:Int)<=100)∨((f1.size:Int)<=100/\(f2.size:Int)<=100):=by omega
 rcases hq with ha|⟨ha,hb⟩|⟨ha,hb,hc⟩|⟨ha,hb,hc⟩
 rotate_right
 ·cases r0 with
  |true=>
   rcases h1q with h1|⟨h1,h2⟩|⟨h1,h2⟩
   all_goals
    go_enter Tryz.func4,Tryz.ntmps4;go_upto_region 2 with fail
    refine RG.yP (λW=>W=_) rfl ?_
    iterate 70
     apply RG.xJ
     ·rintro _ rfl
      first
       |(repeat go_step
         with_reducible exact RG.xD rfl
         done)
       |exact RG.xAp (by rfl) rfl rfl
     ·rfl
    refine RG.xS (λw4 hb4=>?_);subst hb4;go_wp2;go_ret;exact⟨⟨_,rfl,λ_=>HN.o⟩,HW.o⟩
  |false=>
   cases R
   ·go_enter Tryz.func4,Tryz.ntmps4;go_upto_region 2 with fail
    repeat (first|go_big_skip|go_step)
    refine(HP.o _ HW.o).mono ?_;rintro e w2 ⟨rfl,hb⟩;have HB2:=ι (HW.o.trans (hb.mono HW.o.size));clear hb;repeat (first|go_big_skip|go_step)
    go_wp2;go_ret;exact⟨⟨_,rfl,λ_=>HN.o⟩,HB2.o⟩
   ·rcases h1q with h1|⟨h1,h2⟩|⟨h1,h2⟩
    all_goals
     go_enter Tryz.func4,Tryz.ntmps4;go_upto_region 2 with fail
     repeat (first|go_big_skip|go_step)
     refine(HP.o _ HW.o).mono ?_;rintro e w2 ⟨rfl,hb⟩;have p3:=xB P3.o hb σ;have p4:=xB P4.o hb σ;have y0:w2.cell? ⟨w.heap.size+1+1,0,none⟩=some (.string f1):=xA p3 0;have y1:w2.cell? ⟨w.heap.size+1+1,1,none⟩=some (.string f2):=xA p3 1
     have z0:w2.cell? ⟨w.heap.size+1+1+1,0,none⟩=some (.string f3):=xA p4 0;have z1:w2.cell? ⟨w.heap.size+1+1+1,1,none⟩=some (.string f4):=xA p4 1;have z2:w2.cell? ⟨w.heap.size+1+1+1,2,none⟩=some (.string f5):=xA p4 2;have HB2:=ι (HW.o.trans (hb.mono HW.o.size))
     clear hb p3 p4;repeat (first|go_big_skip|go_step)
     go_wp2;go_ret;exact⟨⟨_,rfl,λ_=>HN.o⟩,HB2.o⟩
 all_goals
  go_enter Tryz.func4,Tryz.ntmps4;go_upto_region 2 with fail
  refine RG.yP (λW=>W=_) rfl ?_
  iterate 70
   apply RG.xJ
   ·rintro _ rfl
    first
     |(repeat go_step
       with_reducible exact RG.xD rfl
       done)
     |exact RG.xAp (by rfl) rfl rfl
   ·rfl
  refine RG.xS (λw4 hb4=>?_);subst hb4;go_wp2;go_ret;exact⟨⟨_,rfl,λ_=>HN.o⟩,HW.o⟩
end Go.Proofs.IX