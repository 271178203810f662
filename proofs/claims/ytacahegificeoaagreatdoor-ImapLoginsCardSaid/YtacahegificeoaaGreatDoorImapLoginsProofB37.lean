/- Contracts of functions. Conditions: as stated. -/
import Derived.Test.YtacahegificeoaaGreatDoorImapLoginsProofB36
set_option maxHeartbeats 8000000
set_option maxRecDepth 100000
namespace Mailsack
def kJ (d:Dk) (u:ByteArray) (n:Int):ByteArray:=bsA (xXc d (xSh [109] u.data.toList n))
def yDz (g xI old:ByteArray) (ep:Int):ByteArray:=if yO g 0=ep % 256 then xI else old
def msgE (d:Dk) (u xI old:ByteArray) (ep n:Int):Int:=
 if xQa d (xSh [109] u.data.toList n)≠0 then 6 else if (kJ d u n).size=0 then 3
 else if xRk (yDz (kJ d u n) xI old ep) ((kJ d u n).extract 1 (kJ d u n).size)≠0 then 3 else 0
def xTy (d:Dk) (u xI old:ByteArray) (ep n:Int):ByteArray:=
 if msgE d u xI old ep n=0 then xYx (yDz (kJ d u n) xI old ep) ((kJ d u n).extract 1 (kJ d u n).size) else⟨#[]⟩
end Mailsack
namespace Go.Proofs.VA
open Go.RowKit Mailsack MM BB SH SV RK DS Go.Proofs.ST Go.Proofs.SE
theorem xF4 (va vb:Value) (d:Dk) (u xI old:ByteArray) (ep gv n:Int) (A3 A4:Option Addr) (n3 k3 n4 k4:Nat) (w:World) (h:RdD w w.heap.size va vb d) (hu:u.size<=1000000) (hn:-9223372036854775808<=n/\n<=9223372036854775807) (hT:VaT w):
  Calls Tryz.prog 40 #[.agg #[va,vb],xTv u xI old ep (.slice A3 n3 k3) (.slice A4 n4 k4) gv,.int .i64 n] w λe w'=>e=.returned (.tuple #[.string (xTy d u xI old ep n),.int .i64 (msgE d u xI old ep n)])/\Below w.heap.size w w':=by
 obtain⟨A1,c1,A2,c2,rfl,rfl⟩:=yE h;have hba:=((Below.refl w.heap.size w).alloc ν (xX (.slice A1 d.secs.length c1) (.slice A2 d.cache.length c2))).alloc σ (vO u xI old ep (.slice A3 n3 k3) (.slice A4 n4 k4) gv)
 have H0:=ι (And.intro (zG w (xX (.slice A1 d.secs.length c1) (.slice A2 d.cache.length c2)) (vO u xI old ep (.slice A3 n3 k3) (.slice A4 n4 k4) gv)) (And.intro (yX w (xX (.slice A1 d.secs.length c1) (.slice A2 d.cache.length c2)) (vO u xI old ep (.slice A3 n3 k3) (.slice A4 n4 k4) gv)) hba))
 have HNU:=ι (λW (hb:Below w.heap.size w W)=>xEg ⟨#[109]⟩ u n W δ hu hn (hT.below hb));rw[show(⟨#[109]⟩:ByteArray).data.toList=[109] from rfl] at HNU
 have HGE:=ι (λW (hb:Below w.heap.size w W)=>xOe (.slice A1 d.secs.length c1) (.slice A2 d.cache.length c2) d (xSh [109] u.data.toList n) W ((h.below hb ν).more hb.size));have HG:Hid (xO (xXc d (xSh [109] u.data.toList n))=.string (kJ d u n)):=ι rfl;rw[HG.o] at HGE
 have hgl:(kJ d u n).size<=100000:=by
  unfold kJ;rw[yS];have:=xJq d (xSh [109] u.data.toList n);omega
 have HSO:=ι (λW (hb:Below w.heap.size w W)=>xVc (yDz (kJ d u n) xI old ep) ((kJ d u n).extract 1 (kJ d u n).size) W (by rw[ByteArray.size_extract];omega) (hT.below hb).se)
 have HE:Hid (msgE d u xI old ep n=if xQa d (xSh [109] u.data.toList n)≠0 then 6 else if (kJ d u n).size=0 then 3 else if xRk (yDz (kJ d u n) xI old ep) ((kJ d u n).extract 1 (kJ d u n).size)≠0 then 3 else 0):=ι rfl
 have HX:Hid (xTy d u xI old ep n=if msgE d u xI old ep n=0 then xYx (yDz (kJ d u n) xI old ep) ((kJ d u n).extract 1 (kJ d u n).size) else⟨#[]⟩):=ι rfl;have HK:Hid (yDz (kJ d u n) xI old ep=if yO (kJ d u n) 0=ep % 256 then xI else old):=ι rfl;clear HG hba h hT
 generalize msgE d u xI old ep n=me at HE HX⊢;generalize xTy d u xI old ep n=mt at HX⊢;generalize yDz (kJ d u n) xI old ep=mk at HE HX HK HSO;generalize xRk mk ((kJ d u n).extract 1 (kJ d u n).size)=se at HE HSO
 generalize xYx mk ((kJ d u n).extract 1 (kJ d u n).size)=st at HX HSO;generalize kJ d u n=g at HE HX HK HSO HGE hgl;generalize xQa d (xSh [109] u.data.toList n)=ge at HE HGE;generalize xSh [109] u.data.toList n=nb at HGE HNU;go_enter Tryz.func40,Tryz.ntmps40
 go_upto_region 1 with fail
 obtain⟨w1,hw1⟩:∃w1,(w.alloc (xX (.slice A1 d.secs.length c1) (.slice A2 d.cache.length c2))).alloc (vO u xI old ep (.slice A3 n3 k3) (.slice A4 n4 k4) gv)=w1:=⟨_,rfl⟩;rw[hw1] at H0;rw[hw1];clear hw1
 refine RG.xP (λW=>Hid (Below w1.heap.size w1 W)) κ κ (ι (Below.refl w1.heap.size w1).drew) ?_;iterate 4 refine RG.dF (λw9 hw9=>have hd:=xB H0.o.1 hw9.o (xG H0.o.1);have hs:=xB H0.o.2.1 hw9.o (xG H0.o.2.1);have s0:=xQn hs;And.intro (zQ hd) s0) ?_
 apply RG.xJ
 ·intro w9 hw9;repeat go_step
  refine(HNU.o _ (H0.o.2.2.trans (hw9.o.mono H0.o.2.2.size))).mono ?_;rintro e w10 ⟨rfl,zM⟩;simp only[];repeat go_step
  with_reducible refine RG.xD ?_
  exact ι (hw9.o.trans (zM.mono hw9.o.size))
 ·rfl
 apply RG.xJ
 ·intro w9 hw9;repeat go_step
  refine(HGE.o _ (H0.o.2.2.trans (hw9.o.mono H0.o.2.2.size))).mono ?_;rintro e w10 ⟨rfl,zM⟩;simp only[];repeat go_step
  with_reducible refine RG.xD ?_
  exact ι (hw9.o.trans (zM.mono hw9.o.size))
 ·rfl
 iterate 5 refine RG.dS ?_
 refine RG.xS (λw2 hw2=>?_);have H2:=ι (And.intro (xB H0.o.2.1 hw2.o (xG H0.o.2.1)) (H0.o.2.2.trans (hw2.o.mono H0.o.2.2.size)));clear hw2 H0 HNU HGE
 by_cases hge:ge=0
 rotate_left
 ·have g0:(ge==0)=false:=by simpa using hge
  have g1:(ge !=0)=true:=by simpa using hge
  rw[if_pos hge] at HE;have HX2:Hid (mt=⟨#[]⟩):=ι (by rw[HX.o,HE.o,if_neg δ]);have HB:=ι H2.o.2;clear hge HX HSO HK H2;go_wp2;go_ret2;exact⟨by rw[HX2.o,HE.o];rfl,HB.o⟩
 ·rw[if_neg (by simpa using hge)] at HE;subst hge
  by_cases hz:g.size=0
  ·rw[if_pos hz] at HE
   obtain rfl:g=⟨#[]⟩:=by
    apply ByteArray.ext;exact Array.eq_empty_of_size_eq_zero hz
   have HX2:Hid (mt=⟨#[]⟩):=ι (by rw[HX.o,HE.o,if_neg δ]);have HB:=ι H2.o.2;clear HX HSO HK H2 hgl hz;go_wp2;go_ret2;exact⟨by rw[HX2.o,HE.o];rfl,HB.o⟩
  ·have hgz:(g.toList==[])=false:=by
    rw[beq_eq_false_iff_ne,ByteArray.toList_eq];intro e;exact hz (by have:=congrArg List.length e;simpa using this)
   rw[if_neg hz] at HE;have hlt:0<g.size:=by omega
   have i0:=λw=>zH (P:=Tryz.prog) Tryz.underlying9 g 0 0 rfl hlt w;have hl1:¬(g.size<1):=by omega
   have hs:=H2.o.1;have s1:=xA hs 1;have s2:=xA hs 2;simp only[gA,gB,gC] at s1 s2;clear hs hz;generalize yO g 0=c0 at i0 HK;go_upto_region 7 with fail
   clear s1 s2;refine RG.xP (λW=>Hid (Below w2.heap.size w2 W)) κ κ (ι (Below.refl w2.heap.size w2).drew) ?_
   iterate 6
    apply RG.xJ
    ·intro w9 hw9;have hs:=xB H2.o.1 hw9.o (xG H2.o.1);have s3:=xA hs 3;simp only[gA,gB,gC] at s3;clear hs;repeat go_step
     with_reducible exact RG.xD hw9
    ·rfl
   refine RG.xS (λw3 hw3=>?_);have H3:=ι (And.intro (xB H2.o.1 hw3.o (xG H2.o.1)) (H2.o.2.trans (hw3.o.mono H2.o.2.size)));clear hw3 H2 i0;have hs:=H3.o.1;have s1:=xA hs 1;simp only[gA,gB,gC] at s1;clear hs
   have HFIN:Hid (se≠0->me=3/\mt=⟨#[]⟩):=ι (λh=>by rw[if_pos h] at HE;exact⟨HE.o,by rw[HX.o,HE.o,if_neg δ]⟩);have xTr:Hid (se=0->me=0/\mt=st):=ι (λh=>by rw[if_neg (by simpa using h)] at HE;exact⟨HE.o,by rw[HX.o,HE.o,if_pos rfl]⟩)
   have HOP:Hid (Calls Tryz.prog 97 #[.string mk,.string (g.extract 1 g.size)] w3 λe w'=>e=.returned (.tuple #[.string st,.int .i64 se])/\Below w3.heap.size w3 w'):=ι (HSO.o w3 H3.o.2);have B3:=ι H3.o.2;clear HE HX HSO H3
   by_cases hk:c0=ep % 256
   ·have hk1:(c0==ep % 256)=true:=by simpa using hk
    rw[if_pos hk] at HK;rw[HK.o] at HOP;clear HK hk;go_wp2_with fail
    refine HOP.o.mono ?_;rintro e w4 ⟨rfl,hb4⟩;have B4:=ι (B3.o.trans (hb4.mono B3.o.size));clear hb4 HOP B3 s1
    by_cases hse:se=0
    ·subst hse;have hq:=xTr.o rfl;have Q1:=ι hq.1;have Q2:=ι hq.2;clear hq HFIN xTr;go_wp2;go_ret2;exact⟨by rw[Q1.o,Q2.o];rfl,B4.o⟩
    ·have g0:(se==0)=false:=by simpa using hse
     have g1:(se !=0)=true:=by simpa using hse
     have hq:=HFIN.o hse;have Q1:=ι hq.1;have Q2:=ι hq.2;clear hq HFIN xTr hse;go_wp2;go_ret2;exact⟨by rw[Q1.o,Q2.o];rfl,B4.o⟩
   ·have hk1:(c0==ep % 256)=false:=by simpa using hk
    rw[if_neg hk] at HK;rw[HK.o] at HOP;clear HK hk;go_wp2_with fail
    refine HOP.o.mono ?_;rintro e w4 ⟨rfl,hb4⟩;have B4:=ι (B3.o.trans (hb4.mono B3.o.size));clear hb4 HOP B3 s1
    by_cases hse:se=0
    ·subst hse;have hq:=xTr.o rfl;have Q1:=ι hq.1;have Q2:=ι hq.2;clear hq HFIN xTr;go_wp2;go_ret2;exact⟨by rw[Q1.o,Q2.o];rfl,B4.o⟩
    ·have g0:(se==0)=false:=by simpa using hse
     have g1:(se !=0)=true:=by simpa using hse
     have hq:=HFIN.o hse;have Q1:=ι hq.1;have Q2:=ι hq.2;clear hq HFIN xTr hse;go_wp2;go_ret2;exact⟨by rw[Q1.o,Q2.o];rfl,B4.o⟩
end Go.Proofs.VA
namespace Go.Proofs.IX
open Go.RowKit Mailsack MM BB SH SV RK DS
theorem jU.rows {w:World} {B:Nat} {v:Value} {L:List jV} (h:jU w B v L):∃bl:List wW,L=bl.map (·.b)/\RdR 4 bxF w B v bl/\∀p∈bl,vG w B p.mv p.b.yB:=by
 obtain⟨A,c,rfl,hc,h3⟩:=h
 by_cases h0:L.length=0
 ·have:L=[]:=List.eq_nil_of_length_eq_zero h0;subst this;exact⟨[],rfl,⟨A,c,rfl,hc,λh=>absurd h δ⟩,λp hp=>by cases hp⟩
 ·obtain⟨b,off,rfl,hb,h6⟩:=h3 ω
  have key:∀(M:List jV) (k:Nat),(∀(j:Nat) x,M[j]?=some x->L[k+j]?=some x)->∃bl:List wW,M=bl.map (·.b)/\∀(j:Nat) p,bl[j]?=some p->(∀(i:Nat) u,(bxF p)[i]?=some u->w.cell? ⟨b,off+(k+j)*4+i,none⟩=some u)/\vG w B p.mv p.b.yB:=by
   intro M
   induction M with
   |nil=>exact λk _=>⟨[],rfl,λj p hp=>by simp at hp⟩
   |cons x M ih=>
    intro k hM
    obtain⟨bl,e,hbl⟩:=ih (k+1) (λj y hy=>by
     have:=hM (j+1) y (by simpa using hy);rw[show k+1+j=k+(j+1) by omega];exact this)
    have hx:=hM 0 x rfl;rw[Nat.add_zero] at hx;obtain⟨mv,k1,k2,k3,k4,k5⟩:=h6 k x hx;obtain⟨A',c',rfl,hc',_⟩:=id k5;refine⟨⟨x,A',c'⟩::bl,by rw[List.map_cons,<-e],λj p hp=>?_⟩;cases j with
    |zero=>
     simp at hp;subst hp;refine⟨λi u hu=>?_,k5⟩;rw[Nat.add_zero]
     match i,hu with
     |0,hu=>simp at hu;subst hu;exact k1
     |1,hu=>simp at hu;subst hu;exact k2
     |2,hu=>simp at hu;subst hu;exact k3
     |3,hu=>simp at hu;subst hu;exact k4
     |n+4,hu=>simp at hu
    |succ j=>
     have:=hbl j p (by simpa using hp);rw[show k+1+j=k+(j+1) by omega] at this;exact this
  obtain⟨bl,e,hbl⟩:=key L 0 (λj x hx=>by rw[Nat.zero_add];exact hx);refine⟨bl,e,⟨_,c,by rw[e,List.length_map],by rw[e,List.length_map] at hc;exact hc,λ_=>⟨b,off,rfl,hb,λj p hp i u hu=>?_⟩⟩,λp hp=>?_⟩
  ·have:=(hbl j p hp).1 i u hu;rw[Nat.zero_add] at this;exact this
  ·obtain⟨j,hj⟩:=List.getElem?_of_mem hp;exact(hbl j p hj).2
theorem xT8 (v:Value) (ml:List uH) (w:World) (B:Nat) (hB:B<=w.heap.size) (h:RdR 4 maF w B v ml) (hl:ml.length<=1000000):
  Calls Tryz.prog 100 #[v] w λe w'=>∃v',e=.returned v'/\xV 122 4 maF w' w.heap.size v' ml/\Below w.heap.size w w':=by
 have h':=ι h;obtain⟨A,c,rfl,hc,h3⟩:=h;cases A with
 |none=>
  have h0:ml=[]:=by
   apply Classical.byContradiction;intro hn;obtain⟨b,off,e,_⟩:=h3 (List.length_pos_iff.2 hn);cases e
  subst h0;clear h3 hc;have hq:=λW=>Lib.run_eql_slice_nil (P:=Tryz.prog) W 66 122 none 0 c 0 0 Tryz.underlying66;go_enter Tryz.func100,Tryz.ntmps100;go_wp2;go_ret;exact⟨_,rfl,xV.nil _ _,Below.refl _ _⟩
 |some ad=>
  clear h3;have hq:=λW=>Lib.run_eql_slice_nil (P:=Tryz.prog) W 66 122 (some ad) ml.length c 0 0 Tryz.underlying66;go_enter Tryz.func100,Tryz.ntmps100;have HA:=ι (h'.o.below ((Below.refl w.heap.size w).alloc ν (.cells #[] 122)) hB)
  have HO:=ι (xV.room (e:=122) (k:=4) (f:=maF) (base:=w.heap.size) #[] w 0 ν δ rfl);have HBL:=ι ((Below.refl w.heap.size w).alloc ν (.cells #[] 122));have hsz:w.heap.size<=(w.alloc (.cells #[] 122)).heap.size:=by simp
  go_wp2_with (at_builtin;refine zY tyMa rfl _ _ rfl rfl rfl HO.o HA.o (by simp;omega) hsz ?_;intro v8 w8 h8;have HR:=ι (And.intro h8.own (h8.bel HO.o ν HBL.o hsz));clear h8)
  go_ret;exact⟨_,rfl,HR.o.1,HR.o.2⟩
theorem xT9 (v:Value) (ml:List wW) (w:World) (B:Nat) (hB:B<=w.heap.size) (h:RdR 4 bxF w B v ml) (hl:ml.length<=1000000):
  Calls Tryz.prog 186 #[v] w λe w'=>∃v',e=.returned v'/\xV 68 4 bxF w' w.heap.size v' ml/\Below w.heap.size w w':=by
 have h':=ι h;obtain⟨A,c,rfl,hc,h3⟩:=h;cases A with
 |none=>
  have h0:ml=[]:=by
   apply Classical.byContradiction;intro hn;obtain⟨b,off,e,_⟩:=h3 (List.length_pos_iff.2 hn);cases e
  subst h0;clear h3 hc;have hq:=λW=>Lib.run_eql_slice_nil (P:=Tryz.prog) W 26 68 none 0 c 0 0 Tryz.underlying26;go_enter Tryz.func186,Tryz.ntmps186;go_wp2;go_ret;exact⟨_,rfl,xV.nil _ _,Below.refl _ _⟩
 |some ad=>
  clear h3;have hq:=λW=>Lib.run_eql_slice_nil (P:=Tryz.prog) W 26 68 (some ad) ml.length c 0 0 Tryz.underlying26;go_enter Tryz.func186,Tryz.ntmps186;have HA:=ι (h'.o.below ((Below.refl w.heap.size w).alloc ν (.cells #[] 68)) hB)
  have HO:=ι (xV.room (e:=68) (k:=4) (f:=bxF) (base:=w.heap.size) #[] w 0 ν δ rfl);have HBL:=ι ((Below.refl w.heap.size w).alloc ν (.cells #[] 68));have hsz:w.heap.size<=(w.alloc (.cells #[] 68)).heap.size:=by simp
  go_wp2_with (at_builtin;refine zY tyBx rfl _ _ rfl rfl rfl HO.o HA.o (by simp;omega) hsz ?_;intro v8 w8 h8;have HR:=ι (And.intro h8.own (h8.bel HO.o ν HBL.o hsz));clear h8)
  go_ret;exact⟨_,rfl,HR.o.1,HR.o.2⟩
end Go.Proofs.IX
namespace Mailsack
def xD5 (x:yD) (n:Bs):Int:=jE (λb:jV=>b.name==n) x.boxes
theorem yB3 {α β:Type} (f:α->β) (p:β->Bool) (l:List α):jE p (l.map f)=jE (λa=>p (f a)) l:=by
 induction l with
 |nil=>rfl
 |cons x l ih=>rw[List.map_cons,jE,jE,ih]
end Mailsack
namespace Go.Proofs.IX
open Go.RowKit Mailsack MM BB SH SV RK DS Go.Proofs.ST
theorem xWy (fid:FuncId) (fr:Array Value) (p:wW->Bool) (v:Value) (l:List wW) (w:World) (h:RdR 4 bxF w w.heap.size v l) (hl:l.length<=100000) (hE:∀args W,(callFunc fid args).run Tryz.prog W=.ok (.enter fid args) W)
  (hp:∀(t:wW) (W:World),Below w.heap.size w W->Calls Tryz.prog fid (#[bxV t]++fr) W λe w'=>e=.returned (.bool (p t))/\Below W.heap.size W w'):
  Calls Tryz.prog 184 #[v,.func (.func fid) #[] fr] w λe w'=>e=.returned (.int .i64 (jE p l))/\Below w.heap.size w w':=by
 obtain⟨A,c,rfl,hc,hcell⟩:=h;have HL:=ι hcell;have HP:=ι hp;obtain⟨r,hr⟩:∃r,jE p l=r:=⟨_,rfl⟩;rw[hr];have HR:=ι hr;clear hcell hc hp hr;go_enter Tryz.func184,Tryz.ntmps184;go_wp2_with fail
 go_loopw [8] (λiv wr=>∃k:Nat,k<=l.length/\iv=.int .i64 k/\Hid (Below w.heap.size w wr)/\Hid (∀y∈l.take k,p y=false)) (λiv _=>l.length- (intOf iv).toNat)
 case atStart=>exact⟨0,Nat.zero_le _,rfl,ι (Below.refl _ _),ι σ⟩
 case round=>
  obtain⟨k,hk,rfl,HI,HN⟩:=hrel
  by_cases hlt:k<l.length
  ·obtain⟨x,hx⟩:∃x,l[k]?=some x:=⟨_,List.getElem?_eq_getElem hlt⟩;obtain⟨b,off,rfl,hb,hcell⟩:=HL.o ω;have q:=λi u hu=>(HI.o.cell (p:=⟨b,off+k*4+i,none⟩) hb).trans (hcell k x hx i u hu);have q0:wr.cell? ⟨b,off+k*4,none⟩=some (xO x.b.name):=q 0 _ rfl
   have q1:wr.cell? ⟨b,off+k*4+1,none⟩=some (.int .i64 x.b.validity):=q 1 _ rfl;have q2:wr.cell? ⟨b,off+k*4+2,none⟩=some (.int .i64 x.b.next):=q 2 _ rfl;have q3:wr.cell? ⟨b,off+k*4+3,none⟩=some x.mv:=q 3 _ rfl;have HC:=ι (HP.o x wr HI.o);have HX:=ι hx;clear hcell q hx
   cases hpx:p x with
   |true=>
    rw[hpx] at HC;have HRK:Hid (r=(k:Int)):=ι (by rw[<-HR.o];exact xM1 HX.o hpx HN.o);clear hpx HR;go_wp2_with (go_at_fn fid;refine HC.o.mono ?_;rintro e w' ⟨rfl,hb'⟩)
    go_ret;exact⟨by rw[HRK.o];rfl,HI.o.trans (hb'.mono HI.o.size)⟩
   |false=>
    rw[hpx] at HC
    have HN2:Hid (∀y∈l.take (k+1),p y=false):=ι (by
     intro y hy;rw[List.take_add_one,HX.o] at hy;rcases List.mem_append.1 hy with hy|hy
     ·exact HN.o y hy
     ·simp at hy;subst hy;exact hpx)
    clear hpx HN;go_wp2_with (go_at_fn fid;refine HC.o.mono ?_;rintro e w' ⟨rfl,hb'⟩;have HB':=ι (HI.o.trans (hb'.mono HI.o.size));clear hb')
    exact⟨⟨k+1,ω,by go_num,HB',HN2⟩,by simp[intOf];omega⟩
  ·obtain rfl:k=l.length:=by omega
   rw[List.take_length] at HN;have HRK:Hid (r=-1):=ι (by rw[<-HR.o];exact xM3 HN.o);clear HR;go_wp2;go_ret;exact⟨by rw[HRK.o];rfl,HI.o⟩
theorem xXi (t:wW) (n:Bs) (nb:Nat) (w:World) (h:w.heap[nb]?=some (.cells #[xO n] 9 (0,0))):
  Calls Tryz.prog 185 #[bxV t,.pointer (some ⟨nb,0,none⟩)] w λe w'=>e=.returned (.bool (t.b.name==n))/\Below w.heap.size w w':=by
 obtain⟨⟨m,va,nx,ml⟩,A,c⟩:=t;have HB:=ι ((Below.refl w.heap.size w).alloc ν (.cells #[xO m,.int .i64 va,.int .i64 nx,.slice A ml.length c] 68));have hb:=xL w (.cells #[xO m,.int .i64 va,.int .i64 nx,.slice A ml.length c] 68);have c0:=xQn hb
 have n0:=xQn (xK h (.cells #[xO m,.int .i64 va,.int .i64 nx,.slice A ml.length c] 68));clear hb h;show Calls _ _ _ _ λe w'=>e=.returned (.bool (m==n))/\_;go_enter Tryz.func185,Tryz.ntmps185;go_wp2;go_ret;exact⟨rfl,HB.o⟩
theorem xFe (bv sv:Value) (x:yD) (n:Bs) (w:World) (h:xHk w w.heap.size bv sv x) (hl:x.boxes.length<=100000):
  Calls Tryz.prog 98 #[.agg #[bv,sv,.int .i64 x.given],xO n] w λe w'=>e=.returned (.int .i64 (xD5 x n))/\Below w.heap.size w w':=by
 obtain⟨bl,hbl,hrd,_⟩:=h.boxes.rows;obtain⟨A1,c1,rfl,hc1,_⟩:=id hrd;obtain⟨A2,c2,rfl,hc2,_⟩:=h.subs;have hba:=((Below.refl w.heap.size w).alloc ν (ixO (.slice A1 bl.length c1) (.slice A2 x.subs.length c2) x.given)).alloc σ (.cells #[xO n] 9)
 have H0:=ι (And.intro (zG w (ixO (.slice A1 bl.length c1) (.slice A2 x.subs.length c2) x.given) (.cells #[xO n] 9)) (And.intro (yX w (ixO (.slice A1 bl.length c1) (.slice A2 x.subs.length c2) x.given) (.cells #[xO n] 9)) hba))
 have HF:Hid (xD5 x n=jE (λt:wW=>t.b.name==n) bl):=ι (by unfold xD5;rw[hbl,yB3]);have hbl2:bl.length<=100000:=by rw[hbl,List.length_map] at hl;exact hl
 have HR:=ι ((hrd.below hba ν).more hba.size)
 have HI:=ι (λW (e:W=(w.alloc (ixO (.slice A1 bl.length c1) (.slice A2 x.subs.length c2) x.given)).alloc (.cells #[xO n] 9))=>xWy 185 #[.pointer (some ⟨w.heap.size+1,0,none⟩)] (λt=>t.b.name==n) (.slice A1 bl.length c1) bl W (by rw[e];exact HR.o) hbl2 (λargs W=>enters_of Tryz.func185 κ rfl args W) (λt W2 hW=>xXi t n (w.heap.size+1) W2 (by rw[e] at hW;exact xB H0.o.2.1 hW (xG H0.o.2.1))))
 rw[HF.o];obtain⟨r,hr⟩:∃r,jE (λt:wW=>t.b.name==n) bl=r:=⟨_,rfl⟩;rw[hr] at HI⊢;have hs:=H0.o.1;have s0:=xQn hs;clear hr h HF hba hs hrd hbl hl hbl2;go_enter Tryz.func98,Tryz.ntmps98;go_wp2_with fail
 refine(HI.o _ rfl).mono ?_;rintro e w1 ⟨rfl,hb⟩;have HB:=ι (H0.o.2.2.trans (hb.mono H0.o.2.2.size));clear hb HI H0 HR s0;go_wp2;go_ret;exact⟨rfl,HB.o⟩
end Go.Proofs.IX
namespace Mailsack
def xTe (x:yD) (n:Bs):jV:=x.boxes.getD (xD5 x n).toNat ⟨[],0,0,[]⟩
def xMm (x:yD) (n:Bs) (ob sz fl:Int):Int:=
 if (zI x&&qI ob sz fl)=false then 1 else if xD5 x n<0 then 6 else if 30<=uL x.boxes then 9 else if 4294967295<=(xTe x n).next then 5 else 0
def xK7 (x:yD) (n:Bs) (ob sz fl:Int):yD:=
 if xMm x n ob sz fl=0 then⟨x.boxes.set (xD5 x n).toNat ⟨(xTe x n).name,(xTe x n).validity,(xTe x n).next+1,(xTe x n).yB++[⟨(xTe x n).next,fl,ob,sz⟩]⟩,x.subs,x.given⟩ else⟨[],[],0⟩
def xZ4 (x:yD) (n:Bs) (ob sz fl:Int):Int:=if xMm x n ob sz fl=0 then(xTe x n).next else 0
end Mailsack
namespace Go.Proofs.RK
open Go.RowKit MM
section
variable {α:Type} {e:TypeId} {k:Nat} {f:α->List Value} {w:World} {base:Nat} {v:Value} {l:List α}
theorem xQc (hk:∀x,(f x).length=k) {x':α} {i:Nat} {u:Value} (hi:i<k):∀(l:List α) (j:Nat) (x:α),l[j]?=some x->f x'=(f x).set i u->(l.flatMap f).set (j*k+i) u=(l.set j x').flatMap f
 |[],_,_,h,_=>by simp at h
 |y::l,0,x,h,hf=>by
  simp at h;subst h;rw[List.flatMap_cons,List.set_cons_zero,List.flatMap_cons,Nat.zero_mul,Nat.zero_add,List.set_append_left _ _ (by rw[hk];exact hi),hf]
 |y::l,j+1,x,h,hf=>by
  have ih:=xQc hk hi l j x (by simpa using h) hf;rw[List.flatMap_cons,List.set_cons_succ,List.flatMap_cons,<-ih,List.set_append_right _ _ (by rw[hk,Nat.succ_mul];omega),hk,show(j+1)*k+i-k=j*k+i by rw[Nat.succ_mul];omega]
theorem xV.put (hk:∀x,(f x).length=k) (h:xV e k f w base v l) {g:Nat} (hv:v.ownBlock=some g) {j i:Nat} {x x':α} {u:Value} (hx:l[j]?=some x) (hi:i<k) (hf:f x'=(f x).set i u):xV e k f (w.setCell ⟨g,j*k+i,none⟩ u) base v (l.set j x'):=by
 rcases h.2 with ⟨rfl,_⟩|⟨g',cap,cur,rfl,h2,h3,h4,h5,h6,h7⟩
 ·cases hv
 ·have:g'=g:=by simpa[Value.ownBlock] using hv
  subst this;refine⟨by rw[xFd hk,List.length_set],.inr ⟨g',cap,cur.setIfInBounds (j*k+i) u,by rw[List.length_set],h2,xY h3 _ _,by rw[List.length_set];exact h4,h5,by rw[Array.size_setIfInBounds,h6],?_⟩⟩;rw[List.length_set,Array.toList_setIfInBounds,List.take_set,h7]
  exact xQc hk hi l j x hx hf
theorem xV.cellAt (hk:∀x,(f x).length=k) (h:xV e k f w base v l) {g:Nat} (hv:v.ownBlock=some g) {j i:Nat} {x:α} {u:Value} (hx:l[j]?=some x) (hu:(f x)[i]?=some u):w.cell? ⟨g,j*k+i,none⟩=some u/\(∀q,w.frozen? ⟨g,q,none⟩=false)/\base<=g/\g<w.heap.size:=by
 rcases h.2 with ⟨rfl,_⟩|⟨g',cap,cur,rfl,h2,h3,h4⟩
 ·cases hv
 ·have:g'=g:=by simpa[Value.ownBlock] using hv
  subst this;have:=World.ownsRow.cells h.row (g:=g') rfl (j*k+i) u (flat_get hk l j i x u hx hu);have hadd:(⟨g',0,none⟩:Addr).add (j*k+i)=⟨g',j*k+i,none⟩:=by unfold Addr.add;split<;>simp_all
  rw[hadd] at this;exact⟨this,λq=>xC h3 q,h2,xG h3⟩
end
end Go.Proofs.RK
namespace Go.Proofs.IX
open Go.RowKit Mailsack MM BB SH SV RK DS Go.Proofs.ST
theorem xZc (bv sv:Value) (bl:List wW) (gv:Int) (at_:Nat) (p:wW) (ml:List uH) (A':Option Addr) (c':Nat) (w:World) (h:RdR 4 bxF w w.heap.size bv bl) (hl:bl.length<=100000) (A2:Option Addr) (n2 c2:Nat) (hsv:sv=.slice A2 n2 c2) (hp:bl[at_]?=some p):
  Calls Tryz.prog 99 #[.agg #[bv,sv,.int .i64 gv],.int .i64 (at_:Int),.slice A' ml.length c'] w λe w'=>∃g k,e=.returned (.agg #[.slice (some ⟨g,0,none⟩) bl.length k,sv,.int .i64 gv])/\xV 68 4 bxF w' w.heap.size (.slice (some ⟨g,0,none⟩) bl.length k) (bl.set at_ ⟨⟨p.b.name,p.b.validity,p.b.next,ml⟩,A',c'⟩)/\Below w.heap.size w w':=by
 obtain⟨A1,c1,rfl,hc1,_⟩:=id h;subst hsv;have hat:=(List.getElem?_eq_some_iff.1 hp).1;have hba:=((Below.refl w.heap.size w).alloc ν (ixO (.slice A1 bl.length c1) (.slice A2 n2 c2) gv)).alloc σ (ixO (.slice none 0 0) (.slice none 0 0) 0)
 have H0:=ι (And.intro (zG w (ixO (.slice A1 bl.length c1) (.slice A2 n2 c2) gv) (ixO (.slice none 0 0) (.slice none 0 0) 0)) (And.intro (yX w (ixO (.slice A1 bl.length c1) (.slice A2 n2 c2) gv) (ixO (.slice none 0 0) (.slice none 0 0) 0)) hba))
 have HR:=ι ((h.below hba ν).more hba.size);have HP:=ι hp;clear hba h hp;go_enter Tryz.func99,Tryz.ntmps99;go_upto_region 1 with fail
 obtain⟨w1,hw1⟩:∃w1,(w.alloc (ixO (.slice A1 bl.length c1) (.slice A2 n2 c2) gv)).alloc (ixO (.slice none 0 0) (.slice none 0 0) 0)=w1:=⟨_,rfl⟩;rw[hw1] at H0 HR;simp only[ixO] at hw1;rw[hw1];clear hw1;have hs:=H0.o.1;obtain⟨s0,s1,s2⟩:=xH1 hs;clear hs;go_wp2_with fail
 refine(xT9 _ bl w1 _ ν HR.o ω).mono ?_;rintro e w2 ⟨v2,rfl,ho2,hb2⟩;obtain⟨A3,c3,rfl,_⟩:=ho2.form
 have hn3:∃g,A3=some ⟨g,0,none⟩/\w1.heap.size<=g:=by
  rcases ho2.2 with ⟨_,h0⟩|⟨g,cap,cur,e,hg,_⟩
  ·omega
  ·injection e with e _ _;exact⟨g,e,hg⟩
 obtain⟨g,rfl,hg⟩:=hn3;have H2:=ι (And.intro ho2 (And.intro (xB H0.o.1 hb2 (xG H0.o.1)) (And.intro (xB H0.o.2.1 hb2 (xG H0.o.2.1)) (H0.o.2.2.trans (hb2.mono H0.o.2.2.size)))));have hsz:w.heap.size+2<=w1.heap.size:=by have:=xG H0.o.2.1;omega
 have HSZ:=ι hsz;clear ho2 hb2 H0 HR s0 s1 s2;have hs:=H2.o.2.1;have s0:=xA hs 0;have y0:=xC hs 0;simp only[gA,gC] at s0;clear hs
 have H3:=ι (And.intro (xV.xAm H2.o.1 (p:=⟨w.heap.size,0,none⟩) (.slice (some ⟨g,0,none⟩) bl.length c3) (by show some g≠some w.heap.size;intro e;injection e;omega)) (And.intro (xY H2.o.2.1 0 (.slice (some ⟨g,0,none⟩) bl.length c3)) (And.intro (yA H2.o.2.2.1 (p:=⟨w.heap.size,0,none⟩) (by show w.heap.size+1≠w.heap.size;omega) (.slice (some ⟨g,0,none⟩) bl.length c3)) (H2.o.2.2.2.setCell (p:=⟨w.heap.size,0,none⟩) ν (.slice (some ⟨g,0,none⟩) bl.length c3)))))
 go_upto_region 2 with fail
 obtain⟨w3,hw3⟩:∃w3,w2.setCell ⟨w.heap.size,0,none⟩ (.slice (some ⟨g,0,none⟩) bl.length c3)=w3:=⟨_,rfl⟩;rw[hw3] at H3⊢;clear hw3 H2 s0 y0;have hs:=H3.o.2.1;have s0:=xA hs 0;simp only[List.setIfInBounds_toArray,List.set_cons_zero,gA,gC] at s0;clear hs
 obtain⟨m0,m1,m2,m3⟩:=xV.cellAt pQ H3.o.1 (g:=g) rfl (j:=at_) (i:=3) HP.o rfl;have m1:=m1 (at_*4+3);generalize p.mv=pmv at m0
 have H4:=ι (And.intro (xV.put pQ H3.o.1 (g:=g) rfl (j:=at_) (i:=3) (x':=(⟨⟨p.b.name,p.b.validity,p.b.next,ml⟩,A',c'⟩:wW)) (u:=.slice A' ml.length c') HP.o ω rfl) (And.intro (yA H3.o.2.1 (p:=⟨g,at_*4+3,none⟩) (by show w.heap.size≠g;omega) (.slice A' ml.length c')) (And.intro (yA H3.o.2.2.1 (p:=⟨g,at_*4+3,none⟩) (by show w.heap.size+1≠g;omega) (.slice A' ml.length c')) (H3.o.2.2.2.setCell (p:=⟨g,at_*4+3,none⟩) (by show w.heap.size<=g;omega) (.slice A' ml.length c')))))
 have hat2:¬(bl.length<=at_):=by omega
 go_upto_region 3 with fail
 obtain⟨w4,hw4⟩:∃w4,w3.setCell ⟨g,at_*4+3,none⟩ (.slice A' ml.length c')=w4:=⟨_,rfl⟩;rw[hw4] at H4⊢;clear hw4 H3 s0 m0 m1 hat2 HP;have hs:=H4.o.2.1;simp only[List.setIfInBounds_toArray,List.set_cons_zero] at hs;obtain⟨s0,s1,s2⟩:=xH1 hs;clear hs
 have HO:=xV.rE (w':=xU (w.heap.size+1) 0 [.slice (some ⟨g,0,none⟩) bl.length c3,.slice A2 n2 c2,.int .i64 gv] w4) H4.o.1 (λq cs hq=>xM (λe=>by
  subst e;have:=H4.o.2.2.1;rw[hq] at this;injection this with this;injection this with _ this;exact absurd this δ) _ _ _ hq)
 simp only[xU,Nat.reduceAdd] at HO;have HOO:=ι HO;clear HO;have hob:=H4.o.2.2.1;have hbb:=H4.o.2.2.2;obtain⟨o0,y0,f0,o1,y1,f1,o2,y2,f2,HB⟩:=xMd hob hbb ω (.slice (some ⟨g,0,none⟩) bl.length c3) (.slice A2 n2 c2) (.int .i64 gv) _ rfl;clear hob hbb H4 hg hsz hat m2;go_wp2
 refine bodyPost_ret (v:=.agg #[.slice (some ⟨g,0,none⟩) bl.length c3,.slice A2 n2 c2,.int .i64 gv]) (by simp[results,Tryz.results99,go_sem,f0,f1,f2]) rfl ?_;exact⟨g,c3,rfl,HOO.o.less (Nat.le_trans (Nat.le_add_right _ 2) HSZ.o),HB.o⟩
structure ApM (w:World) (bv sv:Value) (gv:Int) (W:World):Prop where
 x:W.heap[w.heap.size]?=some (ixO bv sv gv)
 o:W.heap[w.heap.size+1]?=some (ixO (.slice none 0 0) (.slice none 0 0) 0)
 bel:Below w.heap.size w W
theorem ApM.below {w W W':World} {bv sv:Value} {gv:Int} (h:ApM w bv sv gv W) (hb:Below W.heap.size W W'):ApM w bv sv gv W':=
 ⟨xB h.x hb (xG h.x),xB h.o hb (xG h.o),h.bel.trans (hb.mono h.bel.size)⟩
theorem xQu (w:World) (bv sv:Value) (gv:Int):ApM w bv sv gv ((w.alloc (ixO bv sv gv)).alloc (ixO (.slice none 0 0) (.slice none 0 0) 0)):=
 ⟨zG _ _ _,yX _ _ _,((Below.refl w.heap.size w).alloc ν _).alloc σ _⟩
theorem xTk (bv sv:Value) (x:yD) (n:Bs) (ob sz fl:Int) (w:World) (h:xHk w w.heap.size bv sv x) (hl:x.boxes.length<=100000) (hm:∀b∈x.boxes,b.yB.length<=100000) (hs:x.subs.length<=100000) (hr:(zI x&&qI ob sz fl)=false):
  Calls Tryz.prog 41 #[.agg #[bv,sv,.int .i64 x.given],xO n,.int .i64 ob,.int .i64 sz,.int .i64 fl] w λe w'=>e=.returned (.tuple #[.agg #[.slice none 0 0,.slice none 0 0,.int .i64 0],.int .i64 0,.int .i64 1])/\Below w.heap.size w w':=by
 have HM:=ι (xQu w bv sv x.given);have HRT:=ι (λW (hb:Below w.heap.size w W)=>wE bv sv x W ((h.below hb ν).more hb.size) (λb hb=>by have:=hm b hb;omega) ω ω);have HML:=ι (λW=>rZ ob sz fl W);obtain⟨A1,c1,rfl,hc1,_⟩:=h.boxes;obtain⟨A2,c2,rfl,hc2,_⟩:=h.subs
 generalize qI ob sz fl=mo at HML hr;clear h hl hm hs;go_enter Tryz.func41,Tryz.ntmps41;go_upto_region 1 with fail
 obtain⟨w1,hw1⟩:∃w1,(w.alloc (ixO (.slice A1 x.boxes.length c1) (.slice A2 x.subs.length c2) x.given)).alloc (ixO (.slice none 0 0) (.slice none 0 0) 0)=w1:=⟨_,rfl⟩;rw[hw1] at HM;simp only[ixO] at hw1;rw[hw1];clear hw1;have hx:=HM.o.x;obtain⟨s0,s1,s2⟩:=xH1 hx;clear hx
 generalize zI x=ir at HRT hr;go_wp2_with fail
 refine(HRT.o _ HM.o.bel).mono ?_;rintro e w2 ⟨rfl,hb2⟩;have HM:=ι (HM.o.below hb2);clear hb2 HRT s0 s1 s2;cases ir with
 |false=>
  clear HML hr;go_upto_region 2 with fail
  have hob:=HM.o.o;have hbb:=HM.o.bel;obtain⟨o0,y0,f0,o1,y1,f1,o2,y2,f2,HB⟩:=xMd hob hbb ω (.slice none 0 0) (.slice none 0 0) (.int .i64 0) _ rfl;clear hob hbb HM;go_wp2
  refine bodyPost_ret (v:=.tuple #[.agg #[.slice none 0 0,.slice none 0 0,.int .i64 0],.int .i64 0,.int .i64 1]) (by simp[results,Tryz.results41,go_sem,f0,f1,f2]) rfl ?_;exact⟨rfl,HB.o⟩
 |true=>
  rw[Bool.true_and] at hr;subst hr;go_wp2_with fail
  refine(HML.o _).mono ?_;rintro e w3 ⟨rfl,hw3⟩;rw[hw3];clear hw3 w3 HML;go_upto_region 2 with fail
  have hob:=HM.o.o;have hbb:=HM.o.bel;obtain⟨o0,y0,f0,o1,y1,f1,o2,y2,f2,HB⟩:=xMd hob hbb ω (.slice none 0 0) (.slice none 0 0) (.int .i64 0) _ rfl;clear hob hbb HM;go_wp2
  refine bodyPost_ret (v:=.tuple #[.agg #[.slice none 0 0,.slice none 0 0,.int .i64 0],.int .i64 0,.int .i64 1]) (by simp[results,Tryz.results41,go_sem,f0,f1,f2]) rfl ?_;exact⟨rfl,HB.o⟩
end Go.Proofs.IX