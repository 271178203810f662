/- Contracts of functions. Conditions: as stated. -/
import Derived.Laws.EntriesVeiled
import Derived.Test.YtacahegificeoaaGreatDoorImapLoginsProofB06
import Derived.OpenShut
set_option maxHeartbeats 8000000
set_option maxRecDepth 100000
namespace Go.Proofs.IM
open Go.RowKit MM BU Mailsack SV VB MP
theorem jO {B:Nat} {a w:World} (h:Below B a w) (hB:B<=a.heap.size) (o:Obj):Below B a (w.alloc o):=h.alloc (Nat.le_trans hB h.size) o
structure Six (w:World) (o0 o1 o2 o3 o4 o5:Obj) (W:World):Prop where
 p0:W.heap[w.heap.size]?=some o0
 p1:W.heap[w.heap.size+1]?=some o1
 p2:W.heap[w.heap.size+2]?=some o2
 p3:W.heap[w.heap.size+3]?=some o3
 p4:W.heap[w.heap.size+4]?=some o4
 p5:W.heap[w.heap.size+5]?=some o5
 size:W.heap.size=w.heap.size+6
 bel:Below w.heap.size w W
theorem six (w:World) (o0 o1 o2 o3 o4 o5:Obj):Six w o0 o1 o2 o3 o4 o5 ((((((w.alloc o0).alloc o1).alloc o2).alloc o3).alloc o4).alloc o5):=by
 have hp:∀(w:World) (o:Obj),(w.alloc o).heap=w.heap.push o:=λ_ _=>rfl;refine⟨?_,?_,?_,?_,?_,?_,σ,?_⟩
 ·simp only[hp];rw[Array.getElem?_eq_getElem (by simp<;>omega)];simp[Array.getElem_push];repeat rw[if_pos ω]
 ·simp only[hp];rw[Array.getElem?_eq_getElem σ];simp[Array.getElem_push]
 ·simp only[hp];rw[Array.getElem?_eq_getElem σ];simp[Array.getElem_push]
 ·simp only[hp];rw[Array.getElem?_eq_getElem σ];simp[Array.getElem_push]
 ·simp only[hp];rw[Array.getElem?_eq_getElem σ];simp[Array.getElem_push]
 ·simp only[hp];rw[Array.getElem?_eq_getElem σ];simp[Array.getElem_push]
 ·have hB:=Nat.le_refl w.heap.size;exact jO (jO (jO (jO (jO (jO (Below.refl _ _) hB _) hB _) hB _) hB _) hB _) hB _
theorem xY3 {w:World} {b:Nat} {cs:Array Value} (h:w.heap[b]?=some (.cells cs 83 (0,0))) (hs:cs.size=22) (h1:cs[20]?=some (.pointer none)) (h2:cs[21]?=some (.slice none 0 0)):Cmd b cs [] w:=
 ⟨h,hs,_,_,h1,h2,.inl rfl,World.ownsRow_nil _ _ _ _,by simp[Value.ownBlock],λ_=>rfl⟩
theorem txt3 (a b c d:Bs):(⟨a.toArray⟩:ByteArray)++⟨b.toArray⟩++⟨c.toArray⟩++⟨d.toArray⟩=⟨(a++b++c++d).toArray⟩:=by
 apply ByteArray.ext;simp
def Still (W W':World):Prop:=W'.heap.size=W.heap.size/\(∀a,W'.cell? a=W.cell? a)/\∀(g:Nat) cs t f,W.heap[g]?=some (.cells cs t f)->t≠5->W'.heap[g]?=some (.cells cs t f)
theorem Still.drew (W:World):Still W W.drew:=⟨rfl,λ_=>rfl,λ_ _ _ _ h _=>h⟩
theorem Still.freeze {W:World} {g:Nat} {cs:Array Value} {f:Nat×Nat} (h:W.heap[g]?=some (.cells cs 5 f)) (n:Nat):Still W (W.freeze ⟨g,0,none⟩ n):=by
 unfold World.freeze;split
 ·exact⟨rfl,λ_=>rfl,λ_ _ _ _ h _=>h⟩
 ·refine⟨σ,λa=>?_,λb c t f2 h2 ht=>?_⟩
  ·unfold World.cell?;simp only[Array.getElem?_modify]
   by_cases e:g=a.block
   ·subst e;rw[if_pos rfl,h]
    rfl
   ·rw[if_neg e]
  ·simp only[Array.getElem?_modify];rw[if_neg (λe=>by rw[e,h2] at h;injection h with h;injection h with _ h3 _;exact ht h3)];exact h2
theorem yDa (b:Nat) (cs:Array Value) (l:List UInt8) (w:World) (h:Cmd b cs l w):
  Calls Tryz.prog 27 #[slf b] w λe w'=>e=.returned (.string ⟨l.toArray⟩)/\Below b w w'/\w'.heap[b]?=w.heap[b]?/\Still w w':=by
 obtain⟨p,v,hp,hv,_,hown,hne,hnil⟩:=h.own;have k1:w.cell? ⟨b,21,none⟩=some v:=(xA h.blk 21).trans hv
 by_cases h0:l=[]
 ·subst h0;rw[hnil rfl] at k1;refine(xNd b w k1).mono ?_;rintro e w' ⟨rfl,rfl⟩;exact⟨rfl,Below.drew (Below.refl b w),rfl,Still.drew w⟩
 ·rcases hown.2 with ⟨_,hz⟩|⟨g,cap,cur,h1,h2,h3,h4,h5,h6,h7⟩
  ·exact absurd (List.eq_nil_of_length_eq_zero hz) h0
  ·rw[h1] at k1 hne;refine(xNc b g cap cur l w k1 h0 h3 h4 h5 h6 h7).mono ?_;rintro e w' ⟨rfl,rfl⟩;refine⟨rfl,Lib.below_freeze (Below.drew (Below.refl b w)) (p:=⟨g,0,none⟩) h2 _,?_,Still.freeze (W:=w.drew) h3 _⟩;exact xSz (λe=>hne (congrArg some e)) _
structure Stb (K:World->Prop):Prop where
 still:∀{W W':World},K W->Still W W'->K W'
 put:∀{W:World} {g:Nat} {o:Obj} (xs:List Value),K W->W.heap[g]?=some o->o=xX (.slice none 0 0) (.slice none 0 0)∨o=xPf->K (xU g 0 xs W)
abbrev tkF (t:Tok):List Value:=[.int .i64 t.1,xO t.2]
theorem xUy:∀(T:List Tok) (j:Nat) (x:Tok) (i:Nat) (u:Value),T[j]?=some x->(tkF x)[i]?=some u->(kY T)[j*2+i]?=some u
 |[],j,x,i,u,h,_=>by simp at h
 |t::T,0,x,i,u,h,h2=>by
  simp at h;subst h
  match i,h2 with
  |0,h2=>simpa[kY] using h2
  |1,h2=>simpa[kY] using h2
  |n+2,h2=>simp at h2
 |t::T,j+1,x,i,u,h,h2=>by
  have:=xUy T j x i u (by simpa using h) h2;rw[show(j+1)*2+i=(j*2+i)+1+1 by omega];simpa[kY] using this
def xOx (K:List Value->Bs->World->Prop) (N1 N2:Prop) (b:Nat) (n0 n1 n2 n3 n4 n5:Value) (sl:Value) (W:World) (e:Ending) (W':World):Prop:=
 (∃v0 v1 v2 v3 v4 v5 v6 v7 v8 v9 v10 v11 vp vq l,e=.returned (.int .i64 0)/\Cmd b #[v0,v1,v2,v3,v4,v5,v6,v7,v8,v9,v10,v11,n0,n1,n2,n3,n4,n5,sl,.bool false,vp,vq] l W'/\K [v0,v1,v2,v3,v4,v5,v6,v7,v8,v9,v10,v11] l W'/\(∀v∈[v0,v1,v2,v3,v4,v5,v6,v7,v8,v9,v10,v11],v.oneCell'=true)/\l.length<=1000000/\Below b W W')∨
  (e=.returned (.int .i64 1)/\N1/\Below b W W')∨(e=.returned (.int .i64 2)/\N2/\Below b W W')
def xB6 (K:List Value->Bs->World->Prop) (N1 N2:Prop) (d0 d1 s0 s1 s2 s3 s4 s5 s6 s7 s8 s9:Value) (tag:Bs) (w:World) (e:Ending) (w':World):Prop:=
 Below w.heap.size w w'/\((∃v0 v1 v2 v3 v4 v5 v6 v7 v8 v9 v10 v11 l,e=.returned (.tuple #[.agg #[v0,v1],.agg #[v2,v3,v4,v5,v6,v7,v8,v9,v10,v11],xO (l++tag++[32,79,75]++[13,10])])/\K [v0,v1,v2,v3,v4,v5,v6,v7,v8,v9,v10,v11] l w'/\(∀v∈[v0,v1,v2,v3,v4,v5,v6,v7,v8,v9,v10,v11],v.oneCell'=true))∨
  (e=.returned (.tuple #[.agg #[d0,d1],.agg #[s0,s1,s2,s3,s4,s5,s6,s7,s8,s9],xO (tag++[32,78,79]++[13,10])])/\N1)∨(e=.returned (.tuple #[.agg #[d0,d1],.agg #[s0,s1,s2,s3,s4,s5,s6,s7,s8,s9],xO (tag++[32,66,65,68]++[13,10])])/\N2))
def NoI (w:World) (st1 st2:Bool) (d0 d1:Value) (so:Obj) (W:World):Prop:=
 Below w.heap.size w W/\W.heap[w.heap.size]?=some (xX d0 d1)/\W.heap[w.heap.size+1]?=some so/\W.heap[w.heap.size+1+1+1+1]?=some (if st1 then xX d0 d1 else xX (.slice none 0 0) (.slice none 0 0))/\W.heap[w.heap.size+1+1+1+1+1]?=some (if st2 then so else xPf)
theorem NoI.st1 {w W:World} {s2:Bool} {d0 d1:Value} {so:Obj} (h:NoI w false s2 d0 d1 so W):NoI w true s2 d0 d1 so (xU (w.heap.size+1+1+1+1) 0 [d0,d1] W):=by
 obtain⟨h1,h2,h3,h4,h5⟩:=h;rw[if_neg σ] at h4;exact⟨xZ ω _ 0 _ h1,xM ω _ 0 _ h2,xM ω _ 0 _ h3,by rw[if_pos rfl];exact yU h4 rfl,xM ω _ 0 _ h5⟩
theorem NoI.st2 {w W:World} {s1b:Bool} {d0 d1 s0 s1 s2 s3 s4 s5 s6 s7 s8 s9:Value} (h:NoI w s1b false d0 d1 (uM s0 s1 s2 s3 s4 s5 s6 s7 s8 s9) W):NoI w s1b true d0 d1 (uM s0 s1 s2 s3 s4 s5 s6 s7 s8 s9) (xU (w.heap.size+1+1+1+1+1) 0 [s0,s1,s2,s3,s4,s5,s6,s7,s8,s9] W):=by
 obtain⟨h1,h2,h3,h4,h5⟩:=h;rw[if_neg σ] at h5;exact⟨xZ ω _ 0 _ h1,xM ω _ 0 _ h2,xM ω _ 0 _ h3,xM ω _ 0 _ h4,by rw[if_pos rfl];exact yU h5 rfl⟩
theorem txt2 (a b c:Bs):(⟨a.toArray⟩:ByteArray)++⟨b.toArray⟩++⟨c.toArray⟩=⟨(a++b++c).toArray⟩:=by
 apply ByteArray.ext;simp
theorem yCj (K:List Value->Bs->World->Prop) (N1 N2:Prop) (d0 d1 s0 s1 s2 s3 s4 s5 s6 s7 s8 s9 n0 n1 n2 n3 n4 n5 xv lv:Value) (X L:List Bs) (tag nm NM:Bs) (rest:List Tok) (nd:Int) (fid:FuncId) (mt:Bool) (w:World)
  (hK:∀vs l,Stb (K vs l)) (hx:RdS w w.heap.size xv X) (hl:RdS w w.heap.size lv L) (hX:∀x∈X,x.length<=1000000) (hn:X.length<=1000) (hn2:L.length<=1000)
  (hone:∀v∈[d0,d1,s0,s1,s2,s3,s4,s5,s6,s7,s8,s9],v.oneCell'=true)
  (hT:rV X L=some ((0,tag)::(0,nm)::rest)) (htag:tag≠[42]) (hnm:upP nm=NM) (hid:NM≠[85,73,68]) (htl:tag.length<=1000000) (hnl:nm.length<=1000000)
  (hin:(NM,Value.agg #[.int .i64 nd,.func (.func fid) #[] #[]])∈vD) (huq:∀u,(NM,u)∈vD->u=Value.agg #[.int .i64 nd,.func (.func fid) #[] #[]]) (hE:∀args W,(callFunc fid args).run Tryz.prog W=.ok (.enter fid args) W)
  (hme:∀b sl W,W.heap[b]?=some (.cells #[d0,d1,s0,s1,s2,s3,s4,s5,s6,s7,s8,s9,n0,n1,n2,n3,n4,n5,sl,.bool false,.pointer none,.slice none 0 0] 83 (0,0))->Calls Tryz.prog 26 #[xY0 b,.int .i64 nd] W λe w'=>e=.returned (.bool mt)/\w'=W) (hmf:mt=false->N2)
  (hrun:mt=true->∀b sl W,Below w.heap.size w W->w.heap.size<=b->Cmd b #[d0,d1,s0,s1,s2,s3,s4,s5,s6,s7,s8,s9,n0,n1,n2,n3,n4,n5,sl,.bool false,.pointer none,.slice none 0 0] [] W->RK.RdR 2 tkF W W.heap.size sl rest->Calls Tryz.prog fid #[xY0 b] W (xOx K N1 N2 b n0 n1 n2 n3 n4 n5 sl W)):
  Calls Tryz.prog 13 #[.agg #[d0,d1],.agg #[s0,s1,s2,s3,s4,s5,s6,s7,s8,s9],.agg #[xv,lv],.agg #[n0,n1,n2,n3,n4,n5]] w (xB6 K N1 N2 d0 d1 s0 s1 s2 s3 s4 s5 s6 s7 s8 s9 tag w):=by
 have HT:=ι (λW (h:Below w.heap.size w W)=>by
  have:=VB.xRd xv lv X L W ((hx.below h ν).more h.size) ((hl.below h ν).more h.size) hX hn hn2;rw[hT] at this;exact this)
 have xMz:=ι hone;have HK:=ι hK;have HME:=ι hme;have HMF:=ι hmf;have HRUN:=ι hrun;have HTAB:=ι (λW b (h:zZ W b vD)=>h.hit xB7 Tryz.underlying89 (s:=NM) (xB7 _ hin) hin huq);clear hx hl hX hn hn2 hT hone hK hme hmf hrun hin huq
 have H6:=ι (six w (xX d0 d1) (uM s0 s1 s2 s3 s4 s5 s6 s7 s8 s9) (.cells #[xv,lv] 52) (xXw n0 n1 n2 n3 n4 n5) (xX (.slice none 0 0) (.slice none 0 0)) xPf);obtain⟨tb,htb⟩:∃tb:ByteArray,(⟨tag.toArray⟩:ByteArray)=tb:=⟨_,rfl⟩;have hts:tb.size<=1000000:=by rw[<-htb];exact htl
 have hstar:(tb.toList==[42])=false:=by rw[<-htb,ByteArray.toList_eq];exact beq_eq_false_iff_ne.2 htag
 have HTB:=ι htb;have HU:=ι (λW=>VB.xUn ⟨nm.toArray⟩ W (by show nm.length<_;omega));obtain⟨nb,hnb⟩:∃nb:ByteArray,(⟨NM.toArray⟩:ByteArray)=nb:=⟨_,rfl⟩;have huid:(nb.toList==[85,73,68])=false:=by rw[<-hnb,ByteArray.toList_eq];exact beq_eq_false_iff_ne.2 hid
 simp only[hnm,xO,hnb] at HU HTAB;have T0:=λ(W:World) (a:Addr)=>run_store Tryz.prog W a d0 .plain (xMz.o d0 σ);have T1:=λ(W:World) (a:Addr)=>run_store Tryz.prog W a d1 .plain (xMz.o d1 σ);have U0:=λ(W:World) (a:Addr)=>run_store Tryz.prog W a s0 .plain (xMz.o s0 σ)
 have U1:=λ(W:World) (a:Addr)=>run_store Tryz.prog W a s1 .plain (xMz.o s1 σ);have U2:=λ(W:World) (a:Addr)=>run_store Tryz.prog W a s2 .plain (xMz.o s2 σ);have U3:=λ(W:World) (a:Addr)=>run_store Tryz.prog W a s3 .plain (xMz.o s3 σ)
 have U4:=λ(W:World) (a:Addr)=>run_store Tryz.prog W a s4 .plain (xMz.o s4 σ);have U5:=λ(W:World) (a:Addr)=>run_store Tryz.prog W a s5 .plain (xMz.o s5 σ);have U6:=λ(W:World) (a:Addr)=>run_store Tryz.prog W a s6 .plain (xMz.o s6 σ)
 have U7:=λ(W:World) (a:Addr)=>run_store Tryz.prog W a s7 .plain (xMz.o s7 σ);have U8:=λ(W:World) (a:Addr)=>run_store Tryz.prog W a s8 .plain (xMz.o s8 σ);have U9:=λ(W:World) (a:Addr)=>run_store Tryz.prog W a s9 .plain (xMz.o s9 σ)
 have HST:=ι (And.intro T0 (And.intro T1 (And.intro U0 (And.intro U1 (And.intro U2 (And.intro U3 (And.intro U4 (And.intro U5 (And.intro U6 (And.intro U7 (And.intro U8 U9)))))))))));clear T0 T1 U0 U1 U2 U3 U4 U5 U6 U7 U8 U9;clear htag hnm htl htb hnb hid
 go_enter Tryz.func13,Tryz.ntmps13;go_wp2_with fail
 refine(HT.o _ H6.o.bel).mono ?_;rintro e w1 ⟨v,rfl,hown,hb1⟩;obtain⟨g,cap,rfl,hcap,hg,hcl⟩:=VB.yA8 hown σ;have k0:w1.cell? ⟨g,0,none⟩=some (.int .i64 0):=hcl 0 _ rfl;have k1:w1.cell? ⟨g,1,none⟩=some (.string tb):=by rw[<-HTB.o];exact hcl 1 _ rfl
 have k2:w1.cell? ⟨g,2,none⟩=some (.int .i64 0):=hcl 2 _ rfl;have k3:w1.cell? ⟨g,3,none⟩=some (.string ⟨nm.toArray⟩):=hcl 3 _ rfl
 have HAR:=ι (And.intro hg (λj x (hj:rest[j]?=some x) i u (hu:(tkF x)[i]?=some u)=>hcl (4+(j*2+i)) u (by rw[show 4+(j*2+i)=(j*2+i)+1+1+1+1 by omega];simpa[kY] using xUy rest j x i u hj hu)));have HB1:=ι (H6.o.bel.trans (hb1.mono H6.o.bel.size));have hz6:=H6.o.size
 have P0:=ι (xB H6.o.p0 hb1 ω);have P1:=ι (xB H6.o.p1 hb1 ω);have P3:Hid (w1.heap[w.heap.size+1+1+1]?=some (xXw n0 n1 n2 n3 n4 n5)):=ι (xB H6.o.p3 hb1 ω);have P4:Hid (w1.heap[w.heap.size+1+1+1+1]?=some (xX (.slice none 0 0) (.slice none 0 0))):=ι (xB H6.o.p4 hb1 ω)
 have P5:Hid (w1.heap[w.heap.size+1+1+1+1+1]?=some xPf):=ι (xB H6.o.p5 hb1 ω);have hz1:w.heap.size+6<=w1.heap.size:=by have:=hb1.size;omega
 clear hown hb1 hcl hz6 H6 HT;simp only[List.length_cons] at hcap⊢;obtain⟨n9,hn9⟩:∃n9,rest.length=n9:=⟨_,rfl⟩;have HN9:=ι hn9;rw[hn9] at hcap⊢;clear hn9;have hc2:2<=cap:=by omega
 have hc9:n9<=cap-2:=by omega
 go_upto_region 4 with fail
 go_cut [13,14,15] (λv13 v14 v15 wx=>Hid (v13=.string tb/\v14=.string nb/\(∃A9 c9,v15=.slice A9 n9 c9/\n9<=c9/\(n9≠0->A9=some ⟨g,4,none⟩))/\Below w1.heap.size w1 wx))
 case first=>
  by_cases hc2:cap=2
  ·have hn0:n9=0:=by omega
   subst hn0;subst hc2;refine RG.xP (λW=>Hid (Below w1.heap.size w1 W)) κ κ (ι (Below.refl _ _).drew) ?_;iterate 8 refine RG.dF (λw9 hw9=>have q1:=(hw9.o.cell (p:=⟨g,1,none⟩) hg).trans k1;have q3:=(hw9.o.cell (p:=⟨g,3,none⟩) hg).trans k3;And.intro (q1) q3) ?_
   apply RG.xJ
   ·intro w9 hw9;repeat go_step
    refine(HU.o w9).mono ?_;rintro e w10 ⟨rfl,zM⟩;simp only[];repeat go_step
    with_reducible refine RG.xD ?_
    exact ι (hw9.o.trans (zM.mono hw9.o.size))
   ·rfl
   iterate 5 refine RG.dS ?_
   refine RG.xS (λw2 hb2=>?_);go_wp2_with fail
   go_meet;exact ι ⟨rfl,rfl,⟨_,_,rfl,Nat.zero_le _,λh=>absurd rfl h⟩,hb2.o⟩
  ·skip
   refine RG.xP (λW=>Hid (Below w1.heap.size w1 W)) κ κ (ι (Below.refl _ _).drew) ?_;iterate 8 refine RG.dF (λw9 hw9=>have q1:=(hw9.o.cell (p:=⟨g,1,none⟩) hg).trans k1;have q3:=(hw9.o.cell (p:=⟨g,3,none⟩) hg).trans k3;And.intro (q1) q3) ?_
   apply RG.xJ
   ·intro w9 hw9;repeat go_step
    refine(HU.o w9).mono ?_;rintro e w10 ⟨rfl,zM⟩;simp only[];repeat go_step
    with_reducible refine RG.xD ?_
    exact ι (hw9.o.trans (zM.mono hw9.o.size))
   ·rfl
   iterate 5 refine RG.dS ?_
   refine RG.xS (λw2 hb2=>?_);go_wp2_with fail
   go_meet;exact ι ⟨rfl,rfl,⟨_,_,rfl,hc9,λ_=>rfl⟩,hb2.o⟩
 case rest=>
  obtain⟨rfl,rfl,⟨A9,c9,rfl,hnc,hA9⟩,hb2⟩:=hcut.o;have HB2:=ι (HB1.o.trans (hb2.mono HB1.o.size));have Q0:=ι (xB P0.o hb2 (xG P0.o));have Q1:=ι (xB P1.o hb2 (xG P1.o));have Q3:=ι (xB P3.o hb2 (xG P3.o));have Q4:=ι (xB P4.o hb2 (xG P4.o));have Q5:=ι (xB P5.o hb2 (xG P5.o))
  have HA:Hid (RK.RdR 2 tkF wc wc.heap.size (.slice A9 n9 c9) rest):=ι ⟨A9,c9,by rw[HN9.o],by rw[HN9.o];exact hnc,λhne=>⟨g,4,hA9 (by rw[<-HN9.o];omega),Nat.lt_of_lt_of_le HAR.o.1 hb2.size,λj x hj i u hu=>by rw[Nat.add_assoc];exact(hb2.cell (p:=⟨g,4+(j*2+i),none⟩) HAR.o.1).trans (HAR.o.2 j x hj i u hu)⟩⟩
  have hz2:w.heap.size+6<=wc.heap.size:=Nat.le_trans hz1 hb2.size;clear hb2 P0 P1 P3 P4 P5 HB1 k0 k1 k2 k3 hg hz1 HU hstar hnl HAR HN9 hA9 hnc hcap hc2 hc9 hcut;have a0:wc.cell? ⟨w.heap.size,0,none⟩=some d0:=xA Q0.o 0;have a1:wc.cell? ⟨w.heap.size,1,none⟩=some d1:=xA Q0.o 1
  have x0:wc.cell? ⟨w.heap.size+1,0,none⟩=some s0:=xA Q1.o 0;have x1:wc.cell? ⟨w.heap.size+1,1,none⟩=some s1:=xA Q1.o 1;have x2:wc.cell? ⟨w.heap.size+1,2,none⟩=some s2:=xA Q1.o 2;have x3:wc.cell? ⟨w.heap.size+1,3,none⟩=some s3:=xA Q1.o 3
  have x4:wc.cell? ⟨w.heap.size+1,4,none⟩=some s4:=xA Q1.o 4;have x5:wc.cell? ⟨w.heap.size+1,5,none⟩=some s5:=xA Q1.o 5;have x6:wc.cell? ⟨w.heap.size+1,6,none⟩=some s6:=xA Q1.o 6;have x7:wc.cell? ⟨w.heap.size+1,7,none⟩=some s7:=xA Q1.o 7
  have x8:wc.cell? ⟨w.heap.size+1,8,none⟩=some s8:=xA Q1.o 8;have x9:wc.cell? ⟨w.heap.size+1,9,none⟩=some s9:=xA Q1.o 9;have e0:wc.cell? ⟨w.heap.size+1+1+1,0,none⟩=some n0:=xA Q3.o 0;have e1:wc.cell? ⟨w.heap.size+1+1+1,1,none⟩=some n1:=xA Q3.o 1
  have e2:wc.cell? ⟨w.heap.size+1+1+1,2,none⟩=some n2:=xA Q3.o 2;have e3:wc.cell? ⟨w.heap.size+1+1+1,3,none⟩=some n3:=xA Q3.o 3;have e4:wc.cell? ⟨w.heap.size+1+1+1,4,none⟩=some n4:=xA Q3.o 4;have e5:wc.cell? ⟨w.heap.size+1+1+1,5,none⟩=some n5:=xA Q3.o 5;go_wp2_with fail
  have HC0:=ι (xL wc (.cells #[d0,d1,s0,s1,s2,s3,s4,s5,s6,s7,s8,s9,n0,n1,n2,n3,n4,n5,.slice A9 n9 c9,.bool false,.pointer none,.slice none 0 0] 83));clear a0 a1 x0 x1 x2 x3 x4 x5 x6 x7 x8 x9 e0 e1 e2 e3 e4 e5;refine(xV7 _).mono ?_;rintro e w3 ⟨rfl,hmap,hb3⟩
  have hz2':(wc.alloc (.cells #[d0,d1,s0,s1,s2,s3,s4,s5,s6,s7,s8,s9,n0,n1,n2,n3,n4,n5,.slice A9 n9 c9,.bool false,.pointer none,.slice none 0 0] 83)).heap.size=wc.heap.size+1:=by simp
  have yB5:(Instr.lookup 89 (.map (some (wc.heap.size+1))) (.string nb) true).run Tryz.prog w3=.ok (.tuple #[.agg #[.int .i64 nd,.func (.func fid) #[] #[]],.bool true]) w3:=by
   rw[hz2'] at hmap;exact HTAB.o _ _ hmap
  have R0:=ι (xB (xK Q0.o _) hb3 (Nat.lt_trans (xG Q0.o) (by rw[hz2'];omega)));have R1:=ι (xB (xK Q1.o _) hb3 (Nat.lt_trans (xG Q1.o) (by rw[hz2'];omega)));have R4:=ι (xB (xK Q4.o _) hb3 (Nat.lt_trans (xG Q4.o) (by rw[hz2'];omega)))
  have R5:=ι (xB (xK Q5.o _) hb3 (Nat.lt_trans (xG Q5.o) (by rw[hz2'];omega)));have RC:=ι (xB HC0.o hb3 (by rw[hz2'];omega))
  have HA3:=ι (show RK.RdR 2 tkF (w3.alloc (.cells #[.int .i64 nd,.func (.func fid) #[] #[]] 87)) (w3.alloc (.cells #[.int .i64 nd,.func (.func fid) #[] #[]] 87)).heap.size (.slice A9 n9 c9) rest from by
   have k1:=(Below.refl wc.heap.size wc).alloc ν (.cells #[d0,d1,s0,s1,s2,s3,s4,s5,s6,s7,s8,s9,n0,n1,n2,n3,n4,n5,.slice A9 n9 c9,.bool false,.pointer none,.slice none 0 0] 83);have k2:=k1.trans (hb3.mono k1.size)
   have k3:=k2.alloc k2.size (.cells #[.int .i64 nd,.func (.func fid) #[] #[]] 87);exact(HA.o.below k3 ν).more k3.size)
  have HB3:=ι ((HB2.o.alloc HB2.o.size _).trans (hb3.mono (by rw[hz2'];have:=HB2.o.size;omega)));have hz3:wc.heap.size+1<=w3.heap.size:=by have:=hb3.size;omega
  clear hmap hb3 hz2' Q0 Q1 Q3 Q4 Q5 HC0 HB2 HA HTAB;have m1:(w3.alloc (.cells #[.int .i64 nd,.nilFunc] 87)).cell? ⟨w3.heap.size,1,none⟩=some .nilFunc:=xA (xL _ _) 1;have m2:(w3.alloc (.cells #[.int .i64 nd,.nilFunc] 87)).frozen? ⟨w3.heap.size,1,none⟩=false:=xC (xL _ _) 1
  have S0:=ι (xK R0.o (.cells #[.int .i64 nd,.func (.func fid) #[] #[]] 87));have S1:=ι (xK R1.o (.cells #[.int .i64 nd,.func (.func fid) #[] #[]] 87));have S4:=ι (xK R4.o (.cells #[.int .i64 nd,.func (.func fid) #[] #[]] 87))
  have S5:=ι (xK R5.o (.cells #[.int .i64 nd,.func (.func fid) #[] #[]] 87));have SC:=ι (xK RC.o (.cells #[.int .i64 nd,.func (.func fid) #[] #[]] 87));have HB4:=ι (HB3.o.alloc HB3.o.size (.cells #[.int .i64 nd,.func (.func fid) #[] #[]] 87));go_wp2_with fail
  refine(HME.o _ _ _ SC.o).mono ?_;rintro e w4 ⟨rfl,rfl⟩;clear R0 R1 R4 R5 RC HB3 m1 m2;cases mt
  case false=>
   clear yB5;generalize (w3.alloc (.cells #[.int .i64 nd,.func (.func fid) #[] #[]] 87))=w5 at S0 S1 S4 S5 SC HB4 HA3⊢;have HB5:Hid (NoI w false false d0 d1 (uM s0 s1 s2 s3 s4 s5 s6 s7 s8 s9) w5):=ι ⟨HB4.o,S0.o,S1.o,S4.o,S5.o⟩;clear HB4 S0 S1 S4 S5 SC HA3 HME HRUN HK
   obtain⟨T0,T1,U0,U1,U2,U3,U4,U5,U6,U7,U8,U9⟩:=HST.o;go_upto_region 12 with fail
   have big1:¬9223372036854775807<tb.size+4:=by omega
   have big2:¬9223372036854775807<tb.size+4+2:=by omega
   refine RG.zJ [5,6] (λL W=>Hid (NoI w (L 5) (L 6) d0 d1 (uM s0 s1 s2 s3 s4 s5 s6 s7 s8 s9) W)) (λL L' W h hI=>by rw[<-h 5 δ,<-h 6 δ];exact hI) κ κ δ (ι ⟨HB5.o.1.drew,HB5.o.2⟩) ?_;refine RG.lF (λL w9 hw9=>have q0:=xA hw9.o.2.1 0;have q1:=xA hw9.o.2.1 1;And.intro (q0) q1) ?_
   refine RG.lF (λL w9 hw9=>have q0:=xA hw9.o.2.2.1 0;have q1:=xA hw9.o.2.2.1 1;have q2:=xA hw9.o.2.2.1 2;have q3:=xA hw9.o.2.2.1 3;have q4:=xA hw9.o.2.2.1 4;have q5:=xA hw9.o.2.2.1 5;have q6:=xA hw9.o.2.2.1 6;have q7:=xA hw9.o.2.2.1 7;have q8:=xA hw9.o.2.2.1 8;have q9:=xA hw9.o.2.2.1 9;And.intro (q0) (And.intro (q1) (And.intro (q2) (And.intro (q3) (And.intro (q4) (And.intro (q5) (And.intro (q6) (And.intro (q7) (And.intro (q8) q9))))))))) ?_
   iterate 3 refine RG.lS ?_
   apply RG.yL
   ·rfl
   ·intro L w9 h0 _ hw9;have hh:=hw9.o;rw[h0] at hh;have r4:=hh.2.2.2.1;rw[if_neg σ] at r4;have f0:=xA r4 0;have f1:=xA r4 1;have y0:=xC r4 0;have y1:=xC r4 1;have hn:=hh.st1;simp only[xU,Nat.reduceAdd] at hn;have HH:=ι hn;clear hw9 hh r4 hn;repeat go_step
    with_reducible refine RG.xD ?_
    show Hid (NoI w true (L 6) _ _ _ _);with_reducible exact HH
   ·rfl
   apply RG.yL
   ·rfl
   ·intro L w9 h0 _ hw9;have hh:=hw9.o;rw[h0] at hh;have r5:=hh.2.2.2.2;rw[if_neg σ] at r5;have f0:=xA r5 0;have y0:=xC r5 0;have f1:=xA r5 1;have y1:=xC r5 1;have f2:=xA r5 2;have y2:=xC r5 2;have f3:=xA r5 3;have y3:=xC r5 3;have f4:=xA r5 4;have y4:=xC r5 4;have f5:=xA r5 5
    have y5:=xC r5 5;have f6:=xA r5 6;have y6:=xC r5 6;have f7:=xA r5 7;have y7:=xC r5 7;have f8:=xA r5 8;have y8:=xC r5 8;have f9:=xA r5 9;have y9:=xC r5 9;have hn:=hh.st2;simp only[xU,Nat.reduceAdd] at hn;have HH:=ι hn;clear hw9 hh r5 hn;repeat go_step
    with_reducible refine RG.xD ?_
    show Hid (NoI w (L 5) true _ _ _ _);with_reducible exact HH
   ·rfl
   refine RG.lS ?_;refine RG.yI (λw9 hw9=>?_);have fin:NoI w true true d0 d1 (uM s0 s1 s2 s3 s4 s5 s6 s7 s8 s9) w9:=hw9.o;have r4:=fin.2.2.2.1;have r5:=fin.2.2.2.2;rw[if_pos rfl] at r4 r5;have f0:=xA r4 0;have f1:=xA r4 1;have g0:=xA r5 0;have g1:=xA r5 1;have g2:=xA r5 2
   have g3:=xA r5 3;have g4:=xA r5 4;have g5:=xA r5 5;have g6:=xA r5 6;have g7:=xA r5 7;have g8:=xA r5 8;have g9:=xA r5 9;have HBE:=ι fin.1;clear hw9 fin r4 r5 HB5;go_wp2
   refine bodyPost_ret (v:=.tuple #[.agg #[d0,d1],.agg #[s0,s1,s2,s3,s4,s5,s6,s7,s8,s9],.string (tb++⟨#[32,66,65,68]⟩++⟨#[13,10]⟩)]) (by simp[results,Tryz.results13,go_sem,f0,f1,g0,g1,g2,g3,g4,g5,g6,g7,g8,g9]) rfl ?_;refine⟨HBE.o,.inr (.inr ⟨?_,HMF.o (by first|rfl|trivial)⟩)⟩
   rw[<-HTB.o];exact congrArg (λb=>Ending.returned (.tuple #[.agg #[d0,d1],.agg #[s0,s1,s2,s3,s4,s5,s6,s7,s8,s9],.string b])) (txt2 tag [32,66,65,68] [13,10])
  case true=>
   have HCM:=ι (xY3 SC.o rfl rfl rfl);have HZ:Hid (w.heap.size<=wc.heap.size):=ι ω;have f1:=xA (xL w3 (.cells #[.int .i64 nd,.func (.func fid) #[] #[]] 87)) 1;go_wp2_with fail
   refine(HRUN.o (by first|rfl|trivial) _ _ _ HB4.o HZ.o HCM.o HA3.o).mono ?_;rintro e w5 (⟨v0,v1,v2,v3,v4,v5,v6,v7,v8,v9,v10,v11,vp,vq,l,rfl,hcm5,hk5,ho5,hl5,hb5⟩|⟨rfl,hn1,hb5⟩|⟨rfl,hn1,hb5⟩)
   ·clear f1
    have HF:Hid (xKb w wc.heap.size (w.heap.size+1+1+1+1) (w.heap.size+1+1+1+1+1) #[v0,v1,v2,v3,v4,v5,v6,v7,v8,v9,v10,v11,n0,n1,n2,n3,n4,n5,.slice A9 n9 c9,.bool false,vp,vq] l false false false (xX v0 v1) (uM v2 v3 v4 v5 v6 v7 v8 v9 v10 v11) w5/\K [v0,v1,v2,v3,v4,v5,v6,v7,v8,v9,v10,v11] l w5):=
     ι ⟨⟨HB4.o.trans (hb5.mono HZ.o),hcm5.blk,λ_=>hcm5,xB S4.o hb5 ω,xB S5.o hb5 ω⟩,hk5⟩
    have HK5:=ι (HK.o [v0,v1,v2,v3,v4,v5,v6,v7,v8,v9,v10,v11] l);have Ho5:=ι ho5;clear S0 S1 S4 S5 SC HB4 HCM hcm5 hb5 yB5 hk5 ho5 HME HMF HRUN HK;go_upto_region 18 with fail
    obtain⟨lb,hlb2⟩:∃lb:ByteArray,(⟨l.toArray⟩:ByteArray)=lb:=⟨_,rfl⟩;have hlb:lb.size<=1000000:=by rw[<-hlb2];exact hl5
    have HLB:=ι hlb2;have HSTR:=ι (λw9 (h:Cmd wc.heap.size #[v0,v1,v2,v3,v4,v5,v6,v7,v8,v9,v10,v11,n0,n1,n2,n3,n4,n5,.slice A9 n9 c9,.bool false,vp,vq] l w9)=>yDa wc.heap.size #[v0,v1,v2,v3,v4,v5,v6,v7,v8,v9,v10,v11,n0,n1,n2,n3,n4,n5,.slice A9 n9 c9,.bool false,vp,vq] l w9 h)
    rw[hlb2] at HSTR;clear hlb2 hl5;have big0:¬9223372036854775807<lb.size+tb.size:=by omega
    have big1:¬9223372036854775807<lb.size+tb.size+3:=by omega
    have big2:¬9223372036854775807<lb.size+tb.size+3+2:=by omega
    have V0:=λ(W:World) (a:Addr)=>run_store Tryz.prog W a v0 .plain (Ho5.o v0 σ);have V1:=λ(W:World) (a:Addr)=>run_store Tryz.prog W a v1 .plain (Ho5.o v1 σ);have V2:=λ(W:World) (a:Addr)=>run_store Tryz.prog W a v2 .plain (Ho5.o v2 σ)
    have V3:=λ(W:World) (a:Addr)=>run_store Tryz.prog W a v3 .plain (Ho5.o v3 σ);have V4:=λ(W:World) (a:Addr)=>run_store Tryz.prog W a v4 .plain (Ho5.o v4 σ);have V5:=λ(W:World) (a:Addr)=>run_store Tryz.prog W a v5 .plain (Ho5.o v5 σ)
    have V6:=λ(W:World) (a:Addr)=>run_store Tryz.prog W a v6 .plain (Ho5.o v6 σ);have V7:=λ(W:World) (a:Addr)=>run_store Tryz.prog W a v7 .plain (Ho5.o v7 σ);have V8:=λ(W:World) (a:Addr)=>run_store Tryz.prog W a v8 .plain (Ho5.o v8 σ)
    have V9:=λ(W:World) (a:Addr)=>run_store Tryz.prog W a v9 .plain (Ho5.o v9 σ);have V10:=λ(W:World) (a:Addr)=>run_store Tryz.prog W a v10 .plain (Ho5.o v10 σ);have V11:=λ(W:World) (a:Addr)=>run_store Tryz.prog W a v11 .plain (Ho5.o v11 σ)
    refine RG.zJ [11,16,17] (λL W=>Hid (xKb w wc.heap.size (w.heap.size+1+1+1+1) (w.heap.size+1+1+1+1+1) #[v0,v1,v2,v3,v4,v5,v6,v7,v8,v9,v10,v11,n0,n1,n2,n3,n4,n5,.slice A9 n9 c9,.bool false,vp,vq] l (L 11) (L 16) (L 17) (xX v0 v1) (uM v2 v3 v4 v5 v6 v7 v8 v9 v10 v11) W/\K [v0,v1,v2,v3,v4,v5,v6,v7,v8,v9,v10,v11] l W)) (λL L' W h hI=>by rw[<-h 11 δ,<-h 16 δ,<-h 17 δ];exact hI) κ κ δ (ι ⟨HF.o.1.drew,HK5.o.still HF.o.2 (Still.drew _)⟩) ?_
    iterate 3 refine RG.lS ?_
    refine RG.lF (λL w9 hw9=>have q0:=xA hw9.o.1.cmd 0;have q1:=xA hw9.o.1.cmd 1;And.intro (q0) q1) ?_;iterate 3 refine RG.lS ?_
    refine RG.lF (λL w9 hw9=>have q2:=xA hw9.o.1.cmd 2;have q3:=xA hw9.o.1.cmd 3;have q4:=xA hw9.o.1.cmd 4;have q5:=xA hw9.o.1.cmd 5;have q6:=xA hw9.o.1.cmd 6;have q7:=xA hw9.o.1.cmd 7;have q8:=xA hw9.o.1.cmd 8;have q9:=xA hw9.o.1.cmd 9;have q10:=xA hw9.o.1.cmd 10;have q11:=xA hw9.o.1.cmd 11;And.intro (q2) (And.intro (q3) (And.intro (q4) (And.intro (q5) (And.intro (q6) (And.intro (q7) (And.intro (q8) (And.intro (q9) (And.intro (q10) q11))))))))) ?_
    iterate 3 refine RG.lS ?_
    apply RG.yL
    ·rfl
    ·intro L w9 h0 _ hw9;have hcmd:=hw9.o.1.bld h0;repeat go_step
     refine(HSTR.o w9 hcmd).mono ?_;rintro e w10 ⟨rfl,zM,he10,hs10⟩;simp only[];repeat go_step
     with_reducible refine RG.xD ?_
     exact ι ⟨hw9.o.1.call zM he10 ω ω ω,HK5.o.still hw9.o.2 hs10⟩
    ·rfl
    iterate 4 refine RG.lS ?_
    apply RG.yL
    ·rfl
    ·intro L w9 h0 _ hw9;have hh:=hw9.o;rw[h0] at hh;have r4:=hh.1.r4;rw[if_neg σ] at r4;have f0:=xA r4 0;have f1:=xA r4 1;have y0:=xC r4 0;have y1:=xC r4 1;have hk:=HK5.o.put [v0,v1] hh.2 r4 (.inl rfl);simp only[xU,Nat.reduceAdd] at hk;have HK9:=ι hk;have HH:=ι hh.1
     clear hw9 hh r4 hk;repeat go_step
     with_reducible refine RG.xD ?_
     show Hid (xKb w _ _ _ _ _ (L 11) true (L 17) _ _ _/\_);with_reducible exact ι ⟨xKb.st1 HH.o ω ω ω,HK9.o⟩
    ·rfl
    apply RG.yL
    ·rfl
    ·intro L w9 h0 _ hw9;have hh:=hw9.o;rw[h0] at hh;have r5:=hh.1.r5;rw[if_neg σ] at r5;have f0:=xA r5 0;have y0:=xC r5 0;have f1:=xA r5 1;have y1:=xC r5 1;have f2:=xA r5 2;have y2:=xC r5 2;have f3:=xA r5 3;have y3:=xC r5 3;have f4:=xA r5 4;have y4:=xC r5 4;have f5:=xA r5 5
     have y5:=xC r5 5;have f6:=xA r5 6;have y6:=xC r5 6;have f7:=xA r5 7;have y7:=xC r5 7;have f8:=xA r5 8;have y8:=xC r5 8;have f9:=xA r5 9;have y9:=xC r5 9;have hk:=HK5.o.put [v2,v3,v4,v5,v6,v7,v8,v9,v10,v11] hh.2 r5 (.inr rfl);simp only[xU,Nat.reduceAdd] at hk
     have HK9:=ι hk;have HH:=ι hh.1;clear hw9 hh r5 hk;repeat go_step
     with_reducible refine RG.xD ?_
     show Hid (xKb w _ _ _ _ _ (L 11) (L 16) true _ _ _/\_);with_reducible exact ι ⟨xKb.st2 HH.o ω ω ω,HK9.o⟩
    ·rfl
    refine RG.lS ?_;refine RG.yI (λw9 hw9=>?_)
    have fin:xKb w wc.heap.size (w.heap.size+1+1+1+1) (w.heap.size+1+1+1+1+1) #[v0,v1,v2,v3,v4,v5,v6,v7,v8,v9,v10,v11,n0,n1,n2,n3,n4,n5,.slice A9 n9 c9,.bool false,vp,vq] l true true true (xX v0 v1) (uM v2 v3 v4 v5 v6 v7 v8 v9 v10 v11) w9:=hw9.o.1;have r4:=fin.r4
    have r5:=fin.r5;rw[if_pos rfl] at r4 r5;have f0:=xA r4 0;have f1:=xA r4 1;have g0:=xA r5 0;have g1:=xA r5 1;have g2:=xA r5 2;have g3:=xA r5 3;have g4:=xA r5 4;have g5:=xA r5 5;have g6:=xA r5 6;have g7:=xA r5 7;have g8:=xA r5 8;have g9:=xA r5 9
    have HBE:=ι (And.intro fin.bel hw9.o.2);clear hw9 fin r4 r5 HF;go_wp2
    refine bodyPost_ret (v:=.tuple #[.agg #[v0,v1],.agg #[v2,v3,v4,v5,v6,v7,v8,v9,v10,v11],.string (lb++tb++⟨#[32,79,75]⟩++⟨#[13,10]⟩)]) (by simp[results,Tryz.results13,go_sem,f0,f1,g0,g1,g2,g3,g4,g5,g6,g7,g8,g9]) rfl ?_
    refine⟨HBE.o.1,.inl ⟨v0,v1,v2,v3,v4,v5,v6,v7,v8,v9,v10,v11,l,?_,HBE.o.2,Ho5.o⟩⟩;rw[<-HTB.o,<-HLB.o];exact congrArg (λb=>Ending.returned (.tuple #[.agg #[v0,v1],.agg #[v2,v3,v4,v5,v6,v7,v8,v9,v10,v11],.string b])) (txt3 l tag [32,79,75] [13,10])
   ·have HN1:=ι hn1;have HB5:Hid (NoI w false false d0 d1 (uM s0 s1 s2 s3 s4 s5 s6 s7 s8 s9) w5):=ι ⟨HB4.o.trans (hb5.mono HZ.o),xB S0.o hb5 ω,xB S1.o hb5 ω,xB S4.o hb5 ω,xB S5.o hb5 ω⟩;clear f1 HB4 yB5 HME HMF HRUN HK HCM S0 S1 S4 S5 SC hb5 hn1 HA3
    obtain⟨T0,T1,U0,U1,U2,U3,U4,U5,U6,U7,U8,U9⟩:=HST.o;go_upto_region 17 with fail
    have big1:¬9223372036854775807<tb.size+3:=by omega
    have big2:¬9223372036854775807<tb.size+3+2:=by omega
    refine RG.zJ [5,6] (λL W=>Hid (NoI w (L 5) (L 6) d0 d1 (uM s0 s1 s2 s3 s4 s5 s6 s7 s8 s9) W)) (λL L' W h hI=>by rw[<-h 5 δ,<-h 6 δ];exact hI) κ κ δ (ι ⟨HB5.o.1.drew,HB5.o.2⟩) ?_;refine RG.lF (λL w9 hw9=>have q0:=xA hw9.o.2.1 0;have q1:=xA hw9.o.2.1 1;And.intro (q0) q1) ?_
    refine RG.lF (λL w9 hw9=>have q0:=xA hw9.o.2.2.1 0;have q1:=xA hw9.o.2.2.1 1;have q2:=xA hw9.o.2.2.1 2;have q3:=xA hw9.o.2.2.1 3;have q4:=xA hw9.o.2.2.1 4;have q5:=xA hw9.o.2.2.1 5;have q6:=xA hw9.o.2.2.1 6;have q7:=xA hw9.o.2.2.1 7;have q8:=xA hw9.o.2.2.1 8;have q9:=xA hw9.o.2.2.1 9;And.intro (q0) (And.intro (q1) (And.intro (q2) (And.intro (q3) (And.intro (q4) (And.intro (q5) (And.intro (q6) (And.intro (q7) (And.intro (q8) q9))))))))) ?_
    iterate 3 refine RG.lS ?_
    apply RG.yL
    ·rfl
    ·intro L w9 h0 _ hw9;have hh:=hw9.o;rw[h0] at hh;have r4:=hh.2.2.2.1;rw[if_neg σ] at r4;have f0:=xA r4 0;have f1:=xA r4 1;have y0:=xC r4 0;have y1:=xC r4 1;have hn:=hh.st1;simp only[xU,Nat.reduceAdd] at hn;have HH:=ι hn;clear hw9 hh r4 hn;repeat go_step
     with_reducible refine RG.xD ?_
     show Hid (NoI w true (L 6) _ _ _ _);with_reducible exact HH
    ·rfl
    apply RG.yL
    ·rfl
    ·intro L w9 h0 _ hw9;have hh:=hw9.o;rw[h0] at hh;have r5:=hh.2.2.2.2;rw[if_neg σ] at r5;have f0:=xA r5 0;have y0:=xC r5 0;have f1:=xA r5 1;have y1:=xC r5 1;have f2:=xA r5 2;have y2:=xC r5 2;have f3:=xA r5 3;have y3:=xC r5 3;have f4:=xA r5 4;have y4:=xC r5 4
     have f5:=xA r5 5;have y5:=xC r5 5;have f6:=xA r5 6;have y6:=xC r5 6;have f7:=xA r5 7;have y7:=xC r5 7;have f8:=xA r5 8;have y8:=xC r5 8;have f9:=xA r5 9;have y9:=xC r5 9;have hn:=hh.st2;simp only[xU,Nat.reduceAdd] at hn;have HH:=ι hn;clear hw9 hh r5 hn;repeat go_step
     with_reducible refine RG.xD ?_
     show Hid (NoI w (L 5) true _ _ _ _);with_reducible exact HH
    ·rfl
    refine RG.lS ?_;refine RG.yI (λw9 hw9=>?_);have fin:NoI w true true d0 d1 (uM s0 s1 s2 s3 s4 s5 s6 s7 s8 s9) w9:=hw9.o;have r4:=fin.2.2.2.1;have r5:=fin.2.2.2.2;rw[if_pos rfl] at r4 r5;have f0:=xA r4 0;have f1:=xA r4 1;have g0:=xA r5 0;have g1:=xA r5 1;have g2:=xA r5 2
    have g3:=xA r5 3;have g4:=xA r5 4;have g5:=xA r5 5;have g6:=xA r5 6;have g7:=xA r5 7;have g8:=xA r5 8;have g9:=xA r5 9;have HBE:=ι fin.1;clear hw9 fin r4 r5 HB5;go_wp2
    refine bodyPost_ret (v:=.tuple #[.agg #[d0,d1],.agg #[s0,s1,s2,s3,s4,s5,s6,s7,s8,s9],.string (tb++⟨#[32,78,79]⟩++⟨#[13,10]⟩)]) (by simp[results,Tryz.results13,go_sem,f0,f1,g0,g1,g2,g3,g4,g5,g6,g7,g8,g9]) rfl ?_;refine⟨HBE.o,.inr (.inl ⟨?_,HN1.o⟩)⟩;rw[<-HTB.o]
    exact congrArg (λb=>Ending.returned (.tuple #[.agg #[d0,d1],.agg #[s0,s1,s2,s3,s4,s5,s6,s7,s8,s9],.string b])) (txt2 tag [32,78,79] [13,10])
   ·have HN1:=ι hn1;have HB5:Hid (NoI w false false d0 d1 (uM s0 s1 s2 s3 s4 s5 s6 s7 s8 s9) w5):=ι ⟨HB4.o.trans (hb5.mono HZ.o),xB S0.o hb5 ω,xB S1.o hb5 ω,xB S4.o hb5 ω,xB S5.o hb5 ω⟩;clear f1 HB4 yB5 HME HMF HRUN HK HCM S0 S1 S4 S5 SC hb5 hn1 HA3
    obtain⟨T0,T1,U0,U1,U2,U3,U4,U5,U6,U7,U8,U9⟩:=HST.o;go_upto_region 15 with fail
    have big1:¬9223372036854775807<tb.size+4:=by omega
    have big2:¬9223372036854775807<tb.size+4+2:=by omega
    refine RG.zJ [5,6] (λL W=>Hid (NoI w (L 5) (L 6) d0 d1 (uM s0 s1 s2 s3 s4 s5 s6 s7 s8 s9) W)) (λL L' W h hI=>by rw[<-h 5 δ,<-h 6 δ];exact hI) κ κ δ (ι ⟨HB5.o.1.drew,HB5.o.2⟩) ?_;refine RG.lF (λL w9 hw9=>have q0:=xA hw9.o.2.1 0;have q1:=xA hw9.o.2.1 1;And.intro (q0) q1) ?_
    refine RG.lF (λL w9 hw9=>have q0:=xA hw9.o.2.2.1 0;have q1:=xA hw9.o.2.2.1 1;have q2:=xA hw9.o.2.2.1 2;have q3:=xA hw9.o.2.2.1 3;have q4:=xA hw9.o.2.2.1 4;have q5:=xA hw9.o.2.2.1 5;have q6:=xA hw9.o.2.2.1 6;have q7:=xA hw9.o.2.2.1 7;have q8:=xA hw9.o.2.2.1 8;have q9:=xA hw9.o.2.2.1 9;And.intro (q0) (And.intro (q1) (And.intro (q2) (And.intro (q3) (And.intro (q4) (And.intro (q5) (And.intro (q6) (And.intro (q7) (And.intro (q8) q9))))))))) ?_
    iterate 3 refine RG.lS ?_
    apply RG.yL
    ·rfl
    ·intro L w9 h0 _ hw9;have hh:=hw9.o;rw[h0] at hh;have r4:=hh.2.2.2.1;rw[if_neg σ] at r4;have f0:=xA r4 0;have f1:=xA r4 1;have y0:=xC r4 0;have y1:=xC r4 1;have hn:=hh.st1;simp only[xU,Nat.reduceAdd] at hn;have HH:=ι hn;clear hw9 hh r4 hn;repeat go_step
     with_reducible refine RG.xD ?_
     show Hid (NoI w true (L 6) _ _ _ _);with_reducible exact HH
    ·rfl
    apply RG.yL
    ·rfl
    ·intro L w9 h0 _ hw9;have hh:=hw9.o;rw[h0] at hh;have r5:=hh.2.2.2.2;rw[if_neg σ] at r5;have f0:=xA r5 0;have y0:=xC r5 0;have f1:=xA r5 1;have y1:=xC r5 1;have f2:=xA r5 2;have y2:=xC r5 2;have f3:=xA r5 3;have y3:=xC r5 3;have f4:=xA r5 4;have y4:=xC r5 4
     have f5:=xA r5 5;have y5:=xC r5 5;have f6:=xA r5 6;have y6:=xC r5 6;have f7:=xA r5 7;have y7:=xC r5 7;have f8:=xA r5 8;have y8:=xC r5 8;have f9:=xA r5 9;have y9:=xC r5 9;have hn:=hh.st2;simp only[xU,Nat.reduceAdd] at hn;have HH:=ι hn;clear hw9 hh r5 hn;repeat go_step
     with_reducible refine RG.xD ?_
     show Hid (NoI w (L 5) true _ _ _ _);with_reducible exact HH
    ·rfl
    refine RG.lS ?_;refine RG.yI (λw9 hw9=>?_);have fin:NoI w true true d0 d1 (uM s0 s1 s2 s3 s4 s5 s6 s7 s8 s9) w9:=hw9.o;have r4:=fin.2.2.2.1;have r5:=fin.2.2.2.2;rw[if_pos rfl] at r4 r5;have f0:=xA r4 0;have f1:=xA r4 1;have g0:=xA r5 0;have g1:=xA r5 1;have g2:=xA r5 2
    have g3:=xA r5 3;have g4:=xA r5 4;have g5:=xA r5 5;have g6:=xA r5 6;have g7:=xA r5 7;have g8:=xA r5 8;have g9:=xA r5 9;have HBE:=ι fin.1;clear hw9 fin r4 r5 HB5;go_wp2
    refine bodyPost_ret (v:=.tuple #[.agg #[d0,d1],.agg #[s0,s1,s2,s3,s4,s5,s6,s7,s8,s9],.string (tb++⟨#[32,66,65,68]⟩++⟨#[13,10]⟩)]) (by simp[results,Tryz.results13,go_sem,f0,f1,g0,g1,g2,g3,g4,g5,g6,g7,g8,g9]) rfl ?_;refine⟨HBE.o,.inr (.inr ⟨?_,HN1.o⟩)⟩;rw[<-HTB.o]
    exact congrArg (λb=>Ending.returned (.tuple #[.agg #[d0,d1],.agg #[s0,s1,s2,s3,s4,s5,s6,s7,s8,s9],.string b])) (txt2 tag [32,66,65,68] [13,10])
end Go.Proofs.IM
namespace Mailsack
def U32 (x:Int):Prop:=0<=x/\x<4294967296
theorem xAc (op:Go.BinOp) (x y:Int):U32 (Go.bits op .u32 x y):=by
 have h:=Go.wf_bits op .u32 x y;simp[Go.Lit.wf] at h;have e1:Go.IntKind.u32.min=0:=δ;have e2:Go.IntKind.u32.max=4294967295:=δ;unfold U32;omega
def xHt (x:Int) (s:Nat):Int:=Go.bits .or .u32 (x*2^s % 4294967296) (x / 2^(32-s))
theorem xCr (x:Int) (s:Nat):U32 (xHt x s):=xAc _ _ _
end Mailsack
namespace Go.Proofs.SH
open Go.RowKit Mailsack
theorem kD (x k:Int) (s:Nat) (w:World) (h0:U32 x) (hk:bits BinOp.and IntKind.u64 (IntKind.u64.wrap k) 31=(s:Int)) (hs:s<32):
  Calls Tryz.prog 236 #[.int .u32 x,.int .i64 k] w λe w'=>e=.returned (.int .u32 (xHt x s))/\w'=w:=by
 obtain⟨h0,h1⟩:=h0;go_enter Tryz.func236,Tryz.ntmps236;go_wp2;go_ret;exact⟨rfl,rfl⟩
def yY (ws:List Int):Array Value:=(ws.map λx=>Value.int .u32 x).toArray
theorem zA (ws:List Int):(yY ws).size=ws.length:=by simp[yY]
theorem uO {ws:List Int} {i:Nat} (h:i<ws.length):(yY ws)[i]?=some (.int .u32 (ws.getD i 0)):=by
 simp[yY,List.getD_eq_getElem?_getD,List.getElem?_eq_getElem h]
theorem xD7 (ws:List Int) (i:Nat) (x:Int):(yY ws).setIfInBounds i (.int .u32 x)=yY (ws.set i x):=by
 simp[yY,List.map_set]
end Go.Proofs.SH