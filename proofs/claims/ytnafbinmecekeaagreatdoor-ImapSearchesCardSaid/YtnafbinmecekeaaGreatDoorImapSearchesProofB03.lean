/- Contracts of functions. Conditions: as stated. -/
import Derived.Laws.EntriesVeiled
import Derived.Test.YtnafbinmecekeaaGreatDoorImapSearchesProofB02
open Go.Proofs.Tryz
set_option maxHeartbeats 8000000
set_option maxRecDepth 100000
namespace Go.Proofs.IM
open Go.RowKit MM BU Mailsack SV VB MP
theorem wW {B:Nat} {a w:World} (h:Below B a w) (hB:B<=a.heap.size) (o:Obj):Below B a (w.alloc o):=h.alloc (Nat.le_trans hB h.size) o
structure Six (w:World) (o0 o1 o2 o3 o4 o5:Obj) (W:World):Prop where
 p0:W.heap[w.heap.size]?=some o0
 p1:W.heap[w.heap.size+1]?=some o1
 p2:W.heap[w.heap.size+2]?=some o2
 p3:W.heap[w.heap.size+3]?=some o3
 p4:W.heap[w.heap.size+4]?=some o4
 p5:W.heap[w.heap.size+5]?=some o5
 size:W.heap.size=w.heap.size+6
 bel:ψ w W
theorem six (w:World) (o0 o1 o2 o3 o4 o5:Obj):Six w o0 o1 o2 o3 o4 o5 ((((((w.alloc o0).alloc o1).alloc o2).alloc o3).alloc o4).alloc o5):=by
 have hp:∀(w:World) (o:Obj),(w.alloc o).heap=w.heap.push o:=λ_ _=>rfl;refine⟨?_,?_,?_,?_,?_,?_,σ,?_⟩
 ·simp only[hp];rw[Array.getElem?_eq_getElem (by simp<;>omega)];simp[Array.getElem_push];repeat rw[if_pos ω]
 ·simp only[hp];rw[Array.getElem?_eq_getElem σ];simp[Array.getElem_push]
 ·simp only[hp];rw[Array.getElem?_eq_getElem σ];simp[Array.getElem_push]
 ·simp only[hp];rw[Array.getElem?_eq_getElem σ];simp[Array.getElem_push]
 ·simp only[hp];rw[Array.getElem?_eq_getElem σ];simp[Array.getElem_push]
 ·simp only[hp];rw[Array.getElem?_eq_getElem σ];simp[Array.getElem_push]
 ·have hB:=Nat.le_refl w.heap.size;exact wW (wW (wW (wW (wW (wW (Below.refl _ _) hB _) hB _) hB _) hB _) hB _) hB _
theorem xMq {w:World} {b:Nat} {cs:Array Value} (h:w.heap[b]?=some (.cells cs 129 (0,0))) (hs:cs.size=22) (h1:cs[20]?=some (.pointer none)) (h2:cs[21]?=some (.slice none 0 0)):Cmd b cs [] w:=
 ⟨h,hs,_,_,h1,h2,.inl rfl,World.ownsRow_nil _ _ _ _,by simp[Value.ownBlock],λ_=>rfl⟩
theorem txt3 (a b c d:Bs):(⟨a.toArray⟩:ByteArray)++⟨b.toArray⟩++⟨c.toArray⟩++⟨d.toArray⟩=⟨(a++b++c++d).toArray⟩:=by
 apply ByteArray.ext;simp
def Still (W W':World):Prop:=W'.heap.size=W.heap.size/\(∀a,W'.cell? a=W.cell? a)/\∀(g:Nat) cs t f,W.heap[g]?=some (.cells cs t f)->t≠5->W'.heap[g]?=some (.cells cs t f)
theorem Still.drew (W:World):Still W W.drew:=⟨rfl,λ_=>rfl,λ_ _ _ _ h _=>h⟩
theorem Still.freeze {W:World} {g:Nat} {cs:Array Value} {f:Nat×Nat} (h:W.heap[g]?=some (.cells cs 5 f)) (n:Nat):Still W (W.freeze ⟨g,0,none⟩ n):=by
 unfold World.freeze;split
 ·exact⟨rfl,λ_=>rfl,λ_ _ _ _ h _=>h⟩
 ·refine⟨σ,λa=>?_,λb c t f2 h2 ht=>?_⟩
  ·unfold World.cell?;simp only[Array.getElem?_modify]
   by_cases e:g=a.block
   ·subst e;rw[if_pos rfl,h]
    rfl
   ·rw[if_neg e]
  ·simp only[Array.getElem?_modify];rw[if_neg (λe=>by rw[e,h2] at h;injection h with h;injection h with _ h3 _;exact ht h3)];exact h2
theorem xSh (b:Nat) (cs:Array Value) (l:List UInt8) (w:World) (h:Cmd b cs l w):
  Calls prog 53 #[slf b] w λe w'=>e=.returned (.string ⟨l.toArray⟩)/\Below b w w'/\w'.heap[b]?=w.heap[b]?/\Still w w':=by
 obtain⟨p,v,hp,hv,_,hown,hne,hnil⟩:=h.own;have k1:w.cell? ⟨b,21,none⟩=some v:=(xA h.blk 21).trans hv
 by_cases h0:l=[]
 ·subst h0;rw[hnil rfl] at k1;refine(xLd b w k1).mono ?_;rintro e w' ⟨rfl,rfl⟩;exact⟨rfl,Below.drew (Below.refl b w),rfl,Still.drew w⟩
 ·rcases hown.2 with ⟨_,hz⟩|⟨g,cap,cur,h1,h2,h3,h4,h5,h6,h7⟩
  ·exact absurd (List.eq_nil_of_length_eq_zero hz) h0
  ·rw[h1] at k1 hne;refine(xLc b g cap cur l w k1 h0 h3 h4 h5 h6 h7).mono ?_;rintro e w' ⟨rfl,rfl⟩;refine⟨rfl,Lib.below_freeze (Below.drew (Below.refl b w)) (p:=⟨g,0,none⟩) h2 _,?_,Still.freeze (W:=w.drew) h3 _⟩;exact xQb (λe=>hne (congrArg some e)) _
structure Stb (K:World->Prop):Prop where
 still:∀{W W':World},K W->Still W W'->K W'
 put:∀{W:World} {g:Nat} {o:Obj} (xs:List Value),K W->W.heap[g]?=some o->o=yQ (.slice none 0 0) (.slice none 0 0)∨o=xKs->K (yX g 0 xs W)
abbrev tkF (t:Tok):List Value:=[.int .i64 t.1,xK t.2]
theorem xL8:∀(T:List Tok) (j:Nat) (x:Tok) (i:Nat) (u:Value),T[j]?=some x->(tkF x)[i]?=some u->(jH T)[j*2+i]?=some u
 |[],j,x,i,u,h,_=>by simp at h
 |t::T,0,x,i,u,h,h2=>by
  simp at h;subst h
  match i,h2 with
  |0,h2=>simpa[jH] using h2
  |1,h2=>simpa[jH] using h2
  |n+2,h2=>simp at h2
 |t::T,j+1,x,i,u,h,h2=>by
  have:=xL8 T j x i u (by simpa using h) h2;rw[show(j+1)*2+i=(j*2+i)+1+1 by omega];simpa[jH] using this
def xVw (K:List Value->Bs->World->Prop) (N1 N2:Prop) (b:Nat) (n0 n1 n2 n3 n4 n5:Value) (sl:Value) (W:World) (e:Ending) (W':World):Prop:=
 (∃v0 v1 v2 v3 v4 v5 v6 v7 v8 v9 v10 v11 vp vq l,e=.returned (.int .i64 0)/\Cmd b #[v0,v1,v2,v3,v4,v5,v6,v7,v8,v9,v10,v11,n0,n1,n2,n3,n4,n5,sl,.bool false,vp,vq] l W'/\K [v0,v1,v2,v3,v4,v5,v6,v7,v8,v9,v10,v11] l W'/\(∀v∈[v0,v1,v2,v3,v4,v5,v6,v7,v8,v9,v10,v11],v.oneCell'=true)/\l.length<=1000000/\Below b W W')∨
  (e=.returned (.int .i64 1)/\N1/\Below b W W')∨(e=.returned (.int .i64 2)/\N2/\Below b W W')
def rD (K:List Value->Bs->World->Prop) (N1 N2:Prop) (d0 d1 s0 s1 s2 s3 s4 s5 s6 s7 s8 s9:Value) (tag:Bs) (w:World) (e:Ending) (w':World):Prop:=
 ψ w w'/\((∃v0 v1 v2 v3 v4 v5 v6 v7 v8 v9 v10 v11 l,e=.returned (.tuple #[.agg #[v0,v1],.agg #[v2,v3,v4,v5,v6,v7,v8,v9,v10,v11],xK (l++tag++[32,79,75]++[13,10])])/\K [v0,v1,v2,v3,v4,v5,v6,v7,v8,v9,v10,v11] l w'/\(∀v∈[v0,v1,v2,v3,v4,v5,v6,v7,v8,v9,v10,v11],v.oneCell'=true))∨
  (e=.returned (.tuple #[.agg #[d0,d1],.agg #[s0,s1,s2,s3,s4,s5,s6,s7,s8,s9],xK (tag++[32,78,79]++[13,10])])/\N1)∨(e=.returned (.tuple #[.agg #[d0,d1],.agg #[s0,s1,s2,s3,s4,s5,s6,s7,s8,s9],xK (tag++[32,66,65,68]++[13,10])])/\N2))
def NoI (w:World) (st1 st2:Bool) (d0 d1:Value) (so:Obj) (W:World):Prop:=
 ψ w W/\W.heap[w.heap.size]?=some (yQ d0 d1)/\W.heap[w.heap.size+1]?=some so/\W.heap[w.heap.size+1+1+1+1]?=some (if st1 then yQ d0 d1 else yQ (.slice none 0 0) (.slice none 0 0))/\W.heap[w.heap.size+1+1+1+1+1]?=some (if st2 then so else xKs)
theorem NoI.st1 {w W:World} {s2:Bool} {d0 d1:Value} {so:Obj} (h:NoI w false s2 d0 d1 so W):NoI w true s2 d0 d1 so (yX (w.heap.size+1+1+1+1) 0 [d0,d1] W):=by
 obtain⟨h1,h2,h3,h4,h5⟩:=h;rw[if_neg σ] at h4;exact⟨zU ω _ 0 _ h1,uI ω _ 0 _ h2,uI ω _ 0 _ h3,by rw[if_pos rfl];exact uU h4 rfl,uI ω _ 0 _ h5⟩
theorem NoI.st2 {w W:World} {s1b:Bool} {d0 d1 s0 s1 s2 s3 s4 s5 s6 s7 s8 s9:Value} (h:NoI w s1b false d0 d1 (uO s0 s1 s2 s3 s4 s5 s6 s7 s8 s9) W):NoI w s1b true d0 d1 (uO s0 s1 s2 s3 s4 s5 s6 s7 s8 s9) (yX (w.heap.size+1+1+1+1+1) 0 [s0,s1,s2,s3,s4,s5,s6,s7,s8,s9] W):=by
 obtain⟨h1,h2,h3,h4,h5⟩:=h;rw[if_neg σ] at h5;exact⟨zU ω _ 0 _ h1,uI ω _ 0 _ h2,uI ω _ 0 _ h3,uI ω _ 0 _ h4,by rw[if_pos rfl];exact uU h5 rfl⟩
theorem txt2 (a b c:Bs):(⟨a.toArray⟩:ByteArray)++⟨b.toArray⟩++⟨c.toArray⟩=⟨(a++b++c).toArray⟩:=by
 apply ByteArray.ext;simp
theorem do_run (K:List Value->Bs->World->Prop) (N1 N2:Prop) (d0 d1 s0 s1 s2 s3 s4 s5 s6 s7 s8 s9 n0 n1 n2 n3 n4 n5 xv lv:Value) (X L:List Bs) (tag nm NM:Bs) (rest:List Tok) (nd:Int) (fid:FuncId) (mt:Bool) (w:World)
  (hK:∀vs l,Stb (K vs l)) (hx:RdS w w.heap.size xv X) (hl:RdS w w.heap.size lv L) (hX:∀x∈X,x.length<=1000000) (hn:X.length<=1000) (hn2:L.length<=1000)
  (hone:∀v∈[d0,d1,s0,s1,s2,s3,s4,s5,s6,s7,s8,s9],v.oneCell'=true)
  (hT:qV X L=some ((0,tag)::(0,nm)::rest)) (htag:tag≠[42]) (hnm:upP nm=NM) (hid:NM≠[85,73,68]) (htl:tag.length<=1000000) (hnl:nm.length<=1000000)
  (hin:(NM,Value.agg #[.int .i64 nd,.func (.func fid) #[] #[]])∈uF) (huq:∀u,(NM,u)∈uF->u=Value.agg #[.int .i64 nd,.func (.func fid) #[] #[]]) (hE:∀args W,(callFunc fid args).run prog W=.ok (.enter fid args) W)
  (hme:∀b sl W,W.heap[b]?=some (.cells #[d0,d1,s0,s1,s2,s3,s4,s5,s6,s7,s8,s9,n0,n1,n2,n3,n4,n5,sl,.bool false,.pointer none,.slice none 0 0] 129 (0,0))->Calls prog 52 #[xIs b,.int .i64 nd] W λe w'=>e=.returned (.bool mt)/\w'=W) (hmf:mt=false->N2)
  (hrun:mt=true->∀b sl W,ψ w W->w.heap.size<=b->Cmd b #[d0,d1,s0,s1,s2,s3,s4,s5,s6,s7,s8,s9,n0,n1,n2,n3,n4,n5,sl,.bool false,.pointer none,.slice none 0 0] [] W->RK.RdR 2 tkF W W.heap.size sl rest->Calls prog fid #[xIs b] W (xVw K N1 N2 b n0 n1 n2 n3 n4 n5 sl W)):
  Calls prog 25 #[.agg #[d0,d1],.agg #[s0,s1,s2,s3,s4,s5,s6,s7,s8,s9],.agg #[xv,lv],.agg #[n0,n1,n2,n3,n4,n5]] w (rD K N1 N2 d0 d1 s0 s1 s2 s3 s4 s5 s6 s7 s8 s9 tag w):=by
 have HT:=ι (λW (h:ψ w W)=>by
  have:=VB.xG3 xv lv X L W ((hx.below h ν).more h.size) ((hl.below h ν).more h.size) hX hn hn2;rw[hT] at this;exact this)
 have jQ:=ι hone;have HK:=ι hK;have HME:=ι hme;have HMF:=ι hmf;have xW4:=ι hrun;have yCr:=ι (λW b (h:yB W b uF)=>h.hit kV underlying135 (s:=NM) (kV _ hin) hin huq);clear hx hl hX hn hn2 hT hone hK hme hmf hrun hin huq
 have H6:=ι (six w (yQ d0 d1) (uO s0 s1 s2 s3 s4 s5 s6 s7 s8 s9) (.cells #[xv,lv] 81) (drwO n0 n1 n2 n3 n4 n5) (yQ (.slice none 0 0) (.slice none 0 0)) xKs);obtain⟨tb,htb⟩:∃tb:ByteArray,(⟨tag.toArray⟩:ByteArray)=tb:=⟨_,rfl⟩;have hts:tb.size<=1000000:=by rw[<-htb];exact htl
 have hstar:(tb.toList==[42])=false:=by rw[<-htb,ByteArray.toList_eq];exact beq_eq_false_iff_ne.2 htag
 have HTB:=ι htb;have HU:=ι (λW=>VB.vV ⟨nm.toArray⟩ W (by show nm.length<_;omega));obtain⟨nb,hnb⟩:∃nb:ByteArray,(⟨NM.toArray⟩:ByteArray)=nb:=⟨_,rfl⟩;have huid:(nb.toList==[85,73,68])=false:=by rw[<-hnb,ByteArray.toList_eq];exact beq_eq_false_iff_ne.2 hid
 simp only[hnm,xK,hnb] at HU yCr;have T0:=λ(W:World) (a:Addr)=>run_store prog W a d0 .plain (jQ.o d0 σ);have T1:=λ(W:World) (a:Addr)=>run_store prog W a d1 .plain (jQ.o d1 σ);have U0:=λ(W:World) (a:Addr)=>run_store prog W a s0 .plain (jQ.o s0 σ)
 have U1:=λ(W:World) (a:Addr)=>run_store prog W a s1 .plain (jQ.o s1 σ);have U2:=λ(W:World) (a:Addr)=>run_store prog W a s2 .plain (jQ.o s2 σ);have U3:=λ(W:World) (a:Addr)=>run_store prog W a s3 .plain (jQ.o s3 σ)
 have U4:=λ(W:World) (a:Addr)=>run_store prog W a s4 .plain (jQ.o s4 σ);have U5:=λ(W:World) (a:Addr)=>run_store prog W a s5 .plain (jQ.o s5 σ);have U6:=λ(W:World) (a:Addr)=>run_store prog W a s6 .plain (jQ.o s6 σ)
 have U7:=λ(W:World) (a:Addr)=>run_store prog W a s7 .plain (jQ.o s7 σ);have U8:=λ(W:World) (a:Addr)=>run_store prog W a s8 .plain (jQ.o s8 σ);have U9:=λ(W:World) (a:Addr)=>run_store prog W a s9 .plain (jQ.o s9 σ)
 have HST:=ι (And.intro T0 (And.intro T1 (And.intro U0 (And.intro U1 (And.intro U2 (And.intro U3 (And.intro U4 (And.intro U5 (And.intro U6 (And.intro U7 (And.intro U8 U9)))))))))));clear T0 T1 U0 U1 U2 U3 U4 U5 U6 U7 U8 U9;clear htag hnm htl htb hnb hid
 go_enter func25,ntmps25;go_wp2_with fail
 refine(HT.o _ H6.o.bel).mono ?_;rintro e w1 ⟨v,rfl,hown,hb1⟩;obtain⟨g,cap,rfl,hcap,hg,hcl⟩:=VB.xNc hown σ;have k0:w1.cell? ⟨g,0,none⟩=some (.int .i64 0):=hcl 0 _ rfl;have k1:w1.cell? ⟨g,1,none⟩=some (.string tb):=by rw[<-HTB.o];exact hcl 1 _ rfl
 have k2:w1.cell? ⟨g,2,none⟩=some (.int .i64 0):=hcl 2 _ rfl;have k3:w1.cell? ⟨g,3,none⟩=some (.string ⟨nm.toArray⟩):=hcl 3 _ rfl
 have HAR:=ι (And.intro hg (λj x (hj:rest[j]?=some x) i u (hu:(tkF x)[i]?=some u)=>hcl (4+(j*2+i)) u (by rw[show 4+(j*2+i)=(j*2+i)+1+1+1+1 by omega];simpa[jH] using xL8 rest j x i u hj hu)));have HB1:=ι (H6.o.bel.trans (hb1.mono H6.o.bel.size));have hz6:=H6.o.size
 have P0:=ι (xC H6.o.p0 hb1 ω);have P1:=ι (xC H6.o.p1 hb1 ω);have P3:Hid (w1.heap[w.heap.size+1+1+1]?=some (drwO n0 n1 n2 n3 n4 n5)):=ι (xC H6.o.p3 hb1 ω);have P4:Hid (w1.heap[w.heap.size+1+1+1+1]?=some (yQ (.slice none 0 0) (.slice none 0 0))):=ι (xC H6.o.p4 hb1 ω)
 have P5:Hid (w1.heap[w.heap.size+1+1+1+1+1]?=some xKs):=ι (xC H6.o.p5 hb1 ω);have hz1:w.heap.size+6<=w1.heap.size:=by have:=hb1.size;omega
 clear hown hb1 hcl hz6 H6 HT;simp only[List.length_cons] at hcap⊢;obtain⟨n9,hn9⟩:∃n9,rest.length=n9:=⟨_,rfl⟩;have HN9:=ι hn9;rw[hn9] at hcap⊢;clear hn9;have hc2:2<=cap:=ω;have hc9:n9<=cap-2:=ω;go_upto_region 4 with fail
 go_cut [13,14,15] (λv13 v14 v15 wx=>Hid (v13=.string tb/\v14=.string nb/\(∃A9 c9,v15=.slice A9 n9 c9/\n9<=c9/\(n9≠0->A9=some ⟨g,4,none⟩))/\ψ w1 wx))
 case first=>
  by_cases hc2:cap=2
  ·have hn0:n9=0:=ω;subst hn0;subst hc2;refine RG.xH (λW=>Hid (ψ w1 W)) κ κ (ι (Below.refl _ _).drew) ?_;iterate 8 refine RG.dF (λw9 hw9=>have q1:=(hw9.o.cell (p:=⟨g,1,none⟩) hg).trans k1;have q3:=(hw9.o.cell (p:=⟨g,3,none⟩) hg).trans k3;And.intro (q1) q3) ?_
   apply RG.xG
   ·intro w9 hw9;repeat go_step
    refine(HU.o w9).mono ?_;rintro e w10 ⟨rfl,yP⟩;simp only[];repeat go_step
    refine RG.xB ?_;exact ι (hw9.o.trans (yP.mono hw9.o.size))
   ·rfl
   iterate 5 refine RG.dS ?_
   refine RG.xL (λw2 hb2=>?_);go_wp2_with fail
   go_meet;exact ι ⟨rfl,rfl,⟨_,_,rfl,Nat.zero_le _,λh=>absurd rfl h⟩,hb2.o⟩
  ·skip
   refine RG.xH (λW=>Hid (ψ w1 W)) κ κ (ι (Below.refl _ _).drew) ?_;iterate 8 refine RG.dF (λw9 hw9=>have q1:=(hw9.o.cell (p:=⟨g,1,none⟩) hg).trans k1;have q3:=(hw9.o.cell (p:=⟨g,3,none⟩) hg).trans k3;And.intro (q1) q3) ?_
   apply RG.xG
   ·intro w9 hw9;repeat go_step
    refine(HU.o w9).mono ?_;rintro e w10 ⟨rfl,yP⟩;simp only[];repeat go_step
    refine RG.xB ?_;exact ι (hw9.o.trans (yP.mono hw9.o.size))
   ·rfl
   iterate 5 refine RG.dS ?_
   refine RG.xL (λw2 hb2=>?_);go_wp2_with fail
   go_meet;exact ι ⟨rfl,rfl,⟨_,_,rfl,hc9,λ_=>rfl⟩,hb2.o⟩
 case rest=>
  obtain⟨rfl,rfl,⟨A9,c9,rfl,hnc,hA9⟩,hb2⟩:=hcut.o;have HB2:=ι (HB1.o.trans (hb2.mono HB1.o.size));have Q0:=ι (xC P0.o hb2 (xJ P0.o));have Q1:=ι (xC P1.o hb2 (xJ P1.o));have Q3:=ι (xC P3.o hb2 (xJ P3.o));have Q4:=ι (xC P4.o hb2 (xJ P4.o));have Q5:=ι (xC P5.o hb2 (xJ P5.o))
  have HA:Hid (RK.RdR 2 tkF wc wc.heap.size (.slice A9 n9 c9) rest):=ι ⟨A9,c9,by rw[HN9.o],by rw[HN9.o];exact hnc,λhne=>⟨g,4,hA9 (by rw[<-HN9.o];omega),Nat.lt_of_lt_of_le HAR.o.1 hb2.size,λj x hj i u hu=>by rw[Nat.add_assoc];exact(hb2.cell (p:=⟨g,4+(j*2+i),none⟩) HAR.o.1).trans (HAR.o.2 j x hj i u hu)⟩⟩
  have hz2:w.heap.size+6<=wc.heap.size:=Nat.le_trans hz1 hb2.size;clear hb2 P0 P1 P3 P4 P5 HB1 k0 k1 k2 k3 hg hz1 HU hstar hnl HAR HN9 hA9 hnc hcap hc2 hc9 hcut;have a0:wc.cell? ⟨w.heap.size,0,none⟩=some d0:=xA Q0.o 0;have a1:wc.cell? ⟨w.heap.size,1,none⟩=some d1:=xA Q0.o 1
  have x0:wc.cell? ⟨w.heap.size+1,0,none⟩=some s0:=xA Q1.o 0;have x1:wc.cell? ⟨w.heap.size+1,1,none⟩=some s1:=xA Q1.o 1;have x2:wc.cell? ⟨w.heap.size+1,2,none⟩=some s2:=xA Q1.o 2;have x3:wc.cell? ⟨w.heap.size+1,3,none⟩=some s3:=xA Q1.o 3
  have x4:wc.cell? ⟨w.heap.size+1,4,none⟩=some s4:=xA Q1.o 4;have x5:wc.cell? ⟨w.heap.size+1,5,none⟩=some s5:=xA Q1.o 5;have x6:wc.cell? ⟨w.heap.size+1,6,none⟩=some s6:=xA Q1.o 6;have x7:wc.cell? ⟨w.heap.size+1,7,none⟩=some s7:=xA Q1.o 7
  have x8:wc.cell? ⟨w.heap.size+1,8,none⟩=some s8:=xA Q1.o 8;have x9:wc.cell? ⟨w.heap.size+1,9,none⟩=some s9:=xA Q1.o 9;have e0:wc.cell? ⟨w.heap.size+1+1+1,0,none⟩=some n0:=xA Q3.o 0;have e1:wc.cell? ⟨w.heap.size+1+1+1,1,none⟩=some n1:=xA Q3.o 1
  have e2:wc.cell? ⟨w.heap.size+1+1+1,2,none⟩=some n2:=xA Q3.o 2;have e3:wc.cell? ⟨w.heap.size+1+1+1,3,none⟩=some n3:=xA Q3.o 3;have e4:wc.cell? ⟨w.heap.size+1+1+1,4,none⟩=some n4:=xA Q3.o 4;have e5:wc.cell? ⟨w.heap.size+1+1+1,5,none⟩=some n5:=xA Q3.o 5;go_wp2_with fail
  have HC0:=ι (xI wc (.cells #[d0,d1,s0,s1,s2,s3,s4,s5,s6,s7,s8,s9,n0,n1,n2,n3,n4,n5,.slice A9 n9 c9,.bool false,.pointer none,.slice none 0 0] 129));clear a0 a1 x0 x1 x2 x3 x4 x5 x6 x7 x8 x9 e0 e1 e2 e3 e4 e5;refine(xJ3 _).mono ?_;rintro e w3 ⟨rfl,hmap,hb3⟩
  have hz2':(wc.alloc (.cells #[d0,d1,s0,s1,s2,s3,s4,s5,s6,s7,s8,s9,n0,n1,n2,n3,n4,n5,.slice A9 n9 c9,.bool false,.pointer none,.slice none 0 0] 129)).heap.size=wc.heap.size+1:=σ
  have xI4:(Instr.lookup 135 (.map (some (wc.heap.size+1))) (.string nb) true).run prog w3=.ok (.tuple #[.agg #[.int .i64 nd,.func (.func fid) #[] #[]],.bool true]) w3:=by
   rw[hz2'] at hmap;exact yCr.o _ _ hmap
  have R0:=ι (xC (xM Q0.o _) hb3 (Nat.lt_trans (xJ Q0.o) (by rw[hz2'];omega)));have R1:=ι (xC (xM Q1.o _) hb3 (Nat.lt_trans (xJ Q1.o) (by rw[hz2'];omega)));have R4:=ι (xC (xM Q4.o _) hb3 (Nat.lt_trans (xJ Q4.o) (by rw[hz2'];omega)))
  have R5:=ι (xC (xM Q5.o _) hb3 (Nat.lt_trans (xJ Q5.o) (by rw[hz2'];omega)));have RC:=ι (xC HC0.o hb3 (by rw[hz2'];omega))
  have HA3:=ι (show RK.RdR 2 tkF (w3.alloc (.cells #[.int .i64 nd,.func (.func fid) #[] #[]] 133)) (w3.alloc (.cells #[.int .i64 nd,.func (.func fid) #[] #[]] 133)).heap.size (.slice A9 n9 c9) rest from by
   have k1:=φ wc (.cells #[d0,d1,s0,s1,s2,s3,s4,s5,s6,s7,s8,s9,n0,n1,n2,n3,n4,n5,.slice A9 n9 c9,.bool false,.pointer none,.slice none 0 0] 129);have k2:=k1.trans (hb3.mono k1.size);have k3:=k2.alloc k2.size (.cells #[.int .i64 nd,.func (.func fid) #[] #[]] 133)
   exact(HA.o.below k3 ν).more k3.size)
  have HB3:=ι ((HB2.o.alloc HB2.o.size _).trans (hb3.mono (by rw[hz2'];have:=HB2.o.size;omega)));have hz3:wc.heap.size+1<=w3.heap.size:=by have:=hb3.size;omega
  clear hmap hb3 hz2' Q0 Q1 Q3 Q4 Q5 HC0 HB2 HA yCr;have m1:(w3.alloc (.cells #[.int .i64 nd,.nilFunc] 133)).cell? ⟨w3.heap.size,1,none⟩=some .nilFunc:=xA (xI _ _) 1;have m2:(w3.alloc (.cells #[.int .i64 nd,.nilFunc] 133)).frozen? ⟨w3.heap.size,1,none⟩=false:=xD (xI _ _) 1
  have S0:=ι (xM R0.o (.cells #[.int .i64 nd,.func (.func fid) #[] #[]] 133));have S1:=ι (xM R1.o (.cells #[.int .i64 nd,.func (.func fid) #[] #[]] 133));have S4:=ι (xM R4.o (.cells #[.int .i64 nd,.func (.func fid) #[] #[]] 133))
  have S5:=ι (xM R5.o (.cells #[.int .i64 nd,.func (.func fid) #[] #[]] 133));have SC:=ι (xM RC.o (.cells #[.int .i64 nd,.func (.func fid) #[] #[]] 133));have HB4:=ι (HB3.o.alloc HB3.o.size (.cells #[.int .i64 nd,.func (.func fid) #[] #[]] 133));go_wp2_with fail
  refine(HME.o _ _ _ SC.o).mono ?_;rintro e w4 ⟨rfl,rfl⟩;clear R0 R1 R4 R5 RC HB3 m1 m2;cases mt
  case false=>
   clear xI4;generalize (w3.alloc (.cells #[.int .i64 nd,.func (.func fid) #[] #[]] 133))=w5 at S0 S1 S4 S5 SC HB4 HA3⊢;have HB5:Hid (NoI w false false d0 d1 (uO s0 s1 s2 s3 s4 s5 s6 s7 s8 s9) w5):=ι ⟨HB4.o,S0.o,S1.o,S4.o,S5.o⟩;clear HB4 S0 S1 S4 S5 SC HA3 HME xW4 HK
   obtain⟨T0,T1,U0,U1,U2,U3,U4,U5,U6,U7,U8,U9⟩:=HST.o;go_upto_region 12 with fail
   have xVp:¬9223372036854775807<tb.size+4:=ω;have xVn:¬9223372036854775807<tb.size+4+2:=ω;refine RG.yI [5,6] (λL W=>Hid (NoI w (L 5) (L 6) d0 d1 (uO s0 s1 s2 s3 s4 s5 s6 s7 s8 s9) W)) (λL L' W h hI=>by rw[<-h 5 δ,<-h 6 δ];exact hI) κ κ δ (ι ⟨HB5.o.1.drew,HB5.o.2⟩) ?_
   refine RG.lF (λL w9 hw9=>have q0:=xA hw9.o.2.1 0;have q1:=xA hw9.o.2.1 1;And.intro (q0) q1) ?_
   refine RG.lF (λL w9 hw9=>have q0:=xA hw9.o.2.2.1 0;have q1:=xA hw9.o.2.2.1 1;have q2:=xA hw9.o.2.2.1 2;have q3:=xA hw9.o.2.2.1 3;have q4:=xA hw9.o.2.2.1 4;have q5:=xA hw9.o.2.2.1 5;have q6:=xA hw9.o.2.2.1 6;have q7:=xA hw9.o.2.2.1 7;have q8:=xA hw9.o.2.2.1 8;have q9:=xA hw9.o.2.2.1 9;And.intro (q0) (And.intro (q1) (And.intro (q2) (And.intro (q3) (And.intro (q4) (And.intro (q5) (And.intro (q6) (And.intro (q7) (And.intro (q8) q9))))))))) ?_
   iterate 3 refine RG.lS ?_
   apply RG.xV
   ·rfl
   ·intro L w9 h0 _ hw9;have hh:=hw9.o;rw[h0] at hh;have r4:=hh.2.2.2.1;rw[if_neg σ] at r4;have f0:=xA r4 0;have f1:=xA r4 1;have y0:=xD r4 0;have y1:=xD r4 1;have hn:=hh.st1;simp only[yX,Nat.reduceAdd] at hn;have HH:=ι hn;clear hw9 hh r4 hn;repeat go_step
    refine RG.xB ?_;show Hid (NoI w true (L 6) _ _ _ _);with_reducible exact HH
   ·rfl
   apply RG.xV
   ·rfl
   ·intro L w9 h0 _ hw9;have hh:=hw9.o;rw[h0] at hh;have r5:=hh.2.2.2.2;rw[if_neg σ] at r5;have f0:=xA r5 0;have y0:=xD r5 0;have f1:=xA r5 1;have y1:=xD r5 1;have f2:=xA r5 2;have y2:=xD r5 2;have f3:=xA r5 3;have y3:=xD r5 3;have f4:=xA r5 4;have y4:=xD r5 4;have f5:=xA r5 5
    have y5:=xD r5 5;have f6:=xA r5 6;have y6:=xD r5 6;have f7:=xA r5 7;have y7:=xD r5 7;have f8:=xA r5 8;have y8:=xD r5 8;have f9:=xA r5 9;have y9:=xD r5 9;have hn:=hh.st2;simp only[yX,Nat.reduceAdd] at hn;have HH:=ι hn;clear hw9 hh r5 hn;repeat go_step
    refine RG.xB ?_;show Hid (NoI w (L 5) true _ _ _ _);with_reducible exact HH
   ·rfl
   refine RG.lS ?_;refine RG.xY (λw9 hw9=>?_);have fin:NoI w true true d0 d1 (uO s0 s1 s2 s3 s4 s5 s6 s7 s8 s9) w9:=hw9.o;have r4:=fin.2.2.2.1;have r5:=fin.2.2.2.2;rw[if_pos rfl] at r4 r5;have f0:=xA r4 0;have f1:=xA r4 1;have g0:=xA r5 0;have g1:=xA r5 1;have g2:=xA r5 2
   have g3:=xA r5 3;have g4:=xA r5 4;have g5:=xA r5 5;have g6:=xA r5 6;have g7:=xA r5 7;have g8:=xA r5 8;have g9:=xA r5 9;have HBE:=ι fin.1;clear hw9 fin r4 r5 HB5;go_wp2
   refine bodyPost_ret (v:=.tuple #[.agg #[d0,d1],.agg #[s0,s1,s2,s3,s4,s5,s6,s7,s8,s9],.string (tb++⟨#[32,66,65,68]⟩++⟨#[13,10]⟩)]) (by simp[results,results25,go_sem,f0,f1,g0,g1,g2,g3,g4,g5,g6,g7,g8,g9]) rfl ?_;refine⟨HBE.o,.inr (.inr ⟨?_,HMF.o (by first|rfl|trivial)⟩)⟩
   rw[<-HTB.o];exact congrArg (λb=>Ending.returned (.tuple #[.agg #[d0,d1],.agg #[s0,s1,s2,s3,s4,s5,s6,s7,s8,s9],.string b])) (txt2 tag [32,66,65,68] [13,10])
  case true=>
   have HCM:=ι (xMq SC.o rfl rfl rfl);have HZ:Hid (w.heap.size<=wc.heap.size):=ι ω;have f1:=xA (xI w3 (.cells #[.int .i64 nd,.func (.func fid) #[] #[]] 133)) 1;go_wp2_with fail
   refine(xW4.o (by first|rfl|trivial) _ _ _ HB4.o HZ.o HCM.o HA3.o).mono ?_;rintro e w5 (⟨v0,v1,v2,v3,v4,v5,v6,v7,v8,v9,v10,v11,vp,vq,l,rfl,yBs,hk5,ho5,hl5,hb5⟩|⟨rfl,hn1,hb5⟩|⟨rfl,hn1,hb5⟩)
   ·clear f1
    have HF:Hid (kI w wc.heap.size (w.heap.size+1+1+1+1) (w.heap.size+1+1+1+1+1) #[v0,v1,v2,v3,v4,v5,v6,v7,v8,v9,v10,v11,n0,n1,n2,n3,n4,n5,.slice A9 n9 c9,.bool false,vp,vq] l false false false (yQ v0 v1) (uO v2 v3 v4 v5 v6 v7 v8 v9 v10 v11) w5/\K [v0,v1,v2,v3,v4,v5,v6,v7,v8,v9,v10,v11] l w5):=
     ι ⟨⟨HB4.o.trans (hb5.mono HZ.o),yBs.blk,λ_=>yBs,xC S4.o hb5 ω,xC S5.o hb5 ω⟩,hk5⟩
    have HK5:=ι (HK.o [v0,v1,v2,v3,v4,v5,v6,v7,v8,v9,v10,v11] l);have Ho5:=ι ho5;clear S0 S1 S4 S5 SC HB4 HCM yBs hb5 xI4 hk5 ho5 HME HMF xW4 HK;go_upto_region 18 with fail
    obtain⟨lb,xY5⟩:∃lb:ByteArray,(⟨l.toArray⟩:ByteArray)=lb:=⟨_,rfl⟩;have hlb:lb.size<=1000000:=by rw[<-xY5];exact hl5
    have HLB:=ι xY5;have HSTR:=ι (λw9 (h:Cmd wc.heap.size #[v0,v1,v2,v3,v4,v5,v6,v7,v8,v9,v10,v11,n0,n1,n2,n3,n4,n5,.slice A9 n9 c9,.bool false,vp,vq] l w9)=>xSh wc.heap.size #[v0,v1,v2,v3,v4,v5,v6,v7,v8,v9,v10,v11,n0,n1,n2,n3,n4,n5,.slice A9 n9 c9,.bool false,vp,vq] l w9 h)
    rw[xY5] at HSTR;clear xY5 hl5;have big0:¬9223372036854775807<lb.size+tb.size:=ω;have xVp:¬9223372036854775807<lb.size+tb.size+3:=ω;have xVn:¬9223372036854775807<lb.size+tb.size+3+2:=ω;have V0:=λ(W:World) (a:Addr)=>run_store prog W a v0 .plain (Ho5.o v0 σ)
    have V1:=λ(W:World) (a:Addr)=>run_store prog W a v1 .plain (Ho5.o v1 σ);have V2:=λ(W:World) (a:Addr)=>run_store prog W a v2 .plain (Ho5.o v2 σ);have V3:=λ(W:World) (a:Addr)=>run_store prog W a v3 .plain (Ho5.o v3 σ)
    have V4:=λ(W:World) (a:Addr)=>run_store prog W a v4 .plain (Ho5.o v4 σ);have V5:=λ(W:World) (a:Addr)=>run_store prog W a v5 .plain (Ho5.o v5 σ);have V6:=λ(W:World) (a:Addr)=>run_store prog W a v6 .plain (Ho5.o v6 σ)
    have V7:=λ(W:World) (a:Addr)=>run_store prog W a v7 .plain (Ho5.o v7 σ);have V8:=λ(W:World) (a:Addr)=>run_store prog W a v8 .plain (Ho5.o v8 σ);have V9:=λ(W:World) (a:Addr)=>run_store prog W a v9 .plain (Ho5.o v9 σ)
    have V10:=λ(W:World) (a:Addr)=>run_store prog W a v10 .plain (Ho5.o v10 σ);have V11:=λ(W:World) (a:Addr)=>run_store prog W a v11 .plain (Ho5.o v11 σ)
    refine RG.yI [11,16,17] (λL W=>Hid (kI w wc.heap.size (w.heap.size+1+1+1+1) (w.heap.size+1+1+1+1+1) #[v0,v1,v2,v3,v4,v5,v6,v7,v8,v9,v10,v11,n0,n1,n2,n3,n4,n5,.slice A9 n9 c9,.bool false,vp,vq] l (L 11) (L 16) (L 17) (yQ v0 v1) (uO v2 v3 v4 v5 v6 v7 v8 v9 v10 v11) W/\K [v0,v1,v2,v3,v4,v5,v6,v7,v8,v9,v10,v11] l W)) (λL L' W h hI=>by rw[<-h 11 δ,<-h 16 δ,<-h 17 δ];exact hI) κ κ δ (ι ⟨HF.o.1.drew,HK5.o.still HF.o.2 (Still.drew _)⟩) ?_
    iterate 3 refine RG.lS ?_
    refine RG.lF (λL w9 hw9=>have q0:=xA hw9.o.1.cmd 0;have q1:=xA hw9.o.1.cmd 1;And.intro (q0) q1) ?_;iterate 3 refine RG.lS ?_
    refine RG.lF (λL w9 hw9=>have q2:=xA hw9.o.1.cmd 2;have q3:=xA hw9.o.1.cmd 3;have q4:=xA hw9.o.1.cmd 4;have q5:=xA hw9.o.1.cmd 5;have q6:=xA hw9.o.1.cmd 6;have q7:=xA hw9.o.1.cmd 7;have q8:=xA hw9.o.1.cmd 8;have q9:=xA hw9.o.1.cmd 9;have q10:=xA hw9.o.1.cmd 10;have q11:=xA hw9.o.1.cmd 11;And.intro (q2) (And.intro (q3) (And.intro (q4) (And.intro (q5) (And.intro (q6) (And.intro (q7) (And.intro (q8) (And.intro (q9) (And.intro (q10) q11))))))))) ?_
    iterate 3 refine RG.lS ?_
    apply RG.xV
    ·rfl
    ·intro L w9 h0 _ hw9;have hcmd:=hw9.o.1.bld h0;repeat go_step
     refine(HSTR.o w9 hcmd).mono ?_;rintro e w10 ⟨rfl,yP,he10,hs10⟩;simp only[];repeat go_step
     refine RG.xB ?_;exact ι ⟨hw9.o.1.call yP he10 ω ω ω,HK5.o.still hw9.o.2 hs10⟩
    ·rfl
    iterate 4 refine RG.lS ?_
    apply RG.xV
    ·rfl
    ·intro L w9 h0 _ hw9;have hh:=hw9.o;rw[h0] at hh;have r4:=hh.1.r4;rw[if_neg σ] at r4;have f0:=xA r4 0;have f1:=xA r4 1;have y0:=xD r4 0;have y1:=xD r4 1;have hk:=HK5.o.put [v0,v1] hh.2 r4 (.inl rfl);simp only[yX,Nat.reduceAdd] at hk;have HK9:=ι hk;have HH:=ι hh.1
     clear hw9 hh r4 hk;repeat go_step
     refine RG.xB ?_;show Hid (kI w _ _ _ _ _ (L 11) true (L 17) _ _ _/\_);with_reducible exact ι ⟨kI.st1 HH.o ω ω ω,HK9.o⟩
    ·rfl
    apply RG.xV
    ·rfl
    ·intro L w9 h0 _ hw9;have hh:=hw9.o;rw[h0] at hh;have r5:=hh.1.r5;rw[if_neg σ] at r5;have f0:=xA r5 0;have y0:=xD r5 0;have f1:=xA r5 1;have y1:=xD r5 1;have f2:=xA r5 2;have y2:=xD r5 2;have f3:=xA r5 3;have y3:=xD r5 3;have f4:=xA r5 4;have y4:=xD r5 4;have f5:=xA r5 5
     have y5:=xD r5 5;have f6:=xA r5 6;have y6:=xD r5 6;have f7:=xA r5 7;have y7:=xD r5 7;have f8:=xA r5 8;have y8:=xD r5 8;have f9:=xA r5 9;have y9:=xD r5 9;have hk:=HK5.o.put [v2,v3,v4,v5,v6,v7,v8,v9,v10,v11] hh.2 r5 (.inr rfl);simp only[yX,Nat.reduceAdd] at hk
     have HK9:=ι hk;have HH:=ι hh.1;clear hw9 hh r5 hk;repeat go_step
     refine RG.xB ?_;show Hid (kI w _ _ _ _ _ (L 11) (L 16) true _ _ _/\_);with_reducible exact ι ⟨kI.st2 HH.o ω ω ω,HK9.o⟩
    ·rfl
    refine RG.lS ?_;refine RG.xY (λw9 hw9=>?_)
    have fin:kI w wc.heap.size (w.heap.size+1+1+1+1) (w.heap.size+1+1+1+1+1) #[v0,v1,v2,v3,v4,v5,v6,v7,v8,v9,v10,v11,n0,n1,n2,n3,n4,n5,.slice A9 n9 c9,.bool false,vp,vq] l true true true (yQ v0 v1) (uO v2 v3 v4 v5 v6 v7 v8 v9 v10 v11) w9:=hw9.o.1;have r4:=fin.r4
    have r5:=fin.r5;rw[if_pos rfl] at r4 r5;have f0:=xA r4 0;have f1:=xA r4 1;have g0:=xA r5 0;have g1:=xA r5 1;have g2:=xA r5 2;have g3:=xA r5 3;have g4:=xA r5 4;have g5:=xA r5 5;have g6:=xA r5 6;have g7:=xA r5 7;have g8:=xA r5 8;have g9:=xA r5 9
    have HBE:=ι (And.intro fin.bel hw9.o.2);clear hw9 fin r4 r5 HF;go_wp2
    refine bodyPost_ret (v:=.tuple #[.agg #[v0,v1],.agg #[v2,v3,v4,v5,v6,v7,v8,v9,v10,v11],.string (lb++tb++⟨#[32,79,75]⟩++⟨#[13,10]⟩)]) (by simp[results,results25,go_sem,f0,f1,g0,g1,g2,g3,g4,g5,g6,g7,g8,g9]) rfl ?_
    refine⟨HBE.o.1,.inl ⟨v0,v1,v2,v3,v4,v5,v6,v7,v8,v9,v10,v11,l,?_,HBE.o.2,Ho5.o⟩⟩;rw[<-HTB.o,<-HLB.o];exact congrArg (λb=>Ending.returned (.tuple #[.agg #[v0,v1],.agg #[v2,v3,v4,v5,v6,v7,v8,v9,v10,v11],.string b])) (txt3 l tag [32,79,75] [13,10])
   ·have HN1:=ι hn1;have HB5:Hid (NoI w false false d0 d1 (uO s0 s1 s2 s3 s4 s5 s6 s7 s8 s9) w5):=ι ⟨HB4.o.trans (hb5.mono HZ.o),xC S0.o hb5 ω,xC S1.o hb5 ω,xC S4.o hb5 ω,xC S5.o hb5 ω⟩;clear f1 HB4 xI4 HME HMF xW4 HK HCM S0 S1 S4 S5 SC hb5 hn1 HA3
    obtain⟨T0,T1,U0,U1,U2,U3,U4,U5,U6,U7,U8,U9⟩:=HST.o;go_upto_region 17 with fail
    have xVp:¬9223372036854775807<tb.size+3:=ω;have xVn:¬9223372036854775807<tb.size+3+2:=ω;refine RG.yI [5,6] (λL W=>Hid (NoI w (L 5) (L 6) d0 d1 (uO s0 s1 s2 s3 s4 s5 s6 s7 s8 s9) W)) (λL L' W h hI=>by rw[<-h 5 δ,<-h 6 δ];exact hI) κ κ δ (ι ⟨HB5.o.1.drew,HB5.o.2⟩) ?_
    refine RG.lF (λL w9 hw9=>have q0:=xA hw9.o.2.1 0;have q1:=xA hw9.o.2.1 1;And.intro (q0) q1) ?_
    refine RG.lF (λL w9 hw9=>have q0:=xA hw9.o.2.2.1 0;have q1:=xA hw9.o.2.2.1 1;have q2:=xA hw9.o.2.2.1 2;have q3:=xA hw9.o.2.2.1 3;have q4:=xA hw9.o.2.2.1 4;have q5:=xA hw9.o.2.2.1 5;have q6:=xA hw9.o.2.2.1 6;have q7:=xA hw9.o.2.2.1 7;have q8:=xA hw9.o.2.2.1 8;have q9:=xA hw9.o.2.2.1 9;And.intro (q0) (And.intro (q1) (And.intro (q2) (And.intro (q3) (And.intro (q4) (And.intro (q5) (And.intro (q6) (And.intro (q7) (And.intro (q8) q9))))))))) ?_
    iterate 3 refine RG.lS ?_
    apply RG.xV
    ·rfl
    ·intro L w9 h0 _ hw9;have hh:=hw9.o;rw[h0] at hh;have r4:=hh.2.2.2.1;rw[if_neg σ] at r4;have f0:=xA r4 0;have f1:=xA r4 1;have y0:=xD r4 0;have y1:=xD r4 1;have hn:=hh.st1;simp only[yX,Nat.reduceAdd] at hn;have HH:=ι hn;clear hw9 hh r4 hn;repeat go_step
     refine RG.xB ?_;show Hid (NoI w true (L 6) _ _ _ _);with_reducible exact HH
    ·rfl
    apply RG.xV
    ·rfl
    ·intro L w9 h0 _ hw9;have hh:=hw9.o;rw[h0] at hh;have r5:=hh.2.2.2.2;rw[if_neg σ] at r5;have f0:=xA r5 0;have y0:=xD r5 0;have f1:=xA r5 1;have y1:=xD r5 1;have f2:=xA r5 2;have y2:=xD r5 2;have f3:=xA r5 3;have y3:=xD r5 3;have f4:=xA r5 4;have y4:=xD r5 4
     have f5:=xA r5 5;have y5:=xD r5 5;have f6:=xA r5 6;have y6:=xD r5 6;have f7:=xA r5 7;have y7:=xD r5 7;have f8:=xA r5 8;have y8:=xD r5 8;have f9:=xA r5 9;have y9:=xD r5 9;have hn:=hh.st2;simp only[yX,Nat.reduceAdd] at hn;have HH:=ι hn;clear hw9 hh r5 hn;repeat go_step
     refine RG.xB ?_;show Hid (NoI w (L 5) true _ _ _ _);with_reducible exact HH
    ·rfl
    refine RG.lS ?_;refine RG.xY (λw9 hw9=>?_);have fin:NoI w true true d0 d1 (uO s0 s1 s2 s3 s4 s5 s6 s7 s8 s9) w9:=hw9.o;have r4:=fin.2.2.2.1;have r5:=fin.2.2.2.2;rw[if_pos rfl] at r4 r5;have f0:=xA r4 0;have f1:=xA r4 1;have g0:=xA r5 0;have g1:=xA r5 1;have g2:=xA r5 2
    have g3:=xA r5 3;have g4:=xA r5 4;have g5:=xA r5 5;have g6:=xA r5 6;have g7:=xA r5 7;have g8:=xA r5 8;have g9:=xA r5 9;have HBE:=ι fin.1;clear hw9 fin r4 r5 HB5;go_wp2
    refine bodyPost_ret (v:=.tuple #[.agg #[d0,d1],.agg #[s0,s1,s2,s3,s4,s5,s6,s7,s8,s9],.string (tb++⟨#[32,78,79]⟩++⟨#[13,10]⟩)]) (by simp[results,results25,go_sem,f0,f1,g0,g1,g2,g3,g4,g5,g6,g7,g8,g9]) rfl ?_;refine⟨HBE.o,.inr (.inl ⟨?_,HN1.o⟩)⟩;rw[<-HTB.o]
    exact congrArg (λb=>Ending.returned (.tuple #[.agg #[d0,d1],.agg #[s0,s1,s2,s3,s4,s5,s6,s7,s8,s9],.string b])) (txt2 tag [32,78,79] [13,10])
   ·have HN1:=ι hn1;have HB5:Hid (NoI w false false d0 d1 (uO s0 s1 s2 s3 s4 s5 s6 s7 s8 s9) w5):=ι ⟨HB4.o.trans (hb5.mono HZ.o),xC S0.o hb5 ω,xC S1.o hb5 ω,xC S4.o hb5 ω,xC S5.o hb5 ω⟩;clear f1 HB4 xI4 HME HMF xW4 HK HCM S0 S1 S4 S5 SC hb5 hn1 HA3
    obtain⟨T0,T1,U0,U1,U2,U3,U4,U5,U6,U7,U8,U9⟩:=HST.o;go_upto_region 15 with fail
    have xVp:¬9223372036854775807<tb.size+4:=ω;have xVn:¬9223372036854775807<tb.size+4+2:=ω;refine RG.yI [5,6] (λL W=>Hid (NoI w (L 5) (L 6) d0 d1 (uO s0 s1 s2 s3 s4 s5 s6 s7 s8 s9) W)) (λL L' W h hI=>by rw[<-h 5 δ,<-h 6 δ];exact hI) κ κ δ (ι ⟨HB5.o.1.drew,HB5.o.2⟩) ?_
    refine RG.lF (λL w9 hw9=>have q0:=xA hw9.o.2.1 0;have q1:=xA hw9.o.2.1 1;And.intro (q0) q1) ?_
    refine RG.lF (λL w9 hw9=>have q0:=xA hw9.o.2.2.1 0;have q1:=xA hw9.o.2.2.1 1;have q2:=xA hw9.o.2.2.1 2;have q3:=xA hw9.o.2.2.1 3;have q4:=xA hw9.o.2.2.1 4;have q5:=xA hw9.o.2.2.1 5;have q6:=xA hw9.o.2.2.1 6;have q7:=xA hw9.o.2.2.1 7;have q8:=xA hw9.o.2.2.1 8;have q9:=xA hw9.o.2.2.1 9;And.intro (q0) (And.intro (q1) (And.intro (q2) (And.intro (q3) (And.intro (q4) (And.intro (q5) (And.intro (q6) (And.intro (q7) (And.intro (q8) q9))))))))) ?_
    iterate 3 refine RG.lS ?_
    apply RG.xV
    ·rfl
    ·intro L w9 h0 _ hw9;have hh:=hw9.o;rw[h0] at hh;have r4:=hh.2.2.2.1;rw[if_neg σ] at r4;have f0:=xA r4 0;have f1:=xA r4 1;have y0:=xD r4 0;have y1:=xD r4 1;have hn:=hh.st1;simp only[yX,Nat.reduceAdd] at hn;have HH:=ι hn;clear hw9 hh r4 hn;repeat go_step
     refine RG.xB ?_;show Hid (NoI w true (L 6) _ _ _ _);with_reducible exact HH
    ·rfl
    apply RG.xV
    ·rfl
    ·intro L w9 h0 _ hw9;have hh:=hw9.o;rw[h0] at hh;have r5:=hh.2.2.2.2;rw[if_neg σ] at r5;have f0:=xA r5 0;have y0:=xD r5 0;have f1:=xA r5 1;have y1:=xD r5 1;have f2:=xA r5 2;have y2:=xD r5 2;have f3:=xA r5 3;have y3:=xD r5 3;have f4:=xA r5 4;have y4:=xD r5 4
     have f5:=xA r5 5;have y5:=xD r5 5;have f6:=xA r5 6;have y6:=xD r5 6;have f7:=xA r5 7;have y7:=xD r5 7;have f8:=xA r5 8;have y8:=xD r5 8;have f9:=xA r5 9;have y9:=xD r5 9;have hn:=hh.st2;simp only[yX,Nat.reduceAdd] at hn;have HH:=ι hn;clear hw9 hh r5 hn;repeat go_step
     refine RG.xB ?_;show Hid (NoI w (L 5) true _ _ _ _);with_reducible exact HH
    ·rfl
    refine RG.lS ?_;refine RG.xY (λw9 hw9=>?_);have fin:NoI w true true d0 d1 (uO s0 s1 s2 s3 s4 s5 s6 s7 s8 s9) w9:=hw9.o;have r4:=fin.2.2.2.1;have r5:=fin.2.2.2.2;rw[if_pos rfl] at r4 r5;have f0:=xA r4 0;have f1:=xA r4 1;have g0:=xA r5 0;have g1:=xA r5 1;have g2:=xA r5 2
    have g3:=xA r5 3;have g4:=xA r5 4;have g5:=xA r5 5;have g6:=xA r5 6;have g7:=xA r5 7;have g8:=xA r5 8;have g9:=xA r5 9;have HBE:=ι fin.1;clear hw9 fin r4 r5 HB5;go_wp2
    refine bodyPost_ret (v:=.tuple #[.agg #[d0,d1],.agg #[s0,s1,s2,s3,s4,s5,s6,s7,s8,s9],.string (tb++⟨#[32,66,65,68]⟩++⟨#[13,10]⟩)]) (by simp[results,results25,go_sem,f0,f1,g0,g1,g2,g3,g4,g5,g6,g7,g8,g9]) rfl ?_;refine⟨HBE.o,.inr (.inr ⟨?_,HN1.o⟩)⟩;rw[<-HTB.o]
    exact congrArg (λb=>Ending.returned (.tuple #[.agg #[d0,d1],.agg #[s0,s1,s2,s3,s4,s5,s6,s7,s8,s9],.string b])) (txt2 tag [32,66,65,68] [13,10])
end Go.Proofs.IM
namespace Go.Proofs.IM
open Go.RowKit MM BU Mailsack SV
def xOu (ub:Bool) (K:List Value->Bs->World->Prop) (N1 N2:Prop) (b:Nat) (n0 n1 n2 n3 n4 n5:Value) (sl:Value) (W:World) (e:Ending) (W':World):Prop:=
 (∃v0 v1 v2 v3 v4 v5 v6 v7 v8 v9 v10 v11 vp vq l,e=.returned (.int .i64 0)/\Cmd b #[v0,v1,v2,v3,v4,v5,v6,v7,v8,v9,v10,v11,n0,n1,n2,n3,n4,n5,sl,.bool ub,vp,vq] l W'/\K [v0,v1,v2,v3,v4,v5,v6,v7,v8,v9,v10,v11] l W'/\(∀v∈[v0,v1,v2,v3,v4,v5,v6,v7,v8,v9,v10,v11],v.oneCell'=true)/\l.length<=1000000/\Below b W W')∨
  (e=.returned (.int .i64 1)/\N1/\Below b W W')∨(e=.returned (.int .i64 2)/\N2/\Below b W W')
end Go.Proofs.IM
namespace Mailsack
structure uT where
 uid:Int
 flags:Int
 object:Int
 size:Int
structure wN where
 name:Bs
 validity:Int
 next:Int
 xU:List uT
structure zO where
 boxes:List wN
 subs:List Bs
 given:Int
end Mailsack
namespace Go.Proofs.IX
open Go.RowKit Mailsack MM
def uN (w:World) (B:Nat) (v:Value) (L:List uT):Prop:=
 ∃A c,v=.slice A L.length c/\L.length<=c/\(0<L.length->∃b off,A=some ⟨b,off,none⟩/\b<B/\∀(j:Nat) m,L[j]?=some m->
  w.cell? ⟨b,off+j*4,none⟩=some (.int .i64 m.uid)/\w.cell? ⟨b,off+j*4+1,none⟩=some (.int .i64 m.flags)/\w.cell? ⟨b,off+j*4+2,none⟩=some (.int .i64 m.object)/\w.cell? ⟨b,off+j*4+3,none⟩=some (.int .i64 m.size))
theorem uN.keep {w w':World} {B:Nat} {v:Value} {L:List uT} (h:uN w B v L) (hk:∀p:Addr,p.block<B->w'.cell? p=w.cell? p):uN w' B v L:=by
 obtain⟨A,c,h1,h2,h3⟩:=h;refine⟨A,c,h1,h2,λhn=>?_⟩;obtain⟨b,off,h4,h5,h6⟩:=h3 hn;refine⟨b,off,h4,h5,λj m hm=>?_⟩;obtain⟨k1,k2,k3,k4⟩:=h6 j m hm;exact⟨(hk _ h5).trans k1,(hk _ h5).trans k2,(hk _ h5).trans k3,(hk _ h5).trans k4⟩
theorem uN.more {w:World} {B B':Nat} {v:Value} {L:List uT} (h:uN w B v L) (hB:B<=B'):uN w B' v L:=by
 obtain⟨A,c,h1,h2,h3⟩:=h;refine⟨A,c,h1,h2,λhn=>?_⟩;obtain⟨b,off,h4,h5,h6⟩:=h3 hn;exact⟨b,off,h4,ω,h6⟩
def jP (w:World) (B:Nat) (v:Value) (L:List wN):Prop:=
 ∃A c,v=.slice A L.length c/\L.length<=c/\(0<L.length->∃b off,A=some ⟨b,off,none⟩/\b<B/\∀(j:Nat) x,L[j]?=some x->∃mv,
  w.cell? ⟨b,off+j*4,none⟩=some (xK x.name)/\w.cell? ⟨b,off+j*4+1,none⟩=some (.int .i64 x.validity)/\w.cell? ⟨b,off+j*4+2,none⟩=some (.int .i64 x.next)/\w.cell? ⟨b,off+j*4+3,none⟩=some mv/\uN w B mv x.xU)
theorem jP.keep {w w':World} {B:Nat} {v:Value} {L:List wN} (h:jP w B v L) (hk:∀p:Addr,p.block<B->w'.cell? p=w.cell? p):jP w' B v L:=by
 obtain⟨A,c,h1,h2,h3⟩:=h;refine⟨A,c,h1,h2,λhn=>?_⟩;obtain⟨b,off,h4,h5,h6⟩:=h3 hn;refine⟨b,off,h4,h5,λj m hm=>?_⟩;obtain⟨mv,k1,k2,k3,k4,k5⟩:=h6 j m hm;exact⟨mv,(hk _ h5).trans k1,(hk _ h5).trans k2,(hk _ h5).trans k3,(hk _ h5).trans k4,k5.keep hk⟩
theorem jP.more {w:World} {B B':Nat} {v:Value} {L:List wN} (h:jP w B v L) (hB:B<=B'):jP w B' v L:=by
 obtain⟨A,c,h1,h2,h3⟩:=h;refine⟨A,c,h1,h2,λhn=>?_⟩;obtain⟨b,off,h4,h5,h6⟩:=h3 hn;refine⟨b,off,h4,ω,λj m hm=>?_⟩;obtain⟨mv,k1,k2,k3,k4,k5⟩:=h6 j m hm;exact⟨mv,k1,k2,k3,k4,k5.more hB⟩
theorem jP.below {w w':World} {B B':Nat} {v:Value} {L:List wN} (h:jP w B v L) (hb:Below B' w w') (hB:B<=B'):jP w' B v L:=h.keep λ_ hp=>hb.cell ω
theorem uN.below {w w':World} {B B':Nat} {v:Value} {L:List uT} (h:uN w B v L) (hb:Below B' w w') (hB:B<=B'):uN w' B v L:=h.keep λ_ hp=>hb.cell ω
structure xIn (w:World) (B:Nat) (bv sv:Value) (x:zO):Prop where
 boxes:jP w B bv x.boxes
 subs:RdS w B sv x.subs
theorem xIn.below {w w':World} {B B':Nat} {bv sv:Value} {x:zO} (h:xIn w B bv sv x) (hb:Below B' w w') (hB:B<=B'):xIn w' B bv sv x:=⟨h.boxes.below hb hB,h.subs.below hb hB⟩
theorem xIn.more {w:World} {B B':Nat} {bv sv:Value} {x:zO} (h:xIn w B bv sv x) (hB:B<=B'):xIn w B' bv sv x:=⟨h.boxes.more hB,h.subs.more hB⟩
end Go.Proofs.IX
namespace Mailsack
def xKv (n:Int):Bool:=decide (1<=n/\n<=4294967295)
def xAa (n:Int):Bool:=decide (0<=n/\n<=63)
def xB0 (o s f:Int):Bool:=xKv o&&decide (0<=s/\s<=700)&&xAa f
def chN (c:Nat):Bool:=decide (97<=c/\c<=122∨65<=c/\c<=90∨48<=c/\c<=57∨c=45∨c=47∨c=95)
def chP (c:UInt8):Bool:=chN c.toNat
def rG (s:Bs):Bool:=decide (1<=s.length/\s.length<=16)&&s.all chP
theorem xYv {s:ByteArray} {k:Nat} (h:k<s.size) (f:UInt8->Bool):(s.data.toList.drop k).all f=(f s[k]&&(s.data.toList.drop (k+1)).all f):=by
 have h':k<s.data.toList.length:=by rw[Array.length_toList];exact h
 rw[List.drop_eq_getElem_cons h',List.all_cons]
 rfl
def xAq:Bs:=[73,78,66,79,88]
def xAp (next:Int):List uT->Int->Bool
 |[],_=>true
 |m::l,last=>decide (last<m.uid)&&decide (m.uid<next)&&xB0 m.object m.size m.flags&&xAp next l m.uid
def qE (b:wN):Bool:=rG b.name&&xKv b.validity&&xKv b.next&&decide (b.xU.length<=30)&&xAp b.next b.xU 0
def leS (a b:Bs):Bool:=Go.Op.bytesLess a b||a==b
def qD (given:Int):List wN->Nat->Bs->Bool
 |[],_,_=>true
 |b::l,i,p=>qE b&&decide (b.validity<given)&&!(decide (0<i)&&b.name==xAq)&&!(decide (1<i)&&leS b.name p)&&qD given l (i+1) b.name
def xBj:List Bs->Nat->Bs->Bool
 |[],_,_=>true
 |s::l,i,p=>rG s&&!(decide (0<i)&&leS s p)&&xBj l (i+1) s
def xD2 (l:List wN):Nat:=(l.map (·.xU.length)).sum
def uZ (x:zO):Bool:=
 decide (1<=x.boxes.length)&&decide (x.boxes.length<=6)&&(x.boxes.head?.map (·.name)==some xAq)&&decide (x.subs.length<=6)&&xKv x.given&&qD x.given x.boxes 0 []&&xBj x.subs 0 []&&decide (xD2 x.boxes<=30)
end Mailsack
namespace Go.Proofs.IX
open Go.RowKit Mailsack MM
theorem qM (n:Int) (w:World):Calls prog 46 #[.int .i64 n] w λe w'=>e=.returned (.bool (xKv n))/\w'=w:=by
 unfold xKv
 by_cases h1:1<=n
 ·by_cases h2:n<=4294967295
  all_goals
   go_enter func46,ntmps46;go_wp2;go_ret;exact⟨by simp[h1,h2],rfl⟩
 ·go_enter func46,ntmps46;go_wp2;go_ret;exact⟨by simp;omega,rfl⟩
theorem xFn (n:Int) (w:World):Calls prog 187 #[.int .i64 n] w λe w'=>e=.returned (.bool (xAa n))/\w'=w:=by
 unfold xAa
 by_cases h1:0<=n
 ·by_cases h2:n<=63
  all_goals
   go_enter func187,ntmps187;go_wp2;go_ret;exact⟨by simp[h1,h2],rfl⟩
 ·go_enter func187,ntmps187;go_wp2;go_ret;exact⟨by simp;omega,rfl⟩
theorem xHq (o s f:Int) (w:World):Calls prog 103 #[.int .i64 o,.int .i64 s,.int .i64 f] w λe w'=>e=.returned (.bool (xB0 o s f))/\w'=w:=by
 have HR:Hid (xB0 o s f=(xKv o&&decide (0<=s/\s<=700)&&xAa f)):=ι rfl;generalize xB0 o s f=R at HR⊢;have HP:=ι (λW=>qM o W);have HF:=ι (λW=>xFn f W);cases hp:xKv o with
 |false=>
  rw[hp] at HP HR;clear hp;go_enter func103,ntmps103;go_wp2_with (go_at_call 46;refine(HP.o _).mono ?_;rintro e w' ⟨rfl,rfl⟩)
  go_ret;exact⟨by rw[HR.o];simp,rfl⟩
 |true=>
  rw[hp] at HP HR;clear hp;generalize xAa f=b at HF HR
  by_cases h1:0<=s
  ·by_cases h2:s<=700
   ·have Hf:Hid (R=b):=ι (by rw[HR.o];simp[h1,h2]);go_enter func103,ntmps103;go_wp2_with (first|(go_at_call 46;refine(HP.o _).mono ?_;rintro e w' ⟨rfl,rfl⟩)|(go_at_call 187;refine(HF.o _).mono ?_;rintro e w' ⟨rfl,rfl⟩))
    go_ret;exact⟨by rw[Hf.o];rfl,rfl⟩
   ·have Hf:Hid (R=false):=ι (by rw[HR.o];simp[h1,h2]);go_enter func103,ntmps103;go_wp2_with (go_at_call 46;refine(HP.o _).mono ?_;rintro e w' ⟨rfl,rfl⟩)
    go_ret;exact⟨by rw[Hf.o];rfl,rfl⟩
  ·have Hf:Hid (R=false):=ι (by rw[HR.o];simp[h1]);go_enter func103,ntmps103;go_wp2_with (go_at_call 46;refine(HP.o _).mono ?_;rintro e w' ⟨rfl,rfl⟩)
   go_ret;exact⟨by rw[Hf.o];rfl,rfl⟩
theorem xBp (s:ByteArray) (w:World):Calls prog 48 #[.string s] w λe w'=>e=.returned (.bool (rG s.data.toList))/\w'=w:=by
 have hsl:s.data.toList.length=s.size:=Array.length_toList
 by_cases h1:1<=s.size
 ·by_cases h2:s.size<=16
  ·have hdone:Hid (rG s.data.toList=(s.data.toList.drop 0).all chP):=ι (by unfold rG;simp[hsl,h1,h2]);have Hsl:=ι hsl;clear hsl;go_enter func48,ntmps48;go_wp2
   go_loop [17] (λiv=>∃k:Nat,k<=s.size/\iv=.int .i64 k/\Hid (rG s.data.toList=(s.data.toList.drop k).all chP)) (λiv=>s.size- (intOf iv).toNat)
   case atStart=>exact⟨0,ω,rfl,hdone⟩
   case round=>
    obtain⟨k,hk,rfl,hr⟩:=hrel;clear hdone
    by_cases hlt:k<s.size
    ·have HS:Hid ((s.data.toList.drop k).all chP=(chN s[k].toNat&&(s.data.toList.drop (k+1)).all chP)):=ι (xYv hlt chP)
     by_cases e95:(s[k].toNat:Int)=95
     all_goals
      go_wp2
      all_goals first
       |(go_ret;exact⟨by rw[hr.o,HS.o,show chN s[k].toNat=false from decide_eq_false (by first|omega|(simp at *;omega))];rfl,rfl⟩)
       |exact⟨⟨k+1,ω,by go_num,ι (by rw[hr.o,HS.o,show chN s[k].toNat=true from decide_eq_true (by first|omega|(simp at *;omega)),Bool.true_and])⟩,by simp[intOf];omega⟩
    ·go_wp2;go_ret;refine⟨?_,rfl⟩;rw[hr.o,List.drop_eq_nil_iff.2 (by have:=Hsl.o;omega)]
     rfl
  ·have Hf:=ι (show rG s.data.toList=false by unfold rG;simp[hsl,h2]);clear hsl;go_enter func48,ntmps48;go_wp2;go_ret;exact⟨by rw[Hf.o];rfl,rfl⟩
 ·have Hf:=ι (show rG s.data.toList=false by unfold rG;rw[decide_eq_false ω];rfl);clear hsl;go_enter func48,ntmps48;go_wp2;go_ret;exact⟨by rw[Hf.o];rfl,rfl⟩
theorem xM3 {L:List uT} {k:Nat} {m:uT} (h:L[k]?=some m) (next last:Int):xAp next (L.drop k) last=(decide (last<m.uid)&&decide (m.uid<next)&&xB0 m.object m.size m.flags&&xAp next (L.drop (k+1)) m.uid):=by
 have hk:k<L.length:=(List.getElem?_eq_some_iff.1 h).1;rw[List.drop_eq_getElem_cons hk];have:L[k]=m:=(List.getElem?_eq_some_iff.1 h).2;rw[this]
 rfl
theorem kH {B:Nat} {a w:World} (h:Below B a w) (hB:B<=a.heap.size) (o:Obj):Below B a (w.alloc o):=h.alloc (Nat.le_trans hB h.size) o
theorem xJh (b:wN) (mv:Value) (w:World) (hm:uN w w.heap.size mv b.xU) (hl:b.xU.length<=9223372036854775807):
  Calls prog 47 #[.agg #[xK b.name,.int .i64 b.validity,.int .i64 b.next,mv]] w λe w'=>e=.returned (.bool (qE b))/\ψ w w':=by
 obtain⟨A,c,rfl,hc,hrd⟩:=hm;have HN:=ι (λW=>xBp ⟨b.name.toArray⟩ W);have HV:=ι (λW=>qM b.validity W);have HX:=ι (λW=>qM b.next W);rw[show(⟨b.name.toArray⟩:ByteArray).data.toList=b.name from rfl] at HN
 have HR:Hid (qE b=(rG b.name&&xKv b.validity&&xKv b.next&&decide (b.xU.length<=30)&&xAp b.next (b.xU.drop 0) 0)):=ι rfl;generalize qE b=R at HR⊢;generalize rG b.name=r1 at HN HR;generalize xKv b.validity=r2 at HV HR;generalize xKv b.next=r3 at HX HR
 have H1:=ι (φ w (.cells #[xK b.name,.int .i64 b.validity,.int .i64 b.next,.slice A b.xU.length c] 39));have P1:=ι (xI w (.cells #[xK b.name,.int .i64 b.validity,.int .i64 b.next,.slice A b.xU.length c] 39));have Hrd:=ι hrd;clear hrd
 by_cases hok:(r1=true/\r2=true/\r3=true)/\b.xU.length<=30
 ·obtain⟨⟨rfl,rfl,rfl⟩,h30⟩:=hok
  replace HR:Hid (R=xAp b.next (b.xU.drop 0) 0):=ι (by rw[HR.o];simp[h30])
  go_enter func47,ntmps47
  go_wp2_with (first|(go_at_call 48;refine(HN.o _).mono ?_;rintro e w' ⟨rfl,rfl⟩)|(go_at_call_of 46 (Value.int IntKind.i64 b.validity);refine(HV.o _).mono ?_;rintro e w' ⟨rfl,rfl⟩)|(go_at_call_of 46 (Value.int IntKind.i64 b.next);refine(HX.o _).mono ?_;rintro e w' ⟨rfl,rfl⟩))
  go_loopw [3,31] (λlv iv wr=>∃(k:Nat) (last:Int),k<=b.xU.length/\lv=.int .i64 last/\iv=.int .i64 k/\Hid (R=xAp b.next (b.xU.drop k) last)/\Hid (Below (w.alloc (.cells #[xK b.name,.int .i64 b.validity,.int .i64 b.next,.slice A b.xU.length c] 39)).heap.size (w.alloc (.cells #[xK b.name,.int .i64 b.validity,.int .i64 b.next,.slice A b.xU.length c] 39)) wr)) (λ_ iv _=>b.xU.length- (intOf iv).toNat)
  case atStart=>exact⟨0,0,Nat.zero_le _,rfl,rfl,HR,ι (Below.refl _ _)⟩
  case round=>
   obtain⟨k,last,hk,rfl,rfl,hR,hb⟩:=hrel;clear HR
   by_cases hlt:k<b.xU.length
   ·obtain⟨g,off,rfl,hg,hcell⟩:=Hrd.o ω;obtain⟨m,hm⟩:∃m,b.xU[k]?=some m:=⟨_,List.getElem?_eq_getElem hlt⟩;obtain⟨q1,q2,q3,q4⟩:=hcell k m hm;have kp:∀p:Addr,p.block<w.heap.size->wr.cell? p=w.cell? p:=λp hp=>(hb.o.cell (by simp;omega)).trans (H1.o.cell hp)
    have c1:=(kp ⟨g,off+k*4,none⟩ hg).trans q1;have c2:=(kp ⟨g,off+k*4+1,none⟩ hg).trans q2;have c3:=(kp ⟨g,off+k*4+2,none⟩ hg).trans q3;have c4:=(kp ⟨g,off+k*4+3,none⟩ hg).trans q4;have c5:wr.cell? ⟨w.heap.size,2,none⟩=some (.int .i64 b.next):=xA (xC P1.o hb.o σ) 2
    have c6:(wr.alloc (.cells #[.int .i64 m.uid,.int .i64 m.flags,.int .i64 m.object,.int .i64 m.size] 58)).cell? ⟨w.heap.size,2,none⟩=some (.int .i64 b.next):=xA (xM (xC P1.o hb.o σ) _) 2;have hsz:w.heap.size+1<=wr.heap.size:=by have:=hb.o.size;simpa using this
    have HS:=ι (hR.o.trans (xM3 hm b.next last));have HM:=ι (λW=>xHq m.object m.size m.flags W);generalize xB0 m.object m.size m.flags=r at HM HS;clear q1 q2 q3 q4 kp hcell hm hR
    have HB9:=ι (kH hb.o ν (.cells #[.int .i64 m.uid,.int .i64 m.flags,.int .i64 m.object,.int .i64 m.size] 58))
    by_cases u1:last<m.uid
    ·by_cases u2:m.uid<b.next
     ·cases r with
      |true=>
       have HT:Hid (R=xAp b.next (b.xU.drop (k+1)) m.uid):=ι (by rw[HS.o];simp[u1,u2]);go_wp2_with (go_at_call 103;refine(HM.o _).mono ?_;rintro e w' ⟨rfl,rfl⟩)
       exact⟨⟨k+1,m.uid,ω,rfl,by go_num,HT,HB9⟩,by simp[intOf];omega⟩
      |false=>
       have HF:Hid (R=false):=ι (by rw[HS.o];simp);go_wp2_with (go_at_call 103;refine(HM.o _).mono ?_;rintro e w' ⟨rfl,rfl⟩)
       go_ret;exact⟨by rw[HF.o];rfl,H1.o.trans (HB9.o.mono H1.o.size)⟩
     ·have HF:Hid (R=false):=ι (by rw[HS.o];simp[u2]);go_wp2;go_ret;exact⟨by rw[HF.o];rfl,H1.o.trans (HB9.o.mono H1.o.size)⟩
    ·have HF:Hid (R=false):=ι (by rw[HS.o];simp[u1]);go_wp2;go_ret;exact⟨by rw[HF.o];rfl,H1.o.trans (HB9.o.mono H1.o.size)⟩
   ·go_wp2;go_ret;refine⟨?_,H1.o.trans (hb.o.mono H1.o.size)⟩;rw[hR.o,List.drop_eq_nil_iff.2 ω]
    rfl
 ·have HF:Hid (R=false):=ι (by
   rw[HR.o];rcases Nat.lt_or_ge 30 b.xU.length with h30|h30
   ·rw[decide_eq_false ω];simp
   ·cases r1<;>cases r2<;>cases r3<;>simp_all)
  have key:r1=false∨(r1=true/\r2=false)∨(r1=true/\r2=true/\r3=false)∨(r1=true/\r2=true/\r3=true/\30<b.xU.length):=by
   cases r1<;>cases r2<;>cases r3<;>simp_all
  clear hok HR;rcases key with rfl|⟨rfl,rfl⟩|⟨rfl,rfl,rfl⟩|⟨rfl,rfl,rfl,h30⟩
  all_goals
   go_enter func47,ntmps47
   go_wp2_with (first|(go_at_call 48;refine(HN.o _).mono ?_;rintro e w' ⟨rfl,rfl⟩)|(go_at_call_of 46 (Value.int IntKind.i64 b.validity);refine(HV.o _).mono ?_;rintro e w' ⟨rfl,rfl⟩)|(go_at_call_of 46 (Value.int IntKind.i64 b.next);refine(HX.o _).mono ?_;rintro e w' ⟨rfl,rfl⟩))
   go_ret;exact⟨by rw[HF.o];rfl,H1.o⟩
end Go.Proofs.IX
namespace Mailsack
theorem xMv {L:List wN} {k:Nat} {b:wN} (h:L[k]?=some b) (given:Int) (p:Bs):qD given (L.drop k) k p=(qE b&&decide (b.validity<given)&&!(decide (0<k)&&b.name==xAq)&&!(decide (1<k)&&leS b.name p)&&qD given (L.drop (k+1)) (k+1) b.name):=by
 have hk:k<L.length:=(List.getElem?_eq_some_iff.1 h).1;rw[List.drop_eq_getElem_cons hk];have:L[k]=b:=(List.getElem?_eq_some_iff.1 h).2;rw[this]
 rfl
theorem xP7 {L:List Bs} {k:Nat} {s:Bs} (h:L[k]?=some s) (p:Bs):xBj (L.drop k) k p=(rG s&&!(decide (0<k)&&leS s p)&&xBj (L.drop (k+1)) (k+1) s):=by
 have hk:k<L.length:=(List.getElem?_eq_some_iff.1 h).1;rw[List.drop_eq_getElem_cons hk];have:L[k]=s:=(List.getElem?_eq_some_iff.1 h).2;rw[this]
 rfl
theorem xL6 {L:List wN} {k:Nat} {b:wN} (h:L[k]?=some b):xD2 (L.take (k+1))=xD2 (L.take k)+b.xU.length:=by
 unfold xD2;rw[List.take_add_one,h];simp
end Mailsack
namespace Go.Proofs.IX
open Go.RowKit Mailsack MM
theorem xDx {w:World} {B:Nat} {v:Value} {L:List wN} (h:jP w B v L) {k:Nat} {x:wN} (hx:L[k]?=some x):∃b off c mv,v=.slice (some ⟨b,off,none⟩) L.length c/\b<B/\w.cell? ⟨b,off+k*4,none⟩=some (xK x.name)/\w.cell? ⟨b,off+k*4+1,none⟩=some (.int .i64 x.validity)/\
  w.cell? ⟨b,off+k*4+2,none⟩=some (.int .i64 x.next)/\w.cell? ⟨b,off+k*4+3,none⟩=some mv/\uN w B mv x.xU:=by
 obtain⟨A,c,rfl,_,hr⟩:=h;obtain⟨b,off,rfl,hb,hc⟩:=hr (by have:=(List.getElem?_eq_some_iff.1 hx).1;omega);obtain⟨mv,h1,h2,h3,h4,h5⟩:=hc k x hx;exact⟨b,off,c,mv,rfl,hb,h1,h2,h3,h4,h5⟩
theorem qA (bv sv:Value) (x:zO) (w:World) (h:xIn w w.heap.size bv sv x) (hm:∀b∈x.boxes,b.xU.length<=9223372036854775807) (hl:x.boxes.length<=9223372036854775807) (hl2:x.subs.length<=9223372036854775807):
  Calls prog 23 #[.agg #[bv,sv,.int .i64 x.given]] w λe w'=>e=.returned (.bool (uZ x))/\ψ w w':=by
 have HB:=ι h.boxes;have HS:=ι h.subs;have HM:=ι hm;obtain⟨A,c,rfl,hc,_⟩:=h.boxes;obtain⟨A2,c2,rfl,hc2,_⟩:=h.subs
 have HR:Hid (uZ x=(decide (1<=x.boxes.length)&&decide (x.boxes.length<=6)&&(x.boxes.head?.map (·.name)==some xAq)&&decide (x.subs.length<=6)&&xKv x.given&&qD x.given x.boxes 0 []&&xBj x.subs 0 []&&decide (xD2 x.boxes<=30))):=ι rfl;generalize uZ x=R at HR⊢
 have H1:=ι (φ w (.cells #[.slice A x.boxes.length c,.slice A2 x.subs.length c2,.int .i64 x.given] 28));have P1:=ι (xI w (.cells #[.slice A x.boxes.length c,.slice A2 x.subs.length c2,.int .i64 x.given] 28));have HG:=ι (λW=>qM x.given W);clear h hm
 by_cases h1:1<=x.boxes.length/\x.boxes.length<=6
 ·obtain⟨b0,hb0⟩:∃b0,x.boxes[0]?=some b0:=⟨_,List.getElem?_eq_getElem h1.1⟩;obtain⟨g,off,c',mv0,e0,hg,q0,_⟩:=xDx HB.o hb0;injection e0 with e0 _ e0';subst e0 e0';have q0':w.cell? ⟨g,off,none⟩=some (xK b0.name):=by simpa using q0
  obtain⟨nb,hnb⟩:∃nb:ByteArray,(⟨b0.name.toArray⟩:ByteArray)=nb:=⟨_,rfl⟩;have q1:(w.alloc (.cells #[.slice (some ⟨g,off,none⟩) x.boxes.length c,.slice A2 x.subs.length c2,.int .i64 x.given] 28)).cell? ⟨g,off,none⟩=some (.string nb):=by rw[<-hnb];exact(H1.o.cell hg).trans q0'
  have hin:(nb.toList==[73,78,66,79,88])=(b0.name==xAq):=by rw[<-hnb,ByteArray.toList_eq];rfl
  have hhead:(x.boxes.head?.map (·.name)==some xAq)=(b0.name==xAq):=by
   rw[List.head?_eq_getElem?,hb0];simp
  rw[hhead] at HR;obtain⟨h1a,h1b⟩:=h1;rw[decide_eq_true h1a,decide_eq_true h1b] at HR;generalize (b0.name==xAq)=r1 at hin HR;clear hhead q0 q0' hnb hb0;cases r1 with
  |false=>
   have HF:Hid (R=false):=ι (by rw[HR.o];simp);go_enter func23,ntmps23;go_wp2;go_ret;exact⟨by rw[HF.o];rfl,H1.o⟩
  |true=>
   by_cases h2:x.subs.length<=6
   ·rw[decide_eq_true h2] at HR;generalize xKv x.given=r2 at HG HR;cases r2 with
    |false=>
     have HF:Hid (R=false):=ι (by rw[HR.o];simp);go_enter func23,ntmps23;go_wp2_with (go_at_call 46;refine(HG.o _).mono ?_;rintro e w' ⟨rfl,rfl⟩)
     go_ret;exact⟨by rw[HF.o];rfl,H1.o⟩
    |true=>
     replace HR:Hid (R=(qD x.given (x.boxes.drop 0) 0 []&&(xBj x.subs 0 []&&decide (xD2 x.boxes<=30)))):=ι (by rw[HR.o];simp[Bool.and_assoc])
     go_enter func23,ntmps23;go_wp2_with (go_at_call 46;refine(HG.o _).mono ?_;rintro e w' ⟨rfl,rfl⟩)
     clear hin q1;generalize hrest:(xBj x.subs 0 []&&decide (xD2 x.boxes<=30))=Q at HR;have HQ:=ι hrest;clear hrest
     go_loopw [3,39] (λtv iv wr=>∃(k tot:Nat) (p:Bs),k<=x.boxes.length/\tot<=30*k/\tv=.int .i64 tot/\iv=.int .i64 k/\Hid (R=(qD x.given (x.boxes.drop k) k p&&Q)/\tot=xD2 (x.boxes.take k)/\(∀j,k=j+1->∃b,x.boxes[j]?=some b/\b.name=p)/\Below (w.alloc (.cells #[.slice (some ⟨g,off,none⟩) x.boxes.length c,.slice A2 x.subs.length c2,.int .i64 x.given] 28)).heap.size (w.alloc (.cells #[.slice (some ⟨g,off,none⟩) x.boxes.length c,.slice A2 x.subs.length c2,.int .i64 x.given] 28)) wr)) (λ_ iv _=>x.boxes.length- (intOf iv).toNat)
     case atStart=>exact⟨0,0,[],Nat.zero_le _,δ,rfl,rfl,ι ⟨HR.o,rfl,λj hj=>by omega,Below.refl _ _⟩⟩
     case round=>
      obtain⟨k,tot,p,hk,htot,rfl,rfl,hr⟩:=hrel;clear HR
      by_cases hlt:k<x.boxes.length
      ·obtain⟨b,hx⟩:∃b,x.boxes[k]?=some b:=⟨_,List.getElem?_eq_getElem hlt⟩;obtain⟨g',off',c',mv,e0,_,q0,q1,q2,q3,hmv⟩:=xDx HB.o hx;injection e0 with e0 _ e0';injection e0 with e0;injection e0 with e1 e2;subst e1 e2 e0'
       have hwr:ψ w wr:=H1.o.trans (hr.o.2.2.2.mono H1.o.size);obtain⟨nb,hnb⟩:∃nb:ByteArray,(⟨b.name.toArray⟩:ByteArray)=nb:=⟨_,rfl⟩;have r0:wr.cell? ⟨g,off+k*4,none⟩=some (.string nb):=by rw[<-hnb];exact(hwr.cell hg).trans q0
       have r1:=(hwr.cell (p:=⟨g,off+k*4+1,none⟩) hg).trans q1;have r2:=(hwr.cell (p:=⟨g,off+k*4+2,none⟩) hg).trans q2;have r3:=(hwr.cell (p:=⟨g,off+k*4+3,none⟩) hg).trans q3
       have HRB:Hid (∀W,ψ w W->Calls prog 47 #[.agg #[.string nb,.int .i64 b.validity,.int .i64 b.next,mv]] W λe w'=>e=.returned (.bool (qE b))/\ψ W w'):=ι (λW hb=>by
        have:=xJh b mv W ((hmv.below hb ν).more hb.size) (HM.o b (List.mem_of_getElem? hx));rw[<-hnb];exact this)
       have hml:qE b=true->b.xU.length<=30:=λh=>by
        unfold qE at h;simp only[Bool.and_eq_true,decide_eq_true_eq] at h;exact h.1.2
       have HSt:=ι (xMv hx x.given p);have HTk:=ι (xL6 hx);have hi1:(nb.toList==[73,78,66,79,88])=(b.name==xAq):=by rw[<-hnb,ByteArray.toList_eq];rfl
       have HNB:=ι hnb;have Hx:=ι hx;have Hwr:=ι hwr;obtain⟨Am,cm,rfl,hcm,_⟩:=hmv;clear q0 q1 q2 q3 hnb hwr hx;generalize qE b=rb at HRB hml HSt;generalize (b.name==xAq)=i1 at hi1 HSt;go_wp2_with fail
       have hb8:=ι (kH (Below.refl wr.heap.size wr) ν (.cells #[.string nb,.int .i64 b.validity,.int .i64 b.next,.slice Am b.xU.length cm] 39));have pb8:=ι (xI wr (.cells #[.string nb,.int .i64 b.validity,.int .i64 b.next,.slice Am b.xU.length cm] 39))
       refine(HRB.o _ (Hwr.o.trans (hb8.o.mono Hwr.o.size))).mono ?_;rintro e w3 ⟨rfl,hb3⟩;have xMc:=hb8.o.trans (hb3.mono hb8.o.size);have HB3:=ι (Hwr.o.trans (xMc.mono Hwr.o.size));have HBe:=ι (hr.o.2.2.2.trans (xMc.mono hr.o.2.2.2.size));have pb3:=xC pb8.o hb3 σ
       have z0:w3.cell? ⟨wr.heap.size,0,none⟩=some (.string nb):=xA pb3 0;have z1:w3.cell? ⟨wr.heap.size,1,none⟩=some (.int .i64 b.validity):=xA pb3 1;have z3:w3.cell? ⟨wr.heap.size,3,none⟩=some (.slice Am b.xU.length cm):=xA pb3 3;have p3:=xC P1.o HBe.o σ
       have y0:w3.cell? ⟨w.heap.size,0,none⟩=some (.slice (some ⟨g,off,none⟩) x.boxes.length c):=xA p3 0;have y2:w3.cell? ⟨w.heap.size,2,none⟩=some (.int .i64 x.given):=xA p3 2;clear hb3 xMc pb3 p3 r0 r1 r2 r3 HRB hb8 pb8;cases rb with
       |false=>
        have HF:Hid (R=false):=ι (by rw[hr.o.1,HSt.o];simp);go_wp2;go_ret;exact⟨by rw[HF.o];rfl,HB3.o⟩
       |true=>
        have hml':=hml rfl;clear hml
        by_cases hv:b.validity<x.given
        ·have hzl:wr.heap.size<w3.heap.size:=World.block_lt_of_cell? w3 _ z0;have hyl:w.heap.size<w3.heap.size:=World.block_lt_of_cell? w3 _ y0;have hgl:g<w3.heap.size:=Nat.lt_trans hg hyl;rcases Nat.lt_trichotomy k 1 with h|h|h
         ·obtain rfl:k=0:=ω;have HT:Hid (R=(qD x.given (x.boxes.drop (0+1)) (0+1) b.name&&Q)):=ι (by rw[hr.o.1,HSt.o];simp[hv]);go_upto_region 11 with fail
          refine RG.xH (λW=>Hid (ψ w3 W)) κ κ (ι (Below.refl _ _).drew) ?_;iterate 23 refine RG.dF (λw9 hw9=>have z0':=(hw9.o.cell (p:=⟨wr.heap.size,0,none⟩) hzl).trans z0;have y0':=(hw9.o.cell (p:=⟨w.heap.size,0,none⟩) hyl).trans y0;And.intro (z0') y0') ?_
          refine RG.xL (λw4 hb4=>?_);have HB4:=ι (HB3.o.trans (hb4.o.mono HB3.o.size));have HBe4:=ι (HBe.o.trans (hb4.o.mono HBe.o.size));have z3':=(hb4.o.cell (p:=⟨wr.heap.size,3,none⟩) hzl).trans z3;clear hb4;go_wp2
          exact⟨⟨0+1,tot+b.xU.length,b.name,ω,ω,by go_num,by go_num,ι ⟨HT.o,by rw[HTk.o,<-hr.o.2.1],λi hi=>⟨b,by rw[show i=0 by omega];exact Hx.o,rfl⟩,HBe4.o⟩⟩,by simp[intOf];omega⟩
         ·subst h;cases i1
          ·have HT:Hid (R=(qD x.given (x.boxes.drop (1+1)) (1+1) b.name&&Q)):=ι (by rw[hr.o.1,HSt.o];simp[hv]);go_upto_region 11 with fail
           refine RG.xH (λW=>Hid (ψ w3 W)) κ κ (ι (Below.refl _ _).drew) ?_;iterate 23 refine RG.dF (λw9 hw9=>have z0':=(hw9.o.cell (p:=⟨wr.heap.size,0,none⟩) hzl).trans z0;have y0':=(hw9.o.cell (p:=⟨w.heap.size,0,none⟩) hyl).trans y0;And.intro (z0') y0') ?_
           refine RG.xL (λw4 hb4=>?_);have HB4:=ι (HB3.o.trans (hb4.o.mono HB3.o.size));have HBe4:=ι (HBe.o.trans (hb4.o.mono HBe.o.size));have z3':=(hb4.o.cell (p:=⟨wr.heap.size,3,none⟩) hzl).trans z3;clear hb4;go_wp2
           exact⟨⟨1+1,tot+b.xU.length,b.name,ω,ω,by go_num,by go_num,ι ⟨HT.o,by rw[HTk.o,<-hr.o.2.1],λi hi=>⟨b,by rw[show i=1 by omega];exact Hx.o,rfl⟩,HBe4.o⟩⟩,by simp[intOf];omega⟩
          ·have HF:Hid (R=false):=ι (by rw[hr.o.1,HSt.o];simp[hv]);have hp1:nb.toList=[73,78,66,79,88]:=beq_iff_eq.1 hi1;go_upto_region 11 with fail
           refine RG.xH (λW=>Hid (ψ w3 W)) κ κ (ι (Below.refl _ _).drew) ?_
           iterate 23
            apply RG.xG
            ·intro w9 hw9;have z0':=(hw9.o.cell (p:=⟨wr.heap.size,0,none⟩) hzl).trans z0;have y0':=(hw9.o.cell (p:=⟨w.heap.size,0,none⟩) hyl).trans y0;repeat (first|go_big_skip|go_step)
             exact RG.xB hw9
            ·rfl
           refine RG.xL (λw4 hb4=>?_);have HB4:=ι (HB3.o.trans (hb4.o.mono HB3.o.size));clear hb4;go_wp2;go_ret;exact⟨by rw[HF.o];rfl,HB4.o⟩
         ·obtain⟨j,rfl⟩:∃j,k=j+1:=⟨k-1,ω⟩;obtain⟨b',hx',hp'⟩:=hr.o.2.2.1 j rfl;obtain⟨g',off',c',mv,e0,_,q0,_⟩:=xDx HB.o hx';injection e0 with e0 _ e0';injection e0 with e0;injection e0 with e1 e2;subst e1 e2 e0';rw[hp'] at q0
          obtain⟨pb,hpb⟩:∃pb:ByteArray,(⟨p.toArray⟩:ByteArray)=pb:=⟨_,rfl⟩;have v0:w3.cell? ⟨g,off+j*4,none⟩=some (.string pb):=by rw[<-hpb];exact(HB3.o.cell hg).trans q0
          have hi2:(Op.bytesLess nb.toList pb.toList||nb.toList==pb.toList)=leS b.name p:=by rw[<-HNB.o,<-hpb,ByteArray.toList_eq,ByteArray.toList_eq];rfl
          clear q0 hpb hx' hp';have hj0:0<j:=ω;cases i1
          ·generalize leS b.name p=i2 at hi2 HSt;cases i2
           ·have HT:Hid (R=(qD x.given (x.boxes.drop ((j+1)+1)) ((j+1)+1) b.name&&Q)):=ι (by rw[hr.o.1,HSt.o];simp[hv]);go_upto_region 11 with fail
            refine RG.xH (λW=>Hid (ψ w3 W)) κ κ (ι (Below.refl _ _).drew) ?_
            iterate 23 refine RG.dF (λw9 hw9=>have z0':=(hw9.o.cell (p:=⟨wr.heap.size,0,none⟩) hzl).trans z0;have y0':=(hw9.o.cell (p:=⟨w.heap.size,0,none⟩) hyl).trans y0;have v0':=(hw9.o.cell (p:=⟨g,off+j*4,none⟩) hgl).trans v0;And.intro (z0') (And.intro (y0') v0')) ?_
            refine RG.xL (λw4 hb4=>?_);have HB4:=ι (HB3.o.trans (hb4.o.mono HB3.o.size));have HBe4:=ι (HBe.o.trans (hb4.o.mono HBe.o.size));have z3':=(hb4.o.cell (p:=⟨wr.heap.size,3,none⟩) hzl).trans z3;clear hb4;go_wp2
            exact⟨⟨(j+1)+1,tot+b.xU.length,b.name,ω,ω,by go_num,by go_num,ι ⟨HT.o,by rw[HTk.o,<-hr.o.2.1],λi hi=>⟨b,by rw[show i=j+1 by omega];exact Hx.o,rfl⟩,HBe4.o⟩⟩,by simp[intOf];omega⟩
           ·have HF:Hid (R=false):=ι (by rw[hr.o.1,HSt.o];simp[hv,hj0]);go_upto_region 11 with fail
            refine RG.xH (λW=>Hid (ψ w3 W)) κ κ (ι (Below.refl _ _).drew) ?_
            iterate 23 refine RG.dF (λw9 hw9=>have z0':=(hw9.o.cell (p:=⟨wr.heap.size,0,none⟩) hzl).trans z0;have y0':=(hw9.o.cell (p:=⟨w.heap.size,0,none⟩) hyl).trans y0;have v0':=(hw9.o.cell (p:=⟨g,off+j*4,none⟩) hgl).trans v0;And.intro (z0') (And.intro (y0') v0')) ?_
            refine RG.xL (λw4 hb4=>?_);have HB4:=ι (HB3.o.trans (hb4.o.mono HB3.o.size));clear hb4;go_wp2;go_ret;exact⟨by rw[HF.o];rfl,HB4.o⟩
          ·have HF:Hid (R=false):=ι (by rw[hr.o.1,HSt.o];simp[hv]);have hp1:nb.toList=[73,78,66,79,88]:=beq_iff_eq.1 hi1;go_upto_region 11 with fail
           refine RG.xH (λW=>Hid (ψ w3 W)) κ κ (ι (Below.refl _ _).drew) ?_
           iterate 23
            apply RG.xG
            ·intro w9 hw9;have z0':=(hw9.o.cell (p:=⟨wr.heap.size,0,none⟩) hzl).trans z0;have y0':=(hw9.o.cell (p:=⟨w.heap.size,0,none⟩) hyl).trans y0;have v0':=(hw9.o.cell (p:=⟨g,off+j*4,none⟩) hgl).trans v0;repeat (first|go_big_skip|go_step)
             exact RG.xB hw9
            ·rfl
           refine RG.xL (λw4 hb4=>?_);have HB4:=ι (HB3.o.trans (hb4.o.mono HB3.o.size));clear hb4;go_wp2;go_ret;exact⟨by rw[HF.o];rfl,HB4.o⟩
        ·have HF:Hid (R=false):=ι (by rw[hr.o.1,HSt.o];simp[hv]);go_wp2;go_ret;exact⟨by rw[HF.o];rfl,HB3.o⟩
      ·obtain rfl:k=x.boxes.length:=ω;have HE:Hid (R=(xBj (x.subs.drop 0) 0 []&&decide (tot<=30))/\∀j,(0:Nat)=j+1->x.subs[j]?=some []):=ι ⟨by rw[hr.o.1,List.drop_length,<-HQ.o,hr.o.2.1,List.take_length];simp[qD],λj hj=>by omega⟩
       have HWR:Hid (ψ w wr):=ι (H1.o.trans (hr.o.2.2.2.mono H1.o.size));have y1:wr.cell? ⟨w.heap.size,1,none⟩=some (.slice A2 x.subs.length c2):=xA (xC P1.o hr.o.2.2.2 σ) 1;clear hr;go_wp2_with fail
       go_loop [86] (λiv=>∃(k:Nat) (p:Bs),k<=x.subs.length/\iv=.int .i64 k/\Hid (R=(xBj (x.subs.drop k) k p&&decide (tot<=30))/\∀j,k=j+1->x.subs[j]?=some p)) (λiv=>x.subs.length- (intOf iv).toNat)
       case atStart=>exact⟨0,[],Nat.zero_le _,rfl,HE⟩
       case round=>
        obtain⟨k,p,hk,rfl,hr⟩:=hrel;clear HE
        by_cases hlt:k<x.subs.length
        ·obtain⟨s,hx⟩:∃s,x.subs[k]?=some s:=⟨_,List.getElem?_eq_getElem hlt⟩;obtain⟨A3,c3,e0,_,hrd⟩:=HS.o;injection e0 with e0 _ e0';subst e0 e0';obtain⟨g2,xT9,rfl,hg2,hcell⟩:=hrd ω;have q0:=(HWR.o.cell (p:=⟨g2,xT9+k,none⟩) hg2).trans (hcell k s hx)
         obtain⟨sb,hsb⟩:∃sb:ByteArray,(⟨s.toArray⟩:ByteArray)=sb:=⟨_,rfl⟩;have r0:wr.cell? ⟨g2,xT9+k,none⟩=some (.string sb):=by rw[<-hsb];exact q0
         have HSt:=ι (xP7 hx p)
         have HN:Hid (∀W,Calls prog 48 #[.string sb] W λe w'=>e=.returned (.bool (rG s))/\w'=W):=ι (λW=>by
          have:=xBp sb W;rw[show sb.data.toList=s by rw[<-hsb]] at this;exact this)
         generalize rG s=rn at HN HSt;have Hx:=ι hx;rcases Nat.eq_zero_or_pos k with h|h
         ·subst h;clear q0 hsb hx hcell hrd;have r0':wr.cell? ⟨g2,xT9,none⟩=some (.string sb):=by simpa using r0
          cases rn with
          |false=>
           have HF:Hid (R=false):=ι (by rw[hr.o.1,HSt.o];simp);go_wp2_with (first|go_big_skip|(go_at_call 48;refine(HN.o _).mono ?_;rintro e w' ⟨rfl,rfl⟩))
           go_ret;exact⟨by rw[HF.o];rfl,HWR.o⟩
          |true=>
           have HT:Hid (R=(xBj (x.subs.drop (0+1)) (0+1) s&&decide (tot<=30))):=ι (by rw[hr.o.1,HSt.o];simp);go_wp2_with (first|go_big_skip|(go_at_call 48;refine(HN.o _).mono ?_;rintro e w' ⟨rfl,rfl⟩))
           exact⟨⟨0+1,s,ω,by go_num,ι ⟨HT.o,λi hi=>by rw[show i=0 by omega];exact Hx.o⟩⟩,by simp[intOf];omega⟩
         ·obtain⟨j,rfl⟩:∃j,k=j+1:=⟨k-1,ω⟩;have hx':=hr.o.2 j rfl;obtain⟨pb,hpb⟩:∃pb:ByteArray,(⟨p.toArray⟩:ByteArray)=pb:=⟨_,rfl⟩;have v0:wr.cell? ⟨g2,xT9+j,none⟩=some (.string pb):=by rw[<-hpb];exact(HWR.o.cell (p:=⟨g2,xT9+j,none⟩) hg2).trans (hcell j p hx')
          have hi2:(Op.bytesLess sb.toList pb.toList||sb.toList==pb.toList)=leS s p:=by rw[<-hsb,<-hpb,ByteArray.toList_eq,ByteArray.toList_eq];rfl
          generalize leS s p=i2 at hi2 HSt;clear q0 hsb hx hcell hrd hpb hx';cases rn with
          |false=>
           have HF:Hid (R=false):=ι (by rw[hr.o.1,HSt.o];simp);go_wp2_with (first|go_big_skip|(go_at_call 48;refine(HN.o _).mono ?_;rintro e w' ⟨rfl,rfl⟩))
           go_ret;exact⟨by rw[HF.o];rfl,HWR.o⟩
          |true=>
           cases i2 with
           |true=>
            have HF:Hid (R=false):=ι (by rw[hr.o.1,HSt.o];simp);go_wp2_with (first|go_big_skip|(go_at_call 48;refine(HN.o _).mono ?_;rintro e w' ⟨rfl,rfl⟩))
            go_ret;exact⟨by rw[HF.o];rfl,HWR.o⟩
           |false=>
            have HT:Hid (R=(xBj (x.subs.drop (j+1+1)) (j+1+1) s&&decide (tot<=30))):=ι (by rw[hr.o.1,HSt.o];simp);go_wp2_with (first|go_big_skip|(go_at_call 48;refine(HN.o _).mono ?_;rintro e w' ⟨rfl,rfl⟩))
            exact⟨⟨j+1+1,s,ω,by go_num,ι ⟨HT.o,λi hi=>by rw[show i=j+1 by omega];exact Hx.o⟩⟩,by simp[intOf];omega⟩
        ·have HF:Hid (R=decide (tot<=30)):=ι (by rw[hr.o.1,List.drop_eq_nil_iff.2 ω];simp[xBj])
         by_cases h30:tot<=30
         ·rw[decide_eq_true h30] at HF;go_wp2;go_ret;exact⟨by rw[HF.o];simp;omega,HWR.o⟩
         ·rw[decide_eq_false h30] at HF;go_wp2;go_ret;exact⟨by rw[HF.o];simp;omega,HWR.o⟩
   ·have HF:Hid (R=false):=ι (by rw[HR.o,decide_eq_false h2];simp);go_enter func23,ntmps23;go_wp2;go_ret;exact⟨by rw[HF.o];rfl,H1.o⟩
 ·have HF:Hid (R=false):=ι (by
   rw[HR.o];rcases Nat.lt_or_ge x.boxes.length 1 with h9|h9
   ·rw[decide_eq_false ω];simp
   ·rw[decide_eq_false (p:=x.boxes.length<=6) ω];simp)
  have h1':x.boxes.length<1∨6<x.boxes.length:=ω;clear h1;rcases h1' with h1|h1
  all_goals
   go_enter func23,ntmps23;go_wp2;go_ret;exact⟨by rw[HF.o];rfl,H1.o⟩
end Go.Proofs.IX
namespace Mailsack
def byteOf (z:Int):UInt8:=UInt8.ofNat (z % 256).toNat
theorem xH0 (z:Int):((byteOf z).toNat:Int)=z % 256:=by
 unfold byteOf;have h1:=Int.emod_nonneg z (b:=256) δ;have h2:=Int.emod_lt_of_pos z (b:=256) δ;rw[UInt8.toNat_ofNat',Nat.mod_eq_of_lt ω];omega
def uX (n:Int) (c:Nat):Bs:=(List.range c).map λi=>byteOf (n / 2^(8*i))
theorem xTb (n:Int) (c:Nat):uX n (c+1)=uX n c++[byteOf (n / 2^(8*c))]:=by
 unfold uX;rw[List.range_succ,List.map_append];rfl
def rE (s:Bs):Bs:=byteOf s.length::s
theorem uD (n:Int) (c:Nat):(uX n c).length=c:=by unfold uX;simp
end Mailsack
namespace Go.Proofs.IX
open Go.RowKit Mailsack MM BU VB
structure Ext (w:World) (v:Value) (w':World) (v':Value):Prop where
 grown:w.grownBy w' v.ownBlock
 own:∀k,v'.ownBlock=some k->v.ownBlock=some k∨w.heap.size<=k
theorem Ext.refl (w:World) (v:Value):Ext w v w v:=⟨⟨rfl,rfl,rfl,Nat.le_refl _,λ_ _ _=>rfl⟩,λ_ h=>.inl h⟩
theorem Ext.trans {w w1 w2:World} {v v1 v2:Value} (h:Ext w v w1 v1) (k:Ext w1 v1 w2 v2):Ext w v w2 v2:=by
 refine⟨⟨k.grown.os.trans h.grown.os,k.grown.tape.trans h.grown.tape,k.grown.output.trans h.grown.output,Nat.le_trans h.grown.size k.grown.size,λb hb hne=>?_⟩,λb hb=>?_⟩
 ·refine(k.grown.block b (Nat.lt_of_lt_of_le hb h.grown.size) (λe=>?_)).trans (h.grown.block b hb hne);rcases h.own b e.symm with h1|h1
  ·exact hne h1.symm
  ·omega
 ·rcases k.own b hb with h1|h1
  ·exact h.own b h1
  ·exact .inr (Nat.le_trans h.grown.size h1)
theorem Ext.push {w w1:World} {v:Value} {o:Obj} {g n cap:Nat} (hg:(w.alloc o).grownBy w1 v.ownBlock) (hl:v.ownBlock=some g∨g=w.heap.size+1):Ext w v w1 (.slice (some ⟨g,0,none⟩) n cap):=by
 refine⟨⟨hg.os,hg.tape,hg.output,Nat.le_trans σ hg.size,λb hb hne=>?_⟩,λb hb=>?_⟩
 ·exact(hg.block b (by simp;omega) hne).trans (Below.heap_alloc w o b hb)
 ·have hb':g=b:=by simpa[Value.ownBlock] using hb
  subst hb';rcases hl with h|h
  ·exact .inl h
  ·exact .inr ω
theorem Ext.away {w w':World} {v v':Value} (h:Ext w v w' v') {g:Nat} (hg:g<w.heap.size) (hne:v.ownBlock≠some g):w'.heap[g]?=w.heap[g]?/\v'.ownBlock≠some g:=by
 refine⟨h.grown.block g hg (λe=>hne e.symm),λe=>?_⟩;rcases h.own g e with h1|h1
 ·exact hne h1
 ·omega
theorem Ext.below {w w':World} {v v':Value} (h:Ext w v w' v') {base:Nat} {l:Bs} (ho:wC w base v l) (hb:base<=w.heap.size):Below base w w':=
 ⟨h.grown.os,h.grown.tape,h.grown.output,h.grown.size,λk hk=>h.grown.block k ω (λe=>by
  have:=(World.ownsRow.lt ho k e.symm).1;omega)⟩
theorem xLp {P:Program} (w:World) (base:Nat) (t u ty e:TypeId) (i:TypeInfo) (ht:P.underlying t=some (.slice e)) (hu:P.underlying u=some .string) (hi:P.info? e=some i) (hz:i.zero=some (.int .u8 0))
  (hsize:i.size=1) (hby:i.bytes=1) (g n cap:Nat) (xs:List Value) (hown:w.ownsRow base e 1 (.slice (some ⟨g,0,none⟩) n cap) n xs) (s:ByteArray)
  (h63:n+s.size<=maxLen) (hbytes:n+s.size<=140737488355328) (hbase:base<=w.heap.size):
  ∃v' w',(Builtin.append_ #[t,u] ty #[.slice (some ⟨g,0,none⟩) n cap,.string s]).run P w=.ok v' w'/\w'.ownsRow base e 1 v' (n+s.size) (xs++Lib.strCells s)/\w.grownBy w' (some g)/\
   (v'.ownBlock=some g∨v'.ownBlock=some w.heap.size):=by
 obtain⟨v',w',hr,h2,h3,_⟩:=Lib.run_append_own_string (P:=P) w base t u ty e i ht hu hi hz hsize hby _ n xs hown s h63 hbytes hbase;refine⟨v',w',hr,h2,h3,?_⟩;have hsmall:n+s.size<=9223372036854775807:=by simp only[maxLen] at h63;omega
 have hxl:xs.length=n:=by simpa using hown.1
 rcases hown.2 with ⟨h,_⟩|⟨g',cap',cur,h,hbg,hg,hnc,hcm,hcs,htake⟩
 ·cases h
 ·injection h with h h' h'';injection h with h;injection h with h;subst h h''
  by_cases hroom:n+s.size<=cap
  ·have hcs':cur.size=cap:=by simpa using hcs
   have hq:=Lib.run_append_room_string (P:=P) w t u ty e i ht hu hi hsize g n cap cur hg s hroom ω;rw[hq] at hr;injection hr with hv hw;exact .inl (by rw[<-hv];rfl)
  ·have holds:∀j u,xs[j]?=some u->w.cell? ((⟨g,0,none⟩:Addr).add j)=some u:=hown.cells (g:=g) rfl
   have hq:=Lib.run_append_grow_string (P:=P) w t u ty e i (.int .u8 0) ht hu hi hz ⟨g,0,none⟩ n cap xs (by rw[hsize];simpa using hxl) holds s ω ω (by rw[hby];exact growslice_fits ω ω);rw[hq] at hr;injection hr with hv hw;exact .inr (by rw[<-hv];rfl)
theorem xFk {P:Program} {w:World} {ops:Array Oper} {rest:List Oper} {o:Oper} {a:Act} {Q:Exit->Act->World->Prop} (hgd:o.guard=none) (sl x:Operand) (t u:TypeId)
  (ho:o.op=.call {callee:=.builtin .append,args:=#[sl,x],argTypes:=#[t,u]})
  (base:Nat) (e:TypeId) (i:TypeInfo) (ht:P.underlying t=some (.slice e)) (hu:P.underlying u=some .string) (hi:P.info? e=some i) (hz:i.zero=some (.int .u8 0))
  (hsize:i.size=1) (hby:i.bytes=1)
  (g n cap:Nat) (xs:List Value) (hs:a.eval sl=.slice (some ⟨g,0,none⟩) n cap) (hown:w.ownsRow base e 1 (.slice (some ⟨g,0,none⟩) n cap) n xs) (s:ByteArray) (hx:a.eval x=.string s)
  (h63:n+s.size<=maxLen) (hbytes:n+s.size<=140737488355328) (hbase:base<=w.heap.size)
  (h:∀v' w',w'.ownsRow base e 1 v' (n+s.size) (xs++Lib.strCells s)->w.grownBy w' (some g)->(v'.ownBlock=some g∨v'.ownBlock=some w.heap.size)->wpList P ops Q rest (a.put o.dst v') w'):wpList P ops Q (o::rest) a w:=by
 refine wpList_plain hgd λK hK=>?_;obtain⟨v',w',hr,h2,h3,h4⟩:=xLp (P:=P) w base t u o.type e i ht hu hi hz hsize hby g n cap xs hown s h63 hbytes hbase;unfold Oper.wp execOp
 simp only[ho,resolve,invoke,builtin,Sem.run_bind,Sem.run_pure,Result.andThen_ok,List.map_toArray,List.map_cons,List.map_nil,hs,hx,hr];exact hK _ _ (h v' w' h2 h3 h4)
theorem Ext.spread {w w1:World} {g n cap:Nat} {v':Value} (hg:w.grownBy w1 (some g)) (hl:v'.ownBlock=some g∨v'.ownBlock=some w.heap.size):Ext w (.slice (some ⟨g,0,none⟩) n cap) w1 v':=by
 refine⟨hg,λb hb=>?_⟩;rcases hl with h|h
 ·exact .inl (by rw[<-hb,h];rfl)
 ·rw[h] at hb;injection hb with hb;exact .inr ω
theorem wF (n:Int) (c:Nat) (v:Value) (l:Bs) (w:World) (base:Nat) (ho:wC w base v l) (hb:base<=w.heap.size) (hl:l.length<4294967281) (hc:c<=4):
  Calls prog 71 #[v,.int .i64 n,.int .i64 c] w λe w'=>∃v',e=.returned v'/\wC w' base v' (l++uX n c)/\Ext w v w' v':=by
 obtain⟨i0,hi,hz0,hz1,hz2⟩:=info_parts xO2;have HO:=ι ho;clear ho;go_enter func71,ntmps71;go_wp2
 go_loopw [0,9] (λlv iv wr=>∃k:Nat,k<=c/\iv=.int .i64 k/\Hid (wC wr base lv (l++uX n k))/\Hid (Ext w v wr lv)) (λ_ iv _=>c- (intOf iv).toNat)
 case atStart=>exact⟨0,Nat.zero_le _,rfl,ι (by rw[show uX n 0=[] from rfl,List.append_nil];exact HO.o),ι (Ext.refl _ _)⟩
 case round=>
  obtain⟨k,hk,rfl,hown,xU9⟩:=hrel
  by_cases hlt:k<c
  ·have HL0:=(show(l++uX n k).length=l.length+k by rw[List.length_append,uD]);obtain⟨L,hL⟩:∃L,l++uX n k=L:=⟨_,rfl⟩;rw[hL] at hown HL0;have HL:=ι HL0;have HLe:=ι hL;clear HL0 hL;have HS:=ι (xTb n k);have HK:=ι (show k<4 by omega)
   go_wp2_with (at_builtin;refine wpList_append_lies _ rfl _ _ 125 rfl base 5 i0 (.int .u8 0) 1 1 underlying125 hi hz0 hz1 hz2 rfl δ _ _ _ rfl (hown.o.alloc _) ⟨wr.heap.size,0,none⟩ 1 1 [.int .u8 (n / 2^(8*k) % 256)] rfl rfl (cell_one_new _ _ _) (xT7 _) δ (by have:=HL.o;have:=HK.o;unfold maxLen;omega) (by have:=HL.o;have:=HK.o;omega) (by have:=xU9.o.grown.size;simp;omega) (wr.heap.size+1) σ ?_;intro g cap w1 hown1 hgrow hat hlt1)
   have he2:=xU9.o.trans (Ext.push (n:=L.length+1) (cap:=cap) hgrow hat);have ho2:=ι hown1;clear hown1 hgrow hat
   go_roundw
   case rel=>exact⟨k+1,ω,by go_num,ι (by
    rw[HS.o,<-List.append_assoc,HLe.o];refine wC.of ?_;rw[xH0];exact ho2.o),ι he2⟩
   case measure=>simp[intOf];omega
  ·go_wp2;go_ret;refine⟨_,rfl,?_,xU9.o⟩;rw[show c=k by omega];exact hown.o
theorem xBi (s:ByteArray) (v:Value) (l:Bs) (w:World) (base:Nat) (ho:wC w base v l) (hb:base<=w.heap.size) (hl:l.length<4294967281) (hs:s.size<=100):
  Calls prog 72 #[v,.string s] w λe w'=>∃v',e=.returned v'/\wC w' base v' (l++rE s.data.toList)/\Ext w v w' v':=by
 obtain⟨i0,hi,hz0,hz1,hz2⟩:=info_parts xO2;have HO:=ι ho;clear ho;go_enter func72,ntmps72;have hsl:s.data.toList.length=s.size:=Array.length_toList;have Hs8:Hid ((((Mailsack.byteOf (s.data.toList.length:Int)).toNat:Int))=(s.size:Int)):=ι (by rw[hsl,xH0];omega)
 have Hsl:=ι hsl;clear hsl
 go_wp2_with (first|(at_builtin;refine wpList_append_lies _ rfl _ _ 125 rfl base 5 i0 (.int .u8 0) 1 1 underlying125 hi hz0 hz1 hz2 rfl δ _ _ _ rfl (HO.o.alloc _) ⟨w.heap.size,0,none⟩ 1 1 [.int .u8 (s.size:Int)] rfl rfl (cell_one_new _ _ _) (xT7 _) δ (by unfold maxLen;omega) ω (by simp;omega) (w.heap.size+1) σ ?_;intro g cap w1 hown1 hgrow hat hlt1;have HE:=ι (Ext.push (n:=l.length+1) (cap:=cap) hgrow hat);have HO1:=ι hown1;clear hown1 hgrow hat hlt1)|(at_builtin;refine xFk rfl _ _ 125 9 rfl base 5 i0 underlying125 underlying9 hi hz0 hz1 hz2 g _ cap _ rfl HO1.o s rfl (by unfold maxLen;omega) ω (by have:=HE.o.grown.size;omega) ?_;intro v2 w2 hown2 hgrow2 hat2;have HE2:=ι (HE.o.trans (Ext.spread (n:=l.length+1) (cap:=cap) hgrow2 hat2));have HO2:=ι hown2;clear hown2 hgrow2 hat2))
 go_ret;refine⟨_,rfl,?_,HE2.o⟩;have h:=HO2.o;unfold wC;rw[show(l++rE s.data.toList).length=l.length+1+s.size by unfold rE;rw[List.length_append,List.length_cons,Hsl.o];omega]
 rw[show(l++rE s.data.toList).map (λc=>Value.int .u8 c.toNat)=l.map (λc=>Value.int .u8 c.toNat)++[.int .u8 (s.size:Int)]++Lib.strCells s by
  unfold rE Lib.strCells;rw[List.map_append,List.map_cons,Hs8.o,List.append_assoc]
  rfl]
 exact h
end Go.Proofs.IX