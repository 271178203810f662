/- Contracts of functions. Conditions: as stated. -/
import Derived.Test.YtnafbinmecekeaaGreatDoorImapKeysProofB16
import GoSem.ClaimGoes
open Go.Proofs.Tryz
set_option maxHeartbeats 8000000
set_option maxRecDepth 100000
namespace Go.Proofs.MM
open Go.ChangeShapes Go.WideShapes Go.ChangeAt Go.RowKit
theorem xG3 {H:Type} {enc:TypeId×Value->H} {P:Program} {w:World} {t e:TypeId} {v:Value} {fuel:Nat} {x:DataW H×List MemPlace}
  (ht:P.underlying t=some (.slice e)) (he:P.underlying e=some .string) (hc:P.cellsOf e=1) (hf:DataW.trod enc P w 0 (λ_=>true) true fuel t [v]=some x):
  ∃xs:List (List UInt8),RdS w w.heap.size v xs/\(∀x∈xs,x.length<=9223372036854775807)/\xs.length<=9223372036854775807:=by
 rcases open_strings ht he hc hf with ⟨hcs,_⟩|⟨a,len',cap',ss,hcs,_,hl,hm,hz,_,hcell,hws⟩
 ·have hcs':v=.slice none 0 0:=by simpa using hcs
  rw[hcs'];exact⟨[],⟨none,0,rfl,Nat.le_refl _,λh=>absurd h (Nat.lt_irrefl _)⟩,σ,σ⟩
 ·have hcs':v=.slice (some a) len' cap':=by simpa using hcs
  rw[hcs'];unfold maxLen at hm hws;have hss:ss.length=cap':=by simpa using hz
  have hlen:((ss.take len').map λs=>s.data.toList).length=len':=by simp;omega
  refine⟨(ss.take len').map λs=>s.data.toList,⟨some a,cap',by rw[hlen],ω,λhn=>?_⟩,?_,ω⟩
  ·obtain⟨b,off,spot⟩:=a;have h0:=hcell 0 ω;have hspot:spot=none:=by simpa[Addr.add] using World.cell?_spot h0
   subst hspot;refine⟨b,off,rfl,World.block_lt_of_cell? w _ (by simpa[Addr.add] using h0),λj x hx=>?_⟩;rw[List.getElem?_map,List.getElem?_take] at hx;split at hx
   ·rename_i hj
    have hjs:j<ss.length:=ω;have h1:=hcell j hjs;rw[List.getElem?_eq_getElem hjs] at hx;simp only[Option.map_some,Option.some.injEq] at hx;have hadd:(⟨b,off,none⟩:Addr).add j=⟨b,off+j,none⟩:=by unfold Addr.add;split<;>simp_all
    rw[hadd] at h1;rw[h1,<-hx,List.getD_eq_getElem?_getD,List.getElem?_eq_getElem hjs]
    rfl
   ·simp at hx
  ·intro x hx;obtain⟨s,hs,rfl⟩:=List.mem_map.1 hx;have:=hws s (List.mem_of_mem_take hs);rw[Array.length_toList];exact this
end Go.Proofs.MM
namespace Go.Proofs.IX
open Go.Joins Go.ChangeShapes Go.WideShapes Go.RowKit Go.Deep MM Mailsack
theorem xT4 {w:World} {a:Addr} {k:Nat} {cs:List Value} (h:w.cells? 0 a k=some cs):cs.length=k/\∀j,j<k->w.cell? (a.add j)=cs[j]?:=by
 unfold World.cells? at h;rw[if_pos (Nat.zero_le _)] at h;refine⟨by simpa using mapM_some_length h,λj hj=>?_⟩;exact mapM_some_get h j j (by rw[List.getElem?_range hj])
theorem xQv (b o i:Nat):(⟨b,o,none⟩:Addr).add i=⟨b,o+i,none⟩:=by unfold Addr.add;split<;>simp_all
theorem rZ {H:Type} {enc:TypeId×Value->H} {P:Program} {w:World} {t e:TypeId} {k fuel:Nat} {v:Value} {x:DataW H×List MemPlace} (ht:P.underlying t=some (.slice e)) (hc:P.cellsOf e=k) (hk:0<k)
  (hf:DataW.trod enc P w 0 (λ_=>true) true fuel t [v]=some x):
  ∃A len c,v=.slice A len c/\len<=c/\len<=9223372036854775807/\(0<len->∃b off,A=some ⟨b,off,none⟩/\b<w.heap.size/\∀i,i<len->∃cs n y,cs.length=k/\(∀j,j<k->w.cell? ⟨b,off+i*k+j,none⟩=cs[j]?)/\DataW.trod enc P w 0 (λ_=>true) true n e cs=some y):=by
 rcases DataW.trod_slice ht hf with ⟨hcs,_⟩|⟨a,len',cap',elems,rest,n,_,hcs,_,_,hl,hm,hlen,hel,_⟩
 ·exact⟨none,0,0,by simpa using hcs,Nat.le_refl _,ω,λh=>absurd h (Nat.lt_irrefl _)⟩
 ·unfold maxLen at hm;rw[hc] at hel
  have each:∀i,i<len'->∃cs y,cs.length=k/\(∀j,j<k->w.cell? ((a.add (i*k)).add j)=cs[j]?)/\DataW.trod enc P w 0 (λ_=>true) true n e cs=some y:=by
   intro i hi;have h1:=hel i hi;rw[List.getElem?_eq_getElem ω] at h1;obtain⟨cs,hc1,ht1⟩:=Option.bind_eq_some_iff.1 h1;obtain⟨h2,h3⟩:=xT4 hc1;exact⟨cs,_,h2,h3,ht1⟩
  refine⟨some a,len',cap',by simpa using hcs,hl,ω,λhn=>?_⟩;obtain⟨cs0,y0,hz0,hc0,_⟩:=each 0 hn;have h0:=hc0 0 hk;rw[List.getElem?_eq_getElem ω] at h0;obtain⟨b,off,spot⟩:=a;have hspot:spot=none:=by simpa[Addr.add] using World.cell?_spot h0
  subst hspot;refine⟨b,off,rfl,World.block_lt_of_cell? w _ (by simpa[Addr.add] using h0),λi hi=>?_⟩;obtain⟨cs,y,hz,hcs',hy⟩:=each i hi;refine⟨cs,n,y,hz,λj hj=>?_,hy⟩;have:=hcs' j hj;rw[xQv,xQv] at this;exact this
theorem xO2 {α:Type} {p:Nat->α->Prop} {n:Nat} (h:∀i,i<n->∃x,p i x):∃L:List α,L.length=n/\∀(i:Nat) x,L[i]?=some x->p i x:=by
 induction n with
 |zero=>exact⟨[],rfl,λi x hx=>by simp at hx⟩
 |succ n ih=>
  obtain⟨L,hl,hp⟩:=ih (λi hi=>h i ω);obtain⟨x,hx⟩:=h n ω;refine⟨L++[x],by simp[hl],λi y hy=>?_⟩
  by_cases hi:i<n
  ·rw[List.getElem?_append_left ω] at hy;exact hp i y hy
  ·rw[List.getElem?_append_right ω] at hy
   have:i-L.length=0:=by
    have:=(List.getElem?_eq_some_iff.1 hy).1;simp at this;omega
   rw[this] at hy;simp at hy;subst hy;obtain rfl:i=n:=ω;exact hx
theorem xS6 {H:Type} {enc:TypeId×Value->H} {w:World} {fuel:Nat} {v:Value} {x:DataW H×List MemPlace} (hf:DataW.trod enc prog w 0 (λ_=>true) true fuel 37 [v]=some x):
  ∃L:List xC6,kI w w.heap.size v L/\L.length<=9223372036854775807:=by
 obtain⟨A,len,c,rfl,hlc,hlm,hrow⟩:=rZ underlying37 (show prog.cellsOf 58=4 by kernel_rfl) ω hf
 by_cases hn:0<len
 ·obtain⟨b,off,rfl,hb,hi⟩:=hrow hn
  obtain⟨L,hL,hp⟩:=xO2 (α:=xC6) (p:=λj m=>w.cell? ⟨b,off+j*4,none⟩=some (.int .i64 m.uid)/\w.cell? ⟨b,off+j*4+1,none⟩=some (.int .i64 m.flags)/\w.cell? ⟨b,off+j*4+2,none⟩=some (.int .i64 m.object)/\w.cell? ⟨b,off+j*4+3,none⟩=some (.int .i64 m.size)) (n:=len) (λi h=>by
   obtain⟨cs,n,y,hz,hcell,ht1⟩:=hi i h
   obtain⟨c0,c1,c2,c3,rfl⟩:∃c0 c1 c2 c3,cs=[c0,c1,c2,c3]:=by
    match cs,hz with
    |[c0,c1,c2,c3],_=>exact⟨c0,c1,c2,c3,rfl⟩
   obtain⟨xs,n',_,_,_,hlen,hg⟩:=DataW.trod_struct underlying58 ht1;have yDw:xs.length=4:=hlen;have g0:DataW.trod enc prog w 0 (λ_=>true) true n' 3 ((([c0,c1,c2,c3]:List Value).drop 0).take (prog.cellsOf 3))=xs[0]?:=hg 0 _ rfl
   have g1:DataW.trod enc prog w 0 (λ_=>true) true n' 3 ((([c0,c1,c2,c3]:List Value).drop 1).take (prog.cellsOf 3))=xs[1]?:=hg 1 _ rfl
   have g2:DataW.trod enc prog w 0 (λ_=>true) true n' 3 ((([c0,c1,c2,c3]:List Value).drop 2).take (prog.cellsOf 3))=xs[2]?:=hg 2 _ rfl
   have g3:DataW.trod enc prog w 0 (λ_=>true) true n' 3 ((([c0,c1,c2,c3]:List Value).drop 3).take (prog.cellsOf 3))=xs[3]?:=hg 3 _ rfl;rw[show prog.cellsOf 3=1 by kernel_rfl,List.getElem?_eq_getElem ω] at g0 g1 g2 g3
   obtain⟨m0,r0,_⟩:=DataW.trod_int underlying3 g0;obtain⟨m1,r1,_⟩:=DataW.trod_int underlying3 g1;obtain⟨m2,r2,_⟩:=DataW.trod_int underlying3 g2;obtain⟨m3,r3,_⟩:=DataW.trod_int underlying3 g3
   injection r0 with r0;injection r1 with r1;injection r2 with r2;injection r3 with r3;subst r0 r1 r2 r3;exact⟨⟨m0,m1,m2,m3⟩,hcell 0 ω,hcell 1 ω,hcell 2 ω,hcell 3 ω⟩)
  subst hL;exact⟨L,⟨_,c,rfl,hlc,λ_=>⟨b,off,rfl,hb,hp⟩⟩,hlm⟩
 ·obtain rfl:len=0:=ω;exact⟨[],⟨A,c,rfl,Nat.zero_le _,λh=>absurd h (Nat.lt_irrefl _)⟩,σ⟩
theorem xS8 {H:Type} {enc:TypeId×Value->H} {w:World} {fuel:Nat} {v:Value} {x:DataW H×List MemPlace} (hf:DataW.trod enc prog w 0 (λ_=>true) true fuel 26 [v]=some x):
  ∃L:List qR,qO w w.heap.size v L/\(∀b∈L,b.zA.length<=9223372036854775807)/\L.length<=9223372036854775807:=by
 obtain⟨A,len,c,rfl,hlc,hlm,hrow⟩:=rZ underlying26 (show prog.cellsOf 39=4 by kernel_rfl) ω hf
 by_cases hn:0<len
 ·obtain⟨b,off,rfl,hb,hi⟩:=hrow hn
  obtain⟨L,hL,hp⟩:=xO2 (α:=qR) (p:=λj x=>(∃mv,w.cell? ⟨b,off+j*4,none⟩=some (xR x.name)/\w.cell? ⟨b,off+j*4+1,none⟩=some (.int .i64 x.validity)/\w.cell? ⟨b,off+j*4+2,none⟩=some (.int .i64 x.next)/\w.cell? ⟨b,off+j*4+3,none⟩=some mv/\kI w w.heap.size mv x.zA)/\x.zA.length<=9223372036854775807) (n:=len) (λi h=>by
   obtain⟨cs,n,y,hz,hcell,ht1⟩:=hi i h
   obtain⟨c0,c1,c2,c3,rfl⟩:∃c0 c1 c2 c3,cs=[c0,c1,c2,c3]:=by
    match cs,hz with
    |[c0,c1,c2,c3],_=>exact⟨c0,c1,c2,c3,rfl⟩
   obtain⟨xs,n',_,_,_,hlen,hg⟩:=DataW.trod_struct underlying39 ht1;have yDw:xs.length=4:=hlen;have g0:DataW.trod enc prog w 0 (λ_=>true) true n' 9 ((([c0,c1,c2,c3]:List Value).drop 0).take (prog.cellsOf 9))=xs[0]?:=hg 0 _ rfl
   have g1:DataW.trod enc prog w 0 (λ_=>true) true n' 3 ((([c0,c1,c2,c3]:List Value).drop 1).take (prog.cellsOf 3))=xs[1]?:=hg 1 _ rfl
   have g2:DataW.trod enc prog w 0 (λ_=>true) true n' 3 ((([c0,c1,c2,c3]:List Value).drop 2).take (prog.cellsOf 3))=xs[2]?:=hg 2 _ rfl
   have g3:DataW.trod enc prog w 0 (λ_=>true) true n' 37 ((([c0,c1,c2,c3]:List Value).drop 3).take (prog.cellsOf 37))=xs[3]?:=hg 3 _ rfl;rw[show prog.cellsOf 9=1 by kernel_rfl,List.getElem?_eq_getElem ω] at g0
   rw[show prog.cellsOf 3=1 by kernel_rfl,List.getElem?_eq_getElem ω] at g1 g2;rw[show prog.cellsOf 37=1 by kernel_rfl,List.getElem?_eq_getElem ω] at g3;obtain⟨m0,r0,_⟩:=DataW.trod_string underlying9 g0;obtain⟨m1,r1,_⟩:=DataW.trod_int underlying3 g1
   obtain⟨m2,r2,_⟩:=DataW.trod_int underlying3 g2;injection r0 with r0;injection r1 with r1;injection r2 with r2;subst r0 r1 r2;have g3':DataW.trod enc prog w 0 (λ_=>true) true n' 37 [c3]=some (xs[3]'ω):=g3;obtain⟨M,hM,hMl⟩:=xS6 g3'
   exact⟨⟨m0.data.toList,m1,m2,M⟩,⟨c3,hcell 0 ω,hcell 1 ω,hcell 2 ω,hcell 3 ω,hM⟩,hMl⟩)
  subst hL;refine⟨L,⟨_,c,rfl,hlc,λ_=>⟨b,off,rfl,hb,λj x hx=>(hp j x hx).1⟩⟩,λx hx=>?_,hlm⟩;obtain⟨j,hj⟩:=List.mem_iff_getElem?.1 hx;exact(hp j x hj).2
 ·obtain rfl:len=0:=ω;exact⟨[],⟨A,c,rfl,Nat.zero_le _,λh=>absurd h (Nat.lt_irrefl _)⟩,σ,σ⟩
theorem xS4 {H:Type} {enc:TypeId×Value->H} {w:World} {base:Nat} {v:Value} {d:DataW H} {p:List MemPlace}
  (hv:Value.okWide prog w .any base 32 v) (h:DataW.Trod enc prog w 0 (λ_=>true) true 32 v d p):
  ∃(a b c bx:ByteArray) (ep:Int) (bv sv:Value) (x:uQ) (o1 o2:Bool),v=.agg #[.string a,.string b,.string c,.int .i64 ep,bv,sv,.int .i64 x.given,.string bx,.bool o1,.bool o2]/\
   xKp w w.heap.size bv sv x/\(∀b∈x.boxes,b.zA.length<=9223372036854775807)/\x.boxes.length<=9223372036854775807/\x.subs.length<=9223372036854775807:=by
 obtain⟨cs,rfl,hsz⟩:=okWide_struct underlying32 hv;have hsz10:cs.size=10:=hsz.trans κ;obtain⟨l⟩:=cs;obtain⟨fuel,hf⟩:=h
 obtain⟨v0,v1,v2,v3,v4,v5,v6,v7,v8,v9,rfl⟩:∃v0 v1 v2 v3 v4 v5 v6 v7 v8 v9,l=[v0,v1,v2,v3,v4,v5,v6,v7,v8,v9]:=by
  match l,hsz10 with
  |[v0,v1,v2,v3,v4,v5,v6,v7,v8,v9],_=>exact⟨v0,v1,v2,v3,v4,v5,v6,v7,v8,v9,rfl⟩
 have hf':DataW.trod enc prog w 0 (λ_=>true) true fuel 32 [v0,v1,v2,v3,v4,v5,v6,v7,v8,v9]=some (d,p):=hf;obtain⟨xs,n,_,_,_,hlen,hg⟩:=DataW.trod_struct underlying32 hf';have yDw:xs.length=4:=hlen
 have g0:DataW.trod enc prog w 0 (λ_=>true) true n 30 ((([v0,v1,v2,v3,v4,v5,v6,v7,v8,v9]:List Value).drop 0).take (prog.cellsOf 30))=xs[0]?:=hg 0 _ rfl
 have g1:DataW.trod enc prog w 0 (λ_=>true) true n 9 ((([v0,v1,v2,v3,v4,v5,v6,v7,v8,v9]:List Value).drop 7).take (prog.cellsOf 9))=xs[1]?:=hg 1 _ rfl
 have g2:DataW.trod enc prog w 0 (λ_=>true) true n 4 ((([v0,v1,v2,v3,v4,v5,v6,v7,v8,v9]:List Value).drop 8).take (prog.cellsOf 4))=xs[2]?:=hg 2 _ rfl
 have g3:DataW.trod enc prog w 0 (λ_=>true) true n 4 ((([v0,v1,v2,v3,v4,v5,v6,v7,v8,v9]:List Value).drop 9).take (prog.cellsOf 4))=xs[3]?:=hg 3 _ rfl;rw[show prog.cellsOf 30=7 by kernel_rfl,List.getElem?_eq_getElem ω] at g0
 rw[show prog.cellsOf 9=1 by kernel_rfl,List.getElem?_eq_getElem ω] at g1;rw[show prog.cellsOf 4=1 by kernel_rfl,List.getElem?_eq_getElem ω] at g2 g3;have g0':DataW.trod enc prog w 0 (λ_=>true) true n 30 [v0,v1,v2,v3,v4,v5,v6]=some (xs[0]'ω):=g0
 obtain⟨ys,n2,_,_,_,xWk,hg2⟩:=DataW.trod_struct underlying30 g0';have hlen5:ys.length=5:=xWk;have k0:DataW.trod enc prog w 0 (λ_=>true) true n2 9 ((([v0,v1,v2,v3,v4,v5,v6]:List Value).drop 0).take (prog.cellsOf 9))=ys[0]?:=hg2 0 _ rfl
 have k1:DataW.trod enc prog w 0 (λ_=>true) true n2 9 ((([v0,v1,v2,v3,v4,v5,v6]:List Value).drop 1).take (prog.cellsOf 9))=ys[1]?:=hg2 1 _ rfl
 have k2:DataW.trod enc prog w 0 (λ_=>true) true n2 9 ((([v0,v1,v2,v3,v4,v5,v6]:List Value).drop 2).take (prog.cellsOf 9))=ys[2]?:=hg2 2 _ rfl
 have k3:DataW.trod enc prog w 0 (λ_=>true) true n2 3 ((([v0,v1,v2,v3,v4,v5,v6]:List Value).drop 3).take (prog.cellsOf 3))=ys[3]?:=hg2 3 _ rfl
 have k4:DataW.trod enc prog w 0 (λ_=>true) true n2 28 ((([v0,v1,v2,v3,v4,v5,v6]:List Value).drop 4).take (prog.cellsOf 28))=ys[4]?:=hg2 4 _ rfl;rw[show prog.cellsOf 9=1 by kernel_rfl,List.getElem?_eq_getElem ω] at k0 k1 k2
 rw[show prog.cellsOf 3=1 by kernel_rfl,List.getElem?_eq_getElem ω] at k3;rw[show prog.cellsOf 28=3 by kernel_rfl,List.getElem?_eq_getElem ω] at k4;have k4':DataW.trod enc prog w 0 (λ_=>true) true n2 28 [v4,v5,v6]=some (ys[4]'ω):=k4
 obtain⟨zs,n3,_,_,_,hlen3,hg3⟩:=DataW.trod_struct underlying28 k4';have hlen3':zs.length=3:=hlen3;have j0:DataW.trod enc prog w 0 (λ_=>true) true n3 26 ((([v4,v5,v6]:List Value).drop 0).take (prog.cellsOf 26))=zs[0]?:=hg3 0 _ rfl
 have j1:DataW.trod enc prog w 0 (λ_=>true) true n3 22 ((([v4,v5,v6]:List Value).drop 1).take (prog.cellsOf 22))=zs[1]?:=hg3 1 _ rfl
 have j2:DataW.trod enc prog w 0 (λ_=>true) true n3 3 ((([v4,v5,v6]:List Value).drop 2).take (prog.cellsOf 3))=zs[2]?:=hg3 2 _ rfl;rw[show prog.cellsOf 26=1 by kernel_rfl,List.getElem?_eq_getElem ω] at j0
 rw[show prog.cellsOf 22=1 by kernel_rfl,List.getElem?_eq_getElem ω] at j1;rw[show prog.cellsOf 3=1 by kernel_rfl,List.getElem?_eq_getElem ω] at j2;have j0':DataW.trod enc prog w 0 (λ_=>true) true n3 26 [v4]=some (zs[0]'ω):=j0
 have j1':DataW.trod enc prog w 0 (λ_=>true) true n3 22 [v5]=some (zs[1]'ω):=j1;obtain⟨BL,hB,hBm,hBl⟩:=xS8 j0';obtain⟨SL,hS,_,hSl⟩:=MM.xG3 underlying22 underlying9 κ j1';obtain⟨gv,r6,_⟩:=DataW.trod_int underlying3 j2
 obtain⟨a,r0,_⟩:=DataW.trod_string underlying9 k0;obtain⟨b,r1,_⟩:=DataW.trod_string underlying9 k1;obtain⟨c,r2,_⟩:=DataW.trod_string underlying9 k2;obtain⟨ep,r3,_⟩:=DataW.trod_int underlying3 k3;obtain⟨bx,r7,_⟩:=DataW.trod_string underlying9 g1
 obtain⟨o1,r8,_⟩:=DataW.trod_bool underlying4 g2;obtain⟨o2,r9,_⟩:=DataW.trod_bool underlying4 g3;injection r0 with r0;injection r1 with r1;injection r2 with r2;injection r3 with r3;injection r6 with r6;injection r7 with r7;injection r8 with r8;injection r9 with r9
 subst r0 r1 r2 r3 r6 r7 r8 r9;exact⟨a,b,c,bx,ep,v4,v5,⟨BL,SL,gv⟩,o1,o2,rfl,⟨hB,hS⟩,hBm,hBl,hSl⟩
theorem xS7 {H:Type} {enc:TypeId×Value->H} {w:World} {base:Nat} {v:Value} {d:DataW H} {p:List MemPlace}
  (hv:Value.okWide prog w .any base 36 v) (h:DataW.Trod enc prog w 0 (λ_=>true) true 36 v d p):
  ∃(f1 f2 f3 f4 f5:ByteArray) (rd:Int),v=.agg #[.string f1,.string f2,.string f3,.string f4,.string f5,.int .i64 rd]:=by
 obtain⟨cs,rfl,hsz⟩:=okWide_struct underlying36 hv;have hsz6:cs.size=6:=hsz.trans κ;obtain⟨l⟩:=cs;obtain⟨fuel,hf⟩:=h
 obtain⟨v0,v1,v2,v3,v4,v5,rfl⟩:∃v0 v1 v2 v3 v4 v5,l=[v0,v1,v2,v3,v4,v5]:=by
  match l,hsz6 with
  |[v0,v1,v2,v3,v4,v5],_=>exact⟨v0,v1,v2,v3,v4,v5,rfl⟩
 have hf':DataW.trod enc prog w 0 (λ_=>true) true fuel 36 [v0,v1,v2,v3,v4,v5]=some (d,p):=hf;obtain⟨xs,n,_,_,_,hlen,hg⟩:=DataW.trod_struct underlying36 hf';have hlen3:xs.length=3:=hlen
 have g0:DataW.trod enc prog w 0 (λ_=>true) true n 9 ((([v0,v1,v2,v3,v4,v5]:List Value).drop 0).take (prog.cellsOf 9))=xs[0]?:=hg 0 _ rfl
 have g1:DataW.trod enc prog w 0 (λ_=>true) true n 9 ((([v0,v1,v2,v3,v4,v5]:List Value).drop 1).take (prog.cellsOf 9))=xs[1]?:=hg 1 _ rfl
 have g2:DataW.trod enc prog w 0 (λ_=>true) true n 34 ((([v0,v1,v2,v3,v4,v5]:List Value).drop 2).take (prog.cellsOf 34))=xs[2]?:=hg 2 _ rfl;rw[show prog.cellsOf 9=1 by kernel_rfl,List.getElem?_eq_getElem ω] at g0 g1
 rw[show prog.cellsOf 34=4 by kernel_rfl,List.getElem?_eq_getElem ω] at g2;have g2':DataW.trod enc prog w 0 (λ_=>true) true n 34 [v2,v3,v4,v5]=some (xs[2]'ω):=g2;obtain⟨ys,n2,_,_,_,xWk,hg2⟩:=DataW.trod_struct underlying34 g2';have yDw:ys.length=4:=xWk
 have k0:DataW.trod enc prog w 0 (λ_=>true) true n2 9 ((([v2,v3,v4,v5]:List Value).drop 0).take (prog.cellsOf 9))=ys[0]?:=hg2 0 _ rfl
 have k1:DataW.trod enc prog w 0 (λ_=>true) true n2 9 ((([v2,v3,v4,v5]:List Value).drop 1).take (prog.cellsOf 9))=ys[1]?:=hg2 1 _ rfl
 have k2:DataW.trod enc prog w 0 (λ_=>true) true n2 9 ((([v2,v3,v4,v5]:List Value).drop 2).take (prog.cellsOf 9))=ys[2]?:=hg2 2 _ rfl
 have k3:DataW.trod enc prog w 0 (λ_=>true) true n2 3 ((([v2,v3,v4,v5]:List Value).drop 3).take (prog.cellsOf 3))=ys[3]?:=hg2 3 _ rfl;rw[show prog.cellsOf 9=1 by kernel_rfl,List.getElem?_eq_getElem ω] at k0 k1 k2
 rw[show prog.cellsOf 3=1 by kernel_rfl,List.getElem?_eq_getElem ω] at k3;obtain⟨f1,r0,_⟩:=DataW.trod_string underlying9 g0;obtain⟨f2,r1,_⟩:=DataW.trod_string underlying9 g1;obtain⟨f3,r2,_⟩:=DataW.trod_string underlying9 k0
 obtain⟨f4,r3,_⟩:=DataW.trod_string underlying9 k1;obtain⟨f5,r4,_⟩:=DataW.trod_string underlying9 k2;obtain⟨rd,r5,_⟩:=DataW.trod_int underlying3 k3
 injection r0 with r0;injection r1 with r1;injection r2 with r2;injection r3 with r3;injection r4 with r4;injection r5 with r5;subst r0 r1 r2 r3 r4 r5;exact⟨f1,f2,f3,f4,f5,rd,rfl⟩
end Go.Proofs.IX
namespace Go.Proofs.IX
open Go.Joins Go.ChangeShapes Go.WideShapes Go.RowKit Go.Deep MM Mailsack Go.Proofs.DS
theorem xNu {H:Type} {enc:TypeId×Value->H} {w:World} {fuel:Nat} {v:Value} {x:DataW H×List MemPlace} (hf:DataW.trod enc prog w 0 (λ_=>true) true fuel 23 [v]=some x):
  ∃L:List Wr,RdW w w.heap.size v L/\L.length<=9223372036854775807:=by
 obtain⟨A,len,c,rfl,hlc,hlm,hrow⟩:=rZ underlying23 (show prog.cellsOf 154=2 by kernel_rfl) ω hf
 by_cases hn:0<len
 ·obtain⟨b,off,rfl,hb,hi⟩:=hrow hn
  obtain⟨L,hL,hp⟩:=xO2 (α:=Wr) (p:=λj m=>w.cell? ⟨b,off+j*2,none⟩=some (.int .i64 m.at_)/\w.cell? ⟨b,off+j*2+1,none⟩=some (xR m.data)) (n:=len) (λi h=>by
   obtain⟨cs,n,y,hz,hcell,ht1⟩:=hi i h
   obtain⟨c0,c1,rfl⟩:∃c0 c1,cs=[c0,c1]:=by
    match cs,hz with
    |[c0,c1],_=>exact⟨c0,c1,rfl⟩
   obtain⟨xs,n',_,_,_,hlen,hg⟩:=DataW.trod_struct underlying154 ht1;have xWk:xs.length=2:=hlen;have g0:DataW.trod enc prog w 0 (λ_=>true) true n' 3 ((([c0,c1]:List Value).drop 0).take (prog.cellsOf 3))=xs[0]?:=hg 0 _ rfl
   have g1:DataW.trod enc prog w 0 (λ_=>true) true n' 9 ((([c0,c1]:List Value).drop 1).take (prog.cellsOf 9))=xs[1]?:=hg 1 _ rfl;rw[show prog.cellsOf 3=1 by kernel_rfl,List.getElem?_eq_getElem ω] at g0
   rw[show prog.cellsOf 9=1 by kernel_rfl,List.getElem?_eq_getElem ω] at g1;obtain⟨m0,r0,_⟩:=DataW.trod_int underlying3 g0;obtain⟨m1,r1,_⟩:=DataW.trod_string underlying9 g1;injection r0 with r0;injection r1 with r1;subst r0 r1
   exact⟨⟨m0,m1.data.toList⟩,hcell 0 ω,hcell 1 ω⟩)
  subst hL;exact⟨L,⟨_,c,rfl,hlc,λ_=>⟨b,off,rfl,hb,hp⟩⟩,hlm⟩
 ·obtain rfl:len=0:=ω;exact⟨[],⟨A,c,rfl,Nat.zero_le _,λh=>absurd h (Nat.lt_irrefl _)⟩,σ⟩
theorem xVk {H:Type} {enc:TypeId×Value->H} {w:World} {base:Nat} {v:Value} {d:DataW H} {p:List MemPlace}
  (hv:Value.okWide prog w .any base 25 v) (h:DataW.Trod enc prog w 0 (λ_=>true) true 25 v d p):
  ∃(a b:Value) (D:Dk),v=.agg #[a,b]/\RdS w w.heap.size a D.secs/\RdW w w.heap.size b D.cache:=by
 obtain⟨cs,rfl,hsz⟩:=okWide_struct underlying25 hv;have hsz2:cs.size=2:=hsz.trans κ;obtain⟨l⟩:=cs;obtain⟨fuel,hf⟩:=h
 obtain⟨v0,v1,rfl⟩:∃v0 v1,l=[v0,v1]:=by
  match l,hsz2 with
  |[v0,v1],_=>exact⟨v0,v1,rfl⟩
 have hf':DataW.trod enc prog w 0 (λ_=>true) true fuel 25 [v0,v1]=some (d,p):=hf;obtain⟨xs,n,_,_,_,hlen,hg⟩:=DataW.trod_struct underlying25 hf';have xWk:xs.length=2:=hlen
 have g0:DataW.trod enc prog w 0 (λ_=>true) true n 22 ((([v0,v1]:List Value).drop 0).take (prog.cellsOf 22))=xs[0]?:=hg 0 _ rfl;have g1:DataW.trod enc prog w 0 (λ_=>true) true n 23 ((([v0,v1]:List Value).drop 1).take (prog.cellsOf 23))=xs[1]?:=hg 1 _ rfl
 rw[show prog.cellsOf 22=1 by kernel_rfl,List.getElem?_eq_getElem ω] at g0;rw[show prog.cellsOf 23=1 by kernel_rfl,List.getElem?_eq_getElem ω] at g1;have g0':DataW.trod enc prog w 0 (λ_=>true) true n 22 [v0]=some (xs[0]'ω):=g0
 have g1':DataW.trod enc prog w 0 (λ_=>true) true n 23 [v1]=some (xs[1]'ω):=g1;obtain⟨SL,hS,_,hSl⟩:=MM.xG3 underlying22 underlying9 κ g0';obtain⟨CL,hC,hCl⟩:=xNu g1';exact⟨v0,v1,⟨SL,CL⟩,rfl,hS,hC⟩
end Go.Proofs.IX
namespace Go.Proofs.NG
theorem xWu:(prog.funcs.toList.any Func.goes)=false:=κ
theorem yDz {P:Program} (h:(P.funcs.toList.any Func.goes)=false) (f:FuncId):P.goes f=false:=by
 have h1:∀g:FuncId,(P.funcs[g]?).any Func.goes=false:=by
  intro g;cases hg:P.funcs[g]? with
  |none=>rfl
  |some fn=>
   have hm:fn∈P.funcs.toList:=Array.mem_toList_iff.2 (Array.mem_of_getElem? hg);simpa using List.any_eq_false.1 h fn hm
 have h2:P.funcs.any Func.goes=false:=by rw[<-Array.any_toList];exact h
 unfold Program.goes;rw[h2,Bool.and_false,Bool.or_false];exact List.any_eq_false.2 λg _=>by rw[h1 g];simp
theorem xWv {P:Program} (h:(P.funcs.toList.any Func.goes)=false) {c:OpenClaim} (hc:c.start=.entering):false=c.goesBy P:=by
 unfold OpenClaim.goesBy Program.goesAt Program.goesFrom;rw[hc]
 have h1:∀o:Option FuncId,o.any P.goes=false:=λo=>by
  cases o with
  |none=>rfl
  |some f=>exact yDz h f
 rw[h1]
 rfl
theorem goesBy {c:OpenClaim} (hc:c.start=.entering):false=c.goesBy prog:=xWv xWu hc
end Go.Proofs.NG