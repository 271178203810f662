/- Contracts of functions. Conditions: as stated. -/
import Derived.Test.YtnafbinmecekeaaGreatDoorImapKeysProofB04
open Go.Proofs.Tryz
set_option maxHeartbeats 8000000
set_option maxRecDepth 100000
namespace Mailsack
def rT (s:ByteArray):List Int:=if s.size=16 then(zO (qD s)).list.set 4 (Go.IntKind.u64.wrap ((zO (qD s)).e+16777216)) else(zO (qD s)).list
def wG (h b:List Int):Nat->List Int
 |0=>h
 |i+1=>(wG h b i).set i (Go.IntKind.u64.wrap ((wG h b i).getD i 0+b.getD i 0))
theorem xFc (h b:List Int):∀i,(wG h b i).length=h.length
 |0=>rfl
 |i+1=>by rw[wG,List.length_set,xFc h b i]
theorem xQw {h:List Int} (b:List Int) (hh:yU h):∀i,yU (wG h b i)
 |0=>hh
 |i+1=>(xQw b hh i).set i (wrap_u64 _)
theorem xIt (s:ByteArray):(rT s).length=5:=by
 unfold rT;split<;>simp[L5.list]
theorem xQp (s:ByteArray):yU (rT s):=by
 unfold rT;split
 ·exact(L5.all (xAm _)).set 4 (wrap_u64 _)
 ·exact L5.all (xAm _)
def qJ (n k:Nat):Nat:=if 16*k<=n then 16*k else n
def yB8 (n k:Nat):Nat:=if 16<=n-qJ n k then 16 else n-qJ n k
theorem xVq (n k:Nat):qJ n (k+1)=qJ n k+yB8 n k:=by
 unfold yB8 qJ
 repeat' split
 all_goals omega
theorem yDa (n k:Nat):qJ n k<=n:=by
 unfold qJ;split<;>omega
def xMq (r:List Int) (s:ByteArray):Nat->List Int
 |0=>List.replicate 5 0
 |k+1=>xZs (wG (xMq r s k) (rT (s.extract (qJ s.size k) (qJ s.size k+yB8 s.size k))) 5) r
theorem xYu (r:List Int) (s:ByteArray):∀k,(xMq r s k).length=5
 |0=>by simp[xMq]
 |k+1=>by rw[xMq,xJp]
theorem tagI_u (r:List Int) (s:ByteArray):∀k,yU (xMq r s k)
 |0=>xBu 5
 |_+1=>mulP_u _ _
def tagP (key s:ByteArray):ByteArray:=finP (rH (xMq (jJ (key.extract 0 16)).list s ((s.size+15) / 16))) (key.extract 16 32)
theorem xUw (key s:ByteArray):(tagP key s).size=16:=xX3 _ _
end Mailsack
namespace Go.Proofs.SH
open Go.RowKit Mailsack MM BB
structure jC (w:World) (g:Nat) (rs hs:List Int) (W:World):Prop where
 br:uH W g rs
 bh:uH W (g+1) hs
 ge:w.heap.size<=g
 bel:ψ w W
theorem jC.below {w:World} {g:Nat} {rs hs:List Int} {W W':World} (h:jC w g rs hs W) (hb:ψ W W'):jC w g rs hs W':=
 ⟨xD h.br hb (xH h.br),xD h.bh hb (xH h.bh),h.ge,h.bel.trans (hb.mono h.bel.size)⟩
theorem jC.put {w:World} {g:Nat} {rs hs:List Int} {W:World} (h:jC w g rs hs W) (i:Nat) (x:Int):jC w g rs (hs.set i x) (W.setCell ⟨g+1,i,none⟩ (.int .u64 x)):=by
 have hg:=h.ge;exact⟨h.br.far (p:=⟨g+1,i,none⟩) (by simp only[];omega) _,h.bh.put i x,hg,h.bel.setCell (p:=⟨g+1,i,none⟩) (by simp only[];omega) _⟩
theorem yCi (key s:ByteArray) (w:World) (hk:key.size=32) (hs:s.size<=1099511627776):
  Calls prog 258 #[.string key,.string s] w λe w'=>e=.returned (.tuple #[.string (tagP key s),.bool true])/\ψ w w':=by
 have hki:(key.size:Int)=32:=ω;have h16:(key.extract 0 16).size=16:=by simp;omega
 have HCL:=ι (λW=>xD3 (key.extract 0 16) W h16);have hrl:(jJ (key.extract 0 16)).list.length=5:=rfl;have hru:=L5.all (xXp (key.extract 0 16))
 have HA:Hid (#[Value.int .u64 (jJ (key.extract 0 16)).a,Value.int .u64 (jJ (key.extract 0 16)).b,Value.int .u64 (jJ (key.extract 0 16)).c,Value.int .u64 (jJ (key.extract 0 16)).d,Value.int .u64 (jJ (key.extract 0 16)).e]=xG (jJ (key.extract 0 16)).list):=ι rfl
 have HP:Hid (∀n,n=(s.size+15) / 16->tagP key s=finP (rH (xMq (jJ (key.extract 0 16)).list s n)) (key.extract 16 32)):=ι (λn hn=>by rw[hn];rfl);rw[HA.o] at HCL;clear HA;generalize (jJ (key.extract 0 16)).list=rs at HCL hrl hru HP
 have HIr:Hid ((prog.info? 377).map (·.size)=some (xG rs).size):=ι (xBh hrl);have HZr:Hid ((xG (List.replicate 5 0)).size=(xG rs).size):=ι (by rw[xV,xV,hrl];rfl);have HK16:=ι h16;clear h16 hk;go_enter func258,ntmps258;go_upto_region 3 with fail
 refine wp_region_lit ?_;repeat go_step
 refine(HCL.o _).mono ?_;rintro e w5 ⟨rfl,hb⟩;simp only[]
 rename ∀(a:Act) (w:World),wpList _ _ _ _ a w->_=>hk
 refine hk _ _ ?_;clear hk;iterate 3 go_step
 refine wpList_store_row rfl _ _ _ rfl w5.heap.size (xG rs) rfl rfl _ (xG (List.replicate 5 0)) (xM _ _) HIr.o HZr.o (yB _) ?_
 have H6:Hid (uH ((w5.alloc (.cells (xG (List.replicate 5 0)) 377)).setRow w5.heap.size (xG rs)) w5.heap.size rs/\w.heap.size<=w5.heap.size/\ψ w ((w5.alloc (.cells (xG (List.replicate 5 0)) 377)).setRow w5.heap.size (xG rs))/\((w5.alloc (.cells (xG (List.replicate 5 0)) 377)).setRow w5.heap.size (xG rs)).heap.size=w5.heap.size+1):=ι ⟨setRow_heap _ _ _ _ _ _ (xM _ _),hb.size,below_setRow (hb.alloc hb.size _) hb.size _,by rw[setRow_size,vD]⟩
 refine(λ(h:∀W3,Hid (uH W3 w5.heap.size rs/\w.heap.size<=w5.heap.size/\ψ w W3/\W3.heap.size=w5.heap.size+1)->wpList _ _ _ _ _ W3)=>h _ H6) ?_;clear H6 hb;generalize w5.heap.size=g;intro w6 h6;have hsz:=h6.o.2.2.2
 have H7:Hid (jC w g rs (xMq rs s 0) (w6.alloc (.cells (xG (List.replicate 5 0)) 377))):=ι ⟨xO h6.o.1 _,by have h:=xM w6 (.cells (xG (List.replicate 5 0)) 377);rw[hsz] at h;exact h,h6.o.2.1,h6.o.2.2.1.alloc h6.o.2.2.1.size _⟩;clear h6;go_wp2_with fail
 clear hsz;refine(λ(h:∀W3,Hid (jC w g rs (xMq rs s 0) W3)->Code.wp _ _ _ _ W3)=>h _ H7) ?_;clear H7;intro w7 h7;have HTS:Hid (∀k n,n=5->xMq rs s (k+1)=xZs (wG (xMq rs s k) (rT (s.extract (qJ s.size k) (qJ s.size k+yB8 s.size k))) n) rs):=ι (λk n hn=>by rw[hn];rfl)
 have HTL:=ι (λk=>xYu rs s k);have HTU:=ι (λk=>tagI_u rs s k)
 go_loopw [1] (λtv W=>∃k:Nat,k<=(s.size+15) / 16/\tv=.string (s.extract (qJ s.size k) s.size)/\Hid (jC w g rs (xMq rs s k) W)) (λtv _=>lenOf tv)
 case atStart=>exact⟨0,ω,by simp[qJ],h7⟩
 case round=>
  clear h7
  rename World=>wk
  obtain⟨k,hk,rfl,hr⟩:=hrel;have hoff:=yDa s.size k;have hts:(s.extract (qJ s.size k) s.size).size=s.size-qJ s.size k:=σ
  by_cases hlt:qJ s.size k<s.size
  ·have hz:yB8 s.size k=16/\16<=s.size-qJ s.size k∨yB8 s.size k=s.size-qJ s.size k/\s.size-qJ s.size k<16:=by unfold yB8;split<;>omega
   have hoz:=xVq s.size k;have HSK:=ι (HTS.o k);have HKB:Hid (k+1<=(s.size+15) / 16):=ι (by unfold qJ at hlt;split at hlt<;>omega);generalize qJ s.size k=o at hoff hts hlt hz hoz HSK⊢;generalize yB8 s.size k=z at hz hoz HSK;obtain⟨m,hm⟩:∃m,s.size-o=m:=⟨_,rfl⟩;rw[hm] at hts hz
   have h1:(s.extract o s.size).extract 0 z=s.extract o (o+z):=by
    rw[ByteArray.extract_extract]
    congr 1
    omega
   have h2:(s.extract o s.size).extract z m=s.extract (o+z) s.size:=by
    rw[ByteArray.extract_extract]
    congr 1
    omega
   have hcz:(s.extract o (o+z)).size=z:=by simp;omega
   have hzm:Hid (min (16:Int) m=z):=ι ω;have hz16:z<=16:=ω;have hzm2:z<=m:=ω;have hm0:(0:Int)<m:=ω;have HNX:Hid (s.extract (qJ s.size (k+1)) s.size=s.extract (o+z) s.size):=ι (by rw[hoz])
   have HNS:Hid ((s.extract (o+z) s.size).size+z=m/\0<z):=ι (by rw[ByteArray.size_extract];omega);generalize s.extract (o+z) s.size=nx at h2 HNX HNS;generalize s.extract o (o+z)=ck at h1 hcz HSK;generalize s.extract o s.size=t at hts h1 h2⊢;clear hoff hlt hz hm
   go_upto_region 7 with fail
   rw[hzm.o];clear hzm;have HPD:=ι (λW=>xS1 ck W ω);have HSP:=ι (λW=>xL7 (qD ck) W (xVj ck ω))
   have HB:Hid (#[Value.int .u64 (zO (qD ck)).a,Value.int .u64 (zO (qD ck)).b,Value.int .u64 (zO (qD ck)).c,Value.int .u64 (zO (qD ck)).d,Value.int .u64 (zO (qD ck)).e]=xG (zO (qD ck)).list):=ι rfl;rw[HB.o] at HSP;clear HB;have hbl:(zO (qD ck)).list.length=5:=rfl
   obtain⟨e0,e1⟩:U64 (zO (qD ck)).e:=(xAm (qD ck)).2.2.2.2;have HE4:Hid ((zO (qD ck)).list.getD 4 0=(zO (qD ck)).e):=ι rfl;have HBK:Hid (rT ck=if ck.size=16 then(zO (qD ck)).list.set 4 (IntKind.u64.wrap ((zO (qD ck)).e+16777216)) else(zO (qD ck)).list):=ι rfl
   have hbu:=L5.all (xAm (qD ck));generalize (zO (qD ck)).e=e4 at e0 e1 HE4 HBK;generalize (zO (qD ck)).list=bs at HSP hbl HE4 HBK hbu;have HIb:Hid ((prog.info? 377).map (·.size)=some (xG bs).size):=ι (xBh hbl)
   have HZb:Hid ((xG (List.replicate 5 0)).size=(xG bs).size):=ι (by rw[xV,xV,hbl];rfl);refine wp_region_lit ?_;repeat go_step
   refine(HPD.o _).mono ?_;rintro e wp1 ⟨rfl,hb⟩;have hr1:=ι (hr.o.below hb);clear hr hb HPD;simp only[]
   rename ∀(a:Act) (w:World),wpList _ _ _ _ a w->_=>hkk
   refine hkk _ _ ?_;clear hkk;repeat go_step
   refine(HSP.o _).mono ?_;rintro e wp2 ⟨rfl,hb⟩;have hr2:=ι (hr1.o.below hb);clear hr1 hb HSP;simp only[]
   rename ∀(a:Act) (w:World),wpList _ _ _ _ a w->_=>hkk
   refine hkk _ _ ?_;clear hkk;iterate 3 go_step
   refine wpList_store_row rfl _ _ _ rfl wp2.heap.size (xG bs) rfl rfl _ (xG (List.replicate 5 0)) (xM _ _) HIb.o HZb.o (yB _) ?_;have hgl:=xH hr2.o.bh;have hge:=hr2.o.ge
   have H8:Hid (jC w g rs (xMq rs s k) ((wp2.alloc (.cells (xG (List.replicate 5 0)) 377)).setRow wp2.heap.size (xG bs))/\uH ((wp2.alloc (.cells (xG (List.replicate 5 0)) 377)).setRow wp2.heap.size (xG bs)) wp2.heap.size bs/\g+1<wp2.heap.size):=ι ⟨⟨by unfold uH;rw[setRow_other _ _ _ _ ω];exact xO hr2.o.br _,by unfold uH;rw[setRow_other _ _ _ _ ω];exact xO hr2.o.bh _,hge,below_setRow (hr2.o.bel.alloc hr2.o.bel.size _) ω _⟩,setRow_heap _ _ _ _ _ _ (xM _ _),hgl⟩
   refine(λ(h:∀W3,Hid (jC w g rs (xMq rs s k) W3/\uH W3 wp2.heap.size bs/\g+1<wp2.heap.size)->wpList _ _ _ _ _ W3)=>h _ H8) ?_;clear H8 hgl hge hr2 HIb HZb;generalize wp2.heap.size=g2;intro w8 h8;have h0l:=HTL.o k;have h0u:=HTU.o k;generalize xMq rs s k=hs0 at h8 HSK h0l h0u
   have q4:=h8.o.2.1.cell (i:=4) ω;have y4:=h8.o.2.1.free 4;rw[HE4.o] at q4
   by_cases h16:z=16
   ·have H9:Hid (jC w g rs hs0 (w8.setCell ⟨g2,4,none⟩ (.int .u64 (IntKind.u64.wrap (e4+16777216))))/\uH (w8.setCell ⟨g2,4,none⟩ (.int .u64 (IntKind.u64.wrap (e4+16777216)))) g2 (rT ck)/\g+1<g2):=ι (by
     obtain⟨t1,t2,t3⟩:=h8.o;have t4:=t1.ge;refine⟨⟨t1.br.far (p:=⟨g2,4,none⟩) (by simp only[];omega) _,t1.bh.far (p:=⟨g2,4,none⟩) (by simp only[];omega) _,t4,t1.bel.setCell (p:=⟨g2,4,none⟩) (by simp only[];omega) _⟩,?_,t3⟩;rw[HBK.o,if_pos ω];exact t2.put 4 _)
    have hzi:(z:Int)=16:=ω;clear HBK HE4;clear h8;go_upto_region 10 with fail
    refine(λ(h:∀W3,Hid (jC w g rs hs0 W3/\uH W3 g2 (rT ck)/\g+1<g2)->Code.wp _ _ _ _ W3)=>h _ H9) ?_;clear H9;intro w9 h9;have hbkl:=xIt ck;have hbku:=xQp ck;generalize rT ck=bk at HSK h9 hbkl hbku;have HA0:Hid (jC w g rs (wG hs0 bk 0) w9/\uH w9 g2 bk/\g+1<g2):=ι h9.o
    have HAS:Hid (∀i,wG hs0 bk (i+1)=(wG hs0 bk i).set i (IntKind.u64.wrap ((wG hs0 bk i).getD i 0+bk.getD i 0))):=ι (λi=>rfl);have HAL:Hid (∀i,(wG hs0 bk i).length=5):=ι (λi=>by rw[xFc,h0l]);have HAU:=ι (λi=>xQw bk h0u i);have HBU:=ι hbku;clear h9;go_wp2_with fail
    go_loopw [34] (λiv W=>∃i:Nat,i<=5/\iv=.int .i64 i/\Hid (jC w g rs (wG hs0 bk i) W/\uH W g2 bk/\g+1<g2)) (λiv _=>5- (intOf iv).toNat)
    case atStart=>exact⟨0,δ,rfl,HA0⟩
    case round=>
     clear HA0
     rename World=>wi
     obtain⟨i,hi,rfl,hri⟩:=hrel
     by_cases hlt:i<5
     ·have HS1:=ι (HAS.o i);have hol:=HAL.o i;have hou:=HAU.o i i;have hbi:=HBU.o i;generalize wG hs0 bk i=l at hri HS1 hol hou;obtain⟨x,hx⟩:∃x,l.getD i 0=x:=⟨_,rfl⟩;obtain⟨y,hy⟩:∃y,bk.getD i 0=y:=⟨_,rfl⟩;rw[hx] at HS1 hou;rw[hy] at HS1 hbi;obtain⟨x0,x1⟩:=hou
      obtain⟨y0,y1⟩:=hbi
      have HQ:Hid (∀W,Hid (jC w g rs l W/\uH W g2 bk/\g+1<g2)->W.cell? ⟨g+1,i,none⟩=some (.int .u64 x)/\W.cell? ⟨g2,i,none⟩=some (.int .u64 y)/\W.frozen? ⟨g+1,i,none⟩=false):=ι (λW h=>by
       refine⟨?_,?_,h.o.1.bh.free i⟩
       ·rw[h.o.1.bh.cell (i:=i) ω,hx]
       ·rw[h.o.2.1.cell (i:=i) ω,hy])
      have HPT:Hid (∀W,Hid (jC w g rs l W/\uH W g2 bk/\g+1<g2)->Hid (jC w g rs (wG hs0 bk (i+1)) (W.setCell ⟨g+1,i,none⟩ (.int .u64 (IntKind.u64.wrap (x+y))))/\uH (W.setCell ⟨g+1,i,none⟩ (.int .u64 (IntKind.u64.wrap (x+y)))) g2 bk/\g+1<g2)):=ι (λW h=>ι (by
       refine⟨by rw[HS1.o];exact h.o.1.put i _,h.o.2.1.far (p:=⟨g+1,i,none⟩) (by have:=h.o.2.2;simp only[];omega) _,h.o.2.2⟩))
      have hii:(i:Int)<5:=ω;have HBI:Hid (i<bk.length):=ι ω;have HY:=ι hy;clear hx hy hol;obtain⟨l1,hl1⟩:∃x,wG hs0 bk (i+1)=x:=⟨_,rfl⟩;rw[hl1] at HPT;have HL1:=ι hl1;clear hl1 HS1;go_upto_region 13 with fail
      refine RG.yD 9 (λL W=>Hid (jC w g rs (if L 8 then l1 else l) W/\uH W g2 bk/\g+1<g2)) (λL L' W h hI=>by rw[<-h 8 δ];exact hI) κ κ rfl (ι ⟨⟨hri.o.1.br,hri.o.1.bh,hri.o.1.ge,hri.o.1.bel.drew⟩,hri.o.2⟩) ?_;iterate 2 refine RG.cS ?_
      apply RG.xN
      ·rfl
      ·rfl
      ·intro L w9 h0 hcl xK hw9;have e1:=hcl.not 6 (i:=8) h0 κ;have hs9:=hw9;rw[e1,if_neg σ] at hs9;have q:=(HQ.o w9 hs9).1;clear e1 hs9;repeat go_step
       refine RG.xC ?_;exact⟨xK,hw9⟩
      ·rfl
      iterate 2 refine RG.cS ?_
      apply RG.xN
      ·rfl
      ·rfl
      ·intro L w9 h0 hcl xK hw9;have q:w9.cell? ⟨g2,i,none⟩=some (.int .u64 y):=by rw[hw9.o.2.1.cell (i:=i) HBI.o,HY.o]
       repeat go_step
       refine RG.xC ?_;exact⟨xK,hw9⟩
      ·rfl
      iterate 2 refine RG.cS ?_
      apply RG.xN
      ·rfl
      ·rfl
      ·intro L w9 h0 hcl xK hw9;have hs9:=hw9;rw[h0,if_neg σ] at hs9;obtain⟨q1,q2,q3⟩:=HQ.o w9 hs9;have hp:=HPT.o w9 hs9;repeat go_step
       refine RG.xC ?_;refine⟨xK,?_⟩;show Hid (jC w g rs (if (true:Bool)=true then l1 else l) _/\uH _ g2 bk/\g+1<g2);rw[if_pos rfl];with_reducible exact hp
      ·rfl
      refine RG.xZ (λw9 hw9=>?_);go_wp2;exact⟨⟨i+1,ω,by go_num,by rw[HL1.o];exact hw9⟩,by simp[intOf];omega⟩
     ·have hie:i=5:=ω;have hneg:¬((i:Int)<5):=ω;have HSi:=ι (HSK.o i hie);have hol:=HAL.o i;have hou:yU (wG hs0 bk i):=HAU.o i;generalize wG hs0 bk i=l at hri HSi hol hou;have HIl:Hid ((prog.info? 377).map (·.size)=some (xG l).size):=ι (xBh hol)
      have HML:=ι (λW=>xVx l rs W hol hou hrl hru);obtain⟨l2,hl2⟩:∃x,xZs l rs=x:=⟨_,rfl⟩;have yBq:l2.length=5:=hl2▸xJp l rs;rw[hl2] at HML HSi;have HI2:Hid ((prog.info? 377).map (·.size)=some (xG l2).size):=ι (xBh yBq)
      have HZ2:Hid ((xG l).size=(xG l2).size):=ι (by rw[xV,xV,hol,yBq]);clear hl2 hol hou HSK HAS HAL HAU HBU hie hi hlt;go_upto_region 15 with fail
      refine wp_region_lit ?_;refine wpList_load_row rfl _ _ rfl (g+1) rfl _ (xG l) (0,0) _ hri.o.1.bh underlying377 rfl HIl.o ?_;refine wpList_load_row rfl _ _ rfl g rfl _ (xG rs) (0,0) _ hri.o.1.br underlying377 rfl HIr.o ?_;repeat go_step
      refine(HML.o _).mono ?_;rintro e wm ⟨rfl,hb⟩;have hm:=ι (hri.o.1.below hb);clear hri hb HML;simp only[]
      rename ∀(a:Act) (w:World),wpList _ _ _ _ a w->_=>hkk
      refine hkk _ _ ?_;clear hkk;refine wpList_store_row rfl _ _ _ rfl (g+1) (xG l2) rfl rfl _ _ hm.o.bh HI2.o HZ2.o (yB _) ?_
      have hm2:Hid (jC w g rs l2 (wm.setRow (g+1) (xG l2))):=ι ⟨by unfold uH;rw[setRow_other _ _ _ _ ω];exact hm.o.br,setRow_heap _ _ _ _ _ _ hm.o.bh,hm.o.ge,below_setRow hm.o.bel (by have:=hm.o.ge;omega) _⟩
      refine(λ(h:∀W3,Hid (jC w g rs l2 W3)->wpList _ _ _ _ _ W3)=>h _ hm2) ?_;clear hm hm2;intro wn hwn;go_wp2;refine⟨⟨k+1,HKB.o,by first|(rw[HNX.o];done)|rw[HNX.o,<-h2,h16],by rw[HSi.o];exact hwn⟩,?_⟩;have hns:=HNS.o;simp[lenOf];omega
   ·have H9:Hid (jC w g rs hs0 w8/\uH w8 g2 (rT ck)/\g+1<g2):=ι (by
     rw[HBK.o,if_neg ω];exact h8.o)
    have hzi:¬((z:Int)=16):=ω;clear HBK HE4;clear h8;go_upto_region 10 with fail
    refine(λ(h:∀W3,Hid (jC w g rs hs0 W3/\uH W3 g2 (rT ck)/\g+1<g2)->Code.wp _ _ _ _ W3)=>h _ H9) ?_;clear H9;intro w9 h9;have hbkl:=xIt ck;have hbku:=xQp ck;generalize rT ck=bk at HSK h9 hbkl hbku;have HA0:Hid (jC w g rs (wG hs0 bk 0) w9/\uH w9 g2 bk/\g+1<g2):=ι h9.o
    have HAS:Hid (∀i,wG hs0 bk (i+1)=(wG hs0 bk i).set i (IntKind.u64.wrap ((wG hs0 bk i).getD i 0+bk.getD i 0))):=ι (λi=>rfl);have HAL:Hid (∀i,(wG hs0 bk i).length=5):=ι (λi=>by rw[xFc,h0l]);have HAU:=ι (λi=>xQw bk h0u i);have HBU:=ι hbku;clear h9;go_wp2_with fail
    go_loopw [34] (λiv W=>∃i:Nat,i<=5/\iv=.int .i64 i/\Hid (jC w g rs (wG hs0 bk i) W/\uH W g2 bk/\g+1<g2)) (λiv _=>5- (intOf iv).toNat)
    case atStart=>exact⟨0,δ,rfl,HA0⟩
    case round=>
     clear HA0
     rename World=>wi
     obtain⟨i,hi,rfl,hri⟩:=hrel
     by_cases hlt:i<5
     ·have HS1:=ι (HAS.o i);have hol:=HAL.o i;have hou:=HAU.o i i;have hbi:=HBU.o i;generalize wG hs0 bk i=l at hri HS1 hol hou;obtain⟨x,hx⟩:∃x,l.getD i 0=x:=⟨_,rfl⟩;obtain⟨y,hy⟩:∃y,bk.getD i 0=y:=⟨_,rfl⟩;rw[hx] at HS1 hou;rw[hy] at HS1 hbi;obtain⟨x0,x1⟩:=hou
      obtain⟨y0,y1⟩:=hbi
      have HQ:Hid (∀W,Hid (jC w g rs l W/\uH W g2 bk/\g+1<g2)->W.cell? ⟨g+1,i,none⟩=some (.int .u64 x)/\W.cell? ⟨g2,i,none⟩=some (.int .u64 y)/\W.frozen? ⟨g+1,i,none⟩=false):=ι (λW h=>by
       refine⟨?_,?_,h.o.1.bh.free i⟩
       ·rw[h.o.1.bh.cell (i:=i) ω,hx]
       ·rw[h.o.2.1.cell (i:=i) ω,hy])
      have HPT:Hid (∀W,Hid (jC w g rs l W/\uH W g2 bk/\g+1<g2)->Hid (jC w g rs (wG hs0 bk (i+1)) (W.setCell ⟨g+1,i,none⟩ (.int .u64 (IntKind.u64.wrap (x+y))))/\uH (W.setCell ⟨g+1,i,none⟩ (.int .u64 (IntKind.u64.wrap (x+y)))) g2 bk/\g+1<g2)):=ι (λW h=>ι (by
       refine⟨by rw[HS1.o];exact h.o.1.put i _,h.o.2.1.far (p:=⟨g+1,i,none⟩) (by have:=h.o.2.2;simp only[];omega) _,h.o.2.2⟩))
      have hii:(i:Int)<5:=ω;have HBI:Hid (i<bk.length):=ι ω;have HY:=ι hy;clear hx hy hol;obtain⟨l1,hl1⟩:∃x,wG hs0 bk (i+1)=x:=⟨_,rfl⟩;rw[hl1] at HPT;have HL1:=ι hl1;clear hl1 HS1;go_upto_region 13 with fail
      refine RG.yD 9 (λL W=>Hid (jC w g rs (if L 8 then l1 else l) W/\uH W g2 bk/\g+1<g2)) (λL L' W h hI=>by rw[<-h 8 δ];exact hI) κ κ rfl (ι ⟨⟨hri.o.1.br,hri.o.1.bh,hri.o.1.ge,hri.o.1.bel.drew⟩,hri.o.2⟩) ?_;iterate 2 refine RG.cS ?_
      apply RG.xN
      ·rfl
      ·rfl
      ·intro L w9 h0 hcl xK hw9;have e1:=hcl.not 6 (i:=8) h0 κ;have hs9:=hw9;rw[e1,if_neg σ] at hs9;have q:=(HQ.o w9 hs9).1;clear e1 hs9;repeat go_step
       refine RG.xC ?_;exact⟨xK,hw9⟩
      ·rfl
      iterate 2 refine RG.cS ?_
      apply RG.xN
      ·rfl
      ·rfl
      ·intro L w9 h0 hcl xK hw9;have q:w9.cell? ⟨g2,i,none⟩=some (.int .u64 y):=by rw[hw9.o.2.1.cell (i:=i) HBI.o,HY.o]
       repeat go_step
       refine RG.xC ?_;exact⟨xK,hw9⟩
      ·rfl
      iterate 2 refine RG.cS ?_
      apply RG.xN
      ·rfl
      ·rfl
      ·intro L w9 h0 hcl xK hw9;have hs9:=hw9;rw[h0,if_neg σ] at hs9;obtain⟨q1,q2,q3⟩:=HQ.o w9 hs9;have hp:=HPT.o w9 hs9;repeat go_step
       refine RG.xC ?_;refine⟨xK,?_⟩;show Hid (jC w g rs (if (true:Bool)=true then l1 else l) _/\uH _ g2 bk/\g+1<g2);rw[if_pos rfl];with_reducible exact hp
      ·rfl
      refine RG.xZ (λw9 hw9=>?_);go_wp2;exact⟨⟨i+1,ω,by go_num,by rw[HL1.o];exact hw9⟩,by simp[intOf];omega⟩
     ·have hie:i=5:=ω;have hneg:¬((i:Int)<5):=ω;have HSi:=ι (HSK.o i hie);have hol:=HAL.o i;have hou:yU (wG hs0 bk i):=HAU.o i;generalize wG hs0 bk i=l at hri HSi hol hou;have HIl:Hid ((prog.info? 377).map (·.size)=some (xG l).size):=ι (xBh hol)
      have HML:=ι (λW=>xVx l rs W hol hou hrl hru);obtain⟨l2,hl2⟩:∃x,xZs l rs=x:=⟨_,rfl⟩;have yBq:l2.length=5:=hl2▸xJp l rs;rw[hl2] at HML HSi;have HI2:Hid ((prog.info? 377).map (·.size)=some (xG l2).size):=ι (xBh yBq)
      have HZ2:Hid ((xG l).size=(xG l2).size):=ι (by rw[xV,xV,hol,yBq]);clear hl2 hol hou HSK HAS HAL HAU HBU hie hi hlt;go_upto_region 15 with fail
      refine wp_region_lit ?_;refine wpList_load_row rfl _ _ rfl (g+1) rfl _ (xG l) (0,0) _ hri.o.1.bh underlying377 rfl HIl.o ?_;refine wpList_load_row rfl _ _ rfl g rfl _ (xG rs) (0,0) _ hri.o.1.br underlying377 rfl HIr.o ?_;repeat go_step
      refine(HML.o _).mono ?_;rintro e wm ⟨rfl,hb⟩;have hm:=ι (hri.o.1.below hb);clear hri hb HML;simp only[]
      rename ∀(a:Act) (w:World),wpList _ _ _ _ a w->_=>hkk
      refine hkk _ _ ?_;clear hkk;refine wpList_store_row rfl _ _ _ rfl (g+1) (xG l2) rfl rfl _ _ hm.o.bh HI2.o HZ2.o (yB _) ?_
      have hm2:Hid (jC w g rs l2 (wm.setRow (g+1) (xG l2))):=ι ⟨by unfold uH;rw[setRow_other _ _ _ _ ω];exact hm.o.br,setRow_heap _ _ _ _ _ _ hm.o.bh,hm.o.ge,below_setRow hm.o.bel (by have:=hm.o.ge;omega) _⟩
      refine(λ(h:∀W3,Hid (jC w g rs l2 W3)->wpList _ _ _ _ _ W3)=>h _ hm2) ?_;clear hm hm2;intro wn hwn;go_wp2;refine⟨⟨k+1,HKB.o,by first|(rw[HNX.o];done)|rw[HNX.o,<-h2,h16],by rw[HSi.o];exact hwn⟩,?_⟩;have hns:=HNS.o;simp[lenOf];omega
  ·have hke:k=(s.size+15) / 16:=by unfold qJ at hlt hoff;split at hlt<;>split at hoff<;>omega
   have HF:=ι (HP.o k hke);have hol:=HTL.o k;have hou:=HTU.o k;have h0:s.size-qJ s.size k=0:=ω;rw[h0] at hts;generalize s.extract (qJ s.size k) s.size=t at hts⊢;generalize xMq rs s k=l at hr HF hol hou
   have HIl:Hid ((prog.info? 377).map (·.size)=some (xG l).size):=ι (xBh hol);have HLE:=ι (λW=>xW4 l W hol hou);have yBq:(rH l).length=5:=by rw[xSe,hol]
   have hl2u:=xZw hou;have hk2:(key.extract 16 32).size=16:=by simp;omega
   have hk3:key.extract 16 32=key.extract 16 key.size:=by
    congr 1
    omega
   rw[hk3] at hk2 HF;have HFI:=ι (λW=>xOa (rH l) (key.extract 16 key.size) W yBq hl2u hk2);generalize rH l=l2 at HLE HFI HF;clear HP HTS HTL HTU HCL hke hk hoff hlt h0 hol hou yBq hl2u hk2 hk3;go_upto_region 17 with fail
   refine RG.xQ (λW=>Hid (jC w g rs l W)) κ κ (ι ⟨hr.o.br,hr.o.bh,hr.o.ge,hr.o.bel.drew⟩) ?_;apply RG.xJ
   ·intro w9 hw9;refine wpList_load_row rfl _ _ rfl (g+1) rfl _ (xG l) (0,0) _ hw9.o.bh underlying377 rfl HIl.o ?_;repeat go_step
    exact RG.xC hw9
   ·rfl
   apply RG.xJ
   ·intro w9 hw9;repeat go_step
    refine(HLE.o _).mono ?_;rintro e w10 ⟨rfl,zF⟩;simp only[];repeat go_step
    refine RG.xC ?_;exact ι (hw9.o.below zF)
   ·rfl
   iterate 2 refine RG.dS ?_
   apply RG.xJ
   ·intro w9 hw9;repeat go_step
    refine(HFI.o _).mono ?_;rintro e w10 ⟨rfl,zF⟩;simp only[];repeat go_step
    refine RG.xC ?_;exact ι (hw9.o.below zF)
   ·rfl
   iterate 2 refine RG.dS ?_
   refine RG.xS (λw9 hw9=>?_);go_wp2;go_ret2;rw[HF.o];exact⟨rfl,hw9.o.bel⟩
end Go.Proofs.SH
namespace Mailsack
def yBi (n:Nat):Nat:=(16-n % 16) % 16
def tF (l:Bs):Bs:=l++xP (yBi l.length)
def vX (n:Int) (c:Nat):Bs:=(List.range c).map λi=>oct (Go.IntKind.u64.wrap n / 2^(8*i))
theorem xRj (n:Int) (c:Nat):vX n (c+1)=vX n c++[oct (Go.IntKind.u64.wrap n / 2^(8*c))]:=by
 unfold vX;rw[List.range_succ,List.map_append];rfl
theorem xCh (n:Int) (c:Nat):(vX n c).length=c:=by unfold vX;simp
end Mailsack
namespace Go.Proofs.SH
open Go.RowKit Mailsack MM BB
structure xKr (w:World) (v:Value) (w':World) (v':Value):Prop where
 grown:w.grownBy w' v.ownBlock
 own:∀k,v'.ownBlock=some k->v.ownBlock=some k∨w.heap.size<=k
theorem xKr.refl (w:World) (v:Value):xKr w v w v:=⟨⟨rfl,rfl,rfl,Nat.le_refl _,λ_ _ _=>rfl⟩,λ_ h=>.inl h⟩
theorem xKr.trans {w w1 w2:World} {v v1 v2:Value} (h:xKr w v w1 v1) (k:xKr w1 v1 w2 v2):xKr w v w2 v2:=by
 refine⟨⟨k.grown.os.trans h.grown.os,k.grown.tape.trans h.grown.tape,k.grown.output.trans h.grown.output,Nat.le_trans h.grown.size k.grown.size,λb hb hne=>?_⟩,λb hb=>?_⟩
 ·refine(k.grown.block b (Nat.lt_of_lt_of_le hb h.grown.size) (λe=>?_)).trans (h.grown.block b hb hne);rcases h.own b e.symm with h1|h1
  ·exact hne h1.symm
  ·omega
 ·rcases k.own b hb with h1|h1
  ·exact h.own b h1
  ·exact .inr (Nat.le_trans h.grown.size h1)
theorem xKr.push {w w1:World} {v:Value} {o:Obj} {g n cap:Nat} (hg:(w.alloc o).grownBy w1 v.ownBlock) (hl:v.ownBlock=some g∨g=w.heap.size+1):xKr w v w1 (.slice (some ⟨g,0,none⟩) n cap):=by
 refine⟨⟨hg.os,hg.tape,hg.output,Nat.le_trans σ hg.size,λb hb hne=>?_⟩,λb hb=>?_⟩
 ·exact(hg.block b (by simp;omega) hne).trans (Below.heap_alloc w o b hb)
 ·have hb':g=b:=by simpa[Value.ownBlock] using hb
  subst hb';rcases hl with h|h
  ·exact .inl h
  ·exact .inr ω
theorem xKr.below {w w':World} {v v':Value} (h:xKr w v w' v') {base:Nat} {l:Bs} (ho:uG w base v l) (hb:base<=w.heap.size):Below base w w':=
 ⟨h.grown.os,h.grown.tape,h.grown.output,h.grown.size,λk hk=>h.grown.block k ω (λe=>by
  have:=(World.ownsRow.lt ho k e.symm).1;omega)⟩
theorem one_y (z:Int):∀v∈[Value.int .u8 z],v.oneCell'=true:=by simp[Value.oneCell']
theorem xPa (n:Int) (v:Value) (l:Bs) (w:World) (base:Nat) (ho:uG w base v l) (hb:base<=w.heap.size) (hl:l.length<4294967281):
  Calls prog 257 #[v,.int .i64 n] w λe w'=>∃v',e=.returned v'/\uG w' base v' (l++vX n 8)/\xKr w v w' v':=by
 obtain⟨i0,hi,hz0,hz1,hz2⟩:=jA xSk;have HO:=ι ho;have HU:=wrap_u64 n;have HSE:Hid (∀c,c=8->l++vX n c=l++vX n 8):=ι (λc hc=>by rw[hc]);have HS0:Hid (l++vX n 0=l):=ι (by simp[vX]);have HSS:=ι (λc=>xRj n c);generalize hres:l++vX n 8=res at HSE⊢;clear ho hres
 go_enter func257,ntmps257;go_wp2_with fail
 go_loopw [0,6] (λlv iv wr=>∃k:Nat,k<=8/\iv=.int .i64 k/\Hid (uG wr base lv (l++vX n k))/\Hid (xKr w v wr lv)) (λ_ iv _=>8- (intOf iv).toNat)
 case atStart=>exact⟨0,Nat.zero_le _,rfl,ι (by rw[HS0.o];exact HO.o),ι (xKr.refl _ _)⟩
 case round=>
  obtain⟨k,hk,rfl,hown,xWp⟩:=hrel
  by_cases hlt:k<8
  ·have HL0:=(show(l++vX n k).length=l.length+k by rw[List.length_append,xCh]);have HLe:Hid (l++vX n (k+1)=(l++vX n k)++[oct (IntKind.u64.wrap n / 2^(8*k))]):=ι (by rw[HSS.o,List.append_assoc]);obtain⟨L1,hL1⟩:∃L,l++vX n (k+1)=L:=⟨_,rfl⟩;rw[hL1] at HLe;have HL1:=ι hL1;clear hL1
   generalize l++vX n k=L at hown HL0 HLe;have HL:=ι HL0;have HK:=ι hlt;obtain⟨u,hu⟩:∃u,IntKind.u64.wrap n=u:=⟨_,rfl⟩;obtain⟨u0,u1⟩:=hu▸HU;rw[hu] at HLe;clear HL0
   go_wp2_with (at_builtin;refine wpList_append_lies _ rfl _ _ 125 rfl base 5 i0 (.int .u8 0) 1 1 underlying125 hi hz0 hz1 hz2 rfl δ _ _ _ rfl (hown.o.alloc _) ⟨wr.heap.size,0,none⟩ 1 1 [.int .u8 (u / 2^(8*k) % 256)] rfl rfl (cell_one_new _ _ _) (one_y _) δ (by have:=HL.o;have:=HK.o;unfold maxLen;omega) (by have:=HL.o;have:=HK.o;omega) (by have:=xWp.o.grown.size;simp;omega) (wr.heap.size+1) σ ?_;intro g cap w1 hown1 hgrow hat hlt1)
   have he2:=xWp.o.trans (xKr.push (n:=L.length+1) (cap:=cap) hgrow hat);have ho2:=ι hown1;clear hown1 hgrow hat
   go_roundw
   case rel=>exact⟨k+1,ω,by go_num,ι (by
    rw[HL1.o,HLe.o];refine uG.of ?_;simp only[List.map_cons,List.map_nil,qK];exact ho2.o),ι he2⟩
   case measure=>simp[intOf];omega
  ·have hke:k=8:=ω;have h8:=HSE.o k hke;rw[h8] at hown;have hneg:¬((k:Int)<8):=ω;clear h8 HSE HSS HS0;go_wp2;go_ret;exact⟨_,rfl,hown.o,xWp.o⟩
theorem xMm (v:Value) (l:Bs) (w:World) (base:Nat) (ho:uG w base v l) (hb:base<=w.heap.size) (hl:l.length<4294967281):
  Calls prog 256 #[v] w λe w'=>∃v',e=.returned v'/\uG w' base v' (tF l)/\xKr w v w' v':=by
 obtain⟨i0,hi,hz0,hz1,hz2⟩:=jA xSk;obtain⟨A0,c0,rfl,hc0⟩:=ho.form;have HO:=ι ho;have HPN:Hid (yBi l.length<16/\(l.length+yBi l.length) % 16=0):=ι (by unfold yBi;omega);have HSE:Hid (∀k,k=yBi l.length->l++xP k=tF l):=ι (λk hk=>by rw[hk];rfl)
 have HS0:Hid (l++xP 0=l):=ι (by simp[xP]);have HSS:Hid (∀k,l++xP (k+1)=(l++xP k)++[0]):=ι (λk=>by rw[List.append_assoc];congr 1;unfold xP;rw[List.replicate_succ']);generalize tF l=res at HSE⊢;generalize yBi l.length=pn at HPN HSE;clear ho;go_enter func256,ntmps256
 go_wp2_with fail
 go_loopw [0] (λlv wr=>∃(k:Nat) (A:Option Addr) (c:Nat),k<=pn/\lv=.slice A (l.length+k) c/\Hid (uG wr base lv (l++xP k))/\Hid (xKr w (.slice A0 l.length c0) wr lv)) (λlv _=>match lv with|.slice _ m _=>l.length+pn-m|_=>0)
 case atStart=>exact⟨0,A0,c0,Nat.zero_le _,rfl,ι (by rw[HS0.o];exact HO.o),ι (xKr.refl _ _)⟩
 case round=>
  obtain⟨k,A,c,hk,rfl,hown,xWp⟩:=hrel;obtain⟨p1,p2⟩:=HPN.o
  by_cases hlt:k<pn
  ·have hm:((l.length+k:Nat):Int) % 16≠0:=ω;have hmb:((((l.length+k:Nat):Int) % 16)!=0)=true:=by simp;omega
   have HL0:(l++xP k).length=l.length+k:=by rw[List.length_append,yO]
   have HROW:Hid (wr.ownsRow base 5 1 (.slice A (l.length+k) c) (l.length+k) ((l++xP k).map λc=>Value.int .u8 (c.toNat:Int))):=ι (by have h:=hown.o.row;rwa [HL0] at h);have HSk:=ι (HSS.o k);obtain⟨L1,hL1⟩:∃L,l++xP (k+1)=L:=⟨_,rfl⟩;rw[hL1] at HSk;have HL1:=ι hL1;clear hL1 hown
   generalize l++xP k=L at HROW HSk HL0;have HL:=ι HL0;have HK:=ι hlt;have HP1:=ι p1;have HLL:=ι hl;clear HL0 p1 p2 hlt hk
   go_wp2_with (at_builtin;refine wpList_append_lies _ rfl _ _ 125 rfl base 5 i0 (.int .u8 0) 1 1 underlying125 hi hz0 hz1 hz2 rfl δ _ _ _ rfl (HROW.o.alloc _) ⟨wr.heap.size,0,none⟩ 1 1 [.int .u8 0] rfl rfl (cell_one_new _ _ _) (one_y _) δ (by have:=HLL.o;have:=HK.o;have:=HP1.o;unfold maxLen;omega) (by have:=HLL.o;have:=HK.o;have:=HP1.o;omega) (by have:=xWp.o.grown.size;simp;omega) (wr.heap.size+1) σ ?_;intro g cap w1 hown1 hgrow hat hlt1)
   have he2:=xWp.o.trans (xKr.push (n:=l.length+k+1) (cap:=cap) hgrow hat);have ho2:=ι hown1;clear hown1 hgrow hat
   go_roundw
   case rel=>exact⟨k+1,_,cap,by have:=HK.o;omega,rfl,ι (by
    rw[HL1.o,HSk.o];refine uG.of ?_;rw[HL.o];exact ho2.o),ι he2⟩
   case measure=>show l.length+pn- (l.length+k+1)<l.length+pn- (l.length+k);have:=HK.o;omega
  ·have hke:k=pn:=ω;have hm:((l.length+k:Nat):Int) % 16=0:=ω;have hmb:((((l.length+k:Nat):Int) % 16)!=0)=false:=by simp;omega
   have h8:=HSE.o k hke;rw[h8] at hown;clear h8 HSE HSS HS0 p1 p2;go_wp2;go_ret;exact⟨_,rfl,hown.o,xWp.o⟩
end Go.Proofs.SH
namespace Mailsack
def qX (xs:List Int):Nat->List Int
 |0=>xs
 |k+1=>(qX xs k).set 12 (((qX xs k).getD 12 0+1) % 4294967296)
theorem xHt (xs:List Int):∀k,(qX xs k).length=xs.length
 |0=>rfl
 |k+1=>by simp[qX,xHt xs k]
theorem xP9 {xs:List Int} (h:jH xs):∀k,jH (qX xs k)
 |0=>h
 |k+1=>(xP9 h k).set 12 (wF _)
def xTd (l:Bs) (off:Nat) (blk:Bs):Nat->Bs
 |0=>l
 |i+1=>(xTd l off blk i).set (off+i) (oct (Go.bits .xor .u8 (((xTd l off blk i).getD (off+i) 0).toNat:Int) ((blk.getD i 0).toNat:Int)))
theorem xIw (l:Bs) (off:Nat) (blk:Bs):∀i,(xTd l off blk i).length=l.length
 |0=>rfl
 |i+1=>by simp[xTd,xIw l off blk i]
def xDh (l:Bs) (xs:List Int):Nat->Bs
 |0=>l
 |k+1=>xTd (xDh l xs k) (64*k) (xA4 (qX xs k)) (min 64 (l.length-64*k))
theorem xFk (l:Bs) (xs:List Int):∀k,(xDh l xs k).length=l.length
 |0=>rfl
 |k+1=>by unfold xDh;rw[xIw,xFk l xs k]
def xHi (key xE:ByteArray) (counter:Int) (s:ByteArray):Bs:=xDh s.data.toList (pI key xE counter) ((s.size+63) / 64)
theorem xD5 (key xE:ByteArray) (counter:Int) (s:ByteArray):(xHi key xE counter s).length=s.size:=by
 unfold xHi;rw[xFk];simp
end Mailsack
namespace Go.Proofs.SH
open Go.RowKit Mailsack MM BB
structure xMx (W:World) (g:Nat) (l:Bs):Prop where
 cell:∀j,j<l.length->W.cell? ⟨g,j,none⟩=some (.int .u8 ((l.getD j 0).toNat:Int))
 free:∀j,j<l.length->W.frozen? ⟨g,j,none⟩=false
theorem xMx.put {W:World} {g:Nat} {l:Bs} (h:xMx W g l) {p:Nat} (hp:p<l.length) {z:Int} (h0:0<=z) (h1:z<256):xMx (W.setCell ⟨g,p,none⟩ (.int .u8 z)) g (l.set p (oct z)):=by
 refine⟨λj hj=>?_,λj hj=>?_⟩
 ·rw[List.length_set] at hj
  by_cases e:j=p
  ·subst e;rw[World.cell?_setCell_same _ _ _ (h.cell j hj),List.getD_eq_getElem?_getD,List.getElem?_set,if_pos rfl,if_pos hj];simp[qK];omega
  ·rw[World.cell?_setCell_other _ _ _ _ (λe'=>e (by injection e' with _ e';exact e'.symm)),h.cell j hj,List.getD_eq_getElem?_getD,List.getD_eq_getElem?_getD,List.getElem?_set,if_neg (Ne.symm e)]
 ·rw[List.length_set] at hj;rw[World.frozen?_setCell];exact h.free j hj
theorem xMx.keep {W W':World} {g:Nat} {l:Bs} (h:xMx W g l) (hb:W'.heap[g]?=W.heap[g]?):xMx W' g l:=
 ⟨λj hj=>(World.cell?_of_block (w:=W) (a:=⟨g,j,none⟩) hb).trans (h.cell j hj),λj hj=>(World.frozen?_of_block (w:=W) (a:=⟨g,j,none⟩) hb).trans (h.free j hj)⟩
theorem xMx.start (W:World) (s:ByteArray):xMx (Lib.bytesWorld W 5 s) W.heap.size s.data.toList:=by
 have hsl:s.data.toList.length=s.size:=σ;refine⟨λj hj=>Lib.bytesWorld_cell W _ s j ω,λj hj=>?_⟩;simp only[World.frozen?,Lib.bytesWorld_at_new];have hz:(Lib.bytesCells W 5 s).size=s.data.size+(grownCap W s.size 0 5-s.size):=by simp[Lib.bytesCells]
 have hs:s.data.size=s.size:=rfl;simp;omega
theorem xMx.text {W:World} {g:Nat} {l:Bs} (h:xMx W g l) (n cap:Nat) (hn:l.length=n):(convert 125 9 (.slice (some ⟨g,0,none⟩) n cap)).run prog W=.ok (.string (bsA l)) W:=by
 subst hn
 exact run_convert_bytes_back (P:=prog) W 125 9 5 ⟨g,0,none⟩ cap l underlying125 underlying5 underlying9 (λj hj=>by
  have hadd:(⟨g,0,none⟩:Addr).add j=⟨g,j,none⟩:=by unfold Addr.add;split<;>simp_all
  rw[hadd,h.cell j hj,List.getD_eq_getElem?_getD,List.getElem?_eq_getElem hj]
  rfl)
structure TuI (w:World) (g1 g2:Nat) (xs:List Int) (l:Bs) (W:World):Prop where
 st:W.heap[g1]?=some (.cells (yV xs) 311 (0,0))
 o:xMx W g2 l
 bel:ψ w W
 lo:w.heap.size<=g1
 lt:g1<g2
 hi:g2<W.heap.size
theorem TuI.below {w:World} {g1 g2:Nat} {xs:List Int} {l:Bs} {W W':World} (h:TuI w g1 g2 xs l W) (hb:ψ W W'):TuI w g1 g2 xs l W':=
 ⟨xD h.st hb (xH h.st),h.o.keep (hb.block g2 h.hi),h.bel.trans (hb.mono h.bel.size),h.lo,h.lt,Nat.lt_of_lt_of_le h.hi hb.size⟩
theorem TuI.alloc {w:World} {g1 g2:Nat} {xs:List Int} {l:Bs} {W:World} (h:TuI w g1 g2 xs l W) (o:Obj):TuI w g1 g2 xs l (W.alloc o):=h.below (φ W o)
theorem TuI.drew {w:World} {g1 g2:Nat} {xs:List Int} {l:Bs} {W:World} (h:TuI w g1 g2 xs l W):TuI w g1 g2 xs l W.drew:=⟨h.st,⟨h.o.cell,h.o.free⟩,h.bel.drew,h.lo,h.lt,h.hi⟩
theorem TuI.put {w:World} {g1 g2:Nat} {xs:List Int} {l:Bs} {W:World} (h:TuI w g1 g2 xs l W) {p:Nat} (hp:p<l.length) {z:Int} (h0:0<=z) (h1:z<256):TuI w g1 g2 xs (l.set p (oct z)) (W.setCell ⟨g2,p,none⟩ (.int .u8 z)):=
 ⟨yC h.st (p:=⟨g2,p,none⟩) (by have:=h.lt;simp;omega) _,h.o.put hp h0 h1,h.bel.setCell (p:=⟨g2,p,none⟩) (by have:=h.lo;have:=h.lt;simp;omega) _,h.lo,h.lt,by rw[size_set];exact h.hi⟩
theorem TuI.step {w:World} {g1 g2:Nat} {xs:List Int} {l:Bs} {W:World} (h:TuI w g1 g2 xs l W) (z:Int):TuI w g1 g2 (xs.set 12 z) l (W.setCell ⟨g1,12,none⟩ (.int .u32 z)):=by
 refine⟨?_,h.o.keep (Below.heap_setCell W ⟨g1,12,none⟩ _ g2 (by have:=h.lt;simp;omega)),h.bel.setCell (p:=⟨g1,12,none⟩) h.lo _,h.lo,h.lt,by rw[size_set];exact h.hi⟩;have:=xY h.st 12 (.int .u32 z);rw[xD0] at this;exact this
theorem xE8 (key xE:ByteArray) (counter:Int) (s:ByteArray) (w:World) (hk:key.size=32) (hn:xE.size=12) (hc:U32 counter) (hs:s.size<=1099511627776):
  Calls prog 166 #[.string key,.string xE,.int .u32 counter,.string s] w λe w'=>e=.returned (.tuple #[.string (bsA (xHi key xE counter s)),.bool true])/\ψ w w':=by
 have HB:=ι (xQq key xE counter w hk hn);have hl:=xEa key xE counter;have hu:=xQr key xE hc;have HP:Hid (∀k,k=(s.size+63) / 64->xHi key xE counter s=xDh s.data.toList (pI key xE counter) k):=ι (λk hk=>by rw[hk];rfl);generalize pI key xE counter=xs at HB hl hu HP
 have hsl:s.data.toList.length=s.size:=σ;have HI:Hid ((prog.info? 311).map (·.size)=some (yV xs).size):=ι (by rw[yY,hl];kernel_rfl);have HO:Hid ((yV (List.replicate 16 0)).size=(yV xs).size):=ι (by rw[yY,yY,hl,List.length_replicate])
 have HSZ:Hid ((yV xs).size=16):=ι (by rw[yY,hl]);have HXL:Hid (∀k,(qX xs k).length=16):=ι (λk=>by rw[xHt,hl]);have HXU:=ι (λk=>xP9 hu k);have HTL:Hid (∀k,(xDh s.data.toList xs k).length=s.size):=ι (λk=>by rw[xFk,hsl])
 have HTS:Hid (∀k m,m=min 64 (s.size-64*k)->xDh s.data.toList xs (k+1)=xTd (xDh s.data.toList xs k) (64*k) (xA4 (qX xs k)) m):=ι (λk m hm=>by rw[hm,<-hsl];rfl);have HXS:Hid (∀k,qX xs (k+1)=(qX xs k).set 12 (((qX xs k).getD 12 0+1) % 4294967296)):=ι (λk=>rfl)
 have xJx:=λW=>Lib.run_convert_string_bytes (P:=prog) W 9 125 5 s underlying9 underlying125 underlying5;have HS:=ι hs;clear hl hu hk hn hc;go_enter func166,ntmps166;go_wp2_with fail
 refine HB.o.mono ?_;rintro e w1 ⟨rfl,hb1⟩;have B1:=ι hb1;clear hb1 HB
 have hst:(storeCells ⟨w1.heap.size,0,none⟩ (yV xs).toList).run prog (w1.alloc (.cells #[.int .u32 0,.int .u32 0,.int .u32 0,.int .u32 0,.int .u32 0,.int .u32 0,.int .u32 0,.int .u32 0,.int .u32 0,.int .u32 0,.int .u32 0,.int .u32 0,.int .u32 0,.int .u32 0,.int .u32 0,.int .u32 0] 311))=.ok () (w1.alloc (.cells (yV xs) 311)):=run_storeCells_new w1 _ _ _ HI.o HO.o (tZ xs)
 have hsz:=HSZ.o
 have HT:Hid (TuI w w1.heap.size (w1.heap.size+1) (qX xs 0) (xDh s.data.toList xs 0) (Lib.bytesWorld (w1.alloc (.cells (yV xs) 311)) 5 s)):=ι (by
  have hz:(w1.alloc (.cells (yV xs) 311)).heap.size=w1.heap.size+1:=σ;have ho:=xMx.start (w1.alloc (.cells (yV xs) 311)) s;rw[hz] at ho
  refine⟨?_,ho,(B1.o.alloc B1.o.size (.cells (yV xs) 311)).trans ⟨rfl,rfl,rfl,by rw[Lib.bytesWorld_size];omega,λk hk=>Lib.bytesWorld_at_old _ _ s k (by have:=B1.o.size;omega)⟩,B1.o.size,Nat.lt_succ_self _,by rw[Lib.bytesWorld_size,hz];omega⟩;rw[Lib.bytesWorld_at_old _ _ _ _ ω]
  exact xM _ _)
 have HG:Hid (w.heap.size<=w1.heap.size):=ι B1.o.size;go_upto_region 5 with fail
 have hcap:s.size<=grownCap (w1.alloc (.cells (yV xs) 311)) s.size 0 5:=grownCap_ge _ _ _ _;generalize grownCap _ _ _ _=cap at hcap⊢;generalize Lib.bytesWorld (w1.alloc (.cells (yV xs) 311)) 5 s=w2 at HT⊢;clear hst hsz xJx HO HI HSZ B1;generalize w1.heap.size=g1 at HT HG⊢
 go_wp2_with fail
 go_loopw [13] (λrv wr=>∃k off c2:Nat,off=min (64*k) s.size/\64*k<s.size+64/\(∃A:Option Addr,rv=.slice A (s.size-off) c2/\s.size-off<=c2/\(off<s.size->A=some ⟨g1+1,off,none⟩))/\Hid (TuI w g1 (g1+1) (qX xs k) (xDh s.data.toList xs k) wr)) (λrv _=>match rv with|.slice _ m _=>m|_=>0)
 case atStart=>exact⟨0,0,cap,σ,ω,⟨_,rfl,hcap,λ_=>rfl⟩,HT⟩
 case round=>
  obtain⟨k,off,c2,hoff,hk,⟨A,rfl,hc2,hA⟩,hr⟩:=hrel;clear HT
  by_cases hlt:64*k<s.size
  ·obtain rfl:off=64*k:=ω;obtain rfl:=hA ω;clear hA;have hpos:0<s.size-64*k:=ω;obtain⟨m,hm⟩:∃m,s.size-64*k=m:=⟨_,rfl⟩;have HTSk:=ι (HTS.o k);rw[hm] at hpos HTSk hc2⊢;have HMS:Hid (64*k+m=s.size):=ι ω;have HKL:=ι hlt;clear hoff hk hm hlt;go_upto_region 8 with fail
   have hsz:(min 64 (m:Int))=((min 64 m:Nat):Int):=ω;rw[hsz];obtain⟨z,hz⟩:∃z,min 64 m=z:=⟨_,rfl⟩;have HTSz:=ι (HTSk.o z hz.symm);have HZM:Hid (z<=m/\z<=64/\0<z/\(z=64∨z=m)):=ι ω;rw[hz];clear hsz hz HTSk;have hxl:=HXL.o k;have hxu:=HXU.o k;have hll:=HTL.o k
   have HXSk:=ι (HXS.o k);obtain⟨xk1,hxk1⟩:∃x,qX xs (k+1)=x:=⟨_,rfl⟩;obtain⟨lk1,hlk1⟩:∃x,xDh s.data.toList xs (k+1)=x:=⟨_,rfl⟩;rw[hxk1] at HXSk;rw[hlk1] at HTSz;have HXK:=ι hxk1;have HLK:=ι hlk1;clear hxk1 hlk1;generalize qX xs k=xk at hr hxl hxu HXSk HTSz
   generalize xDh s.data.toList xs k=l0 at hr HTSz hll;have HF:=ι (λW=>xIg xk W hxl hxu);have HFL:=ι (xBy xk);generalize xA4 xk=fo at HF HFL HTSz;have HIk:Hid ((prog.info? 311).map (·.size)=some (yV xk).size):=ι (by rw[yY,hxl];kernel_rfl)
   have HI8:Hid ((prog.info? 314).map (·.size)=some (yE fo).size):=ι (by rw[uO,HFL.o];kernel_rfl);have HO8:Hid ((yE (xP 64)).size=(yE fo).size):=ι (by rw[uO,uO,HFL.o,yO])
   have H18:Hid ((yE fo).all (·.oneCell')=true):=ι (Array.all_eq_true_iff_forall_mem.2 (λv hv=>xK4 fo v (by simpa using hv)));have HXL16:=ι hxl;have HLL:=ι hll;clear hxl hxu hll;refine wp_region_lit ?_
   refine wpList_load_row rfl _ _ rfl g1 rfl _ (yV xk) (0,0) _ hr.o.st underlying311 rfl HIk.o ?_;go_wp2_with fail
   refine(HF.o _).mono ?_
   rename World=>wq
   rintro e w4 ⟨rfl,hb4⟩;have H4:=ι (hr.o.below hb4);clear hb4 hr HF
   have hst:(storeCells ⟨w4.heap.size,0,none⟩ (yE fo).toList).run prog (w4.alloc (.cells #[.int .u8 0,.int .u8 0,.int .u8 0,.int .u8 0,.int .u8 0,.int .u8 0,.int .u8 0,.int .u8 0,.int .u8 0,.int .u8 0,.int .u8 0,.int .u8 0,.int .u8 0,.int .u8 0,.int .u8 0,.int .u8 0,.int .u8 0,.int .u8 0,.int .u8 0,.int .u8 0,.int .u8 0,.int .u8 0,.int .u8 0,.int .u8 0,.int .u8 0,.int .u8 0,.int .u8 0,.int .u8 0,.int .u8 0,.int .u8 0,.int .u8 0,.int .u8 0,.int .u8 0,.int .u8 0,.int .u8 0,.int .u8 0,.int .u8 0,.int .u8 0,.int .u8 0,.int .u8 0,.int .u8 0,.int .u8 0,.int .u8 0,.int .u8 0,.int .u8 0,.int .u8 0,.int .u8 0,.int .u8 0,.int .u8 0,.int .u8 0,.int .u8 0,.int .u8 0,.int .u8 0,.int .u8 0,.int .u8 0,.int .u8 0,.int .u8 0,.int .u8 0,.int .u8 0,.int .u8 0,.int .u8 0,.int .u8 0,.int .u8 0,.int .u8 0] 314))=.ok () (w4.alloc (.cells (yE fo) 314)):=run_storeCells_new w4 _ _ _ HI8.o HO8.o H18.o
   have hsz8:(yE fo).size=64:=by rw[uO,HFL.o]
   have H5:Hid (TuI w g1 (g1+1) xk (xTd l0 (64*k) fo 0) (w4.alloc (.cells (yE fo) 314))/\(w4.alloc (.cells (yE fo) 314)).heap[w4.heap.size]?=some (.cells (yE fo) 314 (0,0))):=ι ⟨H4.o.alloc _,xM _ _⟩;have HG3:Hid (g1+1<w4.heap.size):=ι H4.o.hi;go_upto_region 9 with fail
   generalize w4.alloc (.cells (yE fo) 314)=w5 at H5⊢;clear hst hsz8 H4;generalize w4.heap.size=g3 at H5 HG3⊢;go_wp2_with fail
   go_loopw [38] (λiv W=>∃i:Nat,i<=z/\iv=.int .i64 i/\Hid (TuI w g1 (g1+1) xk (xTd l0 (64*k) fo i) W/\W.heap[g3]?=some (.cells (yE fo) 314 (0,0)))) (λiv _=>z- (intOf iv).toNat)
   case atStart=>exact⟨0,Nat.zero_le _,rfl,H5⟩
   case round=>
    clear H5
    rename World=>wi
    obtain⟨i,hi,rfl,hr⟩:=hrel
    by_cases hlt:i<z
    ·have HXI:Hid (xTd l0 (64*k) fo (i+1)=(xTd l0 (64*k) fo i).set (64*k+i) (oct (bits .xor .u8 (((xTd l0 (64*k) fo i).getD (64*k+i) 0).toNat:Int) ((fo.getD i 0).toNat:Int)))):=ι rfl;have hil:=xIw l0 (64*k) fo i;generalize xTd l0 (64*k) fo i=li at hr HXI hil
     have HPL:Hid (64*k+i<li.length):=ι (by rw[hil,HLL.o];have:=HMS.o;have:=HZM.o;omega);have HIF:Hid (i<fo.length):=ι (by rw[HFL.o];have:=HZM.o;omega);have HIM:Hid (i<m):=ι (by have:=HZM.o;omega);obtain⟨a,ha⟩:∃a:Int,((li.getD (64*k+i) 0).toNat:Int)=a:=⟨_,rfl⟩
     obtain⟨c,hc⟩:∃c:Int,((fo.getD i 0).toNat:Int)=c:=⟨_,rfl⟩;rw[ha,hc] at HXI;have HA:=ι ha;have HCc:=ι hc;obtain⟨v,hv⟩:∃v,bits .xor .u8 a c=v:=⟨_,rfl⟩;have HV:Hid (0<=v/\v<256):=ι (hv▸xAz _ _ _);rw[hv] at HXI;have HVE:=ι hv
     have ra:0<=a/\a<256:=by rw[<-ha];have:=(li.getD (64*k+i) 0).toNat_lt;omega
     have rc:0<=c/\c<256:=by rw[<-hc];have:=(fo.getD i 0).toNat_lt;omega
     obtain⟨ra0,ra1⟩:=ra;obtain⟨rc0,rc1⟩:=rc;have him:=HIM.o;have hi64:i<64:=by rw[<-HFL.o];exact HIF.o
     clear ha hc hv hil;go_upto_region 12 with fail
     refine RG.yD 10 (λL W=>Hid (TuI w g1 (g1+1) xk (if L 9 then li.set (64*k+i) (oct v) else li) W/\W.heap[g3]?=some (.cells (yE fo) 314 (0,0)))) (λL L' W h hI=>by rw[<-h 9 δ];exact hI) κ κ rfl (ι ⟨hr.o.1.drew,hr.o.2⟩) ?_;iterate 3 refine RG.cS ?_
     apply RG.xN
     ·rfl
     ·rfl
     ·intro L w9 h0 hcl xK hw9;have e1:=hcl.not 6 (i:=9) h0 κ;have hs9:=hw9.o.1;rw[e1,if_neg σ] at hs9;have q:=hs9.o.cell (64*k+i) HPL.o;rw[HA.o] at q;clear e1 hs9;repeat go_step
      refine RG.xC ?_;exact⟨xK,hw9⟩
     ·rfl
     iterate 2 refine RG.cS ?_
     apply RG.xN
     ·rfl
     ·rfl
     ·intro L w9 h0 hcl xK hw9;have q:=xA hw9.o.2 i;rw[qQ HIF.o,HCc.o] at q;repeat go_step
      refine RG.xC ?_;exact⟨xK,hw9⟩
     ·rfl
     refine RG.cS ?_;rw[HVE.o];refine RG.cS ?_;apply RG.xN
     ·rfl
     ·rfl
     ·intro L w9 h0 hcl xK hw9;have hs9:=hw9.o.1;rw[h0,if_neg σ] at hs9;have q1:=hs9.o.cell (64*k+i) HPL.o;have q2:=hs9.o.free (64*k+i) HPL.o;generalize ((li.getD (64*k+i) 0).toNat:Int)=old at q1
      have hp:Hid (TuI w g1 (g1+1) xk (li.set (64*k+i) (oct v)) (w9.setCell ⟨g1+1,64*k+i,none⟩ (.int .u8 v))/\(w9.setCell ⟨g1+1,64*k+i,none⟩ (.int .u8 v)).heap[g3]?=some (.cells (yE fo) 314 (0,0))):=ι ⟨hs9.put HPL.o HV.o.1 HV.o.2,yC hw9.o.2 (p:=⟨g1+1,64*k+i,none⟩) (by have:=HG3.o;simp;omega) _⟩
      clear hs9;repeat go_step
      refine RG.xC ?_;refine⟨xK,?_⟩;show Hid (TuI w g1 (g1+1) xk (if (true:Bool)=true then li.set (64*k+i) (oct v) else li) _/\_);rw[if_pos rfl];with_reducible exact hp
     ·rfl
     refine RG.xZ (λw9 hw9=>?_);rw[if_pos rfl,<-HXI.o] at hw9;go_wp2;exact⟨⟨i+1,ω,by go_num,hw9⟩,by simp[intOf];omega⟩
    ·have hie:i=z:=ω;have HR:Hid (TuI w g1 (g1+1) xk lk1 wi):=ι (by rw[HTSz.o,<-hie];exact hr.o.1);have hneg:¬((i:Int)<(z:Int)):=ω;clear hr hlt hi hie;have q1:=xA HR.o.st 12;rw[uL (by rw[HXL16.o];decide)] at q1;have q2:=xB HR.o.st 12;obtain⟨y,hy⟩:∃y,xk.getD 12 0=y:=⟨_,rfl⟩
     rw[hy] at q1 HXSk;have HN:Hid (TuI w g1 (g1+1) xk1 lk1 (wi.setCell ⟨g1,12,none⟩ (.int .u32 ((y+1) % 4294967296)))):=ι (by rw[HXSk.o];exact HR.o.step _);clear HR hy;have hzm:=HZM.o.1;go_wp2
     refine⟨⟨k+1,64*k+z,c2-z,by have:=HMS.o;have:=HZM.o;omega,by have:=HKL.o;omega,⟨_,by rw[show s.size- (64*k+z)=m-z by have:=HMS.o;omega],by have:=HMS.o;omega,λhlt=>if_neg (by have:=HMS.o;omega)⟩,ι (by rw[HXK.o,HLK.o];exact HN.o)⟩,?_⟩;show m-z<m;have:=HZM.o;omega
  ·have hoff2:off=s.size:=ω;have HPk:=ι (HP.o k ω);have HTLk:=HTL.o k;have hz0:s.size-off=0:=ω;rw[hz0];generalize xDh s.data.toList xs k=lf at hr HPk HTLk;have ht:=hr.o.o.text s.size cap HTLk;have HBl:=ι hr.o.bel;clear hr hA hc2 hk hlt HTLk hoff2 hz0 hoff hsl hs
   rw[<-HPk.o] at ht;go_wp2;go_ret2;exact⟨rfl,HBl.o⟩
end Go.Proofs.SH
namespace Mailsack
def xT9 (ad text:ByteArray):Bs:=tF (tF ad.data.toList++text.data.toList)++vX ad.size 8++vX text.size 8
def tL (key xE ad text:ByteArray):ByteArray:=tagP ((bsA (xDj key xE 0)).extract 0 32) (bsA (xT9 ad text))
theorem xBe (key xE ad text:ByteArray):(tL key xE ad text).size=16:=xUw _ _
def rD (key xE ad s:ByteArray):ByteArray:=bsA (xHi key xE 1 s)++tL key xE ad (bsA (xHi key xE 1 s))
theorem rC (key xE ad s:ByteArray):(rD key xE ad s).size=s.size+16:=by rw[rD,ByteArray.size_append,xBe,yN,xD5]
theorem yD5 (n:Nat):yBi n<16:=by unfold yBi;omega
theorem xDb (l:Bs):(tF l).length<=l.length+16:=by
 unfold tF;rw[List.length_append,yO];have:=yD5 l.length;omega
theorem yAx (ad text:ByteArray):(xT9 ad text).length<=ad.size+text.size+64:=by
 unfold xT9;have h1:=xDb ad.data.toList;have h2:=xDb (tF ad.data.toList++text.data.toList);have h3:ad.data.toList.length=ad.size:=σ;have h4:text.data.toList.length=text.size:=σ;rw[List.length_append] at h2;rw[List.length_append,List.length_append,xCh,xCh];omega
end Mailsack
namespace Go.Proofs.SH
open Go.RowKit Mailsack MM BB
theorem xFe {P:Program} {w:World} {ops:Array Oper} {rest:List Oper} {o:Oper} {a:Act} {Q:Exit->Act->World->Prop} (hgd:o.guard=none) (sl x:Operand) (t u:TypeId)
  (ho:o.op=.call {callee:=.builtin .append,args:=#[sl,x],argTypes:=#[t,u]})
  (base:Nat) (e:TypeId) (i:TypeInfo) (ht:P.underlying t=some (.slice e)) (hu:P.underlying u=some .string) (hi:P.info? e=some i) (hz:i.zero=some (.int .u8 0))
  (hsize:i.size=1) (hby:i.bytes=1)
  (v:Value) (n:Nat) (xs:List Value) (hs:a.eval sl=v) (hown:w.ownsRow base e 1 v n xs) (s:ByteArray) (hx:a.eval x=.string s)
  (h63:n+s.size<=maxLen) (hbytes:n+s.size<=140737488355328) (hbase:base<=w.heap.size)
  (h:∀v' w',w'.ownsRow base e 1 v' (n+s.size) (xs++Lib.strCells s)->w.grownBy w' v.ownBlock->wpList P ops Q rest (a.put o.dst v') w'):wpList P ops Q (o::rest) a w:=by
 refine wpList_plain hgd λK hK=>?_;obtain⟨v',w',hr,h2,h3,_⟩:=Lib.run_append_own_string (P:=P) w base t u o.type e i ht hu hi hz hsize hby v n xs hown s h63 hbytes hbase;unfold Oper.wp execOp
 simp only[ho,resolve,invoke,builtin,Sem.run_bind,Sem.run_pure,Result.andThen_ok,List.map_toArray,List.map_cons,List.map_nil,hs,hx,hr];exact hK _ _ (h v' w' h2 h3)
theorem xUv (key xE ad text:ByteArray) (w:World) (hk:key.size=32) (hn:xE.size=12) (ha:ad.size<=1000000000) (ht:text.size<=1000000000):
  Calls prog 164 #[.string key,.string xE,.string ad,.string text] w λe w'=>e=.returned (.tuple #[.string (tL key xE ad text),.bool true])/\ψ w w':=by
 obtain⟨i0,hi,hz0,hz1,hz2⟩:=jA xSk;have HC:=ι (xOm key xE 0 w hk hn ⟨δ,δ⟩);have hsz:(bsA (xDj key xE 0)).size=64:=by rw[yN];exact xBy _
 have HT:Hid (∀W,Calls prog 258 #[.string ((bsA (xDj key xE 0)).extract 0 32),.string (bsA (xT9 ad text))] W λe w'=>e=.returned (.tuple #[.string (tL key xE ad text),.bool true])/\ψ W w'):=ι (λW=>yCi _ _ W (by rw[ByteArray.size_extract,hsz];rfl) (by rw[yN];have:=yAx ad text;omega))
 generalize bsA (xDj key xE 0)=ks at HC HT hsz;have hD:Hid (xT9 ad text=tF (tF ad.data.toList++text.data.toList)++vX ad.size 8++vX text.size 8):=ι rfl;have hL1:=xDb ad.data.toList;have hL2:=xDb (tF ad.data.toList++text.data.toList);have hal:ad.data.toList.length=ad.size:=σ
 have htl:text.data.toList.length=text.size:=σ;rw[List.length_append] at hL2;have HMK:=ι (λW:World=>made W 0 (ad.size+text.size+48) ω ω)
 have HLS:Hid (ad.size<=1000000000/\text.size<=1000000000/\(tF ad.data.toList).length<=2000000000/\(tF (tF ad.data.toList++text.data.toList)).length<=4000000000):=ι ⟨ha,ht,ω,ω⟩;generalize tL key xE ad text=res at HT⊢;generalize xT9 ad text=dd at HT hD;clear hL1 hL2 hk hn
 go_enter func164,ntmps164;go_wp2_with fail
 refine HC.o.mono ?_;rintro e w1 ⟨rfl,hb1⟩;have B1:=ι hb1;clear hb1 HC
 have hmk:∀W:World,(Instr.makeSlice 125 (.int .i64 0) (.int .i64 ((ad.size:Int)+(text.size:Int)+48))).run prog W=.ok (.slice (some ⟨W.heap.size,0,none⟩) 0 (ad.size+text.size+48)) (W.alloc (.cells (yE (xP (ad.size+text.size+48))) 5)):=HMK.o
 have HO0:=ι (uG.room w1 (ad.size+text.size+48) w.heap.size B1.o.size ω);have B2:=ι (B1.o.alloc B1.o.size (.cells (yE (xP (ad.size+text.size+48))) 5));go_upto_region 5 with fail
 clear hmk HMK;refine(λ(h:∀W3,Hid (uG W3 w.heap.size (.slice (some ⟨w1.heap.size,0,none⟩) 0 (ad.size+text.size+48)) []/\ψ w W3)->Code.wp _ _ _ _ W3)=>h _ (ι ⟨HO0.o,B2.o⟩)) ?_;clear HO0 B2 B1;generalize w1.heap.size=g;intro W2 H2;refine wp_region_lit ?_;iterate 6 go_step
 refine xFe rfl _ _ 125 9 rfl w.heap.size 5 i0 underlying125 underlying9 hi hz0 hz1 hz2 _ 0 [] rfl H2.o.1 ad rfl (by unfold maxLen;omega) ω H2.o.2.size ?_;intro v3 w3 hown hgrow
 have HO3:Hid (uG w3 w.heap.size v3 ad.data.toList):=ι (by
  have h:=uG.of (l:=[]) (m:=ad.data.toList) (by rw[hal];exact hown);exact h)
 have HB3:=ι (H2.o.2.grown hgrow H2.o.2.size (λk hk=>(World.ownsRow.lt H2.o.1 k hk).1));have HA3:=ι (xMm v3 ad.data.toList w3 w.heap.size HO3.o HB3.o.size ω);clear hown hgrow H2;repeat go_step
 refine HA3.o.mono ?_;rintro e w4 ⟨v4,rfl,ho4,hx4⟩;have HO4:=ι ho4;have HB4:=ι (HB3.o.trans (hx4.below HO3.o HB3.o.size));clear ho4 hx4 HA3 HO3 HB3;go_upto_region 6 with fail
 refine wp_region_lit ?_;iterate 6 go_step
 refine xFe rfl _ _ 125 9 rfl w.heap.size 5 i0 underlying125 underlying9 hi hz0 hz1 hz2 v4 _ _ rfl HO4.o.row text rfl (by have:=HLS.o;unfold maxLen;omega) (by have:=HLS.o;omega) HB4.o.size ?_;intro v5 w5 hown hgrow
 have HO5:Hid (uG w5 w.heap.size v5 (tF ad.data.toList++text.data.toList)):=ι (uG.of (by rw[htl];exact hown));have HB5:=ι (HB4.o.grown hgrow HB4.o.size (λk hk=>(World.ownsRow.lt HO4.o.row k hk).1))
 have HA5:=ι (xMm v5 _ w5 w.heap.size HO5.o HB5.o.size (by rw[List.length_append,htl];have:=HLS.o;omega));clear hown hgrow HO4 HB4;repeat go_step
 refine HA5.o.mono ?_;rintro e w6 ⟨v6,rfl,ho6,hx6⟩;have HO6:=ι ho6;have HB6:=ι (HB5.o.trans (hx6.below HO5.o HB5.o.size));clear ho6 hx6 HA5 HO5 HB5;have HS6:=ι (xPa ad.size v6 _ w6 w.heap.size HO6.o HB6.o.size (by have:=HLS.o;omega));go_wp2_with fail
 refine HS6.o.mono ?_;rintro e w7 ⟨v7,rfl,ho7,hx7⟩;have HO7:=ι ho7;have HB7:=ι (HB6.o.trans (hx7.below HO6.o HB6.o.size));clear ho7 hx7 HS6 HO6 HB6;have HS7:=ι (xPa text.size v7 _ w7 w.heap.size HO7.o HB7.o.size (by rw[List.length_append,xCh];have:=HLS.o;omega));go_wp2_with fail
 refine HS7.o.mono ?_;rintro e w8 ⟨v8,rfl,ho8,hx8⟩;have HO8:=ι ho8;have HB8:=ι (HB7.o.trans (hx8.below HO7.o HB7.o.size));clear ho8 hx8 HS7 HO7 HB7;rw[<-hD.o] at HO8;have hszi:(ks.size:Int)=64:=ω;clear hsz;go_upto_region 9 with fail
 refine RG.xQ (λW=>Hid (uG W w.heap.size v8 dd/\ψ w W)) κ κ (ι ⟨HO8.o.drew,HB8.o.drew⟩) ?_;clear HO8 HB8;iterate 3 refine RG.dS ?_
 apply RG.xJ
 ·intro w9 hw9;have q:(convert 125 9 v8).run prog w9=.ok (.string (bsA dd)) w9:=hw9.o.1.text;repeat go_step
  exact RG.xC hw9
 ·rfl
 apply RG.xJ
 ·intro w9 hw9;repeat go_step
  refine(HT.o _).mono ?_;rintro e w10 ⟨rfl,zF⟩;simp only[];repeat go_step
  refine RG.xC ?_;exact ι ⟨uG.below hw9.o.1 zF,hw9.o.2.trans (zF.mono hw9.o.2.size)⟩
 ·rfl
 iterate 4 refine RG.dS ?_
 refine RG.xS (λw9 hw9=>?_);go_wp2;go_ret2;exact⟨rfl,hw9.o.2⟩
theorem xJ4 (key xE ad s:ByteArray) (w:World) (hk:key.size=32) (hn:xE.size=12) (ha:ad.size<=1000000000) (hs:s.size<=1000000000):
  Calls prog 95 #[.string key,.string xE,.string ad,.string s] w λe w'=>e=.returned (.tuple #[.string (rD key xE ad s),.int .i64 0])/\ψ w w':=by
 have HC:=ι (xE8 key xE 1 s w hk hn ⟨δ,δ⟩ ω);have hcz:(bsA (xHi key xE 1 s)).size=s.size:=by rw[yN,xD5]
 have HT:=ι (λW=>xUv key xE ad (bsA (xHi key xE 1 s)) W hk hn ha (by rw[hcz];exact hs));have htz:=xBe key xE ad (bsA (xHi key xE 1 s));have HE:Hid (rD key xE ad s=bsA (xHi key xE 1 s)++tL key xE ad (bsA (xHi key xE 1 s))):=ι rfl
 generalize tL key xE ad (bsA (xHi key xE 1 s))=tg at HT htz HE;generalize bsA (xHi key xE 1 s)=ct at HC HT hcz HE;have nb:¬(9223372036854775807<ct.size+tg.size):=ω;clear hk hn hcz htz;go_enter func95,ntmps95;go_wp2_with fail
 refine HC.o.mono ?_;rintro e w1 ⟨rfl,hb1⟩;have B1:=ι hb1;clear hb1 HC;go_wp2_with fail
 refine(HT.o _).mono ?_;rintro e w2 ⟨rfl,hb2⟩;have B2:=ι (B1.o.trans (hb2.mono B1.o.size));clear hb2 HT B1;go_wp2;go_ret2;rw[HE.o];exact⟨rfl,B2.o⟩
theorem xS5 (key xE ad box:ByteArray) (w:World) (hk:key.size=32) (hn:xE.size=12) (hb:box.size<16):
  Calls prog 82 #[.string key,.string xE,.string ad,.string box] w λe w'=>e=.returned (.tuple #[.string ⟨#[]⟩,.int .i64 7])/\w'=w:=by
 have hki:(key.size:Int)=32:=ω;have hni:(xE.size:Int)=12:=ω;have hbi:(box.size:Int)<16:=ω;clear hk hn hb;go_enter func82,ntmps82;go_wp2;go_ret2;exact⟨rfl,rfl⟩
theorem xJk (key xE ad text given:ByteArray) (w:World) (hk:key.size=32) (hn:xE.size=12) (ha:ad.size<=1000000000) (ht:text.size<=1000000000) (hg:given.size=16) (hs:rX (tL key xE ad text) given=true):
  Calls prog 82 #[.string key,.string xE,.string ad,.string (text++given)] w λe w'=>e=.returned (.tuple #[.string (bsA (xHi key xE 1 text)),.int .i64 0])/\ψ w w':=by
 have HC:=ι (λW=>xE8 key xE 1 text W hk hn ⟨δ,δ⟩ ω);have HT:=ι (λW=>xUv key xE ad text W hk hn ha ht);have htz:=xBe key xE ad text;have HM:=ι (λW=>xJ6 (tL key xE ad text) given W (by rw[htz];decide));rw[hs] at HM;generalize tL key xE ad text=tg at HT htz HM;clear hs
 generalize bsA (xHi key xE 1 text)=pt at HC⊢;have hki:(key.size:Int)=32:=ω;have hni:(xE.size:Int)=12:=ω;have hbs:(text++given).size=text.size+16:=by rw[ByteArray.size_append,hg]
 have hx1:(text++given).extract 0 text.size=text:=by rw[ByteArray.extract_append_eq_left rfl]
 have hx2:(text++given).extract text.size (text.size+16)=given:=by rw[<-hg];rw[ByteArray.extract_append_eq_right rfl rfl]
 generalize text++given=box at hbs hx1 hx2⊢;obtain⟨n,hnn⟩:∃n,text.size=n:=⟨_,rfl⟩;rw[hnn] at hbs hx1 hx2;have hbi:(box.size:Int)=(n:Int)+16:=ω;have h16:¬((n:Int)+16<16):=ω;clear hk hn htz hg;go_enter func82,ntmps82;go_upto_region 5 with fail
 refine RG.xQ (λW=>Hid (ψ w W)) κ κ (ι (Below.refl w.heap.size w).drew) ?_;iterate 12 refine RG.dS ?_
 refine RG.xS (λw1 hw1=>?_);clear h16 hbi hbs hki hni;go_wp2_with fail
 refine(HT.o _).mono ?_;rintro e w2 ⟨rfl,hb2⟩;have B2:=ι (hw1.o.trans (hb2.mono hw1.o.size));clear hb2 HT hw1;go_wp2_with fail
 refine(HM.o _).mono ?_;rintro e w3 ⟨rfl,hb3⟩;have B3:=ι (B2.o.trans (hb3.mono B2.o.size));clear hb3 HM B2;go_wp2_with fail
 refine(HC.o _).mono ?_;rintro e w4 ⟨rfl,hb4⟩;have B4:=ι (B3.o.trans (hb4.mono B3.o.size));clear hb4 HC B3;go_wp2;go_ret2;exact⟨rfl,B4.o⟩
theorem xNv (key xE ad text given:ByteArray) (w:World) (hk:key.size=32) (hn:xE.size=12) (ha:ad.size<=1000000000) (ht:text.size<=1000000000) (hg:given.size=16) (hs:rX (tL key xE ad text) given=false):
  Calls prog 82 #[.string key,.string xE,.string ad,.string (text++given)] w λe w'=>e=.returned (.tuple #[.string ⟨#[]⟩,.int .i64 7])/\ψ w w':=by
 have HC:=ι (λW=>xE8 key xE 1 text W hk hn ⟨δ,δ⟩ ω);have HT:=ι (λW=>xUv key xE ad text W hk hn ha ht);have htz:=xBe key xE ad text;have HM:=ι (λW=>xJ6 (tL key xE ad text) given W (by rw[htz];decide));rw[hs] at HM;generalize tL key xE ad text=tg at HT htz HM;clear hs
 generalize bsA (xHi key xE 1 text)=pt at HC;have hki:(key.size:Int)=32:=ω;have hni:(xE.size:Int)=12:=ω;have hbs:(text++given).size=text.size+16:=by rw[ByteArray.size_append,hg]
 have hx1:(text++given).extract 0 text.size=text:=by rw[ByteArray.extract_append_eq_left rfl]
 have hx2:(text++given).extract text.size (text.size+16)=given:=by rw[<-hg];rw[ByteArray.extract_append_eq_right rfl rfl]
 generalize text++given=box at hbs hx1 hx2⊢;obtain⟨n,hnn⟩:∃n,text.size=n:=⟨_,rfl⟩;rw[hnn] at hbs hx1 hx2;have hbi:(box.size:Int)=(n:Int)+16:=ω;have h16:¬((n:Int)+16<16):=ω;clear hk hn htz hg;go_enter func82,ntmps82;go_upto_region 5 with fail
 refine RG.xQ (λW=>Hid (ψ w W)) κ κ (ι (Below.refl w.heap.size w).drew) ?_;iterate 12 refine RG.dS ?_
 refine RG.xS (λw1 hw1=>?_);clear h16 hbi hbs hki hni;go_wp2_with fail
 refine(HT.o _).mono ?_;rintro e w2 ⟨rfl,hb2⟩;have B2:=ι (hw1.o.trans (hb2.mono hw1.o.size));clear hb2 HT hw1;go_wp2_with fail
 refine(HM.o _).mono ?_;rintro e w3 ⟨rfl,hb3⟩;have B3:=ι (B2.o.trans (hb3.mono B2.o.size));clear hb3 HM B2;clear HC;go_wp2;go_ret2;exact⟨rfl,B3.o⟩
end Go.Proofs.SH
namespace Mailsack
theorem xDw {ws:List Int} (h:ws.length=5):∃a b c d e,ws=[a,b,c,d,e]:=by
 match ws,h with
 |[a,b,c,d,e],_=>exact⟨a,b,c,d,e,rfl⟩
def nar (a b:Int):Int:=Go.IntKind.u64.wrap (Go.bits .and .u64 a 2251799813685247+b / 2251799813685248)
def nar0 (a b:Int):Int:=Go.IntKind.u64.wrap (Go.bits .and .u64 a 2251799813685247+19*(b / 2251799813685248))
def zN (l:List Int):List Int:=[nar0 (l.getD 0 0) (l.getD 4 0),nar (l.getD 1 0) (l.getD 0 0),nar (l.getD 2 0) (l.getD 1 0),nar (l.getD 3 0) (l.getD 2 0),nar (l.getD 4 0) (l.getD 3 0)]
theorem zJ (l:List Int):(zN l).length=5:=rfl
theorem xDa {a b c d e:Int} (ha:U64 a) (hb:U64 b) (hc:U64 c) (hd:U64 d) (he:U64 e):yU [a,b,c,d,e]:=L5.all (l:=⟨a,b,c,d,e⟩) ⟨ha,hb,hc,hd,he⟩
theorem wW (l:List Int):yU (zN l):=xDa (wrap_u64 _) (wrap_u64 _) (wrap_u64 _) (wrap_u64 _) (wrap_u64 _)
end Mailsack
namespace Go.Proofs.FE
open Go.RowKit Mailsack MM BB SH
def uR (t:TypeId) (W:World) (g:Nat) (ws:List Int):Prop:=W.heap[g]?=some (.cells (xG ws) t (0,0))
theorem uR.blk {t:TypeId} {W:World} {g:Nat} {ws:List Int} (h:uR t W g ws):W.heap[g]?=some (.cells (xG ws) t (0,0)):=h
theorem uR.put {t:TypeId} {W:World} {g:Nat} {ws:List Int} (h:uR t W g ws) (i:Nat) (x:Int):uR t (W.setCell ⟨g,i,none⟩ (.int .u64 x)) g (ws.set i x):=by
 have:=xY h.blk i (.int .u64 x);rw[xQc] at this;exact this
theorem uR.far {t:TypeId} {W:World} {g:Nat} {ws:List Int} (h:uR t W g ws) {p:Addr} (hp:g≠p.block) (u:Value):uR t (W.setCell p u) g ws:=yC h.blk hp u
theorem uR.cell {t:TypeId} {W:World} {g:Nat} {ws:List Int} (h:uR t W g ws) {i:Nat} (hi:i<ws.length):W.cell? ⟨g,i,none⟩=some (.int .u64 (ws.getD i 0)):=by rw[xA h.blk,xB9 hi]
theorem uR.free {t:TypeId} {W:World} {g:Nat} {ws:List Int} (h:uR t W g ws) (i:Nat):W.frozen? ⟨g,i,none⟩=false:=xB h.blk i
theorem uR.below {t:TypeId} {W W':World} {g:Nat} {ws:List Int} (h:uR t W g ws) (hb:ψ W W'):uR t W' g ws:=xD h.blk hb (xH h.blk)
theorem wM (ws:List Int) (w:World) (hl:ws.length=5) (hu:yU ws):
  Calls prog 250 #[.agg (xG ws)] w λe w'=>e=.returned (.agg (xG (zN ws)))/\ψ w w':=by
 obtain⟨a,b,c,d,e,rfl⟩:=xDw hl;have ha:=hu 0;have hb:=hu 1;have hc:=hu 2;have hd:=hu 3;have he:=hu 4;simp only[List.getD_cons_zero,List.getD_cons_succ] at ha hb hc hd he;obtain⟨a0,a1⟩:=ha;obtain⟨b0,b1⟩:=hb;obtain⟨c0,c1⟩:=hc;obtain⟨d0,d1⟩:=hd;obtain⟨e0,e1⟩:=he;clear hl hu
 show Calls prog 250 #[.agg #[.int .u64 a,.int .u64 b,.int .u64 c,.int .u64 d,.int .u64 e]] w _;go_enter func250,ntmps250;go_wp2
 refine bodyPost_ret (results_cell_row rfl _ _ (w.heap.size+1) _ _ (0,0) _ rfl (zK _ _ _) underlying214 rfl (show(prog.info? 214).map (·.size)=some 5 by kernel_rfl)) rfl ?_;exact⟨rfl,(φ w _).alloc σ _⟩
end Go.Proofs.FE
namespace Mailsack
def xHf (a b:List Int):List Int:=zN (wG (zN a) (zN b) 5)
def xL6 (a b:List Int):Nat->List Int
 |0=>a.set 0 (Go.IntKind.u64.wrap (a.getD 0 0+Go.IntKind.u64.wrap (4503599627370458-b.getD 0 0)))
 |i+1=>(xL6 a b i).set (i+1) (Go.IntKind.u64.wrap ((xL6 a b i).getD (i+1) 0+Go.IntKind.u64.wrap (4503599627370494-b.getD (i+1) 0)))
theorem xP6 (a b:List Int):∀i,(xL6 a b i).length=a.length
 |0=>by rw[xL6,List.length_set]
 |i+1=>by rw[xL6,List.length_set,xP6 a b i]
theorem yB6 {a:List Int} (b:List Int) (h:yU a):∀i,yU (xL6 a b i)
 |0=>h.set 0 (wrap_u64 _)
 |i+1=>(yB6 b h i).set (i+1) (wrap_u64 _)
def xHd (a b:List Int):List Int:=zN (xL6 (zN a) (zN b) 4)
theorem xX8 (a b:List Int):(xHf a b).length=5:=rfl
theorem xX5 (a b:List Int):(xHd a b).length=5:=rfl
theorem yE6 (a b:List Int):yU (xHf a b):=wW _
theorem yE4 (a b:List Int):yU (xHd a b):=wW _
end Mailsack
namespace Go.Proofs.FE
open Go.RowKit Mailsack MM BB SH
theorem uF {ws:List Int} (h:ws.length=5):(prog.info? 214).map (·.size)=some (xG ws).size:=by rw[xV,h];kernel_rfl
theorem xAe {xs ys:List Int} (h:xs.length=5) (h2:ys.length=5):(xG xs).size=(xG ys).size:=by rw[xV,xV,h,h2]
structure vV (w:World) (ax bx:List Int) (W:World):Prop where
 ba:uR 214 W w.heap.size ax
 bb:uR 214 W (w.heap.size+1) bx
 bz:uR 214 W (w.heap.size+2) (List.replicate 5 0)
 bel:ψ w W
section
variable {w W W':World} {ax bx:List Int}
theorem vV.start (ax bx:List Int):vV w ax bx (((w.alloc (.cells (xG ax) 214)).alloc (.cells (xG bx) 214)).alloc (.cells (xG (List.replicate 5 0)) 214)):=
 ⟨xO (zV _ _ _) _,xO (zK _ _ _) _,by have h:=xM ((w.alloc (.cells (xG ax) 214)).alloc (.cells (xG bx) 214)) (.cells (xG (List.replicate 5 0)) 214);rw[show((w.alloc (.cells (xG ax) 214)).alloc (.cells (xG bx) 214)).heap.size=w.heap.size+2 by simp] at h;exact h,((φ w _).alloc σ _).alloc (by simp;omega) _⟩
theorem vV.below (h:vV w ax bx W) (hb:ψ W W'):vV w ax bx W':=
 ⟨h.ba.below hb,h.bb.below hb,h.bz.below hb,h.bel.trans (hb.mono h.bel.size)⟩
theorem vV.drew (h:vV w ax bx W):vV w ax bx W.drew:=⟨h.ba,h.bb,h.bz,h.bel.drew⟩
theorem vV.put (h:vV w ax bx W) (i:Nat) (x:Int):vV w (ax.set i x) bx (W.setCell ⟨w.heap.size,i,none⟩ (.int .u64 x)):=
 ⟨h.ba.put i x,h.bb.far (p:=⟨w.heap.size,i,none⟩) σ _,h.bz.far (p:=⟨w.heap.size,i,none⟩) σ _,h.bel.setCell (p:=⟨w.heap.size,i,none⟩) ν _⟩
theorem vV.rowA (h:vV w ax bx W) (xs:List Int):vV w xs bx (W.setRow w.heap.size (xG xs)):=
 ⟨setRow_heap _ _ _ _ _ _ h.ba,(setRow_other _ _ _ _ ω).trans h.bb,(setRow_other _ _ _ _ ω).trans h.bz,below_setRow h.bel ν _⟩
theorem vV.rowB (h:vV w ax bx W) (xs:List Int):vV w ax xs (W.setRow (w.heap.size+1) (xG xs)):=
 ⟨(setRow_other _ _ _ _ ω).trans h.ba,setRow_heap _ _ _ _ _ _ h.bb,(setRow_other _ _ _ _ ω).trans h.bz,below_setRow h.bel ω _⟩
end
theorem xC4 (ax bx:List Int) (w:World) (hl:ax.length=5) (hu:yU ax) (hl2:bx.length=5) (hu2:yU bx):
  Calls prog 246 #[.agg (xG ax),.agg (xG bx)] w λe w'=>e=.returned (.agg (xG (xHf ax bx)))/\ψ w w':=by
 have HNa:=ι (λW=>wM ax W hl hu);have HNb:=ι (λW=>wM bx W hl2 hu2);have HIa:=ι (uF hl);have HIb:=ι (uF hl2);have yB1:=ι (uF (zJ ax));have yB0:=ι (uF (zJ bx));have HZa:=ι (xAe hl (zJ ax));have HZb:=ι (xAe hl2 (zJ bx));have hna:=zJ ax;have hnb:=zJ bx;have hua:=wW ax;have hub:=wW bx
 have H0:=ι (vV.start (w:=w) ax bx);have HR:Hid (∀n,n=5->xHf ax bx=zN (wG (zN ax) (zN bx) n)):=ι (λn hn=>by rw[hn];rfl);obtain⟨res,hres⟩:∃x,xHf ax bx=x:=⟨_,rfl⟩;have hrl:res.length=5:=by rw[<-hres];rfl
 rw[hres] at HR⊢;clear hres hl hu hl2 hu2;generalize zN ax=na at HNa yB1 HZa hna hua HR;generalize zN bx=nb at HNb yB0 HZb hnb hub HR;go_enter func246,ntmps246;go_upto_region 1 with fail
 refine(λ(h:∀W3,Hid (vV w ax bx W3)->Code.wp _ _ _ _ W3)=>h _ H0) ?_;clear H0;intro W0 H0;refine RG.yD 6 (λL W=>Hid (vV w (if L 4 then na else ax) (if L 5 then nb else bx) W)) (λL L' W h hI=>by rw[<-h 4 δ,<-h 5 δ];exact hI) κ κ rfl (ι H0.o.drew) ?_;clear H0;apply RG.xN
 ·rfl
 ·rfl
 ·intro L w9 h0 hcl xK hw9;have e1:=hcl.not 6 (i:=4) h0 κ;have hs9:=hw9.o.ba;rw[e1,if_neg σ] at hs9;refine wpList_load_row rfl _ _ rfl w.heap.size rfl _ (xG ax) (0,0) _ hs9 underlying214 rfl HIa.o ?_;repeat go_step
  refine RG.xC ?_;exact⟨xK,hw9⟩
 ·rfl
 apply RG.xN
 ·rfl
 ·rfl
 ·intro L w9 h0 hcl xK hw9;repeat go_step
  refine(HNa.o _).mono ?_;rintro e w10 ⟨rfl,zF⟩;simp only[];repeat go_step
  refine RG.xC ?_;exact⟨xK,ι (hw9.o.below zF)⟩
 ·rfl
 apply RG.xN
 ·rfl
 ·rfl
 ·intro L w9 h0 hcl xK hw9;have e1:=hcl.not 6 (i:=5) h0 κ;have hs9:=hw9.o.bb;rw[e1,if_neg σ] at hs9;refine wpList_load_row rfl _ _ rfl (w.heap.size+1) rfl _ (xG bx) (0,0) _ hs9 underlying214 rfl HIb.o ?_;repeat go_step
  refine RG.xC ?_;exact⟨xK,hw9⟩
 ·rfl
 apply RG.xN
 ·rfl
 ·rfl
 ·intro L w9 h0 hcl xK hw9;repeat go_step
  refine(HNb.o _).mono ?_;rintro e w10 ⟨rfl,zF⟩;simp only[];repeat go_step
  refine RG.xC ?_;exact⟨xK,ι (hw9.o.below zF)⟩
 ·rfl
 apply RG.xN
 ·rfl
 ·rfl
 ·intro L w9 h0 hcl xK hw9;have hs9:=hw9.o;rw[h0,if_neg σ] at hs9;refine wpList_store_row rfl _ _ _ rfl w.heap.size (xG na) rfl rfl _ _ hs9.ba yB1.o HZa.o (yB _) ?_;repeat go_step
  refine RG.xC ?_;exact⟨xK,ι (hs9.rowA na)⟩
 ·rfl
 apply RG.xN
 ·rfl
 ·rfl
 ·intro L w9 h0 hcl xK hw9;have hs9:=hw9.o;rw[h0,if_neg (c:=false=true) σ] at hs9;refine wpList_store_row rfl _ _ _ rfl (w.heap.size+1) (xG nb) rfl rfl _ _ hs9.bb yB0.o HZb.o (yB _) ?_;repeat go_step
  refine RG.xC ?_;exact⟨xK,ι (hs9.rowB nb)⟩
 ·rfl
 refine RG.xZ (λw9 hw9=>?_);rw[if_pos rfl,if_pos rfl] at hw9;go_wp2_with fail
 go_loopw [10] (λiv W=>∃i:Nat,i<=5/\iv=.int .i64 i/\Hid (vV w (wG na nb i) nb W)) (λiv _=>5- (intOf iv).toNat)
 case atStart=>exact⟨0,δ,rfl,hw9⟩
 case round=>
  obtain⟨i,hi,rfl,hr⟩:=hrel;clear hw9;have hxl:(wG na nb i).length=5:=by rw[xFc,hna]
  have hxu:=xQw nb hua i
  by_cases hlt:i<5
  ·have HS:Hid (wG na nb (i+1)=(wG na nb i).set i (IntKind.u64.wrap ((wG na nb i).getD i 0+nb.getD i 0))):=ι rfl;obtain⟨s,hs⟩:∃s,wG na nb (i+1)=s:=⟨_,rfl⟩;rw[hs] at HS;have HSE:=ι hs;clear hs;generalize wG na nb i=xs at hr hxl hxu HS;obtain⟨x,hx⟩:∃x,xs.getD i 0=x:=⟨_,rfl⟩
   obtain⟨y,hy⟩:∃y,nb.getD i 0=y:=⟨_,rfl⟩;obtain⟨x0,x1⟩:=hxu i;obtain⟨y0,y1⟩:=hub i;rw[hx] at x0 x1;rw[hy] at y0 y1;rw[hx,hy] at HS;have HX:=ι hx;obtain⟨z,hz⟩:∃z,IntKind.u64.wrap (x+y)=z:=⟨_,rfl⟩;rw[hz] at HS;have HZ:=ι hz;go_upto_region 5 with fail
   refine RG.yD 9 (λL W=>Hid (vV w (if L 8 then xs.set i z else xs) nb W)) (λL L' W h hI=>by rw[<-h 8 δ];exact hI) κ κ rfl (ι hr.o.drew) ?_;iterate 2 refine RG.cS ?_
   apply RG.xN
   ·rfl
   ·rfl
   ·intro L w9 h0 hcl xK hw9;have e1:=hcl.not 9 (i:=8) h0 κ;have hs9:=hw9.o;rw[e1,if_neg σ] at hs9;have q:=hs9.ba.cell (i:=i) ω;rw[hx] at q;clear e1 hs9;repeat go_step
    refine RG.xC ?_;exact⟨xK,hw9⟩
   ·rfl
   iterate 2 refine RG.cS ?_
   apply RG.xN
   ·rfl
   ·rfl
   ·intro L w9 h0 hcl xK hw9;have q:=hw9.o.bb.cell (i:=i) ω;rw[hy] at q;repeat go_step
    refine RG.xC ?_;exact⟨xK,hw9⟩
   ·rfl
   refine RG.cS ?_;refine RG.cS ?_;apply RG.xN
   ·rfl
   ·rfl
   ·intro L w9 h0 hcl xK hw9;have hs9:=hw9.o;rw[h0,if_neg σ] at hs9;have q1:=hs9.ba.cell (i:=i) ω;have q2:=hs9.ba.free i;rw[hx] at q1;have hp:Hid (vV w (xs.set i z) nb (w9.setCell ⟨w.heap.size,i,none⟩ (.int .u64 z))):=ι (hs9.put i z);clear hs9;repeat go_step
    refine RG.xC ?_;refine⟨xK,?_⟩;show Hid (vV w (if (true:Bool)=true then xs.set i z else xs) nb _);rw[if_pos rfl];with_reducible exact hp
   ·rfl
   refine RG.xZ (λw9 hw9=>?_);rw[if_pos rfl,<-HS.o] at hw9;clear hr;go_wp2;exact⟨⟨i+1,ω,by go_num,by rw[HSE.o];exact hw9⟩,by simp[intOf];omega⟩
  ·have HRi:=ι (HR.o i ω);generalize wG na nb i=xs at hr hxl hxu HRi;have HIx:=ι (uF hxl);have HIr:=ι (uF hrl);have HZr:Hid ((xG (List.replicate 5 0)).size=(xG res).size):=ι (xAe σ hrl);have HNx:=ι (λW=>wM xs W hxl hxu);rw[<-HRi.o] at HNx;clear HNa HNb HRi hxu hxl
   go_upto_region 7 with fail
   refine wp_region_lit ?_;refine wpList_load_row rfl _ _ rfl w.heap.size rfl _ (xG xs) (0,0) _ hr.o.ba underlying214 rfl HIx.o ?_;repeat go_step
   refine(HNx.o _).mono ?_;rintro e w7 ⟨rfl,hb7⟩;have h7:=hr.o.below hb7;go_wp2_with (refine wpList_store_row rfl _ _ _ rfl (w.heap.size+1+1) (xG res) rfl rfl _ _ h7.bz HIr.o HZr.o (yB _) ?_)
   refine bodyPost_ret (results_cell_row rfl _ _ (w.heap.size+1+1) _ _ (0,0) _ rfl (setRow_heap _ _ _ _ _ _ h7.bz) underlying214 rfl HIr.o) rfl ?_;exact⟨rfl,below_setRow h7.bel ω _⟩
theorem yCk (ax bx:List Int) (w:World) (hl:ax.length=5) (hu:yU ax) (hl2:bx.length=5) (hu2:yU bx):
  Calls prog 247 #[.agg (xG ax),.agg (xG bx)] w λe w'=>e=.returned (.agg (xG (xHd ax bx)))/\ψ w w':=by
 have HNa:=ι (λW=>wM ax W hl hu);have HNb:=ι (λW=>wM bx W hl2 hu2);have HIa:=ι (uF hl);have HIb:=ι (uF hl2);have yB1:=ι (uF (zJ ax));have yB0:=ι (uF (zJ bx));have HZa:=ι (xAe hl (zJ ax));have HZb:=ι (xAe hl2 (zJ bx));have hna:=zJ ax;have hnb:=zJ bx;have hua:=wW ax;have hub:=wW bx
 have H0:=ι (vV.start (w:=w) ax bx);have HR:Hid (∀n,n=4->xHd ax bx=zN (xL6 (zN ax) (zN bx) n)):=ι (λn hn=>by rw[hn];rfl);obtain⟨res,hres⟩:∃x,xHd ax bx=x:=⟨_,rfl⟩;have hrl:res.length=5:=by rw[<-hres];rfl
 rw[hres] at HR⊢;clear hres hl hu hl2 hu2;generalize zN ax=na at HNa yB1 HZa hna hua HR;generalize zN bx=nb at HNb yB0 HZb hnb hub HR;go_enter func247,ntmps247;go_upto_region 1 with fail
 refine(λ(h:∀W3,Hid (vV w ax bx W3)->Code.wp _ _ _ _ W3)=>h _ H0) ?_;clear H0;intro W0 H0;refine RG.yD 6 (λL W=>Hid (vV w (if L 4 then na else ax) (if L 5 then nb else bx) W)) (λL L' W h hI=>by rw[<-h 4 δ,<-h 5 δ];exact hI) κ κ rfl (ι H0.o.drew) ?_;clear H0;apply RG.xN
 ·rfl
 ·rfl
 ·intro L w9 h0 hcl xK hw9;have e1:=hcl.not 6 (i:=4) h0 κ;have hs9:=hw9.o.ba;rw[e1,if_neg σ] at hs9;refine wpList_load_row rfl _ _ rfl w.heap.size rfl _ (xG ax) (0,0) _ hs9 underlying214 rfl HIa.o ?_;repeat go_step
  refine RG.xC ?_;exact⟨xK,hw9⟩
 ·rfl
 apply RG.xN
 ·rfl
 ·rfl
 ·intro L w9 h0 hcl xK hw9;repeat go_step
  refine(HNa.o _).mono ?_;rintro e w10 ⟨rfl,zF⟩;simp only[];repeat go_step
  refine RG.xC ?_;exact⟨xK,ι (hw9.o.below zF)⟩
 ·rfl
 apply RG.xN
 ·rfl
 ·rfl
 ·intro L w9 h0 hcl xK hw9;have e1:=hcl.not 6 (i:=5) h0 κ;have hs9:=hw9.o.bb;rw[e1,if_neg σ] at hs9;refine wpList_load_row rfl _ _ rfl (w.heap.size+1) rfl _ (xG bx) (0,0) _ hs9 underlying214 rfl HIb.o ?_;repeat go_step
  refine RG.xC ?_;exact⟨xK,hw9⟩
 ·rfl
 apply RG.xN
 ·rfl
 ·rfl
 ·intro L w9 h0 hcl xK hw9;repeat go_step
  refine(HNb.o _).mono ?_;rintro e w10 ⟨rfl,zF⟩;simp only[];repeat go_step
  refine RG.xC ?_;exact⟨xK,ι (hw9.o.below zF)⟩
 ·rfl
 apply RG.xN
 ·rfl
 ·rfl
 ·intro L w9 h0 hcl xK hw9;have hs9:=hw9.o;rw[h0,if_neg σ] at hs9;refine wpList_store_row rfl _ _ _ rfl w.heap.size (xG na) rfl rfl _ _ hs9.ba yB1.o HZa.o (yB _) ?_;repeat go_step
  refine RG.xC ?_;exact⟨xK,ι (hs9.rowA na)⟩
 ·rfl
 apply RG.xN
 ·rfl
 ·rfl
 ·intro L w9 h0 hcl xK hw9;have hs9:=hw9.o;rw[h0,if_neg (c:=false=true) σ] at hs9;refine wpList_store_row rfl _ _ _ rfl (w.heap.size+1) (xG nb) rfl rfl _ _ hs9.bb yB0.o HZb.o (yB _) ?_;repeat go_step
  refine RG.xC ?_;exact⟨xK,ι (hs9.rowB nb)⟩
 ·rfl
 refine RG.xZ (λw9 hw9=>?_);rw[if_pos rfl,if_pos rfl] at hw9;have H1:Hid (vV w (xL6 na nb 0) nb (w9.setCell ⟨w.heap.size,0,none⟩ (.int .u64 (IntKind.u64.wrap (na.getD 0 0+IntKind.u64.wrap (4503599627370458-nb.getD 0 0)))))):=ι (hw9.o.put 0 _);have q1:=hw9.o.ba.cell (i:=0) ω
 have q2:=hw9.o.bb.cell (i:=0) ω;have q3:=hw9.o.ba.free 0;obtain⟨x0,x1⟩:=hua 0;obtain⟨y0,y1⟩:=hub 0;generalize na.getD 0 0=x at q1 x0 x1 H1;generalize nb.getD 0 0=y at q2 y0 y1 H1;clear hw9;go_wp2_with fail
 clear q1 q2 q3 x0 x1 y0 y1
 go_loopw [5] (λiv W=>∃i k:Nat,i=k+1/\k<=4/\iv=.int .i64 i/\Hid (vV w (xL6 na nb k) nb W)) (λiv _=>5- (intOf iv).toNat)
 case atStart=>exact⟨1,0,rfl,δ,rfl,H1⟩
 case round=>
  obtain⟨i,k,hik,hi,rfl,hr⟩:=hrel;clear H1;have hxl:(xL6 na nb k).length=5:=by rw[xP6,hna]
  have hxu:=yB6 nb hua k
  by_cases hlt:i<5
  ·have HS:Hid (∀j,j=k+1->xL6 na nb (k+1)=(xL6 na nb k).set j (IntKind.u64.wrap ((xL6 na nb k).getD j 0+IntKind.u64.wrap (4503599627370494-nb.getD j 0)))):=ι (λj hj=>by rw[hj];rfl)
   replace HS:=ι (HS.o i hik)
   obtain⟨s,hs⟩:∃s,xL6 na nb (k+1)=s:=⟨_,rfl⟩;rw[hs] at HS;have HSE:=ι hs;clear hs;generalize xL6 na nb k=xs at hr hxl hxu HS;obtain⟨x,hx⟩:∃x,xs.getD i 0=x:=⟨_,rfl⟩;obtain⟨y,hy⟩:∃y,nb.getD i 0=y:=⟨_,rfl⟩;obtain⟨x0,x1⟩:=hxu i;obtain⟨y0,y1⟩:=hub i;rw[hx] at x0 x1;rw[hy] at y0 y1
   rw[hx,hy] at HS;have HX:=ι hx;obtain⟨z,hz⟩:∃z,IntKind.u64.wrap (x+IntKind.u64.wrap (4503599627370494-y))=z:=⟨_,rfl⟩;rw[hz] at HS;have HZ:=ι hz;have HIK:=ι hik;clear hik;go_upto_region 6 with fail
   refine RG.yD 10 (λL W=>Hid (vV w (if L 9 then xs.set i z else xs) nb W)) (λL L' W h hI=>by rw[<-h 9 δ];exact hI) κ κ rfl (ι hr.o.drew) ?_;iterate 2 refine RG.cS ?_
   apply RG.xN
   ·rfl
   ·rfl
   ·intro L w9 h0 hcl xK hw9;have e1:=hcl.not 10 (i:=9) h0 κ;have hs9:=hw9.o;rw[e1,if_neg σ] at hs9;have q:=hs9.ba.cell (i:=i) ω;rw[hx] at q;clear e1 hs9;repeat go_step
    refine RG.xC ?_;exact⟨xK,hw9⟩
   ·rfl
   iterate 2 refine RG.cS ?_
   apply RG.xN
   ·rfl
   ·rfl
   ·intro L w9 h0 hcl xK hw9;have q:=hw9.o.bb.cell (i:=i) ω;rw[hy] at q;repeat go_step
    refine RG.xC ?_;exact⟨xK,hw9⟩
   ·rfl
   iterate 3 refine RG.cS ?_
   apply RG.xN
   ·rfl
   ·rfl
   ·intro L w9 h0 hcl xK hw9;have hs9:=hw9.o;rw[h0,if_neg σ] at hs9;have q1:=hs9.ba.cell (i:=i) ω;have q2:=hs9.ba.free i;rw[hx] at q1;have hp:Hid (vV w (xs.set i z) nb (w9.setCell ⟨w.heap.size,i,none⟩ (.int .u64 z))):=ι (hs9.put i z);clear hs9;repeat go_step
    refine RG.xC ?_;refine⟨xK,?_⟩;show Hid (vV w (if (true:Bool)=true then xs.set i z else xs) nb _);rw[if_pos rfl];with_reducible exact hp
   ·rfl
   refine RG.xZ (λw9 hw9=>?_);rw[if_pos rfl,<-HS.o] at hw9;clear hr;go_wp2;exact⟨⟨i+1,k+1,by rw[HIK.o],by have:=HIK.o;omega,by go_num,by rw[HSE.o];exact hw9⟩,by simp[intOf];omega⟩
  ·have HRi:=ι (HR.o k ω);generalize xL6 na nb k=xs at hr hxl hxu HRi;have HIx:=ι (uF hxl);have HIr:=ι (uF hrl);have HZr:Hid ((xG (List.replicate 5 0)).size=(xG res).size):=ι (xAe σ hrl);have HNx:=ι (λW=>wM xs W hxl hxu);rw[<-HRi.o] at HNx;clear HNa HNb HRi hxu hxl hik
   go_upto_region 7 with fail
   refine wp_region_lit ?_;refine wpList_load_row rfl _ _ rfl w.heap.size rfl _ (xG xs) (0,0) _ hr.o.ba underlying214 rfl HIx.o ?_;repeat go_step
   refine(HNx.o _).mono ?_;rintro e w7 ⟨rfl,hb7⟩;have h7:=hr.o.below hb7;go_wp2_with (refine wpList_store_row rfl _ _ _ rfl (w.heap.size+1+1) (xG res) rfl rfl _ _ h7.bz HIr.o HZr.o (yB _) ?_)
   refine bodyPost_ret (results_cell_row rfl _ _ (w.heap.size+1+1) _ _ (0,0) _ rfl (setRow_heap _ _ _ _ _ _ h7.bz) underlying214 rfl HIr.o) rfl ?_;exact⟨rfl,below_setRow h7.bel ω _⟩
end Go.Proofs.FE