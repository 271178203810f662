/- Contracts of functions. Conditions: as stated. -/
import Derived.Test.YtnafbinmecekeaaGreatDoorImapSearchesProofB05
open Go.Proofs.Tryz
set_option maxHeartbeats 8000000
set_option maxRecDepth 100000
namespace Mailsack
def xEz (xs:List Int):List Int:=tF (tF (tF (tF (tF (tF (tF (tF (xs) 0 4 8 12) 1 5 9 13) 2 6 10 14) 3 7 11 15) 0 5 10 15) 1 6 11 12) 2 7 8 13) 3 4 9 14
theorem xMm (xs:List Int):(xEz xs).length=16:=jG _ _ _ _ _
theorem xV2 {xs:List Int} (h:wO xs):wO (xEz xs):=wL (wL (wL (wL (wL (wL (wL (wL h _ _ _ _) _ _ _ _) _ _ _ _) _ _ _ _) _ _ _ _) _ _ _ _) _ _ _ _) _ _ _ _
def wV (ws:List Int):Nat->List Int
 |0=>ws
 |k+1=>xEz (wV ws k)
theorem xK9 {ws:List Int} (h:ws.length=16):∀k,(wV ws k).length=16
 |0=>h
 |_+1=>xMm _
theorem xGx {ws:List Int} (h:wO ws):∀k,wO (wV ws k)
 |0=>h
 |k+1=>xV2 (xGx h k)
def xW6 (l:Bs) (i:Nat) (x:Int):Nat->Bs
 |0=>l
 |j+1=>(xW6 l i x j).set (4*i+j) (oct (x / 2^(8*j)))
def xR8 (ws xs:List Int):Nat->Bs
 |0=>xO 64
 |i+1=>xW6 (xR8 ws xs i) i ((xs.getD i 0+ws.getD i 0) % 4294967296) 4
def pR (ws:List Int):Bs:=xR8 ws (wV ws 10) 16
theorem xHw (l:Bs) (i:Nat) (x:Int):∀j,(xW6 l i x j).length=l.length
 |0=>rfl
 |j+1=>by simp[xW6,xHw l i x j]
theorem xDm (ws xs:List Int):∀i,(xR8 ws xs i).length=64
 |0=>yS 64
 |i+1=>by unfold xR8;rw[xHw,xDm ws xs i]
theorem xB4 (ws:List Int):(pR ws).length=64:=xDm _ _ _
end Mailsack
namespace Go.Proofs.SH
open Go.RowKit Mailsack MM BB
structure FnI (w:World) (ws xs:List Int) (W:World):Prop where
 b1:W.heap[w.heap.size]?=some (.cells (yG ws) 311 (0,0))
 b2:W.heap[w.heap.size+1]?=some (.cells (xX (xO 64)) 314 (0,0))
 b3:W.heap[w.heap.size+2]?=some (.cells (yG xs) 311 (0,0))
 bel:ψ w W
theorem FnI.turned {w:World} {ws xs ys:List Int} {W W':World} (h:FnI w ws xs W) (hst:W'.heap[w.heap.size+2]?=some (.cells (yG ys) 311 (0,0))) (hg:W.grownBy W' (some (w.heap.size+2))):FnI w ws ys W':=
 ⟨wR h.b1 hg σ,wR h.b2 hg σ,hst,h.bel.grown hg h.bel.size (λk hk=>by injection hk with hk;omega)⟩
theorem xGv (ws:List Int) (w:World) (hl:ws.length=16) (hu:wO ws):
  Calls prog 260 #[.agg (yG ws)] w λe w'=>e=.returned (.agg (xX (pR ws)))/\ψ w w':=by
 have HL:=ι (λk=>xK9 hl k);have HU:=ι (λk=>xGx hu k);have HI:Hid ((prog.info? 311).map (·.size)=some (yG ws).size):=ι (by rw[yH,hl];kernel_rfl);have HZ:Hid ((yG (List.replicate 16 0)).size=(yG ws).size):=ι (by rw[yH,yH,hl,List.length_replicate])
 have HB:Hid (FnI w ws (wV ws 0) ((((w.alloc (.cells (yG ws) 311)).alloc (.cells (xX (xO 64)) 314)).alloc (.cells (yG (List.replicate 16 0)) 311)).setRow (w.heap.size+1+1) (yG ws))):=ι (by
  have h0:=xI ((w.alloc (.cells (yG ws) 311)).alloc (.cells (xX (xO 64)) 314)) (.cells (yG (List.replicate 16 0)) 311);simp only[uQ] at h0;refine⟨?_,?_,setRow_heap _ _ _ _ _ _ h0,below_setRow (((φ w _).alloc σ _).alloc (by simp;omega) _) ω _⟩
  ·rw[setRow_other _ _ _ _ ω];exact xM (zK _ _ _) _
  ·rw[setRow_other _ _ _ _ ω];exact xM (zD _ _ _) _)
 have HDS:Hid (∀k,wV ws (k+1)=xEz (wV ws k)):=ι (λk=>rfl);go_enter func260,ntmps260;go_upto_region 1 with fail
 refine wp_region_lit ?_;refine wpList_load_row rfl _ _ rfl w.heap.size rfl _ (yG ws) (0,0) _ (zK _ _ _) underlying311 rfl HI.o ?_;iterate 3 go_step
 refine wpList_store_row rfl _ _ _ rfl (w.heap.size+1+1) (yG ws) rfl rfl _ (yG (List.replicate 16 0)) (by have h:=xI ((w.alloc (.cells (yG ws) 311)).alloc (.cells (xX (xO 64)) 314)) (.cells (yG (List.replicate 16 0)) 311);simp only[uQ] at h;exact h) HI.o HZ.o (qN ws) ?_
 refine(λ(h:∀W3,Hid (FnI w ws (wV ws 0) W3)->wpList _ _ _ _ _ W3)=>h _ HB) ?_;intro w3 hw3;clear HB HZ;go_wp2_with fail
 go_loopw [9] (λiv wr=>∃k:Nat,k<=10/\iv=.int .i64 k/\Hid (FnI w ws (wV ws k) wr)) (λiv _=>10- (intOf iv).toNat)
 case atStart=>exact⟨0,δ,rfl,hw3⟩
 case round=>
  obtain⟨k,hk,rfl,hr0⟩:=hrel;clear hw3
  by_cases hlt:k<10
  ·have hl0:=HL.o k;have hu0:=HU.o k;have HD:=HDS.o k;generalize wV ws k=x0 at hr0 hl0 hu0 HD;unfold xEz at HD
   rename World=>wr0
   go_wp2_with fail
   refine(qJ x0 (w.heap.size+2) 0 4 8 12 wr0 hr0.o.b3 hl0 hu0 δ δ δ δ δ).mono ?_;rintro e wr1 ⟨rfl,hst,hgr⟩;obtain⟨x1,hx1⟩:∃x,tF x0 0 4 8 12=x:=⟨_,rfl⟩;have hl1:x1.length=16:=hx1▸jG _ _ _ _ _;have hu1:wO x1:=hx1▸wL hu0 _ _ _ _;rw[hx1] at hst HD
   have hr1:=ι (hr0.o.turned hst hgr);clear hst hgr hx1 hr0 hl0 hu0;go_wp2_with fail
   refine(qJ x1 (w.heap.size+2) 1 5 9 13 wr1 hr1.o.b3 hl1 hu1 δ δ δ δ δ).mono ?_;rintro e wr2 ⟨rfl,hst,hgr⟩;obtain⟨x2,hx2⟩:∃x,tF x1 1 5 9 13=x:=⟨_,rfl⟩;have hl2:x2.length=16:=hx2▸jG _ _ _ _ _;have hu2:wO x2:=hx2▸wL hu1 _ _ _ _;rw[hx2] at hst HD
   have hr2:=ι (hr1.o.turned hst hgr);clear hst hgr hx2 hr1 hl1 hu1;go_wp2_with fail
   refine(qJ x2 (w.heap.size+2) 2 6 10 14 wr2 hr2.o.b3 hl2 hu2 δ δ δ δ δ).mono ?_;rintro e wr3 ⟨rfl,hst,hgr⟩;obtain⟨x3,hx3⟩:∃x,tF x2 2 6 10 14=x:=⟨_,rfl⟩;have hl3:x3.length=16:=hx3▸jG _ _ _ _ _;have hu3:wO x3:=hx3▸wL hu2 _ _ _ _;rw[hx3] at hst HD
   have hr3:=ι (hr2.o.turned hst hgr);clear hst hgr hx3 hr2 hl2 hu2;go_wp2_with fail
   refine(qJ x3 (w.heap.size+2) 3 7 11 15 wr3 hr3.o.b3 hl3 hu3 δ δ δ δ δ).mono ?_;rintro e wr4 ⟨rfl,hst,hgr⟩;obtain⟨x4,hx4⟩:∃x,tF x3 3 7 11 15=x:=⟨_,rfl⟩;have hl4:x4.length=16:=hx4▸jG _ _ _ _ _;have hu4:wO x4:=hx4▸wL hu3 _ _ _ _;rw[hx4] at hst HD
   have hr4:=ι (hr3.o.turned hst hgr);clear hst hgr hx4 hr3 hl3 hu3;go_wp2_with fail
   refine(qJ x4 (w.heap.size+2) 0 5 10 15 wr4 hr4.o.b3 hl4 hu4 δ δ δ δ δ).mono ?_;rintro e wr5 ⟨rfl,hst,hgr⟩;obtain⟨x5,hx5⟩:∃x,tF x4 0 5 10 15=x:=⟨_,rfl⟩;have hl5:x5.length=16:=hx5▸jG _ _ _ _ _;have hu5:wO x5:=hx5▸wL hu4 _ _ _ _;rw[hx5] at hst HD
   have hr5:=ι (hr4.o.turned hst hgr);clear hst hgr hx5 hr4 hl4 hu4;go_wp2_with fail
   refine(qJ x5 (w.heap.size+2) 1 6 11 12 wr5 hr5.o.b3 hl5 hu5 δ δ δ δ δ).mono ?_;rintro e wr6 ⟨rfl,hst,hgr⟩;obtain⟨x6,hx6⟩:∃x,tF x5 1 6 11 12=x:=⟨_,rfl⟩;have hl6:x6.length=16:=hx6▸jG _ _ _ _ _;have hu6:wO x6:=hx6▸wL hu5 _ _ _ _;rw[hx6] at hst HD
   have hr6:=ι (hr5.o.turned hst hgr);clear hst hgr hx6 hr5 hl5 hu5;go_wp2_with fail
   refine(qJ x6 (w.heap.size+2) 2 7 8 13 wr6 hr6.o.b3 hl6 hu6 δ δ δ δ δ).mono ?_;rintro e wr7 ⟨rfl,hst,hgr⟩;obtain⟨x7,hx7⟩:∃x,tF x6 2 7 8 13=x:=⟨_,rfl⟩;have hl7:x7.length=16:=hx7▸jG _ _ _ _ _;have hu7:wO x7:=hx7▸wL hu6 _ _ _ _;rw[hx7] at hst HD
   have hr7:=ι (hr6.o.turned hst hgr);clear hst hgr hx7 hr6 hl6 hu6;go_wp2_with fail
   refine(qJ x7 (w.heap.size+2) 3 4 9 14 wr7 hr7.o.b3 hl7 hu7 δ δ δ δ δ).mono ?_;rintro e wr8 ⟨rfl,hst,hgr⟩;obtain⟨x8,hx8⟩:∃x,tF x7 3 4 9 14=x:=⟨_,rfl⟩;have hl8:x8.length=16:=hx8▸jG _ _ _ _ _;have hu8:wO x8:=hx8▸wL hu7 _ _ _ _;rw[hx8] at hst HD
   have hr8:=ι (hr7.o.turned hst hgr);clear hst hgr hx8 hr7 hl7 hu7;have HDk:=ι HD;clear HD hl8 hu8;go_wp2;exact⟨⟨k+1,ω,by go_num,ι (by rw[HDk.o];exact hr8.o)⟩,by simp[intOf];omega⟩
  ·have hke:k=10:=ω;have HPk:Hid (∀m,m=16->pR ws=xR8 ws (wV ws k) m):=ι (λm hm=>by rw[hke,hm];rfl);have hxl:=HL.o k;have hxu:=HU.o k;have hneg:¬((k:Int)<10):=ω;generalize wV ws k=xs at hr0 HPk hxl hxu;have HXU:=ι hxu;have HWU:=ι hu
   have HIx:Hid ((prog.info? 311).map (·.size)=some (yG xs).size):=ι (by rw[yH,hxl];kernel_rfl)
   have HO:Hid (FnI w ws xs (wr.alloc (.cells (xX (xO 64)) 314))/\(wr.alloc (.cells (xX (xO 64)) 314)).heap[wr.heap.size]?=some (.cells (xX (xR8 ws xs 0)) 314 (0,0))):=ι ⟨⟨xM hr0.o.b1 _,xM hr0.o.b2 _,xM hr0.o.b3 _,hr0.o.bel.alloc hr0.o.bel.size _⟩,xI _ _⟩
   have HG:Hid (w.heap.size+2<wr.heap.size):=ι (xJ hr0.o.b3);have HB3:=ι (xM hr0.o.b3 (.cells (xX (xO 64)) 314));clear HL HU HDS hke hlt hk hxu hu hr0;go_upto_region 14 with fail
   refine wp_region_lit ?_;refine wpList_load_row rfl _ _ rfl (w.heap.size+1+1) rfl _ (yG xs) (0,0) _ HB3.o underlying311 rfl HIx.o ?_;refine(λ(h:∀W3,Hid (FnI w ws xs W3/\W3.heap[wr.heap.size]?=some (.cells (xX (xR8 ws xs 0)) 314 (0,0)))->wpList _ _ _ _ _ W3)=>h _ HO) ?_
   intro w4 hw4;generalize wr.heap.size=g4 at HG hw4⊢;clear HO HB3 hneg;go_wp2_with fail
   go_loopw [21] (λiv W=>∃i:Nat,i<=16/\iv=.int .i64 i/\Hid (FnI w ws xs W/\W.heap[g4]?=some (.cells (xX (xR8 ws xs i)) 314 (0,0)))) (λiv _=>16- (intOf iv).toNat)
   case atStart=>exact⟨0,δ,rfl,hw4⟩
   case round=>
    clear hw4
    rename World=>wi
    obtain⟨i,hi,rfl,hr⟩:=hrel
    by_cases hlt:i<16
    ·have HOS:Hid (∀m,m=4->xR8 ws xs (i+1)=xW6 (xR8 ws xs i) i ((xs.getD i 0+ws.getD i 0) % 4294967296) m):=ι (λm hm=>by rw[hm];rfl);have HOL:=ι (xDm ws xs i);have HJL:=ι (λ(l:Bs) (x:Int) (j:Nat)=>xHw l i x j);obtain⟨x,hx⟩:∃x,xs.getD i 0=x:=⟨_,rfl⟩
     obtain⟨s,hs⟩:∃s,ws.getD i 0=s:=⟨_,rfl⟩;have ux:=HXU.o i;have us:=HWU.o i;rw[hx] at ux HOS;rw[hs] at us HOS;have ix:=λW=>vW (P:=prog) underlying311 underlying228 κ (yG xs) (.int .u32 x) i hlt (by rw[zY ω,hx]) W
     have q0:wi.cell? ⟨w.heap.size,i,none⟩=some (.int .u32 s):=by rw[xA hr.o.1.b1,zY ω,hs]
     obtain⟨x0,x1⟩:=ux;obtain⟨s0,s1⟩:=us;clear hx hs;generalize xR8 ws xs i=acc at hr HOS HOL;go_upto_region 18 with fail
     clear ix q0;have hz:=vD (x+s);generalize (x+s) % 4294967296=z at HOS hz⊢;obtain⟨z0,z1⟩:=hz;clear x0 x1 s0 s1;go_wp2_with fail
     go_loopw [30] (λjv W=>∃j:Nat,j<=4/\jv=.int .i64 j/\Hid (FnI w ws xs W/\W.heap[g4]?=some (.cells (xX (xW6 acc i z j)) 314 (0,0)))) (λjv _=>4- (intOf jv).toNat)
     case atStart=>exact⟨0,δ,rfl,hr⟩
     case round=>
      clear hr
      rename World=>wj
      obtain⟨j,hj,rfl,hr⟩:=hrel
      by_cases hlt2:j<4
      ·have HJS:Hid (xW6 acc i z (j+1)=(xW6 acc i z j).set (4*i+j) (oct (z / 2^(8*j)))):=ι rfl;have HJk:=HJL.o acc z j;generalize xW6 acc i z j=l at hr HJS HJk;have q1:=xA hr.o.2 (4*i+j);rw[kU (by rw[HJk,HOL.o];omega)] at q1;have q2:=xD hr.o.2 (4*i+j)
       generalize ((l.getD (4*i+j) 0).toNat:Int)=old at q1
       have hp:Hid (FnI w ws xs (wj.setCell ⟨g4,4*i+j,none⟩ (.int .u8 (z / 2^(8*j) % 256)))/\(wj.setCell ⟨g4,4*i+j,none⟩ (.int .u8 (z / 2^(8*j) % 256))).heap[g4]?=some (.cells (xX (xW6 acc i z (j+1))) 314 (0,0))):=ι (by
        have hg:=HG.o;refine⟨⟨zL hr.o.1.b1 (p:=⟨g4,4*i+j,none⟩) (by simp;omega) _,zL hr.o.1.b2 (p:=⟨g4,4*i+j,none⟩) (by simp;omega) _,zL hr.o.1.b3 (p:=⟨g4,4*i+j,none⟩) (by simp;omega) _,hr.o.1.bel.setCell (p:=⟨g4,4*i+j,none⟩) (by simp;omega) _⟩,?_⟩
        have h:=yC hr.o.2 (4*i+j) (.int .u8 (z / 2^(8*j) % 256));rw[xCb] at h;rw[HJS.o];exact h)
       clear hr HJk;go_wp2;exact⟨⟨j+1,ω,by go_num,hp⟩,by simp[intOf];omega⟩
      ·have hje:j=4:=ω;have HOk:=ι (HOS.o j hje);have hneg:¬((j:Int)<4):=ω;clear HOS hlt2 hj hje;go_wp2;exact⟨⟨i+1,ω,by go_num,ι (by rw[HOk.o];exact hr.o)⟩,by simp[intOf];omega⟩
    ·have hie:i=16:=ω;have HPi:=ι (HPk.o i hie);have hol:=xDm ws xs i;have hneg:¬((i:Int)<16):=ω;generalize xR8 ws xs i=out at hr HPi hol;have HI8:Hid ((prog.info? 314).map (·.size)=some (xX out).size):=ι (by rw[uG,hol];kernel_rfl)
     have HZ8:Hid ((xX (xO 64)).size=(xX out).size):=ι (by rw[uG,uG,hol,yS]);have H18:Hid ((xX out).all (·.oneCell')=true):=ι (Array.all_eq_true_iff_forall_mem.2 (λv hv=>xIf out v (by simpa using hv)));clear HPk hlt hi hie hol;go_upto_region 24 with fail
     refine wp_region_lit ?_;refine wpList_load_row rfl _ _ rfl g4 rfl _ (xX out) (0,0) _ hr.o.2 underlying314 rfl HI8.o ?_;refine wpList_store_row rfl _ _ _ rfl (w.heap.size+1) (xX out) rfl rfl _ _ hr.o.1.b2 HI8.o HZ8.o H18.o ?_;go_wp2
     refine bodyPost_ret (results_cell_row rfl _ _ (w.heap.size+1) _ _ (0,0) _ rfl (setRow_heap _ _ _ _ _ _ hr.o.1.b2) underlying314 rfl HI8.o) rfl ?_;rw[HPi.o];exact⟨rfl,below_setRow hr.o.1.bel ω _⟩
end Go.Proofs.SH
namespace Mailsack
def xMh:ByteArray:=⟨#[101,120,112,97,110,100,32,51,50,45,98,121,116,101,32,107]⟩
def qQ (key xS:ByteArray) (counter:Int):List Int:=rX ((rX (rX (List.replicate 16 0) 0 xMh 4) 4 key 8).set 12 counter) 13 xS 3
theorem yA1 (n:Nat):wO (List.replicate n 0):=by
 intro i;rw[List.getD_eq_getElem?_getD,List.getElem?_replicate];split<;>exact⟨δ,δ⟩
theorem xD1 (key xS:ByteArray) (counter:Int):(qQ key xS counter).length=16:=by
 unfold qQ;rw[kD,List.length_set,kD,kD,List.length_replicate]
theorem xOn (key xS:ByteArray) {counter:Int} (h:U32 counter):wO (qQ key xS counter):=xIb ((xIb (xIb (yA1 16) _ _ _) _ _ _).set 12 h) _ _ _
end Mailsack
namespace Go.Proofs.SH
open Go.RowKit Mailsack MM BB
theorem results_cell_tmp {P:Program} {fn:Func} {p u:Tmp} {ty:TypeId} (h:fn.results=#[.cell p ty,.tmp u]) (tmps:Array Value) (w:World) (g:Nat) (t:TypeId) (cs:Array Value) (fr:Nat×Nat) (d:TypeDesc)
  (hp:tmps.getD p undef=.pointer (some ⟨g,0,none⟩)) (hg:w.heap[g]?=some (.cells cs t fr))
  (hu:P.underlying ty=some d) (hd:(match d with|.struct _|.array _ _=>true|_=>false)=true) (hi:(P.info? ty).map (·.size)=some cs.size):
  (results fn tmps).run P w=.ok (.tuple #[.agg cs,tmps.getD u undef]) w:=by
 have hp':tmps[p]?.getD undef=.pointer (some ⟨g,0,none⟩):=by simpa using hp
 simp[results,h,hp',asAddr,run_loadVar_row w g t ty cs fr d hg hu hd hi]
structure BegI (w:World) (xs:List Int) (W:World):Prop where
 res:W.heap[w.heap.size]?=some (.cells (yG (List.replicate 16 0)) 311 (0,0))
 st:W.heap[w.heap.size+1]?=some (.cells (yG xs) 311 (0,0))
 bel:ψ w W
theorem BegI.filled {w:World} {xs ys:List Int} {W W':World} (h:BegI w xs W) (hst:W'.heap[w.heap.size+1]?=some (.cells (yG ys) 311 (0,0))) (hg:W.grownBy W' (some (w.heap.size+1))):BegI w ys W':=
 ⟨wR h.res hg σ,hst,h.bel.grown hg h.bel.size (λk hk=>by injection hk with hk;omega)⟩
theorem xOm (key xS:ByteArray) (counter:Int) (w:World) (hk:key.size=32) (hn:xS.size=12):
  Calls prog 259 #[.string key,.string xS,.int .u32 counter] w λe w'=>e=.returned (.tuple #[.agg (yG (qQ key xS counter)),.bool true])/\ψ w w':=by
 have HB:Hid (BegI w (List.replicate 16 0) ((w.alloc (.cells (yG (List.replicate 16 0)) 311)).alloc (.cells (yG (List.replicate 16 0)) 311))):=ι ⟨zK _ _ _,zD _ _ _,(φ w _).alloc σ _⟩;obtain⟨x1,hx1⟩:∃x,rX (List.replicate 16 0) 0 xMh 4=x:=⟨_,rfl⟩
 have hl1:x1.length=16:=by rw[<-hx1,kD,List.length_replicate]
 obtain⟨x2,hx2⟩:∃x,rX x1 4 key 8=x:=⟨_,rfl⟩;have hl2:x2.length=16:=by rw[<-hx2,kD,hl1]
 obtain⟨x3,hx3⟩:∃x,x2.set 12 counter=x:=⟨_,rfl⟩;have hl3:x3.length=16:=by rw[<-hx3,List.length_set,hl2]
 obtain⟨x4,hx4⟩:∃x,rX x3 13 xS 3=x:=⟨_,rfl⟩;have hl4:x4.length=16:=by rw[<-hx4,kD,hl3]
 have HP:Hid (qQ key xS counter=x4):=ι (by unfold qQ;rw[hx1,hx2,hx3,hx4]);have F1:=ι (λW h=>xIa (List.replicate 16 0) (w.heap.size+1) 0 4 16 xMh W h σ δ δ);have F2:=ι (λW h=>xIa x1 (w.heap.size+1) 4 8 12 key W h ω ω δ);have F3:=ι (λW h=>xIa x3 (w.heap.size+1) 13 3 3 xS W h ω ω δ)
 rw[hx1] at F1;rw[hx2] at F2;rw[hx4] at F3;have HX3:=ι hx3;have h2:((key.size:Int)!=32)=false:=by simp[hk]
 have h3:((xS.size:Int)!=12)=false:=by simp[hn]
 have HI:Hid ((prog.info? 311).map (·.size)=some (yG x4).size):=ι (by rw[yH,hl4];kernel_rfl);have HZ:Hid ((yG (List.replicate 16 0)).size=(yG x4).size):=ι (by rw[yH,yH,hl4,List.length_replicate]);have HL2:=ι hl2;clear hx1 hx2 hx3 hx4 hk hn hl1 hl3 hl4 hl2
 go_enter func259,ntmps259;go_wp2_with fail
 refine(F1.o _ HB.o.st).mono ?_;rintro e w1 ⟨rfl,hst,hgr⟩;have H1:=ι (HB.o.filled hst hgr);clear hst hgr HB F1 h2 h3;go_wp2_with fail
 refine(F2.o _ H1.o.st).mono ?_;rintro e w2 ⟨rfl,hst,hgr⟩;have H2:=ι (H1.o.filled hst hgr);clear hst hgr H1 F2;have q1:=xA H2.o.st 12;rw[zY (by rw[HL2.o];decide)] at q1;have q2:=xD H2.o.st 12;generalize x2.getD 12 0=old at q1
 have H3:Hid (BegI w x3 (w2.setCell ⟨w.heap.size+1,12,none⟩ (.int .u32 counter))):=ι (by
  refine⟨zL H2.o.res (p:=⟨w.heap.size+1,12,none⟩) σ _,?_,H2.o.bel.setCell (p:=⟨w.heap.size+1,12,none⟩) σ _⟩;have h:=yC H2.o.st 12 (.int .u32 counter);rw[xCa,HX3.o] at h;exact h)
 go_wp2_with fail
 clear q1 q2 H2;refine(F3.o _ H3.o.st).mono ?_;rintro e w4 ⟨rfl,hst,hgr⟩;have H4:=ι (H3.o.filled hst hgr);clear hst hgr H3 F3;go_upto_region 8 with fail
 refine wp_region_lit ?_;refine wpList_load_row rfl _ _ rfl (w.heap.size+1) rfl _ (yG x4) (0,0) _ H4.o.st underlying311 rfl HI.o ?_;refine wpList_store_row rfl _ _ _ rfl w.heap.size (yG x4) rfl rfl _ _ H4.o.res HI.o HZ.o (qN x4) ?_;go_wp2
 refine bodyPost_ret (results_cell_tmp rfl _ _ w.heap.size _ _ (0,0) _ rfl (setRow_heap _ _ _ _ _ _ H4.o.res) underlying311 rfl HI.o) rfl ?_;rw[HP.o];exact⟨rfl,below_setRow H4.o.bel ν _⟩
end Go.Proofs.SH
namespace Mailsack
def xCm (key xS:ByteArray) (counter:Int):Bs:=pR (qQ key xS counter)
end Mailsack
namespace Go.Proofs.SH
open Go.RowKit Mailsack MM BB
theorem xBh {W:World} {g:Nat} {l:Bs} {t:TypeId} (h:W.heap[g]?=some (.cells (xX l) t (0,0))) (n cap:Nat) (hn:l.length=n):(convert 125 9 (.slice (some ⟨g,0,none⟩) n cap)).run prog W=.ok (.string (bsA l)) W:=by
 subst hn
 exact run_convert_bytes_back (P:=prog) W 125 9 5 ⟨g,0,none⟩ cap l underlying125 underlying5 underlying9 (λj hj=>by
  have hadd:(⟨g,0,none⟩:Addr).add j=⟨g,j,none⟩:=by unfold Addr.add;split<;>simp_all
  rw[hadd,xA h,kU hj,List.getD_eq_getElem?_getD,List.getElem?_eq_getElem hj]
  rfl)
theorem xMs (key xS:ByteArray) (counter:Int) (w:World) (hk:key.size=32) (hn:xS.size=12) (hc:U32 counter):
  Calls prog 255 #[.string key,.string xS,.int .u32 counter] w λe w'=>e=.returned (.tuple #[.string (bsA (xCm key xS counter)),.bool true])/\ψ w w':=by
 have HB:=ι (xOm key xS counter w hk hn);have HF:=ι (λW=>xGv (qQ key xS counter) W (xD1 _ _ _) (xOn _ _ hc));have hl:=xD1 key xS counter;have HP:Hid (bsA (xCm key xS counter)=bsA (pR (qQ key xS counter))):=ι rfl;have HFL:=ι (xB4 (qQ key xS counter))
 generalize qQ key xS counter=xs at HB HF hl HP HFL;generalize pR xs=fo at HF HP HFL;have HI:Hid ((prog.info? 311).map (·.size)=some (yG xs).size):=ι (by rw[yH,hl];kernel_rfl)
 have HO:Hid ((yG (List.replicate 16 0)).size=(yG xs).size):=ι (by rw[yH,yH,hl,List.length_replicate]);have HI8:Hid ((prog.info? 314).map (·.size)=some (xX fo).size):=ι (by rw[uG,HFL.o];kernel_rfl);have HO8:Hid ((xX (xO 64)).size=(xX fo).size):=ι (by rw[uG,uG,HFL.o,yS])
 have H18:Hid ((xX fo).all (·.oneCell')=true):=ι (Array.all_eq_true_iff_forall_mem.2 (λv hv=>xIf fo v (by simpa using hv)));have HSZ:Hid ((yG xs).size=16):=ι (by rw[yH,hl]);have HSZ8:Hid ((xX fo).size=64):=ι (by rw[uG,HFL.o]);clear hl hk hn hc;go_enter func255,ntmps255
 go_wp2_with fail
 refine HB.o.mono ?_;rintro e w1 ⟨rfl,hb1⟩;have B1:=ι hb1;clear hb1 HB
 have hst:(storeCells ⟨w1.heap.size,0,none⟩ (yG xs).toList).run prog (w1.alloc (.cells #[.int .u32 0,.int .u32 0,.int .u32 0,.int .u32 0,.int .u32 0,.int .u32 0,.int .u32 0,.int .u32 0,.int .u32 0,.int .u32 0,.int .u32 0,.int .u32 0,.int .u32 0,.int .u32 0,.int .u32 0,.int .u32 0] 311))=.ok () (w1.alloc (.cells (yG xs) 311)):=run_storeCells_new w1 _ _ _ HI.o HO.o (qN xs)
 have hsz:=HSZ.o;have B2:=ι (B1.o.alloc B1.o.size (.cells (yG xs) 311));go_upto_region 4 with fail
 clear hst hsz;refine wp_region_lit ?_;refine wpList_load_row rfl _ _ rfl w1.heap.size rfl _ (yG xs) (0,0) _ (xI _ _) underlying311 rfl HI.o ?_;go_wp2_with fail
 refine(HF.o _).mono ?_;rintro e w3 ⟨rfl,hb3⟩;have B3:=ι (B2.o.trans (hb3.mono B2.o.size));clear hb3 HF B1 B2
 have hst:(storeCells ⟨w3.heap.size,0,none⟩ (xX fo).toList).run prog (w3.alloc (.cells #[.int .u8 0,.int .u8 0,.int .u8 0,.int .u8 0,.int .u8 0,.int .u8 0,.int .u8 0,.int .u8 0,.int .u8 0,.int .u8 0,.int .u8 0,.int .u8 0,.int .u8 0,.int .u8 0,.int .u8 0,.int .u8 0,.int .u8 0,.int .u8 0,.int .u8 0,.int .u8 0,.int .u8 0,.int .u8 0,.int .u8 0,.int .u8 0,.int .u8 0,.int .u8 0,.int .u8 0,.int .u8 0,.int .u8 0,.int .u8 0,.int .u8 0,.int .u8 0,.int .u8 0,.int .u8 0,.int .u8 0,.int .u8 0,.int .u8 0,.int .u8 0,.int .u8 0,.int .u8 0,.int .u8 0,.int .u8 0,.int .u8 0,.int .u8 0,.int .u8 0,.int .u8 0,.int .u8 0,.int .u8 0,.int .u8 0,.int .u8 0,.int .u8 0,.int .u8 0,.int .u8 0,.int .u8 0,.int .u8 0,.int .u8 0,.int .u8 0,.int .u8 0,.int .u8 0,.int .u8 0,.int .u8 0,.int .u8 0,.int .u8 0,.int .u8 0] 314))=.ok () (w3.alloc (.cells (xX fo) 314)):=run_storeCells_new w3 _ _ _ HI8.o HO8.o H18.o
 have hsz:=HSZ8.o;have ht:=xBh (xI w3 (.cells (xX fo) 314)) 64 64 HFL.o;have B4:=ι (B3.o.alloc B3.o.size (.cells (xX fo) 314));go_wp2;go_ret2;rw[HP.o];exact⟨rfl,B4.o⟩
end Go.Proofs.SH
namespace Mailsack
def kY (xs:List Int):Nat->List Int
 |0=>xs
 |k+1=>(kY xs k).set 12 (((kY xs k).getD 12 0+1) % 4294967296)
theorem xG5 (xs:List Int):∀k,(kY xs k).length=xs.length
 |0=>rfl
 |k+1=>by simp[kY,xG5 xs k]
theorem xN5 {xs:List Int} (h:wO xs):∀k,wO (kY xs k)
 |0=>h
 |k+1=>(xN5 h k).set 12 (vD _)
def xR5 (l:Bs) (off:Nat) (blk:Bs):Nat->Bs
 |0=>l
 |i+1=>(xR5 l off blk i).set (off+i) (oct (Go.bits .xor .u8 (((xR5 l off blk i).getD (off+i) 0).toNat:Int) ((blk.getD i 0).toNat:Int)))
theorem xH7 (l:Bs) (off:Nat) (blk:Bs):∀i,(xR5 l off blk i).length=l.length
 |0=>rfl
 |i+1=>by simp[xR5,xH7 l off blk i]
def xCk (l:Bs) (xs:List Int):Nat->Bs
 |0=>l
 |k+1=>xR5 (xCk l xs k) (64*k) (pR (kY xs k)) (min 64 (l.length-64*k))
theorem xEa (l:Bs) (xs:List Int):∀k,(xCk l xs k).length=l.length
 |0=>rfl
 |k+1=>by unfold xCk;rw[xH7,xEa l xs k]
def xZv (key xS:ByteArray) (counter:Int) (s:ByteArray):Bs:=xCk s.data.toList (qQ key xS counter) ((s.size+63) / 64)
theorem xYr (key xS:ByteArray) (counter:Int) (s:ByteArray):(xZv key xS counter s).length=s.size:=by
 unfold xZv;rw[xEa];simp
end Mailsack
namespace Go.Proofs.SH
open Go.RowKit Mailsack MM BB
structure xOv (W:World) (g:Nat) (l:Bs):Prop where
 cell:∀j,j<l.length->W.cell? ⟨g,j,none⟩=some (.int .u8 ((l.getD j 0).toNat:Int))
 free:∀j,j<l.length->W.frozen? ⟨g,j,none⟩=false
theorem xOv.put {W:World} {g:Nat} {l:Bs} (h:xOv W g l) {p:Nat} (hp:p<l.length) {z:Int} (h0:0<=z) (h1:z<256):xOv (W.setCell ⟨g,p,none⟩ (.int .u8 z)) g (l.set p (oct z)):=by
 refine⟨λj hj=>?_,λj hj=>?_⟩
 ·rw[List.length_set] at hj
  by_cases e:j=p
  ·subst e;rw[World.cell?_setCell_same _ _ _ (h.cell j hj),List.getD_eq_getElem?_getD,List.getElem?_set,if_pos rfl,if_pos hj];simp[xAy];omega
  ·rw[World.cell?_setCell_other _ _ _ _ (λe'=>e (by injection e' with _ e';exact e'.symm)),h.cell j hj,List.getD_eq_getElem?_getD,List.getD_eq_getElem?_getD,List.getElem?_set,if_neg (Ne.symm e)]
 ·rw[List.length_set] at hj;rw[World.frozen?_setCell];exact h.free j hj
theorem xOv.keep {W W':World} {g:Nat} {l:Bs} (h:xOv W g l) (hb:W'.heap[g]?=W.heap[g]?):xOv W' g l:=
 ⟨λj hj=>(World.cell?_of_block (w:=W) (a:=⟨g,j,none⟩) hb).trans (h.cell j hj),λj hj=>(World.frozen?_of_block (w:=W) (a:=⟨g,j,none⟩) hb).trans (h.free j hj)⟩
theorem xOv.start (W:World) (s:ByteArray):xOv (Lib.bytesWorld W 5 s) W.heap.size s.data.toList:=by
 have hsl:s.data.toList.length=s.size:=σ;refine⟨λj hj=>Lib.bytesWorld_cell W _ s j ω,λj hj=>?_⟩;simp only[World.frozen?,Lib.bytesWorld_at_new];have hz:(Lib.bytesCells W 5 s).size=s.data.size+(grownCap W s.size 0 5-s.size):=by simp[Lib.bytesCells]
 have hs:s.data.size=s.size:=rfl;simp;omega
theorem xOv.text {W:World} {g:Nat} {l:Bs} (h:xOv W g l) (n cap:Nat) (hn:l.length=n):(convert 125 9 (.slice (some ⟨g,0,none⟩) n cap)).run prog W=.ok (.string (bsA l)) W:=by
 subst hn
 exact run_convert_bytes_back (P:=prog) W 125 9 5 ⟨g,0,none⟩ cap l underlying125 underlying5 underlying9 (λj hj=>by
  have hadd:(⟨g,0,none⟩:Addr).add j=⟨g,j,none⟩:=by unfold Addr.add;split<;>simp_all
  rw[hadd,h.cell j hj,List.getD_eq_getElem?_getD,List.getElem?_eq_getElem hj]
  rfl)
structure TuI (w:World) (g1 g2:Nat) (xs:List Int) (l:Bs) (W:World):Prop where
 st:W.heap[g1]?=some (.cells (yG xs) 311 (0,0))
 o:xOv W g2 l
 bel:ψ w W
 lo:w.heap.size<=g1
 lt:g1<g2
 hi:g2<W.heap.size
theorem TuI.below {w:World} {g1 g2:Nat} {xs:List Int} {l:Bs} {W W':World} (h:TuI w g1 g2 xs l W) (hb:ψ W W'):TuI w g1 g2 xs l W':=
 ⟨xC h.st hb (xJ h.st),h.o.keep (hb.block g2 h.hi),h.bel.trans (hb.mono h.bel.size),h.lo,h.lt,Nat.lt_of_lt_of_le h.hi hb.size⟩
theorem TuI.alloc {w:World} {g1 g2:Nat} {xs:List Int} {l:Bs} {W:World} (h:TuI w g1 g2 xs l W) (o:Obj):TuI w g1 g2 xs l (W.alloc o):=h.below (φ W o)
theorem TuI.drew {w:World} {g1 g2:Nat} {xs:List Int} {l:Bs} {W:World} (h:TuI w g1 g2 xs l W):TuI w g1 g2 xs l W.drew:=⟨h.st,⟨h.o.cell,h.o.free⟩,h.bel.drew,h.lo,h.lt,h.hi⟩
theorem TuI.put {w:World} {g1 g2:Nat} {xs:List Int} {l:Bs} {W:World} (h:TuI w g1 g2 xs l W) {p:Nat} (hp:p<l.length) {z:Int} (h0:0<=z) (h1:z<256):TuI w g1 g2 xs (l.set p (oct z)) (W.setCell ⟨g2,p,none⟩ (.int .u8 z)):=
 ⟨zL h.st (p:=⟨g2,p,none⟩) (by have:=h.lt;simp;omega) _,h.o.put hp h0 h1,h.bel.setCell (p:=⟨g2,p,none⟩) (by have:=h.lo;have:=h.lt;simp;omega) _,h.lo,h.lt,by rw[size_set];exact h.hi⟩
theorem TuI.step {w:World} {g1 g2:Nat} {xs:List Int} {l:Bs} {W:World} (h:TuI w g1 g2 xs l W) (z:Int):TuI w g1 g2 (xs.set 12 z) l (W.setCell ⟨g1,12,none⟩ (.int .u32 z)):=by
 refine⟨?_,h.o.keep (Below.heap_setCell W ⟨g1,12,none⟩ _ g2 (by have:=h.lt;simp;omega)),h.bel.setCell (p:=⟨g1,12,none⟩) h.lo _,h.lo,h.lt,by rw[size_set];exact h.hi⟩;have:=yC h.st 12 (.int .u32 z);rw[xCa] at this;exact this
theorem xGy (key xS:ByteArray) (counter:Int) (s:ByteArray) (w:World) (hk:key.size=32) (hn:xS.size=12) (hc:U32 counter) (hs:s.size<=1099511627776):
  Calls prog 166 #[.string key,.string xS,.int .u32 counter,.string s] w λe w'=>e=.returned (.tuple #[.string (bsA (xZv key xS counter s)),.bool true])/\ψ w w':=by
 have HB:=ι (xOm key xS counter w hk hn);have hl:=xD1 key xS counter;have hu:=xOn key xS hc;have HP:Hid (∀k,k=(s.size+63) / 64->xZv key xS counter s=xCk s.data.toList (qQ key xS counter) k):=ι (λk hk=>by rw[hk];rfl);generalize qQ key xS counter=xs at HB hl hu HP
 have hsl:s.data.toList.length=s.size:=σ;have HI:Hid ((prog.info? 311).map (·.size)=some (yG xs).size):=ι (by rw[yH,hl];kernel_rfl);have HO:Hid ((yG (List.replicate 16 0)).size=(yG xs).size):=ι (by rw[yH,yH,hl,List.length_replicate])
 have HSZ:Hid ((yG xs).size=16):=ι (by rw[yH,hl]);have HXL:Hid (∀k,(kY xs k).length=16):=ι (λk=>by rw[xG5,hl]);have HXU:=ι (λk=>xN5 hu k);have HTL:Hid (∀k,(xCk s.data.toList xs k).length=s.size):=ι (λk=>by rw[xEa,hsl])
 have HTS:Hid (∀k m,m=min 64 (s.size-64*k)->xCk s.data.toList xs (k+1)=xR5 (xCk s.data.toList xs k) (64*k) (pR (kY xs k)) m):=ι (λk m hm=>by rw[hm,<-hsl];rfl);have HXS:Hid (∀k,kY xs (k+1)=(kY xs k).set 12 (((kY xs k).getD 12 0+1) % 4294967296)):=ι (λk=>rfl)
 have xI7:=λW=>Lib.run_convert_string_bytes (P:=prog) W 9 125 5 s underlying9 underlying125 underlying5;have HS:=ι hs;clear hl hu hk hn hc;go_enter func166,ntmps166;go_wp2_with fail
 refine HB.o.mono ?_;rintro e w1 ⟨rfl,hb1⟩;have B1:=ι hb1;clear hb1 HB
 have hst:(storeCells ⟨w1.heap.size,0,none⟩ (yG xs).toList).run prog (w1.alloc (.cells #[.int .u32 0,.int .u32 0,.int .u32 0,.int .u32 0,.int .u32 0,.int .u32 0,.int .u32 0,.int .u32 0,.int .u32 0,.int .u32 0,.int .u32 0,.int .u32 0,.int .u32 0,.int .u32 0,.int .u32 0,.int .u32 0] 311))=.ok () (w1.alloc (.cells (yG xs) 311)):=run_storeCells_new w1 _ _ _ HI.o HO.o (qN xs)
 have hsz:=HSZ.o
 have HT:Hid (TuI w w1.heap.size (w1.heap.size+1) (kY xs 0) (xCk s.data.toList xs 0) (Lib.bytesWorld (w1.alloc (.cells (yG xs) 311)) 5 s)):=ι (by
  have hz:(w1.alloc (.cells (yG xs) 311)).heap.size=w1.heap.size+1:=σ;have ho:=xOv.start (w1.alloc (.cells (yG xs) 311)) s;rw[hz] at ho
  refine⟨?_,ho,(B1.o.alloc B1.o.size (.cells (yG xs) 311)).trans ⟨rfl,rfl,rfl,by rw[Lib.bytesWorld_size];omega,λk hk=>Lib.bytesWorld_at_old _ _ s k (by have:=B1.o.size;omega)⟩,B1.o.size,Nat.lt_succ_self _,by rw[Lib.bytesWorld_size,hz];omega⟩;rw[Lib.bytesWorld_at_old _ _ _ _ ω]
  exact xI _ _)
 have HG:Hid (w.heap.size<=w1.heap.size):=ι B1.o.size;go_upto_region 5 with fail
 have hcap:s.size<=grownCap (w1.alloc (.cells (yG xs) 311)) s.size 0 5:=grownCap_ge _ _ _ _;generalize grownCap _ _ _ _=cap at hcap⊢;generalize Lib.bytesWorld (w1.alloc (.cells (yG xs) 311)) 5 s=w2 at HT⊢;clear hst hsz xI7 HO HI HSZ B1;generalize w1.heap.size=g1 at HT HG⊢
 go_wp2_with fail
 go_loopw [13] (λrv wr=>∃k off c2:Nat,off=min (64*k) s.size/\64*k<s.size+64/\(∃A:Option Addr,rv=.slice A (s.size-off) c2/\s.size-off<=c2/\(off<s.size->A=some ⟨g1+1,off,none⟩))/\Hid (TuI w g1 (g1+1) (kY xs k) (xCk s.data.toList xs k) wr)) (λrv _=>match rv with|.slice _ m _=>m|_=>0)
 case atStart=>exact⟨0,0,cap,σ,ω,⟨_,rfl,hcap,λ_=>rfl⟩,HT⟩
 case round=>
  obtain⟨k,off,c2,hoff,hk,⟨A,rfl,hc2,hA⟩,hr⟩:=hrel;clear HT
  by_cases hlt:64*k<s.size
  ·obtain rfl:off=64*k:=ω;obtain rfl:=hA ω;clear hA;have hpos:0<s.size-64*k:=ω;obtain⟨m,hm⟩:∃m,s.size-64*k=m:=⟨_,rfl⟩;have HTSk:=ι (HTS.o k);rw[hm] at hpos HTSk hc2⊢;have HMS:Hid (64*k+m=s.size):=ι ω;have HKL:=ι hlt;clear hoff hk hm hlt;go_upto_region 8 with fail
   have hsz:(min 64 (m:Int))=((min 64 m:Nat):Int):=ω;rw[hsz];obtain⟨z,hz⟩:∃z,min 64 m=z:=⟨_,rfl⟩;have HTSz:=ι (HTSk.o z hz.symm);have HZM:Hid (z<=m/\z<=64/\0<z/\(z=64∨z=m)):=ι ω;rw[hz];clear hsz hz HTSk;have hxl:=HXL.o k;have hxu:=HXU.o k;have hll:=HTL.o k
   have HXSk:=ι (HXS.o k);obtain⟨xk1,hxk1⟩:∃x,kY xs (k+1)=x:=⟨_,rfl⟩;obtain⟨lk1,hlk1⟩:∃x,xCk s.data.toList xs (k+1)=x:=⟨_,rfl⟩;rw[hxk1] at HXSk;rw[hlk1] at HTSz;have HXK:=ι hxk1;have HLK:=ι hlk1;clear hxk1 hlk1;generalize kY xs k=xk at hr hxl hxu HXSk HTSz
   generalize xCk s.data.toList xs k=l0 at hr HTSz hll;have HF:=ι (λW=>xGv xk W hxl hxu);have HFL:=ι (xB4 xk);generalize pR xk=fo at HF HFL HTSz;have HIk:Hid ((prog.info? 311).map (·.size)=some (yG xk).size):=ι (by rw[yH,hxl];kernel_rfl)
   have HI8:Hid ((prog.info? 314).map (·.size)=some (xX fo).size):=ι (by rw[uG,HFL.o];kernel_rfl);have HO8:Hid ((xX (xO 64)).size=(xX fo).size):=ι (by rw[uG,uG,HFL.o,yS])
   have H18:Hid ((xX fo).all (·.oneCell')=true):=ι (Array.all_eq_true_iff_forall_mem.2 (λv hv=>xIf fo v (by simpa using hv)));have HXL16:=ι hxl;have HLL:=ι hll;clear hxl hxu hll;refine wp_region_lit ?_
   refine wpList_load_row rfl _ _ rfl g1 rfl _ (yG xk) (0,0) _ hr.o.st underlying311 rfl HIk.o ?_;go_wp2_with fail
   refine(HF.o _).mono ?_
   rename World=>wq
   rintro e w4 ⟨rfl,hb4⟩;have H4:=ι (hr.o.below hb4);clear hb4 hr HF
   have hst:(storeCells ⟨w4.heap.size,0,none⟩ (xX fo).toList).run prog (w4.alloc (.cells #[.int .u8 0,.int .u8 0,.int .u8 0,.int .u8 0,.int .u8 0,.int .u8 0,.int .u8 0,.int .u8 0,.int .u8 0,.int .u8 0,.int .u8 0,.int .u8 0,.int .u8 0,.int .u8 0,.int .u8 0,.int .u8 0,.int .u8 0,.int .u8 0,.int .u8 0,.int .u8 0,.int .u8 0,.int .u8 0,.int .u8 0,.int .u8 0,.int .u8 0,.int .u8 0,.int .u8 0,.int .u8 0,.int .u8 0,.int .u8 0,.int .u8 0,.int .u8 0,.int .u8 0,.int .u8 0,.int .u8 0,.int .u8 0,.int .u8 0,.int .u8 0,.int .u8 0,.int .u8 0,.int .u8 0,.int .u8 0,.int .u8 0,.int .u8 0,.int .u8 0,.int .u8 0,.int .u8 0,.int .u8 0,.int .u8 0,.int .u8 0,.int .u8 0,.int .u8 0,.int .u8 0,.int .u8 0,.int .u8 0,.int .u8 0,.int .u8 0,.int .u8 0,.int .u8 0,.int .u8 0,.int .u8 0,.int .u8 0,.int .u8 0,.int .u8 0] 314))=.ok () (w4.alloc (.cells (xX fo) 314)):=run_storeCells_new w4 _ _ _ HI8.o HO8.o H18.o
   have yBn:(xX fo).size=64:=by rw[uG,HFL.o]
   have H5:Hid (TuI w g1 (g1+1) xk (xR5 l0 (64*k) fo 0) (w4.alloc (.cells (xX fo) 314))/\(w4.alloc (.cells (xX fo) 314)).heap[w4.heap.size]?=some (.cells (xX fo) 314 (0,0))):=ι ⟨H4.o.alloc _,xI _ _⟩;have HG3:Hid (g1+1<w4.heap.size):=ι H4.o.hi;go_upto_region 9 with fail
   generalize w4.alloc (.cells (xX fo) 314)=w5 at H5⊢;clear hst yBn H4;generalize w4.heap.size=g3 at H5 HG3⊢;go_wp2_with fail
   go_loopw [38] (λiv W=>∃i:Nat,i<=z/\iv=.int .i64 i/\Hid (TuI w g1 (g1+1) xk (xR5 l0 (64*k) fo i) W/\W.heap[g3]?=some (.cells (xX fo) 314 (0,0)))) (λiv _=>z- (intOf iv).toNat)
   case atStart=>exact⟨0,Nat.zero_le _,rfl,H5⟩
   case round=>
    clear H5
    rename World=>wi
    obtain⟨i,hi,rfl,hr⟩:=hrel
    by_cases hlt:i<z
    ·have HXI:Hid (xR5 l0 (64*k) fo (i+1)=(xR5 l0 (64*k) fo i).set (64*k+i) (oct (bits .xor .u8 (((xR5 l0 (64*k) fo i).getD (64*k+i) 0).toNat:Int) ((fo.getD i 0).toNat:Int)))):=ι rfl;have hil:=xH7 l0 (64*k) fo i;generalize xR5 l0 (64*k) fo i=li at hr HXI hil
     have HPL:Hid (64*k+i<li.length):=ι (by rw[hil,HLL.o];have:=HMS.o;have:=HZM.o;omega);have HIF:Hid (i<fo.length):=ι (by rw[HFL.o];have:=HZM.o;omega);have HIM:Hid (i<m):=ι (by have:=HZM.o;omega);obtain⟨a,ha⟩:∃a:Int,((li.getD (64*k+i) 0).toNat:Int)=a:=⟨_,rfl⟩
     obtain⟨c,hc⟩:∃c:Int,((fo.getD i 0).toNat:Int)=c:=⟨_,rfl⟩;rw[ha,hc] at HXI;have HA:=ι ha;have HCc:=ι hc;obtain⟨v,hv⟩:∃v,bits .xor .u8 a c=v:=⟨_,rfl⟩;have HV:Hid (0<=v/\v<256):=ι (hv▸xD0 _ _ _);rw[hv] at HXI;have HVE:=ι hv
     have ra:0<=a/\a<256:=by rw[<-ha];have:=(li.getD (64*k+i) 0).toNat_lt;omega
     have rc:0<=c/\c<256:=by rw[<-hc];have:=(fo.getD i 0).toNat_lt;omega
     obtain⟨ra0,ra1⟩:=ra;obtain⟨rc0,rc1⟩:=rc;have him:=HIM.o;have hi64:i<64:=by rw[<-HFL.o];exact HIF.o
     clear ha hc hv hil;go_upto_region 12 with fail
     refine RG.yM 10 (λL W=>Hid (TuI w g1 (g1+1) xk (if L 9 then li.set (64*k+i) (oct v) else li) W/\W.heap[g3]?=some (.cells (xX fo) 314 (0,0)))) (λL L' W h hI=>by rw[<-h 9 δ];exact hI) κ κ rfl (ι ⟨hr.o.1.drew,hr.o.2⟩) ?_;iterate 3 refine RG.cS ?_
     apply RG.xN
     ·rfl
     ·rfl
     ·intro L w9 h0 hcl xP hw9;have e1:=hcl.not 6 (i:=9) h0 κ;have hs9:=hw9.o.1;rw[e1,if_neg σ] at hs9;have q:=hs9.o.cell (64*k+i) HPL.o;rw[HA.o] at q;clear e1 hs9;repeat go_step
      refine RG.xB ?_;exact⟨xP,hw9⟩
     ·rfl
     iterate 2 refine RG.cS ?_
     apply RG.xN
     ·rfl
     ·rfl
     ·intro L w9 h0 hcl xP hw9;have q:=xA hw9.o.2 i;rw[kU HIF.o,HCc.o] at q;repeat go_step
      refine RG.xB ?_;exact⟨xP,hw9⟩
     ·rfl
     refine RG.cS ?_;rw[HVE.o];refine RG.cS ?_;apply RG.xN
     ·rfl
     ·rfl
     ·intro L w9 h0 hcl xP hw9;have hs9:=hw9.o.1;rw[h0,if_neg σ] at hs9;have q1:=hs9.o.cell (64*k+i) HPL.o;have q2:=hs9.o.free (64*k+i) HPL.o;generalize ((li.getD (64*k+i) 0).toNat:Int)=old at q1
      have hp:Hid (TuI w g1 (g1+1) xk (li.set (64*k+i) (oct v)) (w9.setCell ⟨g1+1,64*k+i,none⟩ (.int .u8 v))/\(w9.setCell ⟨g1+1,64*k+i,none⟩ (.int .u8 v)).heap[g3]?=some (.cells (xX fo) 314 (0,0))):=ι ⟨hs9.put HPL.o HV.o.1 HV.o.2,zL hw9.o.2 (p:=⟨g1+1,64*k+i,none⟩) (by have:=HG3.o;simp;omega) _⟩
      clear hs9;repeat go_step
      refine RG.xB ?_;refine⟨xP,?_⟩;show Hid (TuI w g1 (g1+1) xk (if (true:Bool)=true then li.set (64*k+i) (oct v) else li) _/\_);rw[if_pos rfl];with_reducible exact hp
     ·rfl
     refine RG.xY (λw9 hw9=>?_);rw[if_pos rfl,<-HXI.o] at hw9;go_wp2;exact⟨⟨i+1,ω,by go_num,hw9⟩,by simp[intOf];omega⟩
    ·have hie:i=z:=ω;have HR:Hid (TuI w g1 (g1+1) xk lk1 wi):=ι (by rw[HTSz.o,<-hie];exact hr.o.1);have hneg:¬((i:Int)<(z:Int)):=ω;clear hr hlt hi hie;have q1:=xA HR.o.st 12;rw[zY (by rw[HXL16.o];decide)] at q1;have q2:=xD HR.o.st 12;obtain⟨y,hy⟩:∃y,xk.getD 12 0=y:=⟨_,rfl⟩
     rw[hy] at q1 HXSk;have HN:Hid (TuI w g1 (g1+1) xk1 lk1 (wi.setCell ⟨g1,12,none⟩ (.int .u32 ((y+1) % 4294967296)))):=ι (by rw[HXSk.o];exact HR.o.step _);clear HR hy;have hzm:=HZM.o.1;go_wp2
     refine⟨⟨k+1,64*k+z,c2-z,by have:=HMS.o;have:=HZM.o;omega,by have:=HKL.o;omega,⟨_,by rw[show s.size- (64*k+z)=m-z by have:=HMS.o;omega],by have:=HMS.o;omega,λhlt=>if_neg (by have:=HMS.o;omega)⟩,ι (by rw[HXK.o,HLK.o];exact HN.o)⟩,?_⟩;show m-z<m;have:=HZM.o;omega
  ·have hoff2:off=s.size:=ω;have HPk:=ι (HP.o k ω);have HTLk:=HTL.o k;have hz0:s.size-off=0:=ω;rw[hz0];generalize xCk s.data.toList xs k=lf at hr HPk HTLk;have ht:=hr.o.o.text s.size cap HTLk;have HBl:=ι hr.o.bel;clear hr hA hc2 hk hlt HTLk hoff2 hz0 hoff hsl hs
   rw[<-HPk.o] at ht;go_wp2;go_ret2;exact⟨rfl,HBl.o⟩
structure PaI (w:World) (g:Nat) (l:Bs) (W:World):Prop where
 o:xOv W g l
 bel:ψ w W
 lo:w.heap.size<=g
 hi:g<W.heap.size
theorem PaI.put {w:World} {g:Nat} {l:Bs} {W:World} (h:PaI w g l W) {p:Nat} (hp:p<l.length) {z:Int} (h0:0<=z) (h1:z<256):PaI w g (l.set p (oct z)) (W.setCell ⟨g,p,none⟩ (.int .u8 z)):=
 ⟨h.o.put hp h0 h1,h.bel.setCell (p:=⟨g,p,none⟩) h.lo _,h.lo,by rw[size_set];exact h.hi⟩
end Go.Proofs.SH
namespace Mailsack
def slash:Bs:=[47]
def headOf (kind user:Bs):Bs:=kind++slash++user++slash
theorem yAs (n:Nat):Go.Lib.repeatL [(0:UInt8)] n=xO n:=by
 unfold xO
 induction n with
 |zero=>rfl
 |succ n ih=>rw[List.replicate_succ,<-ih];rfl
end Mailsack
namespace Go.Proofs.DS
open Go.RowKit Mailsack MM BB SH SV
theorem xWf (n:Nat) (w:World) (h:n<=1000000):Calls prog 303 #[.string ⟨#[0]⟩,.int .i64 n] w λe w'=>e=.returned (xK (xO n))/\ψ w w':=by
 have:=Tryz.strings_Repeat ⟨#[0]⟩ n w ω (by show 1*n<=_;omega);rw[show(⟨#[0]⟩:ByteArray).data.toList=[0] from rfl,yAs] at this;exact this
theorem xT2 (s:ByteArray) (n:Nat) (w:World) (h:n<=1000000) (hs:s.size<=1000000):Calls prog 321 #[.string s,.int .i64 n] w λe w'=>e=.returned (xK (xZc s.data.toList n))/\ψ w w':=by
 obtain⟨k,hk⟩:∃k:Nat,n-s.size=k:=⟨_,rfl⟩;have HZ:=ι (λW=>xWf k W ω)
 have HE:Hid (xK (xZc s.data.toList n)=.string (s++bsA (xO k))):=ι (by
  unfold xZc;rw[show s.data.toList.length=s.size by simp,hk];show Value.string _=_
  congr 1)
 have hz:(bsA (xO k)).size=k:=by rw[uS,yS]
 rw[show xK (xO k)=.string (bsA (xO k)) from rfl] at HZ;generalize bsA (xO k)=z at HZ HE hz;have nb:¬(9223372036854775807<s.size+z.size):=ω
 by_cases hl:s.size<=n
 ·have e1:(n:Int)- (s.size:Int)=(k:Int):=ω;have e4:max (k:Int) 0=(k:Int):=ω;have e5:k<=1000000:=ω;clear hk hl hz h hs;go_enter func321,ntmps321;go_wp2_with fail
  refine(HZ.o _).mono ?_;rintro e w1 ⟨rfl,hb1⟩;have B1:=ι hb1;clear hb1 HZ;go_wp2;go_ret;exact⟨by rw[HE.o];rfl,B1.o⟩
 ·obtain rfl:k=0:=ω;have e4:max ((n:Int)- (s.size:Int)) 0=0:=ω;clear hk hl hz h hs;go_enter func321,ntmps321;go_wp2_with fail
  refine(HZ.o _).mono ?_;rintro e w1 ⟨rfl,hb1⟩;have B1:=ι hb1;clear hb1 HZ;go_wp2;go_ret;exact⟨by rw[HE.o];rfl,B1.o⟩
end Go.Proofs.DS
namespace Go.Proofs.RK
open Go.RowKit MM
theorem xEh {P:Program} {w:World} (base:Nat) (t ty e:TypeId) (i:TypeInfo) (size:Nat) (ht:P.underlying t=some (.slice e)) (hi:P.info? e=some i)
  (v:Value) (n:Nat) (xs:List Value) (hown:w.ownsRow base e size v n xs) (A:Option Addr) (c:Nat):
  (Builtin.append_ #[t,t] ty #[v,.slice A 0 c]).run P w=.ok v w:=by
 rcases hown.2 with ⟨rfl,rfl⟩|⟨g,cap,cur,rfl,_,_,hnc,_⟩
 ·cases A<;>simp[Builtin.append_,run_underlying ht,sizeOf,typeInfo,hi,Builtin.lenOf,Builtin.firstCells,loadCells,loadCellsFrom]
 ·cases A<;>simp[Builtin.append_,run_underlying ht,sizeOf,typeInfo,hi,Builtin.lenOf,Builtin.firstCells,hnc,storeCells,loadCells,loadCellsFrom]
structure RowT {α:Type} (P:Program) (t e:TypeId) (k bytes:Nat) (f:α->List Value):Prop where
 und:P.underlying t=some (.slice e)
 info:∃i z,P.info? e=some i/\i.zero=some z/\i.size=k/\i.bytes=bytes/\z.cells.size=k
 pos:0<k
 bpos:0<bytes
 len:∀x,(f x).length=k
 one:∀x,∀u∈f x,u.oneCell'=true
structure xW5 {α:Type} (e:TypeId) (k:Nat) (f:α->List Value) (w w':World) (base:Nat) (v v':Value) (l:List α):Prop where
 own:zP e k f w' base v' l
 grown:w.grownBy w' v.ownBlock
 at_:v'.ownBlock=v.ownBlock∨v'.ownBlock=some w.heap.size
section
variable {P:Program} {w w' w0:World} {α:Type} {t e:TypeId} {k bytes:Nat} {f:α->List Value} {base:Nat} {v v' vx:Value} {l m:List α}
theorem xW5.keep (h:xW5 e k f w w' base v v' l) {p:Nat} {o:Obj} (hp:w.heap[p]?=some o) (hne:v.ownBlock≠some p):w'.heap[p]?=some o:=wR hp h.grown (λe=>hne e.symm)
theorem xW5.bel (h:xW5 e k f w w' base v v' l) {l0:List α} (ho:zP e k f w base v l0) {B:Nat} (hB:B<=base) (hb:Below B w0 w) (hs:B<=w.heap.size):Below B w0 w':=
 hb.grown h.grown hs (λg hg=>by have:=World.ownsRow.lt ho.row g hg;omega)
theorem xX8 (ht:RowT P t e k bytes f) (ty:TypeId) (hown:zP e k f w base v l) {B:Nat} (hrd:RdR k f w B vx m) (hbytes:(l.length+m.length)*bytes<=140737488355328) (hbase:base<=w.heap.size):
  ∃v' w',(Builtin.append_ #[t,t] ty #[v,vx]).run P w=.ok v' w'/\xW5 e k f w w' base v v' (l++m):=by
 obtain⟨i,z,hi,hz,hs,hby,hzs⟩:=ht.info;have hrd':=hrd;obtain⟨A,c,rfl,hc,h3⟩:=hrd
 by_cases h0:m.length=0
 ·have:m=[]:=List.eq_nil_of_length_eq_zero h0;subst this;refine⟨v,w,xEh base t ty e i k ht.und hi v _ _ hown.row A c,?_,World.grownBy.refl _ _,.inl rfl⟩;rw[List.append_nil];exact hown
 ·obtain⟨ad,rfl,_,hsrc⟩:=hrd'.src ht.len ω
  have hlen:l.length+m.length<=maxLen:=by
   have:=Nat.le_mul_of_pos_right (l.length+m.length) ht.bpos;unfold maxLen;omega
  have h1:∀u∈m.flatMap f,u.oneCell'=true:=λu hu=>by
   obtain⟨x,_,hx⟩:=List.mem_flatMap.1 hu;exact ht.one x u hx
  obtain⟨g,cap,w',h2,h4,h5,h6,h7⟩:=run_append_lies (P:=P) (w:=w) t ty base e i z k bytes ht.und hi hz hs hby hzs ht.pos v l.length _ hown.row ad m.length c _ (kR ht.len m) hsrc h1 ω hlen hbytes hbase w.heap.size rfl;refine⟨_,w',h2,zP.of h4,h5,?_⟩;rcases h6 with h6|h6
  ·exact .inl h6.symm
  ·exact .inr (by subst h6;rfl)
theorem kW {ops:Array Oper} {rest:List Oper} {o:Oper} {a:Act} {Q:Exit->Act->World->Prop} (ht:RowT P t e k bytes f) (hgd:o.guard=none) (s x:Operand)
  (ho:o.op=.call {callee:=.builtin .append,args:=#[s,x],argTypes:=#[t,t]}) (hs:a.eval s=v) (hx:a.eval x=vx)
  (hown:zP e k f w base v l) {B:Nat} (hrd:RdR k f w B vx m) (hbytes:(l.length+m.length)*bytes<=140737488355328) (hbase:base<=w.heap.size)
  (h:∀v' w',xW5 e k f w w' base v v' (l++m)->wpList P ops Q rest (a.put o.dst v') w'):wpList P ops Q (o::rest) a w:=by
 obtain⟨v',w',hr,ha⟩:=xX8 (P:=P) ht o.type hown hrd hbytes hbase;refine wpList_plain hgd λK hK=>?_;unfold Oper.wp;simp[execOp,ho,resolve,invoke,builtin,hs,hx,hr,Result.andThen];exact hK _ _ (h _ _ ha)
theorem RdR.lit (hk:∀x,(f x).length=k) (W:World) (cs:Array Value) (hcs:cs.toList=m.flatMap f):RdR k f (W.alloc (.cells cs e)) (W.heap.size+1) (.slice (some ⟨W.heap.size,0,none⟩) m.length m.length) m:=by
 refine⟨_,_,rfl,Nat.le_refl _,λ_=>⟨W.heap.size,0,rfl,ω,λj x hx i u hu=>?_⟩⟩;rw[Nat.zero_add,xA (xI W _)];have:=flat_get hk m j i x u hx hu;rw[<-hcs] at this;simpa using this
end
end Go.Proofs.RK
namespace Go.Proofs.DS
open Go.RowKit Mailsack MM BB SH SV RK
theorem vY {w:World} {B:Nat} {va vb:Value} {D:Dk} (h:RdD w B va vb D):∃A1 c1 A2 c2,va=.slice A1 D.secs.length c1/\vb=.slice A2 D.cache.length c2:=by
 obtain⟨A1,c1,e1,_⟩:=h.s;obtain⟨A2,c2,e2,_⟩:=h.c;exact⟨A1,c1,A2,c2,e1,e2⟩
end Go.Proofs.DS
namespace Go.Proofs.DS
open Go.RowKit Mailsack MM BB SH SV RK BU
section
variable {w W W':World} {b:Nat} {va vb:Value} {bs bs':Bs}
end
section
variable {w W W':World} {b xb:Nat} {va vb ov:Value} {bs bs':Bs} {x:Wr} {ops:List Mailsack.Op}
end
end Go.Proofs.DS
namespace Mailsack
def xSq (S:List Bs) (x:Wr):List Bs:=S.set x.at_.toNat x.data
def xCf (S:List Bs) (C:List Wr):List Bs:=C.foldl xSq S
theorem xAf:∀(C:List Wr) (S:List Bs),(xCf S C).length=S.length
 |[],_=>rfl
 |x::C,S=>by
  show(xCf (xSq S x) C).length=_;rw[xAf C,xSq,List.length_set]
theorem xIk (S:List Bs) (A B:List Wr):xCf S (A++B)=xCf (xCf S A) B:=by unfold xCf;rw[List.foldl_append]
theorem xGh (C:List Wr) (S:List Bs):∀k,k<=C.length->tL (λ_=>true) C S k=xCf S (C.take k)
 |0,_=>rfl
 |k+1,h=>by
  unfold tL;rw[if_pos rfl,xGh C S k ω,List.take_add_one,List.getElem?_eq_getElem ω,xIk];show _=xSq _ _;rw[wrD,List.getD_eq_getElem?_getD,List.getElem?_eq_getElem ω]
  rfl
theorem xK5 {d:Dk} (h:zM d=true):zH d=⟨xCf d.secs d.cache,[]⟩:=by
 unfold zH;rw[if_pos h,xGh _ _ _ ν,List.take_length]
theorem xJg {d:Dk}:zM d=true↔1<=d.secs.length/\d.secs.length<=1024/\(∀s∈d.secs,s.length=64)/\∀x∈d.cache,xAi x d.secs.length=true:=by
 unfold zM;simp only[Bool.and_eq_true,decide_eq_true_eq,List.all_eq_true,and_assoc]
theorem xYc {x:Wr} {n:Nat}:xAi x n=true↔0<=x.at_/\x.at_<n/\x.data.length=64:=by
 unfold xAi;simp only[Bool.and_eq_true,decide_eq_true_eq,and_assoc]
theorem xKh:∀(C:List Wr) (S:List Bs),(∀s∈S,s.length=64)->(∀x∈C,x.data.length=64)->∀s∈xCf S C,s.length=64
 |[],_,h,_=>h
 |x::C,S,h,hc=>by
  refine xKh C (xSq S x) (λs hs=>?_) (λy hy=>hc y (List.mem_cons_of_mem _ hy));rcases List.mem_or_eq_of_mem_set hs with hs|rfl
  ·exact h s hs
  ·exact hc x (List.mem_cons_self ..)
theorem xHp {d:Dk} (h:zM d=true):zM (zH d)=true:=by
 rw[xK5 h];rw[xJg] at h⊢;obtain⟨h1,h2,h3,h4⟩:=h;refine⟨by rw[xAf];exact h1,by rw[xAf];exact h2,xKh _ _ h3 (λx hx=>(xYc.1 (h4 x hx)).2.2),σ⟩
theorem xQc {d:Dk} (h:zM d=true):(zH d).secs.length=d.secs.length:=by rw[xK5 h,xAf]
theorem xA7 {α:Type} (p:α->Bool):∀(l:List α),(kQ p l=-1/\∀x∈l,p x=false)∨∃(i:Nat) (x:α),kQ p l=i/\l[i]?=some x/\p x=true/\∀(j:Nat) y,j<i->l[j]?=some y->p y=false
 |[]=>.inl ⟨rfl,σ⟩
 |x::l=>by
  unfold kQ;cases hx:p x with
  |true=>exact .inr ⟨0,x,σ,rfl,hx,λj y hj=>by omega⟩
  |false=>
   rw[if_neg σ];rcases xA7 p l with ⟨h,ha⟩|⟨i,y,h,h1,h2,h3⟩
   ·refine .inl ⟨by rw[h];rfl,λz hz=>?_⟩;rcases List.mem_cons.1 hz with rfl|hz
    ·exact hx
    ·exact ha z hz
   ·refine .inr ⟨i+1,y,by rw[h,if_neg ω];rfl,by simpa using h1,h2,λj z hj hz=>?_⟩;cases j with
    |zero=>simp at hz;subst hz;exact hx
    |succ j=>exact h3 j z ω (by simpa using hz)
theorem yBm {α:Type} {p:α->Bool} {l:List α} {i:Nat} {x:α} (h1:l[i]?=some x) (h2:p x=true) (h3:∀(j:Nat) y,j<i->l[j]?=some y->p y=false):kQ p l=i:=by
 rcases xA7 p l with ⟨_,ha⟩|⟨k,y,h,k1,k2,k3⟩
 ·rw[ha x (List.mem_of_getElem? h1)] at h2;cases h2
 ·rw[h];rcases Nat.lt_trichotomy k i with hlt|rfl|hlt
  ·rw[h3 k y hlt k1] at k2;cases k2
  ·rfl
  ·rw[k3 i x hlt h1] at h2;cases h2
theorem xK2 {α:Type} {p:α->Bool} {l:List α} (h:∀x∈l,p x=false):kQ p l=-1:=by
 rcases xA7 p l with ⟨h1,_⟩|⟨k,y,_,k1,k2,_⟩
 ·exact h1
 ·rw[h y (List.mem_of_getElem? k1)] at k2;cases k2
structure xOt (t:Slot):Prop where
 cls:t.cls<=1
 blk:t.blk<kL t.cls
 size:t.size<=xRc t.cls
 n1:1<=t.name.length
 n2:t.name.length<=24
theorem xVg (c:Nat):xRc c<=1024:=by unfold xRc;split<;>omega
theorem xH3 (c:Nat):kL c<=24:=by unfold kL;split<;>omega
theorem xYi {t:Slot} (h:t.used=true->t.name.length<=58):(xUz t).length=64:=by
 unfold xUz xZc;split
 ·rename_i hu
  have:=h hu;have e:(xX3 t).length=6+t.name.length:=by simp[xX3];omega
  rw[List.length_append,yS];omega
 ·simp[xO]
theorem xV4 (s:Bs):xOg s=noSlot∨(xOg s).used=true/\xOt (xOg s):=by
 unfold xOg;split
 ·rename_i h
  split
  ·rename_i h2
   right
   unfold xNg at h;simp only[Bool.and_eq_true,decide_eq_true_eq] at h;obtain⟨⟨⟨⟨⟨h0,h1⟩,h3⟩,h4⟩,h5⟩,h6⟩:=h
   have hlen:s.length=64∨(jY s).name.length>58:=by
    by_cases hx:(jY s).name.length<=58
    ·left
     rw[h2];exact xYi (λ_=>hx)
    ·right;omega
   have hnl:(jY s).name.length<=bN s 5:=by simp[jY];omega
   have h64:s.length=64:=by rcases hlen with h|h;exact h;omega
   have hn:(jY s).name.length=bN s 5:=by simp[jY,h64];omega
   exact⟨rfl,⟨h1,h3,h4,ω,ω⟩⟩
  ·exact .inl rfl
 ·exact .inl rfl
theorem xCn (S:List Bs) (k:Nat):(zV S)[k]?=if k<32 then(S[61+k]?).map xOg else none:=by
 unfold zV;rw[List.getElem?_map,List.getElem?_take];split
 ·rw[List.getElem?_drop]
 ·rfl
theorem tJ {S:List Bs} (h:S.length=381):(zV S).length=32:=by simp[zV,h]
theorem xYe {c b:Nat} (h:b<kL c):tQ c b+countP c<=381:=by
 unfold tQ countP;unfold kL at h;split<;>simp_all<;>omega
theorem yCb {c:Nat} (h:c<=1):xRc c=countP c*64:=by
 unfold xRc countP;rcases(show c=0∨c=1 by omega) with rfl|rfl<;>rfl
theorem xGj {n:Bs} {t:Slot}:xD3 n t=true↔t.used=true/\t.name=n:=by simp[xD3]
theorem xQe (l:List Slot) (n:Bs):(xEw l n=-1/\∀t∈l,t.used=true->t.name≠n)∨∃(i:Nat) (t:Slot),xEw l n=i/\l[i]?=some t/\t.used=true/\t.name=n/\i<l.length:=by
 rcases xA7 (xD3 n) l with ⟨h,ha⟩|⟨i,t,h,h1,h2,_⟩
 ·refine .inl ⟨h,λt ht hu he=>?_⟩;have:=ha t ht;rw[xGj.2 ⟨hu,he⟩] at this;cases this
 ·obtain⟨a,b⟩:=xGj.1 h2;exact .inr ⟨i,t,h,h1,a,b,(List.getElem?_eq_some_iff.1 h1).1⟩
theorem xPa {l:List Slot} {i:Nat} {t:Slot} (h:l[i]?=some t):xGa l (i:Int)=t:=by
 unfold xGa;rw[List.getD_eq_getElem?_getD,Int.toNat_natCast,h]
 rfl
theorem yB2 (z:Int):oct (z % 256)=oct z:=by
 unfold oct;rw[Int.emod_emod_of_dvd z (by omega:(256:Int) ∣ 256)]
end Mailsack
namespace Go.Proofs.ST
open Go.RowKit Mailsack MM BB SH SV RK DS
abbrev xKt (t:Slot):List Value:=[.bool t.used,.int .i64 t.cls,.int .i64 t.blk,.int .i64 t.size,xK t.name]
theorem jI (t:Slot):(xKt t).length=5:=rfl
theorem sloF_one (x:Slot):∀u∈xKt x,u.oneCell'=true:=by
 intro u hu;simp only[xKt,List.mem_cons,List.not_mem_nil,or_false] at hu;rcases hu with rfl|rfl|rfl|rfl|rfl<;>rfl
abbrev xLi (t:Slot):Value:=.agg #[.bool t.used,.int .i64 t.cls,.int .i64 t.blk,.int .i64 t.size,xK t.name]
abbrev xFe (t:Slot):Obj:=.cells #[.bool t.used,.int .i64 t.cls,.int .i64 t.blk,.int .i64 t.size,xK t.name] 165
theorem yBk:(prog.info? 165).map (λi=>(i.zero,i.size,i.bytes))=some (some (.agg #[.bool false,.int .i64 0,.int .i64 0,.int .i64 0,.string ⟨#[]⟩]),5,48):=κ
theorem xV8 (l:List Int) (hl:∀x∈l,0<=x/\x<256) (g:Nat) (W:World) (hb:W.heap[g]?=some (.cells (l.map (Value.int .u8)).toArray 5 (0,0))):(convert 125 9 (.slice (some ⟨g,0,none⟩) l.length l.length)).run prog W=.ok (.string (bsA (l.map oct))) W:=by
 have:=run_convert_bytes_back (P:=prog) W 125 9 5 ⟨g,0,none⟩ l.length (l.map oct) underlying125 underlying5 underlying9 (λj hj=>by
  have hj2:j<l.length:=by simpa using hj
  have ha:(⟨g,0,none⟩:Addr).add j=⟨g,j,none⟩:=by unfold Addr.add;split<;>simp_all
  rw[ha,xA hb];have h1:=hl l[j] (List.getElem_mem hj2);have h2:=xAy l[j];simp[hj2];omega)
 rw[List.length_map] at this;exact this
theorem xQw (c:Nat) (w:World):Calls prog 174 #[.int .i64 c] w λe w'=>e=.returned (.int .i64 (kL c))/\w'=w:=by
 by_cases h:c=0
 ·subst h;go_enter func174,ntmps174;go_wp2;go_ret;exact⟨rfl,rfl⟩
 ·have h1:¬((c:Int)=0):=ω;have h2:((c:Int)==0)=false:=by simpa using h1
  have H:Hid (kL c=12):=ι (by unfold kL;rw[if_neg h]);clear h;go_enter func174,ntmps174;go_wp2;go_ret;exact⟨by rw[H.o];rfl,rfl⟩
theorem xKe (c:Nat) (w:World):Calls prog 240 #[.int .i64 c] w λe w'=>e=.returned (.int .i64 (xRc c))/\w'=w:=by
 by_cases h:c=0
 ·subst h;go_enter func240,ntmps240;go_wp2;go_ret;exact⟨rfl,rfl⟩
 ·have h1:¬((c:Int)=0):=ω;have h2:((c:Int)==0)=false:=by simpa using h1
  have H:Hid (xRc c=1024):=ι (by unfold xRc;rw[if_neg h]);clear h;go_enter func240,ntmps240;go_wp2;go_ret;exact⟨by rw[H.o];rfl,rfl⟩
theorem xLm (c b:Nat) (w:World) (hb:b<=10000):Calls prog 76 #[.int .i64 c,.int .i64 b] w λe w'=>e=.returned (.tuple #[.int .i64 (tQ c b),.int .i64 (countP c)])/\w'=w:=by
 by_cases h:c=0
 ·subst h;have H:Hid ((tQ 0 b:Nat)=(93:Int)+b*4/\countP 0=4):=ι ⟨by unfold tQ;rw[if_pos rfl];omega,rfl⟩;go_enter func76,ntmps76;go_wp2;go_ret2;exact⟨by rw[H.o.1,H.o.2];rfl,rfl⟩
 ·have h1:¬((c:Int)=0):=ω;have h2:((c:Int)==0)=false:=by simpa using h1
  have H:Hid ((tQ c b:Nat)=(189:Int)+b*16/\countP c=16):=ι ⟨by unfold tQ;rw[if_neg h];omega,by unfold countP;rw[if_neg h]⟩;clear h;go_enter func76,ntmps76;go_wp2;go_ret2;exact⟨by rw[H.o.1,H.o.2];rfl,rfl⟩
theorem xQk (t:Slot) (w:World) (hc:t.cls<=255) (hb:t.blk<=255) (hs:t.size<=65535) (hn:t.name.length<=255):Calls prog 241 #[xLi t] w λe w'=>e=.returned (xK (xUz t))/\ψ w w':=by
 obtain⟨u,c,b,s,n⟩:=t;simp only at hc hb hs hn;have HB0:=ι (φ w (xFe ⟨u,c,b,s,n⟩));have hbk:=xI w (xFe ⟨u,c,b,s,n⟩);obtain⟨x0,x1,x2,x3,x4⟩:=cbl5 hbk;cases u with
 |false=>
  have HP:=ι (λW=>xT2 ⟨#[]⟩ 64 W ω (by show 0<=_;omega));clear hbk;have HE:Hid (xUz ⟨false,c,b,s,n⟩=xZc (⟨#[]⟩:ByteArray).data.toList 64):=ι rfl;obtain⟨ev,hev⟩:∃ev,xUz ⟨false,c,b,s,n⟩=ev:=⟨_,rfl⟩;rw[hev] at HE⊢;rw[<-HE.o] at HP;clear hev HE;go_enter func241,ntmps241
  go_wp2_with fail
  refine(HP.o _).mono ?_;rintro e w1 ⟨rfl,hb1⟩;have HB:=ι (HB0.o.trans (hb1.mono HB0.o.size));clear hb1 HB0 HP;go_wp2;go_ret;exact⟨rfl,HB.o⟩
 |true=>
  have m1:(c:Int) % 256=c:=ω;have m2:(b:Int) % 256=b:=ω;have m5:(n.length:Int) % 256=n.length:=ω;clear hbk;obtain⟨ev,hev⟩:∃ev,xUz ⟨true,c,b,s,n⟩=ev:=⟨_,rfl⟩;rw[hev];have HEV:=ι hev;clear hev;go_enter func241,ntmps241;go_upto_region 4 with fail
  have HCV:=ι (xV8 [1,(c:Int),(b:Int),(s:Int) % 256,(s:Int) / 256,(n.length:Int)] (by
   intro x hx;simp only[List.mem_cons,List.not_mem_nil,or_false] at hx
   rcases hx with rfl|rfl|rfl|rfl|rfl|rfl<;>omega) (w.heap.size+1) ((w.alloc (xFe ⟨true,c,b,s,n⟩)).alloc (.cells #[.int .u8 1,.int .u8 c,.int .u8 b,.int .u8 ((s:Int) % 256),.int .u8 ((s:Int) / 256),.int .u8 (n.length:Int)] 5)) (zD _ _ _))
  obtain⟨h6,hh6⟩:∃h6,bsA ([1,(c:Int),(b:Int),(s:Int) % 256,(s:Int) / 256,(n.length:Int)].map oct)=h6:=⟨_,rfl⟩;have hsz:h6.size=6:=by rw[<-hh6,uS];rfl
  rw[hh6] at HCV;have HBB:=ι (HB0.o.alloc HB0.o.size (.cells #[.int .u8 1,.int .u8 c,.int .u8 b,.int .u8 ((s:Int) % 256),.int .u8 ((s:Int) / 256),.int .u8 (n.length:Int)] 5))
  have hb4:=xM (xI w (xFe ⟨true,c,b,s,n⟩)) (.cells #[.int .u8 1,.int .u8 c,.int .u8 b,.int .u8 ((s:Int) % 256),.int .u8 ((s:Int) / 256),.int .u8 (n.length:Int)] 5);have y4:=xA hb4 4;simp only[gA,gB,gC] at y4;obtain⟨nb,hnb⟩:∃nb:ByteArray,(⟨n.toArray⟩:ByteArray)=nb:=⟨_,rfl⟩
  have hns:nb.size=n.length:=by rw[<-hnb];rfl
  have HP:=ι (λW=>xT2 (h6++nb) 64 W ω (by rw[ByteArray.size_append];omega))
  have HE:Hid (xZc (h6++nb).data.toList 64=ev):=ι (by
   rw[<-HEV.o,<-hh6,<-hnb];unfold xUz;rw[if_pos rfl]
   congr 1
   unfold xX3;rw[ByteArray.data_append];simp[bsA,yB2]
   rfl)
  rw[HE.o] at HP;have nb1:¬(9223372036854775807<h6.size+nb.size):=ω;rw[show xK n=.string nb from by rw[<-hnb]] at y4;have hcv:=HCV.o;clear hh6 HEV HB0 x0 x1 x2 x3 x4 hb4 hns HCV m1 m2 m5 hc hb hs hn HE;simp only[List.length_cons,List.length_nil,Nat.zero_add,Nat.reduceAdd] at hcv
  generalize (w.alloc (xFe ⟨true,c,b,s,n⟩)).alloc (.cells #[.int .u8 1,.int .u8 c,.int .u8 b,.int .u8 ((s:Int) % 256),.int .u8 ((s:Int) / 256),.int .u8 (n.length:Int)] 5)=w2 at hcv y4 HBB⊢;go_wp2_with fail
  refine(HP.o _).mono ?_;rintro e w1 ⟨rfl,hb1⟩;have HB:=ι (HBB.o.trans (hb1.mono HBB.o.size));clear hb1 HBB HP hcv y4;go_wp2;go_ret;exact⟨rfl,HB.o⟩
end Go.Proofs.ST