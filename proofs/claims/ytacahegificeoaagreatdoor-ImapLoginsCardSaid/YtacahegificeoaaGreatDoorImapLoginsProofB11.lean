/- Contracts of functions. Conditions: as stated. -/
import Derived.Test.YtacahegificeoaaGreatDoorImapLoginsProofB10
set_option maxHeartbeats 8000000
set_option maxRecDepth 100000
namespace Mailsack
def xGg (xs:List Int):List Int:=pW (pW (pW (pW (pW (pW (pW (pW (xs) 0 4 8 12) 1 5 9 13) 2 6 10 14) 3 7 11 15) 0 5 10 15) 1 6 11 12) 2 7 8 13) 3 4 9 14
theorem xOm (xs:List Int):(xGg xs).length=16:=jZ _ _ _ _ _
theorem xXx {xs:List Int} (h:jG xs):jG (xGg xs):=jD (jD (jD (jD (jD (jD (jD (jD h _ _ _ _) _ _ _ _) _ _ _ _) _ _ _ _) _ _ _ _) _ _ _ _) _ _ _ _) _ _ _ _
def jN (ws:List Int):Nat->List Int
 |0=>ws
 |k+1=>xGg (jN ws k)
theorem xMa {ws:List Int} (h:ws.length=16):∀k,(jN ws k).length=16
 |0=>h
 |_+1=>xOm _
theorem xIb {ws:List Int} (h:jG ws):∀k,jG (jN ws k)
 |0=>h
 |k+1=>xXx (xIb h k)
def xYy (l:Bs) (i:Nat) (x:Int):Nat->Bs
 |0=>l
 |j+1=>(xYy l i x j).set (4*i+j) (oct (x / 2^(8*j)))
def xTx (ws xs:List Int):Nat->Bs
 |0=>xQ 64
 |i+1=>xYy (xTx ws xs i) i ((xs.getD i 0+ws.getD i 0) % 4294967296) 4
def xA7 (ws:List Int):Bs:=xTx ws (jN ws 10) 16
theorem xJ6 (l:Bs) (i:Nat) (x:Int):∀j,(xYy l i x j).length=l.length
 |0=>rfl
 |j+1=>by simp[xYy,xJ6 l i x j]
theorem xF6 (ws xs:List Int):∀i,(xTx ws xs i).length=64
 |0=>zC 64
 |i+1=>by unfold xTx;rw[xJ6,xF6 ws xs i]
theorem xC8 (ws:List Int):(xA7 ws).length=64:=xF6 _ _ _
end Mailsack
namespace Go.Proofs.SH
open Go.RowKit Mailsack MM BB
structure FnI (w:World) (ws xs:List Int) (W:World):Prop where
 b1:W.heap[w.heap.size]?=some (.cells (yY ws) 234 (0,0))
 b2:W.heap[w.heap.size+1]?=some (.cells (yJ (xQ 64)) 237 (0,0))
 b3:W.heap[w.heap.size+2]?=some (.cells (yY xs) 234 (0,0))
 bel:Below w.heap.size w W
theorem FnI.turned {w:World} {ws xs ys:List Int} {W W':World} (h:FnI w ws xs W) (hst:W'.heap[w.heap.size+2]?=some (.cells (yY ys) 234 (0,0))) (hg:W.grownBy W' (some (w.heap.size+2))):FnI w ws ys W':=
 ⟨wG h.b1 hg σ,wG h.b2 hg σ,hst,h.bel.grown hg h.bel.size (λk hk=>by injection hk with hk;omega)⟩
theorem xI8 (ws:List Int) (w:World) (hl:ws.length=16) (hu:jG ws):
  Calls Tryz.prog 168 #[.agg (yY ws)] w λe w'=>e=.returned (.agg (yJ (xA7 ws)))/\Below w.heap.size w w':=by
 have HL:=ι (λk=>xMa hl k);have HU:=ι (λk=>xIb hu k);have HI:Hid ((Tryz.prog.info? 234).map (·.size)=some (yY ws).size):=ι (by rw[zA,hl];kernel_rfl);have HZ:Hid ((yY (List.replicate 16 0)).size=(yY ws).size):=ι (by rw[zA,zA,hl,List.length_replicate])
 have HB:Hid (FnI w ws (jN ws 0) ((((w.alloc (.cells (yY ws) 234)).alloc (.cells (yJ (xQ 64)) 237)).alloc (.cells (yY (List.replicate 16 0)) 234)).setRow (w.heap.size+1+1) (yY ws))):=ι (by
  have h0:=xL ((w.alloc (.cells (yY ws) 234)).alloc (.cells (yJ (xQ 64)) 237)) (.cells (yY (List.replicate 16 0)) 234);simp only[uX] at h0;refine⟨?_,?_,setRow_heap _ _ _ _ _ _ h0,below_setRow ((((Below.refl w.heap.size w).alloc ν _).alloc σ _).alloc (by simp;omega) _) ω _⟩
  ·rw[setRow_other _ _ _ _ ω];exact xK (zG _ _ _) _
  ·rw[setRow_other _ _ _ _ ω];exact xK (yX _ _ _) _)
 have HDS:Hid (∀k,jN ws (k+1)=xGg (jN ws k)):=ι (λk=>rfl);go_enter Tryz.func168,Tryz.ntmps168;go_upto_region 1 with fail
 refine wp_region_lit ?_;refine wpList_load_row rfl _ _ rfl w.heap.size rfl _ (yY ws) (0,0) _ (zG _ _ _) Tryz.underlying234 rfl HI.o ?_;iterate 3 go_step
 refine wpList_store_row rfl _ _ _ rfl (w.heap.size+1+1) (yY ws) rfl rfl _ (yY (List.replicate 16 0)) (by have h:=xL ((w.alloc (.cells (yY ws) 234)).alloc (.cells (yJ (xQ 64)) 237)) (.cells (yY (List.replicate 16 0)) 234);simp only[uX] at h;exact h) HI.o HZ.o (tT ws) ?_
 refine(λ(h:∀W3,Hid (FnI w ws (jN ws 0) W3)->wpList _ _ _ _ _ W3)=>h _ HB) ?_;intro w3 hw3;clear HB HZ;go_wp2_with fail
 go_loopw [9] (λiv wr=>∃k:Nat,k<=10/\iv=.int .i64 k/\Hid (FnI w ws (jN ws k) wr)) (λiv _=>10- (intOf iv).toNat)
 case atStart=>exact⟨0,δ,rfl,hw3⟩
 case round=>
  obtain⟨k,hk,rfl,hr0⟩:=hrel;clear hw3
  by_cases hlt:k<10
  ·have hl0:=HL.o k;have hu0:=HU.o k;have HD:=HDS.o k;generalize jN ws k=x0 at hr0 hl0 hu0 HD;unfold xGg at HD
   rename World=>wr0
   go_wp2_with fail
   refine(tK x0 (w.heap.size+2) 0 4 8 12 wr0 hr0.o.b3 hl0 hu0 δ δ δ δ δ).mono ?_;rintro e wr1 ⟨rfl,hst,hgr⟩;obtain⟨x1,hx1⟩:∃x,pW x0 0 4 8 12=x:=⟨_,rfl⟩;have hl1:x1.length=16:=hx1▸jZ _ _ _ _ _;have hu1:jG x1:=hx1▸jD hu0 _ _ _ _;rw[hx1] at hst HD
   have hr1:=ι (hr0.o.turned hst hgr);clear hst hgr hx1 hr0 hl0 hu0;go_wp2_with fail
   refine(tK x1 (w.heap.size+2) 1 5 9 13 wr1 hr1.o.b3 hl1 hu1 δ δ δ δ δ).mono ?_;rintro e wr2 ⟨rfl,hst,hgr⟩;obtain⟨x2,hx2⟩:∃x,pW x1 1 5 9 13=x:=⟨_,rfl⟩;have hl2:x2.length=16:=hx2▸jZ _ _ _ _ _;have hu2:jG x2:=hx2▸jD hu1 _ _ _ _;rw[hx2] at hst HD
   have hr2:=ι (hr1.o.turned hst hgr);clear hst hgr hx2 hr1 hl1 hu1;go_wp2_with fail
   refine(tK x2 (w.heap.size+2) 2 6 10 14 wr2 hr2.o.b3 hl2 hu2 δ δ δ δ δ).mono ?_;rintro e wr3 ⟨rfl,hst,hgr⟩;obtain⟨x3,hx3⟩:∃x,pW x2 2 6 10 14=x:=⟨_,rfl⟩;have hl3:x3.length=16:=hx3▸jZ _ _ _ _ _;have hu3:jG x3:=hx3▸jD hu2 _ _ _ _;rw[hx3] at hst HD
   have hr3:=ι (hr2.o.turned hst hgr);clear hst hgr hx3 hr2 hl2 hu2;go_wp2_with fail
   refine(tK x3 (w.heap.size+2) 3 7 11 15 wr3 hr3.o.b3 hl3 hu3 δ δ δ δ δ).mono ?_;rintro e wr4 ⟨rfl,hst,hgr⟩;obtain⟨x4,hx4⟩:∃x,pW x3 3 7 11 15=x:=⟨_,rfl⟩;have hl4:x4.length=16:=hx4▸jZ _ _ _ _ _;have hu4:jG x4:=hx4▸jD hu3 _ _ _ _;rw[hx4] at hst HD
   have hr4:=ι (hr3.o.turned hst hgr);clear hst hgr hx4 hr3 hl3 hu3;go_wp2_with fail
   refine(tK x4 (w.heap.size+2) 0 5 10 15 wr4 hr4.o.b3 hl4 hu4 δ δ δ δ δ).mono ?_;rintro e wr5 ⟨rfl,hst,hgr⟩;obtain⟨x5,hx5⟩:∃x,pW x4 0 5 10 15=x:=⟨_,rfl⟩;have hl5:x5.length=16:=hx5▸jZ _ _ _ _ _;have hu5:jG x5:=hx5▸jD hu4 _ _ _ _;rw[hx5] at hst HD
   have hr5:=ι (hr4.o.turned hst hgr);clear hst hgr hx5 hr4 hl4 hu4;go_wp2_with fail
   refine(tK x5 (w.heap.size+2) 1 6 11 12 wr5 hr5.o.b3 hl5 hu5 δ δ δ δ δ).mono ?_;rintro e wr6 ⟨rfl,hst,hgr⟩;obtain⟨x6,hx6⟩:∃x,pW x5 1 6 11 12=x:=⟨_,rfl⟩;have hl6:x6.length=16:=hx6▸jZ _ _ _ _ _;have hu6:jG x6:=hx6▸jD hu5 _ _ _ _;rw[hx6] at hst HD
   have hr6:=ι (hr5.o.turned hst hgr);clear hst hgr hx6 hr5 hl5 hu5;go_wp2_with fail
   refine(tK x6 (w.heap.size+2) 2 7 8 13 wr6 hr6.o.b3 hl6 hu6 δ δ δ δ δ).mono ?_;rintro e wr7 ⟨rfl,hst,hgr⟩;obtain⟨x7,hx7⟩:∃x,pW x6 2 7 8 13=x:=⟨_,rfl⟩;have hl7:x7.length=16:=hx7▸jZ _ _ _ _ _;have hu7:jG x7:=hx7▸jD hu6 _ _ _ _;rw[hx7] at hst HD
   have hr7:=ι (hr6.o.turned hst hgr);clear hst hgr hx7 hr6 hl6 hu6;go_wp2_with fail
   refine(tK x7 (w.heap.size+2) 3 4 9 14 wr7 hr7.o.b3 hl7 hu7 δ δ δ δ δ).mono ?_;rintro e wr8 ⟨rfl,hst,hgr⟩;obtain⟨x8,hx8⟩:∃x,pW x7 3 4 9 14=x:=⟨_,rfl⟩;have hl8:x8.length=16:=hx8▸jZ _ _ _ _ _;have hu8:jG x8:=hx8▸jD hu7 _ _ _ _;rw[hx8] at hst HD
   have hr8:=ι (hr7.o.turned hst hgr);clear hst hgr hx8 hr7 hl7 hu7;have HDk:=ι HD;clear HD hl8 hu8;go_wp2;exact⟨⟨k+1,ω,by go_num,ι (by rw[HDk.o];exact hr8.o)⟩,by simp[intOf];omega⟩
  ·have hke:k=10:=by omega
   have HPk:Hid (∀m,m=16->xA7 ws=xTx ws (jN ws k) m):=ι (λm hm=>by rw[hke,hm];rfl);have hxl:=HL.o k;have hxu:=HU.o k;have hneg:¬((k:Int)<10):=by omega
   generalize jN ws k=xs at hr0 HPk hxl hxu;have HXU:=ι hxu;have HWU:=ι hu;have HIx:Hid ((Tryz.prog.info? 234).map (·.size)=some (yY xs).size):=ι (by rw[zA,hxl];kernel_rfl)
   have HO:Hid (FnI w ws xs (wr.alloc (.cells (yJ (xQ 64)) 237))/\(wr.alloc (.cells (yJ (xQ 64)) 237)).heap[wr.heap.size]?=some (.cells (yJ (xTx ws xs 0)) 237 (0,0))):=ι ⟨⟨xK hr0.o.b1 _,xK hr0.o.b2 _,xK hr0.o.b3 _,hr0.o.bel.alloc hr0.o.bel.size _⟩,xL _ _⟩
   have HG:Hid (w.heap.size+2<wr.heap.size):=ι (xG hr0.o.b3);have HB3:=ι (xK hr0.o.b3 (.cells (yJ (xQ 64)) 237));clear HL HU HDS hke hlt hk hxu hu hr0;go_upto_region 14 with fail
   refine wp_region_lit ?_;refine wpList_load_row rfl _ _ rfl (w.heap.size+1+1) rfl _ (yY xs) (0,0) _ HB3.o Tryz.underlying234 rfl HIx.o ?_;refine(λ(h:∀W3,Hid (FnI w ws xs W3/\W3.heap[wr.heap.size]?=some (.cells (yJ (xTx ws xs 0)) 237 (0,0)))->wpList _ _ _ _ _ W3)=>h _ HO) ?_
   intro w4 hw4;generalize wr.heap.size=g4 at HG hw4⊢;clear HO HB3 hneg;go_wp2_with fail
   go_loopw [21] (λiv W=>∃i:Nat,i<=16/\iv=.int .i64 i/\Hid (FnI w ws xs W/\W.heap[g4]?=some (.cells (yJ (xTx ws xs i)) 237 (0,0)))) (λiv _=>16- (intOf iv).toNat)
   case atStart=>exact⟨0,δ,rfl,hw4⟩
   case round=>
    clear hw4
    rename World=>wi
    obtain⟨i,hi,rfl,hr⟩:=hrel
    by_cases hlt:i<16
    ·have HOS:Hid (∀m,m=4->xTx ws xs (i+1)=xYy (xTx ws xs i) i ((xs.getD i 0+ws.getD i 0) % 4294967296) m):=ι (λm hm=>by rw[hm];rfl);have HOL:=ι (xF6 ws xs i);have HJL:=ι (λ(l:Bs) (x:Int) (j:Nat)=>xJ6 l i x j);obtain⟨x,hx⟩:∃x,xs.getD i 0=x:=⟨_,rfl⟩
     obtain⟨s,hs⟩:∃s,ws.getD i 0=s:=⟨_,rfl⟩;have ux:=HXU.o i;have us:=HWU.o i;rw[hx] at ux HOS;rw[hs] at us HOS;have ix:=λW=>wQ (P:=Tryz.prog) Tryz.underlying234 Tryz.underlying143 κ (yY xs) (.int .u32 x) i hlt (by rw[uO ω,hx]) W
     have q0:wi.cell? ⟨w.heap.size,i,none⟩=some (.int .u32 s):=by rw[xA hr.o.1.b1,uO ω,hs]
     obtain⟨x0,x1⟩:=ux;obtain⟨s0,s1⟩:=us;clear hx hs;generalize xTx ws xs i=acc at hr HOS HOL;go_upto_region 18 with fail
     clear ix q0;have hz:=wC (x+s);generalize (x+s) % 4294967296=z at HOS hz⊢;obtain⟨z0,z1⟩:=hz;clear x0 x1 s0 s1;go_wp2_with fail
     go_loopw [30] (λjv W=>∃j:Nat,j<=4/\jv=.int .i64 j/\Hid (FnI w ws xs W/\W.heap[g4]?=some (.cells (yJ (xYy acc i z j)) 237 (0,0)))) (λjv _=>4- (intOf jv).toNat)
     case atStart=>exact⟨0,δ,rfl,hr⟩
     case round=>
      clear hr
      rename World=>wj
      obtain⟨j,hj,rfl,hr⟩:=hrel
      by_cases hlt2:j<4
      ·have HJS:Hid (xYy acc i z (j+1)=(xYy acc i z j).set (4*i+j) (oct (z / 2^(8*j)))):=ι rfl;have HJk:=HJL.o acc z j;generalize xYy acc i z j=l at hr HJS HJk;have q1:=xA hr.o.2 (4*i+j);rw[qN (by rw[HJk,HOL.o];omega)] at q1;have q2:=xC hr.o.2 (4*i+j)
       generalize ((l.getD (4*i+j) 0).toNat:Int)=old at q1
       have hp:Hid (FnI w ws xs (wj.setCell ⟨g4,4*i+j,none⟩ (.int .u8 (z / 2^(8*j) % 256)))/\(wj.setCell ⟨g4,4*i+j,none⟩ (.int .u8 (z / 2^(8*j) % 256))).heap[g4]?=some (.cells (yJ (xYy acc i z (j+1))) 237 (0,0))):=ι (by
        have hg:=HG.o;refine⟨⟨yA hr.o.1.b1 (p:=⟨g4,4*i+j,none⟩) (by simp;omega) _,yA hr.o.1.b2 (p:=⟨g4,4*i+j,none⟩) (by simp;omega) _,yA hr.o.1.b3 (p:=⟨g4,4*i+j,none⟩) (by simp;omega) _,hr.o.1.bel.setCell (p:=⟨g4,4*i+j,none⟩) (by simp;omega) _⟩,?_⟩
        have h:=xY hr.o.2 (4*i+j) (.int .u8 (z / 2^(8*j) % 256));rw[xD8] at h;rw[HJS.o];exact h)
       clear hr HJk;go_wp2;exact⟨⟨j+1,ω,by go_num,hp⟩,by simp[intOf];omega⟩
      ·have hje:j=4:=by omega
       have HOk:=ι (HOS.o j hje);have hneg:¬((j:Int)<4):=by omega
       clear HOS hlt2 hj hje;go_wp2;exact⟨⟨i+1,ω,by go_num,ι (by rw[HOk.o];exact hr.o)⟩,by simp[intOf];omega⟩
    ·have hie:i=16:=by omega
     have HPi:=ι (HPk.o i hie);have hol:=xF6 ws xs i;have hneg:¬((i:Int)<16):=by omega
     generalize xTx ws xs i=out at hr HPi hol;have HI8:Hid ((Tryz.prog.info? 237).map (·.size)=some (yJ out).size):=ι (by rw[uZ,hol];kernel_rfl);have HZ8:Hid ((yJ (xQ 64)).size=(yJ out).size):=ι (by rw[uZ,uZ,hol,zC])
     have H18:Hid ((yJ out).all (·.oneCell')=true):=ι (Array.all_eq_true_iff_forall_mem.2 (λv hv=>xJv out v (by simpa using hv)));clear HPk hlt hi hie hol;go_upto_region 24 with fail
     refine wp_region_lit ?_;refine wpList_load_row rfl _ _ rfl g4 rfl _ (yJ out) (0,0) _ hr.o.2 Tryz.underlying237 rfl HI8.o ?_;refine wpList_store_row rfl _ _ _ rfl (w.heap.size+1) (yJ out) rfl rfl _ _ hr.o.1.b2 HI8.o HZ8.o H18.o ?_;go_wp2
     refine bodyPost_ret (results_cell_row rfl _ _ (w.heap.size+1) _ _ (0,0) _ rfl (setRow_heap _ _ _ _ _ _ hr.o.1.b2) Tryz.underlying237 rfl HI8.o) rfl ?_;rw[HPi.o];exact⟨rfl,below_setRow hr.o.1.bel ω _⟩
end Go.Proofs.SH
namespace Mailsack
def xOi:ByteArray:=⟨#[101,120,112,97,110,100,32,51,50,45,98,121,116,101,32,107]⟩
def tZ (key xE:ByteArray) (counter:Int):List Int:=xAy ((xAy (xAy (List.replicate 16 0) 0 xOi 4) 4 key 8).set 12 counter) 13 xE 3
theorem yCv (n:Nat):jG (List.replicate n 0):=by
 intro i;rw[List.getD_eq_getElem?_getD,List.getElem?_replicate];split<;>exact⟨δ,δ⟩
theorem xEa (key xE:ByteArray) (counter:Int):(tZ key xE counter).length=16:=by
 unfold tZ;rw[qE,List.length_set,qE,qE,List.length_replicate]
theorem xQr (key xE:ByteArray) {counter:Int} (h:U32 counter):jG (tZ key xE counter):=xJs ((xJs (xJs (yCv 16) _ _ _) _ _ _).set 12 h) _ _ _
end Mailsack
namespace Go.Proofs.SH
open Go.RowKit Mailsack MM BB
theorem results_cell_tmp {P:Program} {fn:Func} {p u:Tmp} {ty:TypeId} (h:fn.results=#[.cell p ty,.tmp u]) (tmps:Array Value) (w:World) (g:Nat) (t:TypeId) (cs:Array Value) (fr:Nat×Nat) (d:TypeDesc)
  (hp:tmps.getD p undef=.pointer (some ⟨g,0,none⟩)) (hg:w.heap[g]?=some (.cells cs t fr))
  (hu:P.underlying ty=some d) (hd:(match d with|.struct _|.array _ _=>true|_=>false)=true) (hi:(P.info? ty).map (·.size)=some cs.size):
  (results fn tmps).run P w=.ok (.tuple #[.agg cs,tmps.getD u undef]) w:=by
 have hp':tmps[p]?.getD undef=.pointer (some ⟨g,0,none⟩):=by simpa using hp
 simp[results,h,hp',asAddr,run_loadVar_row w g t ty cs fr d hg hu hd hi]
structure BegI (w:World) (xs:List Int) (W:World):Prop where
 res:W.heap[w.heap.size]?=some (.cells (yY (List.replicate 16 0)) 234 (0,0))
 st:W.heap[w.heap.size+1]?=some (.cells (yY xs) 234 (0,0))
 bel:Below w.heap.size w W
theorem BegI.filled {w:World} {xs ys:List Int} {W W':World} (h:BegI w xs W) (hst:W'.heap[w.heap.size+1]?=some (.cells (yY ys) 234 (0,0))) (hg:W.grownBy W' (some (w.heap.size+1))):BegI w ys W':=
 ⟨wG h.res hg σ,hst,h.bel.grown hg h.bel.size (λk hk=>by injection hk with hk;omega)⟩
theorem xQq (key xE:ByteArray) (counter:Int) (w:World) (hk:key.size=32) (hn:xE.size=12):
  Calls Tryz.prog 167 #[.string key,.string xE,.int .u32 counter] w λe w'=>e=.returned (.tuple #[.agg (yY (tZ key xE counter)),.bool true])/\Below w.heap.size w w':=by
 have HB:Hid (BegI w (List.replicate 16 0) ((w.alloc (.cells (yY (List.replicate 16 0)) 234)).alloc (.cells (yY (List.replicate 16 0)) 234))):=ι ⟨zG _ _ _,yX _ _ _,((Below.refl w.heap.size w).alloc ν _).alloc σ _⟩;obtain⟨x1,hx1⟩:∃x,xAy (List.replicate 16 0) 0 xOi 4=x:=⟨_,rfl⟩
 have hl1:x1.length=16:=by rw[<-hx1,qE,List.length_replicate]
 obtain⟨x2,hx2⟩:∃x,xAy x1 4 key 8=x:=⟨_,rfl⟩;have hl2:x2.length=16:=by rw[<-hx2,qE,hl1]
 obtain⟨x3,hx3⟩:∃x,x2.set 12 counter=x:=⟨_,rfl⟩;have hl3:x3.length=16:=by rw[<-hx3,List.length_set,hl2]
 obtain⟨x4,hx4⟩:∃x,xAy x3 13 xE 3=x:=⟨_,rfl⟩;have hl4:x4.length=16:=by rw[<-hx4,qE,hl3]
 have HP:Hid (tZ key xE counter=x4):=ι (by unfold tZ;rw[hx1,hx2,hx3,hx4]);have F1:=ι (λW h=>tQ (List.replicate 16 0) (w.heap.size+1) 0 4 16 xOi W h σ δ δ);have F2:=ι (λW h=>tQ x1 (w.heap.size+1) 4 8 12 key W h ω ω δ);have F3:=ι (λW h=>tQ x3 (w.heap.size+1) 13 3 3 xE W h ω ω δ)
 rw[hx1] at F1;rw[hx2] at F2;rw[hx4] at F3;have HX3:=ι hx3;have h2:((key.size:Int)!=32)=false:=by simp[hk]
 have h3:((xE.size:Int)!=12)=false:=by simp[hn]
 have HI:Hid ((Tryz.prog.info? 234).map (·.size)=some (yY x4).size):=ι (by rw[zA,hl4];kernel_rfl);have HZ:Hid ((yY (List.replicate 16 0)).size=(yY x4).size):=ι (by rw[zA,zA,hl4,List.length_replicate]);have HL2:=ι hl2;clear hx1 hx2 hx3 hx4 hk hn hl1 hl3 hl4 hl2
 go_enter Tryz.func167,Tryz.ntmps167;go_wp2_with fail
 refine(F1.o _ HB.o.st).mono ?_;rintro e w1 ⟨rfl,hst,hgr⟩;have H1:=ι (HB.o.filled hst hgr);clear hst hgr HB F1 h2 h3;go_wp2_with fail
 refine(F2.o _ H1.o.st).mono ?_;rintro e w2 ⟨rfl,hst,hgr⟩;have H2:=ι (H1.o.filled hst hgr);clear hst hgr H1 F2;have q1:=xA H2.o.st 12;rw[uO (by rw[HL2.o];decide)] at q1;have q2:=xC H2.o.st 12;generalize x2.getD 12 0=old at q1
 have H3:Hid (BegI w x3 (w2.setCell ⟨w.heap.size+1,12,none⟩ (.int .u32 counter))):=ι (by
  refine⟨yA H2.o.res (p:=⟨w.heap.size+1,12,none⟩) σ _,?_,H2.o.bel.setCell (p:=⟨w.heap.size+1,12,none⟩) σ _⟩;have h:=xY H2.o.st 12 (.int .u32 counter);rw[xD7,HX3.o] at h;exact h)
 go_wp2_with fail
 clear q1 q2 H2;refine(F3.o _ H3.o.st).mono ?_;rintro e w4 ⟨rfl,hst,hgr⟩;have H4:=ι (H3.o.filled hst hgr);clear hst hgr H3 F3;go_upto_region 8 with fail
 refine wp_region_lit ?_;refine wpList_load_row rfl _ _ rfl (w.heap.size+1) rfl _ (yY x4) (0,0) _ H4.o.st Tryz.underlying234 rfl HI.o ?_;refine wpList_store_row rfl _ _ _ rfl w.heap.size (yY x4) rfl rfl _ _ H4.o.res HI.o HZ.o (tT x4) ?_;go_wp2
 refine bodyPost_ret (results_cell_tmp rfl _ _ w.heap.size _ _ (0,0) _ rfl (setRow_heap _ _ _ _ _ _ H4.o.res) Tryz.underlying234 rfl HI.o) rfl ?_;rw[HP.o];exact⟨rfl,below_setRow H4.o.bel ν _⟩
end Go.Proofs.SH
namespace Mailsack
def xDn (key xE:ByteArray) (counter:Int):Bs:=xA7 (tZ key xE counter)
end Mailsack
namespace Go.Proofs.SH
open Go.RowKit Mailsack MM BB
theorem xCi {W:World} {g:Nat} {l:Bs} {t:TypeId} (h:W.heap[g]?=some (.cells (yJ l) t (0,0))) (n cap:Nat) (hn:l.length=n):(convert 79 9 (.slice (some ⟨g,0,none⟩) n cap)).run Tryz.prog W=.ok (.string (bsA l)) W:=by
 subst hn
 exact run_convert_bytes_back (P:=Tryz.prog) W 79 9 5 ⟨g,0,none⟩ cap l Tryz.underlying79 Tryz.underlying5 Tryz.underlying9 (λj hj=>by
  have hadd:(⟨g,0,none⟩:Addr).add j=⟨g,j,none⟩:=by unfold Addr.add;split<;>simp_all
  rw[hadd,xA h,qN hj,List.getD_eq_getElem?_getD,List.getElem?_eq_getElem hj]
  rfl)
theorem xOs (key xE:ByteArray) (counter:Int) (w:World) (hk:key.size=32) (hn:xE.size=12) (hc:U32 counter):
  Calls Tryz.prog 163 #[.string key,.string xE,.int .u32 counter] w λe w'=>e=.returned (.tuple #[.string (bsA (xDn key xE counter)),.bool true])/\Below w.heap.size w w':=by
 have HB:=ι (xQq key xE counter w hk hn);have HF:=ι (λW=>xI8 (tZ key xE counter) W (xEa _ _ _) (xQr _ _ hc));have hl:=xEa key xE counter;have HP:Hid (bsA (xDn key xE counter)=bsA (xA7 (tZ key xE counter))):=ι rfl;have HFL:=ι (xC8 (tZ key xE counter))
 generalize tZ key xE counter=xs at HB HF hl HP HFL;generalize xA7 xs=fo at HF HP HFL;have HI:Hid ((Tryz.prog.info? 234).map (·.size)=some (yY xs).size):=ι (by rw[zA,hl];kernel_rfl)
 have HO:Hid ((yY (List.replicate 16 0)).size=(yY xs).size):=ι (by rw[zA,zA,hl,List.length_replicate]);have HI8:Hid ((Tryz.prog.info? 237).map (·.size)=some (yJ fo).size):=ι (by rw[uZ,HFL.o];kernel_rfl);have HO8:Hid ((yJ (xQ 64)).size=(yJ fo).size):=ι (by rw[uZ,uZ,HFL.o,zC])
 have H18:Hid ((yJ fo).all (·.oneCell')=true):=ι (Array.all_eq_true_iff_forall_mem.2 (λv hv=>xJv fo v (by simpa using hv)));have HSZ:Hid ((yY xs).size=16):=ι (by rw[zA,hl]);have HSZ8:Hid ((yJ fo).size=64):=ι (by rw[uZ,HFL.o]);clear hl hk hn hc;go_enter Tryz.func163,Tryz.ntmps163
 go_wp2_with fail
 refine HB.o.mono ?_;rintro e w1 ⟨rfl,hb1⟩;have B1:=ι hb1;clear hb1 HB
 have hst:(storeCells ⟨w1.heap.size,0,none⟩ (yY xs).toList).run Tryz.prog (w1.alloc (.cells #[.int .u32 0,.int .u32 0,.int .u32 0,.int .u32 0,.int .u32 0,.int .u32 0,.int .u32 0,.int .u32 0,.int .u32 0,.int .u32 0,.int .u32 0,.int .u32 0,.int .u32 0,.int .u32 0,.int .u32 0,.int .u32 0] 234))=.ok () (w1.alloc (.cells (yY xs) 234)):=run_storeCells_new w1 _ _ _ HI.o HO.o (tT xs)
 have hsz:=HSZ.o;have B2:=ι (B1.o.alloc B1.o.size (.cells (yY xs) 234));go_upto_region 4 with fail
 clear hst hsz;refine wp_region_lit ?_;refine wpList_load_row rfl _ _ rfl w1.heap.size rfl _ (yY xs) (0,0) _ (xL _ _) Tryz.underlying234 rfl HI.o ?_;go_wp2_with fail
 refine(HF.o _).mono ?_;rintro e w3 ⟨rfl,hb3⟩;have B3:=ι (B2.o.trans (hb3.mono B2.o.size));clear hb3 HF B1 B2
 have hst:(storeCells ⟨w3.heap.size,0,none⟩ (yJ fo).toList).run Tryz.prog (w3.alloc (.cells #[.int .u8 0,.int .u8 0,.int .u8 0,.int .u8 0,.int .u8 0,.int .u8 0,.int .u8 0,.int .u8 0,.int .u8 0,.int .u8 0,.int .u8 0,.int .u8 0,.int .u8 0,.int .u8 0,.int .u8 0,.int .u8 0,.int .u8 0,.int .u8 0,.int .u8 0,.int .u8 0,.int .u8 0,.int .u8 0,.int .u8 0,.int .u8 0,.int .u8 0,.int .u8 0,.int .u8 0,.int .u8 0,.int .u8 0,.int .u8 0,.int .u8 0,.int .u8 0,.int .u8 0,.int .u8 0,.int .u8 0,.int .u8 0,.int .u8 0,.int .u8 0,.int .u8 0,.int .u8 0,.int .u8 0,.int .u8 0,.int .u8 0,.int .u8 0,.int .u8 0,.int .u8 0,.int .u8 0,.int .u8 0,.int .u8 0,.int .u8 0,.int .u8 0,.int .u8 0,.int .u8 0,.int .u8 0,.int .u8 0,.int .u8 0,.int .u8 0,.int .u8 0,.int .u8 0,.int .u8 0,.int .u8 0,.int .u8 0,.int .u8 0,.int .u8 0] 237))=.ok () (w3.alloc (.cells (yJ fo) 237)):=run_storeCells_new w3 _ _ _ HI8.o HO8.o H18.o
 have hsz:=HSZ8.o;have ht:=xCi (xL w3 (.cells (yJ fo) 237)) 64 64 HFL.o;have B4:=ι (B3.o.alloc B3.o.size (.cells (yJ fo) 237));go_wp2;go_ret2;rw[HP.o];exact⟨rfl,B4.o⟩
end Go.Proofs.SH
namespace Mailsack
def U64 (x:Int):Prop:=0<=x/\x<18446744073709551616
theorem zD (op:Go.BinOp) (x y:Int):U64 (Go.bits op .u64 x y):=by
 have h:=Go.wf_bits op .u64 x y;simp[Go.Lit.wf] at h;have e1:Go.IntKind.u64.min=0:=δ;have e2:Go.IntKind.u64.max=18446744073709551615:=δ;unfold U64;omega
theorem xDt (x:Int):U64 (x % 18446744073709551616):=⟨ω,ω⟩
def xUh (c0 c1 c2 c3:Int):Int:=Go.bits .or .u64 (Go.bits .or .u64 (Go.bits .or .u64 c0 (c1*256)) (c2*65536)) (c3*16777216)
def uD (s:ByteArray) (i:Nat):Int:=xUh (yO (s.extract i (i+4)) 0) (yO (s.extract i (i+4)) 1) (yO (s.extract i (i+4)) 2) (yO (s.extract i (i+4)) 3)
theorem pF (s:ByteArray) (i:Nat):U64 (uD s i):=by unfold uD xUh;exact zD _ _ _
structure L5 where
 a:Int
 b:Int
 c:Int
 d:Int
 e:Int
def L5.list (l:L5):List Int:=[l.a,l.b,l.c,l.d,l.e]
def L5.ok (l:L5):Prop:=U64 l.a/\U64 l.b/\U64 l.c/\U64 l.d/\U64 l.e
def zO (s:ByteArray):L5:=
 ⟨Go.bits .and .u64 (uD s 0) 67108863,Go.bits .and .u64 (uD s 3 / 4) 67108863,Go.bits .and .u64 (uD s 6 / 16) 67108863,uD s 9 / 64,uD s 12 / 256⟩
theorem xAk (s:ByteArray):(zO s).ok:=by
 have h9:=pF s 9;have h12:=pF s 12;refine⟨by simp only[zO];exact zD _ _ _,by simp only[zO];exact zD _ _ _,by simp only[zO];exact zD _ _ _,?_,?_⟩
 ·unfold U64 at h9;show U64 (uD s 9 / 64);unfold U64;omega
 ·unfold U64 at h12;show U64 (uD s 12 / 256);unfold U64;omega
def jK (s:ByteArray):L5:=
 ⟨(zO s).a,Go.bits .and .u64 (zO s).b 67108611,Go.bits .and .u64 (zO s).c 67092735,Go.bits .and .u64 (zO s).d 66076671,Go.bits .and .u64 (zO s).e 1048575⟩
theorem xY7 (s:ByteArray):(jK s).ok:=⟨(xAk s).1,by simp only[jK];exact zD _ _ _,by simp only[jK];exact zD _ _ _,by simp only[jK];exact zD _ _ _,by simp only[jK];exact zD _ _ _⟩
end Mailsack
namespace Go.Proofs.SH
open Go.RowKit Mailsack MM BB
theorem qA {w W:World} (h:Below w.heap.size w W) (i:Nat) (u:Value):Below w.heap.size w (W.setCell ⟨w.heap.size,i,none⟩ u):=h.setCell (p:=⟨w.heap.size,i,none⟩) ν u
theorem jX (s:ByteArray) (i:Nat) (w:World) (hi:i+4<=s.size) (hs:s.size<=1099511627776):
  Calls Tryz.prog 323 #[.string s,.int .i64 i] w λe w'=>e=.returned (.int .u64 (uD s i))/\Below w.heap.size w w':=by
 obtain⟨z,hz⟩:∃z,uD s i=z:=⟨_,rfl⟩;rw[hz];unfold uD at hz;have hxs:(s.extract i (i+4)).size=4:=by rw[ByteArray.size_extract];omega
 go_enter Tryz.func323,Tryz.ntmps323;go_upto_region 2 with fail
 generalize s.extract i (i+4)=x at hz hxs⊢;have i0:=λw=>zH (P:=Tryz.prog) Tryz.underlying9 x 0 0 rfl ω w;have i1:=λw=>zH (P:=Tryz.prog) Tryz.underlying9 x 1 1 rfl ω w;have i2:=λw=>zH (P:=Tryz.prog) Tryz.underlying9 x 2 2 rfl ω w
 have i3:=λw=>zH (P:=Tryz.prog) Tryz.underlying9 x 3 3 rfl ω w;obtain⟨r00,r01⟩:=yQ x 0;obtain⟨r10,r11⟩:=yQ x 1;obtain⟨r20,r21⟩:=yQ x 2;obtain⟨r30,r31⟩:=yQ x 3;generalize yO x 0=c0 at i0 r00 r01 hz;generalize yO x 1=c1 at i1 r10 r11 hz;generalize yO x 2=c2 at i2 r20 r21 hz
 generalize yO x 3=c3 at i3 r30 r31 hz;unfold xUh at hz;have HZ:=ι hz;clear hz hxs hi hs;refine RG.xP (λW=>Hid (Below w.heap.size w W)) κ κ (ι (Below.refl _ _).drew) ?_;iterate 18 refine RG.dS ?_
 rw[HZ.o];refine RG.dS ?_;refine RG.xS (λw9 hw9=>?_);clear i0 i1 i2 i3;go_wp2;go_ret;exact⟨rfl,hw9.o⟩
theorem xKy (s:ByteArray) (w:World) (hs:s.size=16):
  Calls Tryz.prog 238 #[.string s] w λe w'=>e=.returned (.agg #[.int .u64 (zO s).a,.int .u64 (zO s).b,.int .u64 (zO s).c,.int .u64 (zO s).d,.int .u64 (zO s).e])/\Below w.heap.size w w':=by
 have W0:Hid (∀W,Calls Tryz.prog 323 #[.string s,.int .i64 0] W λe w'=>e=.returned (.int .u64 (uD s 0))/\Below W.heap.size W w'):=ι (λW=>jX s 0 W ω ω)
 have W3:Hid (∀W,Calls Tryz.prog 323 #[.string s,.int .i64 3] W λe w'=>e=.returned (.int .u64 (uD s 3))/\Below W.heap.size W w'):=ι (λW=>jX s 3 W ω ω)
 have W6:Hid (∀W,Calls Tryz.prog 323 #[.string s,.int .i64 6] W λe w'=>e=.returned (.int .u64 (uD s 6))/\Below W.heap.size W w'):=ι (λW=>jX s 6 W ω ω)
 have W9:Hid (∀W,Calls Tryz.prog 323 #[.string s,.int .i64 9] W λe w'=>e=.returned (.int .u64 (uD s 9))/\Below W.heap.size W w'):=ι (λW=>jX s 9 W ω ω)
 have W12:Hid (∀W,Calls Tryz.prog 323 #[.string s,.int .i64 12] W λe w'=>e=.returned (.int .u64 (uD s 12))/\Below W.heap.size W w'):=ι (λW=>jX s 12 W ω ω)
 have HP:Hid (zO s=⟨bits .and .u64 (uD s 0) 67108863,bits .and .u64 (uD s 3 / 4) 67108863,bits .and .u64 (uD s 6 / 16) 67108863,uD s 9 / 64,uD s 12 / 256⟩):=ι rfl;obtain⟨u30,u31⟩:=pF s 3;obtain⟨u60,u61⟩:=pF s 6;obtain⟨u90,u91⟩:=pF s 9;obtain⟨uc0,uc1⟩:=pF s 12;rw[HP.o]
 generalize uD s 0=x0 at W0 HP⊢;generalize uD s 3=x3 at W3 HP u30 u31⊢;generalize uD s 6=x6 at W6 HP u60 u61⊢;generalize uD s 9=x9 at W9 HP u90 u91⊢;generalize uD s 12=x12 at W12 HP uc0 uc1⊢
 have B0:=ι ((Below.refl w.heap.size w).alloc ν (.cells #[.int .u64 0,.int .u64 0,.int .u64 0,.int .u64 0,.int .u64 0] 310));have P0:=ι (xL w (.cells #[.int .u64 0,.int .u64 0,.int .u64 0,.int .u64 0,.int .u64 0] 310));clear hs HP;go_enter Tryz.func238,Tryz.ntmps238
 go_wp2_with fail
 refine(W0.o _).mono ?_;rintro e w1 ⟨rfl,hb⟩;have B1:=ι (B0.o.trans (hb.mono B0.o.size));have P1:=ι (xB P0.o hb σ);clear hb P0 B0;go_wp2_with fail
 refine(W3.o _).mono ?_;rintro e w2 ⟨rfl,hb⟩;have B2:=ι (B1.o.trans (hb.mono B1.o.size));have P2:=ι (xB P1.o hb (xG P1.o));clear hb P1 B1;go_wp2_with fail
 refine(W6.o _).mono ?_;rintro e w3 ⟨rfl,hb⟩;have B3:=ι (B2.o.trans (hb.mono B2.o.size));have P3:=ι (xB P2.o hb (xG P2.o));clear hb P2 B2;go_wp2_with fail
 refine(W9.o _).mono ?_;rintro e w4 ⟨rfl,hb⟩;have B4:=ι (B3.o.trans (hb.mono B3.o.size));have P4:=ι (xB P3.o hb (xG P3.o));clear hb P3 B3;go_wp2_with fail
 refine(W12.o _).mono ?_;rintro e w5 ⟨rfl,hb⟩;have B5:=ι (B4.o.trans (hb.mono B4.o.size));have P5:=xB P4.o hb (xG P4.o);have f0:=xA P5 0;have f1:=xA P5 1;have f2:=xA P5 2;have f3:=xA P5 3;have f4:=xA P5 4;have y0:=xC P5 0;have y1:=xC P5 1;have y2:=xC P5 2;have y3:=xC P5 3
 have y4:=xC P5 4;clear hb P4 B4 P5;go_wp2
 refine bodyPost_ret (v:=.agg #[.int .u64 (bits .and .u64 x0 67108863),.int .u64 (bits .and .u64 (x3 / 4) 67108863),.int .u64 (bits .and .u64 (x6 / 16) 67108863),.int .u64 (x9 / 64),.int .u64 (x12 / 256)]) (by simp[results,Tryz.results238,go_sem,f0,f1,f2,f3,f4]) rfl ?_
 refine⟨rfl,?_⟩;have h:=B5.o;clear f0 f1 f2 f3 f4 y0 y1 y2 y3 y4;have k0:=qA h 0 (.int .u64 (bits .and .u64 x0 67108863));have k1:=qA k0 1 (.int .u64 (bits .and .u64 (x3 / 4) 67108863));have k2:=qA k1 2 (.int .u64 (bits .and .u64 (x6 / 16) 67108863))
 have k3:=qA k2 3 (.int .u64 (x9 / 64));have k4:=qA k3 4 (.int .u64 (x12 / 256));with_reducible exact k4
theorem xGp (s:ByteArray) (w:World) (hs:s.size=16):
  Calls Tryz.prog 237 #[.string s] w λe w'=>e=.returned (.agg #[.int .u64 (jK s).a,.int .u64 (jK s).b,.int .u64 (jK s).c,.int .u64 (jK s).d,.int .u64 (jK s).e])/\Below w.heap.size w w':=by
 have HS:=ι (λW=>xKy s W hs);have HP:Hid (jK s=⟨(zO s).a,bits .and .u64 (zO s).b 67108611,bits .and .u64 (zO s).c 67092735,bits .and .u64 (zO s).d 66076671,bits .and .u64 (zO s).e 1048575⟩):=ι rfl;rw[HP.o];generalize zO s=q at HS HP⊢;obtain⟨a,b,c,d,e⟩:=q
 have B0:=ι ((Below.refl w.heap.size w).alloc ν (.cells #[.int .u64 0,.int .u64 0,.int .u64 0,.int .u64 0,.int .u64 0] 310));have P0:=ι (xL w (.cells #[.int .u64 0,.int .u64 0,.int .u64 0,.int .u64 0,.int .u64 0] 310));clear hs HP;go_enter Tryz.func237,Tryz.ntmps237
 go_wp2_with fail
 refine(HS.o _).mono ?_;rintro e2 w1 ⟨rfl,hb⟩;have B1:=ι (B0.o.trans (hb.mono B0.o.size))
 have P1:=xK (xB P0.o hb σ) (.cells #[.int .u64 a,.int .u64 (bits .and .u64 b 67108611),.int .u64 (bits .and .u64 c 67092735),.int .u64 (bits .and .u64 d 66076671),.int .u64 (bits .and .u64 e 1048575)] 310)
 have B2:=ι (B1.o.alloc B1.o.size (.cells #[.int .u64 a,.int .u64 (bits .and .u64 b 67108611),.int .u64 (bits .and .u64 c 67092735),.int .u64 (bits .and .u64 d 66076671),.int .u64 (bits .and .u64 e 1048575)] 310));have f0:=xA P1 0;have f1:=xA P1 1;have f2:=xA P1 2
 have f3:=xA P1 3;have f4:=xA P1 4;have y0:=xC P1 0;have y1:=xC P1 1;have y2:=xC P1 2;have y3:=xC P1 3;have y4:=xC P1 4;clear hb P0 B0 P1 B1;go_wp2
 refine bodyPost_ret (v:=.agg #[.int .u64 a,.int .u64 (bits .and .u64 b 67108611),.int .u64 (bits .and .u64 c 67092735),.int .u64 (bits .and .u64 d 66076671),.int .u64 (bits .and .u64 e 1048575)]) (by simp[results,Tryz.results237,go_sem,f0,f1,f2,f3,f4]) rfl ?_;refine⟨rfl,?_⟩
 have h:=B2.o;clear f0 f1 f2 f3 f4 y0 y1 y2 y3 y4;have k0:=qA h 0 (.int .u64 a);have k1:=qA k0 1 (.int .u64 (bits .and .u64 b 67108611));have k2:=qA k1 2 (.int .u64 (bits .and .u64 c 67092735));have k3:=qA k2 3 (.int .u64 (bits .and .u64 d 66076671))
 have k4:=qA k3 4 (.int .u64 (bits .and .u64 e 1048575));with_reducible exact k4
end Go.Proofs.SH