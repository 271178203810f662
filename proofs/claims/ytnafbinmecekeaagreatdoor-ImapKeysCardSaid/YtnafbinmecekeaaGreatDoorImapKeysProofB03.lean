/- Contracts of functions. Conditions: as stated. -/
import Derived.Test.YtnafbinmecekeaaGreatDoorImapKeysProofB02
import Derived.Laws.CopyOwn
import Derived.Lib.SlBuf
open Go.Proofs.Tryz
set_option maxHeartbeats 8000000
set_option maxRecDepth 100000
namespace Mailsack
def yQ (s:ByteArray) (i:Nat):Int:=((s.data.toList.getD i 0).toNat:Int)
theorem yR (s:ByteArray) (i:Nat):0<=yQ s i/\yQ s i<256:=by
 unfold yQ;have:=(s.data.toList.getD i 0).toNat_lt;omega
def yC8 (c0 c1 c2 c3:Int):Int:=Go.bits .or .u32 (Go.bits .or .u32 (Go.bits .or .u32 (c0*16777216) (c1*65536)) (c2*256)) c3
def xHq (b:ByteArray) (k:Nat):Int:=yC8 (yQ (b.extract (4*k) (4*k+4)) 0) (yQ (b.extract (4*k) (4*k+4)) 1) (yQ (b.extract (4*k) (4*k+4)) 2) (yQ (b.extract (4*k) (4*k+4)) 3)
theorem xR4 (b:ByteArray) (k:Nat):U32 (xHq b k):=by unfold xHq yC8;exact xA6 _ _ _
def xV6 (b:ByteArray):Nat->List Int
 |0=>List.replicate 64 0
 |k+1=>(xV6 b k).set k (xHq b k)
def xZp (ws:List Int) (i:Nat):Int:=
 ((ws.getD (i-16) 0+Go.bits .xor .u32 (Go.bits .xor .u32 (xHx (ws.getD (i-15) 0) 25) (xHx (ws.getD (i-15) 0) 14)) (ws.getD (i-15) 0 / 8)+ws.getD (i-7) 0) % 4294967296+Go.bits .xor .u32 (Go.bits .xor .u32 (xHx (ws.getD (i-2) 0) 15) (xHx (ws.getD (i-2) 0) 13)) (ws.getD (i-2) 0 / 1024)) % 4294967296
def xRn (b:ByteArray):Nat->List Int
 |0=>xV6 b 16
 |k+1=>(xRn b k).set (16+k) (xZp (xRn b k) (16+k))
def qY (b:ByteArray):List Int:=xRn b 48
def jH (ws:List Int):Prop:=∀i,U32 (ws.getD i 0)
theorem jH.set {ws:List Int} (h:jH ws) (i:Nat) {x:Int} (hx:U32 x):jH (ws.set i x):=by
 intro j;rw[List.getD_eq_getElem?_getD,List.getElem?_set];split
 ·split
  ·exact hx
  ·exact⟨δ,δ⟩
 ·have:=h j
  rwa [List.getD_eq_getElem?_getD] at this
theorem xJ5 (b:ByteArray):∀k,(xV6 b k).length=64
 |0=>by simp[xV6]
 |k+1=>by simp[xV6,xJ5 b k]
theorem xCi (b:ByteArray):∀k,(xRn b k).length=64
 |0=>xJ5 b 16
 |k+1=>by simp[xRn,xCi b k]
theorem yBa (b:ByteArray):∀k,jH (xV6 b k)
 |0=>λi=>by
  unfold xV6;rw[List.getD_eq_getElem?_getD,List.getElem?_replicate];split<;>exact⟨δ,δ⟩
 |k+1=>(yBa b k).set k (xR4 b k)
theorem wF (x:Int):U32 (x % 4294967296):=⟨ω,ω⟩
theorem xV5 (b:ByteArray):∀k,jH (xRn b k)
 |0=>yBa b 16
 |k+1=>(xV5 b k).set (16+k) (wF _)
end Mailsack
namespace Go.Proofs.SH
open Go.RowKit Mailsack MM
theorem zL {P:Program} {t:TypeId} (ht:P.underlying t=some .string) (s:ByteArray) (n:Int) (i:Nat) (hn:n=i) (hi:i<s.size) (w:World):(Instr.index t (.string s) (.int .i64 n)).run P w=.ok (.int .u8 (yQ s i)) w:=by
 subst hn;rw[run_index_string _ _ _ _ _ ht,dif_pos ⟨ω,ω⟩];simp[yQ,List.getD_eq_getElem?_getD,List.getElem?_eq_getElem (show i<s.data.toList.length by simpa using hi)]
 rfl
theorem tZ (ws:List Int):(yV ws).all (·.oneCell')=true:=by
 simp[yV,Value.oneCell']
structure xH2 (w:World) (ws:List Int) (W:World):Prop where
 blk:W.heap[w.heap.size+1]?=some (.cells (yV ws) 438 (0,0))
 res:W.heap[w.heap.size]?=some (.cells (yV (List.replicate 64 0)) 438 (0,0))
 bel:ψ w W
theorem xH2.drew {w:World} {ws:List Int} {W:World} (h:xH2 w ws W):xH2 w ws W.drew:=⟨h.blk,h.res,h.bel.drew⟩
theorem xH2.put {w:World} {ws:List Int} {W:World} (h:xH2 w ws W) (i:Nat) (x:Int):xH2 w (ws.set i x) (W.setCell ⟨w.heap.size+1,i,none⟩ (.int .u32 x)):=by
 refine⟨?_,yC h.res (p:=⟨w.heap.size+1,i,none⟩) σ _,h.bel.setCell (p:=⟨w.heap.size+1,i,none⟩) σ _⟩;have:=xY h.blk i (.int .u32 x);rw[xD0] at this;exact this
theorem xPb {w:World} {ws:List Int} {z:Int} {i j:Nat} {c:Bool} {W:World} (hj:j<ws.length) (hne:j≠i) (h:xH2 w (if c=true then ws.set i z else ws) W):W.cell? ⟨w.heap.size+1,j,none⟩=some (.int .u32 (ws.getD j 0)):=by
 rw[xA h.blk];cases c
 ·exact uL hj
 ·rw[if_pos rfl,uL (by simpa using hj),List.getD_eq_getElem?_getD,List.getElem?_set,if_neg (Ne.symm hne),<-List.getD_eq_getElem?_getD]
theorem xL8 (b:ByteArray) (w:World) (hb:b.size=64):
  Calls prog 394 #[.string b] w λe w'=>e=.returned (.agg (yV (qY b)))/\ψ w w':=by
 go_enter func394,ntmps394;go_wp2_with fail
 go_loopw [11] (λiv wr=>∃k:Nat,k<=16/\iv=.int .i64 k/\Hid (xH2 w (xV6 b k) wr)) (λiv _=>16- (intOf iv).toNat)
 case atStart=>exact⟨0,δ,rfl,ι ⟨zK _ _ _,zV _ _ _,((φ w _).alloc σ _)⟩⟩
 case round=>
  obtain⟨k,hk,rfl,hr⟩:=hrel
  by_cases hlt:k<16
  ·go_upto_region 6 with fail
   have hl:=xJ5 b k;have HW:Hid (xV6 b (k+1)=(xV6 b k).set k (xHq b k)):=ι rfl;obtain⟨z,hz⟩:∃z,xHq b k=z:=⟨_,rfl⟩;rw[hz] at HW;generalize xV6 b k=ws at hr hl HW
   refine RG.yT [20] (λL W=>Hid (xH2 w (if L 20 then ws.set k z else ws) W)) (λL L' W h hI=>by rw[<-h 20 δ];exact hI) κ κ δ (ι hr.o.drew) ?_;iterate 2 refine RG.lS ?_
   unfold xHq at hz;obtain⟨x,hx⟩:∃x,b.extract (4*k) (4*k+4)=x:=⟨_,rfl⟩;rw[hx] at hz⊢;have hxs:x.size=4:=by rw[<-hx,ByteArray.size_extract];omega
   have i0:=λw=>zL (P:=prog) underlying9 x 0 0 rfl ω w;have i1:=λw=>zL (P:=prog) underlying9 x 1 1 rfl ω w;have i2:=λw=>zL (P:=prog) underlying9 x 2 2 rfl ω w;have i3:=λw=>zL (P:=prog) underlying9 x 3 3 rfl ω w;obtain⟨r00,r01⟩:=yR x 0
   obtain⟨r10,r11⟩:=yR x 1;obtain⟨r20,r21⟩:=yR x 2;obtain⟨r30,r31⟩:=yR x 3;generalize yQ x 0=c0 at i0 r00 r01 hz;generalize yQ x 1=c1 at i1 r10 r11 hz;generalize yQ x 2=c2 at i2 r20 r21 hz;generalize yQ x 3=c3 at i3 r30 r31 hz;unfold yC8 at hz;have HZ:=ι hz;clear hx hz
   iterate 17 refine RG.lS ?_
   rw[HZ.o];refine RG.lS ?_;apply RG.yA
   ·rfl
   ·intro L w9 h0 _ hw9;rw[h0,if_neg σ] at hw9;have q1:=xA hw9.o.blk k;rw[uL ω] at q1;have q2:=xB hw9.o.blk k;repeat go_step
    refine RG.xC ?_;have hp:=ι (hw9.o.put k z);rw[if_pos σ];with_reducible exact hp
   ·rfl
   refine RG.xZ (λw9 hw9=>?_);rw[if_pos rfl,<-HW.o] at hw9;clear i0 i1 i2 i3;go_wp2;exact⟨⟨k+1,ω,by go_num,hw9⟩,by simp[intOf];omega⟩
  ·obtain rfl:k=16:=ω;have hr0:Hid (xH2 w (xRn b 0) wr):=hr;clear hr;go_wp2_with fail
   go_loopw [6] (λiv wr=>∃i:Nat,16<=i/\i<=64/\iv=.int .i64 i/\Hid (xH2 w (xRn b (i-16)) wr)) (λiv _=>64- (intOf iv).toNat)
   case atStart=>exact⟨16,δ,δ,rfl,hr0⟩
   case round=>
    clear hr0;obtain⟨i,hi,hk,rfl,hr⟩:=hrel
    by_cases hlt:i<64
    ·have hl:=xCi b (i-16);have hu:=xV5 b (i-16)
     have HW:Hid (xRn b (i+1-16)=(xRn b (i-16)).set i (xZp (xRn b (i-16)) i)):=ι (by
      obtain⟨k,rfl⟩:∃k,i=16+k:=⟨i-16,ω⟩;rw[show 16+k+1-16=k+1 by omega,show 16+k-16=k by omega]
      rfl)
     obtain⟨z,hz⟩:∃z,xZp (xRn b (i-16)) i=z:=⟨_,rfl⟩;rw[hz] at HW;generalize xRn b (i-16)=ws at hr hl HW hz hu;unfold xZp at hz;have u16:=hu (i-16);have u15:=hu (i-15);have u7':=hu (i-7);have u2:=hu (i-2)
     have g16:∀W,Hid (xH2 w ws W)->W.cell? ⟨w.heap.size+1,i-16,none⟩=some (.int .u32 (ws.getD (i-16) 0)):=λW h=>by rw[xA h.o.blk,uL ω]
     have g15:∀W,Hid (xH2 w ws W)->W.cell? ⟨w.heap.size+1,i-15,none⟩=some (.int .u32 (ws.getD (i-15) 0)):=λW h=>by rw[xA h.o.blk,uL ω]
     have g7:∀W,Hid (xH2 w ws W)->W.cell? ⟨w.heap.size+1,i-7,none⟩=some (.int .u32 (ws.getD (i-7) 0)):=λW h=>by rw[xA h.o.blk,uL ω]
     have g2:∀W,Hid (xH2 w ws W)->W.cell? ⟨w.heap.size+1,i-2,none⟩=some (.int .u32 (ws.getD (i-2) 0)):=λW h=>by rw[xA h.o.blk,uL ω]
     have c16:∀(c:Bool) W,Hid (xH2 w (if c=true then ws.set i z else ws) W)->W.cell? ⟨w.heap.size+1,i-16,none⟩=some (.int .u32 (ws.getD (i-16) 0)):=λc W h=>xPb (i:=i) ω ω h.o
     have c7:∀(c:Bool) W,Hid (xH2 w (if c=true then ws.set i z else ws) W)->W.cell? ⟨w.heap.size+1,i-7,none⟩=some (.int .u32 (ws.getD (i-7) 0)):=λc W h=>xPb (i:=i) ω ω h.o;generalize ws.getD (i-16) 0=v16 at hz u16 g16 c16;generalize ws.getD (i-15) 0=v15 at hz u15 g15
     generalize ws.getD (i-7) 0=v7 at hz u7' g7 c7;generalize ws.getD (i-2) 0=v2 at hz u2 g2;have C16:=ι c16;have C7:=ι c7;have G15:=ι g15;have G2:=ι g2;have HZ:=ι hz;have R1:=ι (λW=>kC v15 (-7) 25 W u15 δ δ);have R2:=ι (λW=>kC v15 (-18) 14 W u15 δ δ)
     have R3:=ι (λW=>kC v2 (-17) 15 W u2 δ δ);have R4:=ι (λW=>kC v2 (-19) 13 W u2 δ δ);obtain⟨u160,u161⟩:=u16;obtain⟨u150,u151⟩:=u15;obtain⟨u70',u71'⟩:=u7';obtain⟨u20',u21'⟩:=u2;clear hu hz g16 g15 g7 g2 c16 c7;go_upto_region 11 with fail
     refine RG.xQ (λW=>Hid (xH2 w ws W)) κ κ (ι hr.o.drew) ?_;iterate 2 refine RG.dS ?_
     rw[show((i:Int)-15)=((i-15:Nat):Int) by omega];iterate 2 refine RG.dF (λw9 hw9=>G15.o _ hw9) ?_
     iterate 2 refine RG.dS ?_
     rw[show((i:Int)-2)=((i-2:Nat):Int) by omega];iterate 2 refine RG.dF (λw9 hw9=>G2.o _ hw9) ?_
     iterate 2 refine RG.dS ?_
     refine RG.xS (λw9 hw9=>?_);clear hr;go_upto_region 12 with fail
     refine RG.yP (λW=>Hid (xH2 w ws W)) hw9 ?_;clear hw9;refine RG.dS ?_;apply RG.xJ
     ·intro w9 hw9;repeat go_step
      refine(R1.o _).mono ?_;rintro e w10 ⟨rfl,rfl⟩;simp only[];repeat go_step
      exact RG.xC hw9
     ·rfl
     refine RG.dS ?_;apply RG.xJ
     ·intro w9 hw9;repeat go_step
      refine(R2.o _).mono ?_;rintro e w10 ⟨rfl,rfl⟩;simp only[];repeat go_step
      exact RG.xC hw9
     ·rfl
     iterate 5 refine RG.dS ?_
     refine RG.xS (λw10 hw10=>?_);go_upto_region 13 with fail
     refine RG.yP (λW=>Hid (xH2 w ws W)) hw10 ?_;clear hw10;refine RG.dS ?_;apply RG.xJ
     ·intro w9 hw9;repeat go_step
      refine(R3.o _).mono ?_;rintro e w10 ⟨rfl,rfl⟩;simp only[];repeat go_step
      exact RG.xC hw9
     ·rfl
     refine RG.dS ?_;apply RG.xJ
     ·intro w9 hw9;repeat go_step
      refine(R4.o _).mono ?_;rintro e w10 ⟨rfl,rfl⟩;simp only[];repeat go_step
      exact RG.xC hw9
     ·rfl
     iterate 5 refine RG.dS ?_
     refine RG.xS (λw11 hw11=>?_);go_upto_region 14 with fail
     refine RG.yT [15] (λL W=>Hid (xH2 w (if L 15 then ws.set i z else ws) W)) (λL L' W h hI=>by rw[<-h 15 δ];exact hI) κ κ δ (ι hw11.o.drew) ?_;iterate 3 refine RG.lS ?_
     rw[show((i:Int)-16)=((i-16:Nat):Int) by omega];iterate 2 refine RG.lF (λL w9 hw9=>C16.o _ _ hw9) ?_
     iterate 4 refine RG.lS ?_
     rw[show((i:Int)-7)=((i-7:Nat):Int) by omega];iterate 2 refine RG.lF (λL w9 hw9=>C7.o _ _ hw9) ?_
     iterate 3 refine RG.lS ?_
     rw[HZ.o];refine RG.lS ?_;apply RG.yA
     ·rfl
     ·intro L w9 h0 _ hw9;rw[h0,if_neg σ] at hw9;have q1:=xA hw9.o.blk i;rw[uL ω] at q1;have q2:=xB hw9.o.blk i;repeat go_step
      refine RG.xC ?_;have hp:=ι (hw9.o.put i z);rw[if_pos σ];with_reducible exact hp
     ·rfl
     refine RG.xZ (λw12 hw12=>?_);rw[if_pos rfl,<-HW.o] at hw12;go_wp2;exact⟨⟨i+1,ω,ω,by go_num,hw12⟩,by simp[intOf];omega⟩
    ·obtain rfl:i=64:=ω;have hr2:Hid (xH2 w (qY b) wr):=hr;clear hr;have hi64:(prog.info? 438).map (·.size)=some (yV (qY b)).size:=by rw[yY];unfold qY;rw[xCi];kernel_rfl
     have ho64:(yV (List.replicate 64 0)).size=(yV (qY b)).size:=by rw[yY,yY];unfold qY;rw[xCi,List.length_replicate]
     have h1:=tZ (qY b);have HI:=ι hi64;have HO:=ι ho64;have H1:=ι h1;clear hi64 ho64 h1
     go_wp2_with (first|refine wpList_load_row rfl _ _ rfl (w.heap.size+1) rfl _ _ (0,0) _ hr2.o.blk underlying438 rfl HI.o ?_|refine wpList_store_row rfl _ _ _ rfl w.heap.size _ rfl rfl _ _ hr2.o.res HI.o HO.o H1.o ?_)
     refine bodyPost_ret (results_cell_row rfl _ _ w.heap.size _ _ (0,0) _ rfl (setRow_heap _ _ _ _ _ _ hr2.o.res) underlying438 rfl HI.o) rfl ?_;exact⟨rfl,below_setRow hr2.o.bel ν _⟩
end Go.Proofs.SH
namespace Mailsack
def oct (z:Int):UInt8:=UInt8.ofNat (z % 256).toNat
theorem qK (z:Int):((oct z).toNat:Int)=z % 256:=by
 unfold oct;have h1:=Int.emod_nonneg z (b:=256) δ;have h2:=Int.emod_lt_of_pos z (b:=256) δ;rw[UInt8.toNat_ofNat',Nat.mod_eq_of_lt ω];omega
def xP (n:Nat):Bs:=List.replicate n 0
theorem yO (n:Nat):(xP n).length=n:=by simp[xP]
end Mailsack
namespace Go.Proofs.BB
open Go.RowKit Mailsack MM
def yE (l:Bs):Array Value:=(l.map λb=>Value.int .u8 (b.toNat:Int)).toArray
theorem uO (l:Bs):(yE l).size=l.length:=by simp[yE]
theorem qQ {l:Bs} {i:Nat} (h:i<l.length):(yE l)[i]?=some (.int .u8 ((l.getD i 0).toNat:Int)):=by
 simp[yE,List.getD_eq_getElem?_getD,List.getElem?_eq_getElem h]
theorem xQe (l:Bs) (i:Nat) (b:UInt8):(yE l).setIfInBounds i (.int .u8 (b.toNat:Int))=yE (l.set i b):=by
 simp[yE,List.map_set]
theorem xD1 (l:Bs) (i:Nat) (z:Int):(yE l).setIfInBounds i (.int .u8 (z % 256))=yE (l.set i (oct z)):=by
 rw[<-qK,xQe]
theorem xK4 (l:Bs):∀v∈(yE l).toList,v.oneCell'=true:=by
 intro v hv;simp[yE] at hv;obtain⟨b,_,rfl⟩:=hv
 rfl
theorem xXd (n:Nat):madeCells (Value.cells (.int .u8 0)) (n*1)=yE (xP n):=by
 unfold xP;apply Array.ext_getElem?;intro i
 by_cases h:i<n
 ·have:(yE (List.replicate n 0))[i]?=some (.int .u8 0):=by rw[qQ (by simpa using h)];simp[List.getD_eq_getElem?_getD,h]
  rw[this];simp[madeCells,Value.cells,h,Nat.mod_one]
 ·rw[Array.getElem?_eq_none (by simp[madeCells];omega),Array.getElem?_eq_none (by rw[uO];simp;omega)]
def wK (W:World) (g:Nat) (l:Bs):Prop:=W.heap[g]?=some (.cells (yE l) 5 (0,0))
theorem wK.blk {W:World} {g:Nat} {l:Bs} (h:wK W g l):W.heap[g]?=some (.cells (yE l) 5 (0,0)):=h
theorem wK.cell {W:World} {g:Nat} {l:Bs} (h:wK W g l) {i:Nat} (hi:i<l.length):W.cell? ⟨g,i,none⟩=some (.int .u8 ((l.getD i 0).toNat:Int)):=by rw[xA h.blk,qQ hi]
theorem wK.free {W:World} {g:Nat} {l:Bs} (h:wK W g l) (i:Nat):W.frozen? ⟨g,i,none⟩=false:=xB h.blk i
theorem wK.put {W:World} {g:Nat} {l:Bs} (h:wK W g l) (i:Nat) (z:Int):wK (W.setCell ⟨g,i,none⟩ (.int .u8 (z % 256))) g (l.set i (oct z)):=by
 have:=xY h.blk i (.int .u8 (z % 256));rw[xD1] at this;exact this
theorem made (W:World) (n c:Nat) (hc:n<=c) (hm:c<=281474976710656):(Instr.makeSlice 125 (.int .i64 (n:Int)) (.int .i64 (c:Int))).run prog W=.ok (.slice (some ⟨W.heap.size,0,none⟩) n c) (W.alloc (.cells (yE (xP c)) 5)):=by
 have hinfo:(prog.info? 5).map (λi=>(i.zero,i.size,i.bytes))=some (some (.int .u8 0),1,1):=κ;cases hq:prog.info? 5 with
 |none=>rw[hq] at hinfo;cases hinfo
 |some i=>
  rw[hq] at hinfo;simp only[Option.map_some,Option.some.injEq,Prod.mk.injEq] at hinfo;obtain⟨hz,hs,hb⟩:=hinfo;have h:=run_make (P:=prog) (w:=W) 125 5 i _ underlying125 hq hz .i64 .i64 (n:Int) (c:Int) ω ω (by rw[hb];omega) ω;simp only[Int.toNat_natCast] at h
  rw[hs,xXd] at h;exact h
theorem copied {W:World} {g:Nat} {l:Bs} (h:wK W g l) (ty:TypeId) (dLen dCap:Nat) (s:ByteArray) (h1:s.size<=dLen) (h2:s.size<=l.length):
  (Builtin.copy_ #[125,9] ty #[.slice (some ⟨g,0,none⟩) dLen dCap,.string s]).run prog W=.ok (goInt s.size) (W.setRow g (yE (s.data.toList++l.drop s.size))):=by
 have h3:=Lib.run_copy_row_string (P:=prog) W 125 9 ty 5 g 0 dLen dCap s (yE l) _ underlying125 κ h.blk h1 (by rw[uO];omega)
 have h4:((yE l).toList.take 0++Lib.byteCells s.data.toList++(yE l).toList.drop (0+s.size)).toArray=yE (s.data.toList++l.drop s.size):=by
  simp[yE,Lib.byteCells,List.map_drop]
 rw[h3,h4]
theorem wK.row {W:World} {g:Nat} {l:Bs} (h:wK W g l) (l':Bs):wK (W.setRow g (yE l')) g l':=setRow_heap W g _ _ _ _ h.blk
theorem xFm {W:World} {g:Nat} {l:Bs} (h:wK W g l) (n cap:Nat) (hn:n<=l.length):(convert 125 9 (.slice (some ⟨g,0,none⟩) n cap)).run prog W=.ok (.string ⟨(l.take n).toArray⟩) W:=by
 have h1:=run_convert_bytes_back (P:=prog) W 125 9 5 ⟨g,0,none⟩ cap (l.take n) underlying125 underlying5 underlying9 (λj hj=>by
  have hj':j<l.length:=by rw[List.length_take] at hj;omega
  have hadd:(⟨g,0,none⟩:Addr).add j=⟨g,j,none⟩:=by unfold Addr.add;split<;>simp_all
  rw[hadd,h.cell hj',List.getElem_take,List.getD_eq_getElem?_getD,List.getElem?_eq_getElem hj']
  rfl)
 rw[List.length_take,Nat.min_eq_left hn] at h1;exact h1
end Go.Proofs.BB
namespace Mailsack
structure Q4 where
 a:Int
 b:Int
 c:Int
 d:Int
def jM (q:Q4):Q4:=
 let a1:=(q.a+q.b) % 4294967296
 let d1:=xHx (Go.bits .xor .u32 q.d a1) 16
 let c1:=(q.c+d1) % 4294967296
 let b1:=xHx (Go.bits .xor .u32 q.b c1) 12
 let a2:=(a1+b1) % 4294967296
 let d2:=xHx (Go.bits .xor .u32 d1 a2) 8
 let c2:=(c1+d2) % 4294967296
 let b2:=xHx (Go.bits .xor .u32 b1 c2) 7
 ⟨a2,b2,c2,d2⟩
theorem xHz (q:Q4):U32 (jM q).a/\U32 (jM q).b/\U32 (jM q).c/\U32 (jM q).d:=⟨wF _,xCj _ _,wF _,xCj _ _⟩
end Mailsack
namespace Go.Proofs.SH
open Go.RowKit Mailsack MM BB
theorem xNk (a b c d:Int) (w:World) (ha:U32 a) (hb:U32 b) (hc:U32 c) (hd:U32 d):
  Calls prog 393 #[.int .u32 a,.int .u32 b,.int .u32 c,.int .u32 d] w λe w'=>
   e=.returned (.tuple #[.int .u32 (jM ⟨a,b,c,d⟩).a,.int .u32 (jM ⟨a,b,c,d⟩).b,.int .u32 (jM ⟨a,b,c,d⟩).c,.int .u32 (jM ⟨a,b,c,d⟩).d])/\w'=w:=by
 obtain⟨a1,ha1⟩:∃x,(a+b) % 4294967296=x:=⟨_,rfl⟩;have ua1:U32 a1:=ha1▸wF _;obtain⟨d1,hd1⟩:∃x,xHx (bits .xor .u32 d a1) 16=x:=⟨_,rfl⟩;have ud1:U32 d1:=hd1▸xCj _ _;obtain⟨c1,hc1⟩:∃x,(c+d1) % 4294967296=x:=⟨_,rfl⟩;have uc1:U32 c1:=hc1▸wF _
 obtain⟨b1,hb1⟩:∃x,xHx (bits .xor .u32 b c1) 12=x:=⟨_,rfl⟩;have ub1:U32 b1:=hb1▸xCj _ _;obtain⟨a2,ha2⟩:∃x,(a1+b1) % 4294967296=x:=⟨_,rfl⟩;have ua2:U32 a2:=ha2▸wF _;obtain⟨d2,hd2⟩:∃x,xHx (bits .xor .u32 d1 a2) 8=x:=⟨_,rfl⟩;have ud2:U32 d2:=hd2▸xCj _ _
 obtain⟨c2,hc2⟩:∃x,(c1+d2) % 4294967296=x:=⟨_,rfl⟩;have uc2:U32 c2:=hc2▸wF _;obtain⟨b2,hb2⟩:∃x,xHx (bits .xor .u32 b1 c2) 7=x:=⟨_,rfl⟩
 have hq:jM ⟨a,b,c,d⟩=⟨a2,b2,c2,d2⟩:=by
  subst hb2;subst hc2;subst hd2;subst ha2;subst hb1;subst hc1;subst hd1;subst ha1
  rfl
 rw[hq];have H:=ι (⟨ha1,hd1,hc1,hb1,ha2,hd2,hc2,hb2⟩:_/\_/\_/\_/\_/\_/\_/\_);have R1:=ι (λW=>kC (bits .xor .u32 d a1) 16 16 W (xA6 _ _ _) δ δ);have R2:=ι (λW=>kC (bits .xor .u32 b c1) 12 12 W (xA6 _ _ _) δ δ);have R3:=ι (λW=>kC (bits .xor .u32 d1 a2) 8 8 W (xA6 _ _ _) δ δ)
 have R4:=ι (λW=>kC (bits .xor .u32 b1 c2) 7 7 W (xA6 _ _ _) δ δ);rw[hd1] at R1;rw[hb1] at R2;rw[hd2] at R3;rw[hb2] at R4;obtain⟨ha,ha'⟩:=ha;obtain⟨hb,hb'⟩:=hb;obtain⟨hc,hc'⟩:=hc;obtain⟨hd,hd'⟩:=hd;obtain⟨ua1,ua1'⟩:=ua1;obtain⟨ud1,ud1'⟩:=ud1;obtain⟨uc1,uc1'⟩:=uc1
 obtain⟨ub1,ub1'⟩:=ub1;obtain⟨ua2,ua2'⟩:=ua2;obtain⟨ud2,ud2'⟩:=ud2;obtain⟨uc2,uc2'⟩:=uc2;clear ha1 hd1 hc1 hb1 ha2 hd2 hc2 hb2 hq;go_enter func393,ntmps393;go_upto_region 2 with fail
 rw[H.o.1];refine RG.yP (λX=>Hid (X=w)) (ι rfl) ?_;iterate 3 refine RG.dS ?_
 apply RG.xJ
 ·intro w9 hw9;repeat go_step
  refine(R1.o _).mono ?_;rintro e w10 ⟨rfl,rfl⟩;simp only[];repeat go_step
  exact RG.xC hw9
 ·rfl
 refine RG.dS ?_;refine RG.xS (λw5 hw5=>?_);have ehw5:=hw5.o;subst ehw5;clear hw5;go_upto_region 4 with fail
 rw[H.o.2.2.1];refine RG.yP (λX=>Hid (X=w5)) (ι rfl) ?_;iterate 3 refine RG.dS ?_
 apply RG.xJ
 ·intro w9 hw9;repeat go_step
  refine(R2.o _).mono ?_;rintro e w10 ⟨rfl,rfl⟩;simp only[];repeat go_step
  exact RG.xC hw9
 ·rfl
 refine RG.dS ?_;refine RG.xS (λw6 hw6=>?_);have ehw6:=hw6.o;subst ehw6;clear hw6;go_upto_region 6 with fail
 rw[H.o.2.2.2.2.1];refine RG.yP (λX=>Hid (X=w6)) (ι rfl) ?_;iterate 3 refine RG.dS ?_
 apply RG.xJ
 ·intro w9 hw9;repeat go_step
  refine(R3.o _).mono ?_;rintro e w10 ⟨rfl,rfl⟩;simp only[];repeat go_step
  exact RG.xC hw9
 ·rfl
 refine RG.dS ?_;refine RG.xS (λw7 hw7=>?_);have ehw7:=hw7.o;subst ehw7;clear hw7;go_upto_region 8 with fail
 rw[H.o.2.2.2.2.2.2.1];refine RG.yP (λX=>Hid (X=w7)) (ι rfl) ?_;iterate 3 refine RG.dS ?_
 apply RG.xJ
 ·intro w9 hw9;repeat go_step
  refine(R4.o _).mono ?_;rintro e w10 ⟨rfl,rfl⟩;simp only[];repeat go_step
  exact RG.xC hw9
 ·rfl
 refine RG.dS ?_;refine RG.xS (λw8 hw8=>?_);have ehw8:=hw8.o;subst ehw8;clear hw8;go_wp2;refine bodyPost_ret (xLi rfl _ _ _) rfl ?_;exact⟨rfl,rfl⟩
end Go.Proofs.SH
namespace Mailsack
def xPr (ws:List Int) (a b c d:Nat) (q:Q4) (f1 f2 f3 f4:Bool):List Int:=
 (List.range 16).map λi=>if f1&&i==a then q.a else if f2&&i==b then q.b else if f3&&i==c then q.c else if f4&&i==d then q.d else ws.getD i 0
def pY (ws:List Int) (a b c d:Nat):List Int:=xPr ws a b c d (jM ⟨ws.getD a 0,ws.getD b 0,ws.getD c 0,ws.getD d 0⟩) true true true true
theorem kE (ws:List Int) (a b c d:Nat) (q:Q4) (f1 f2 f3 f4:Bool):(xPr ws a b c d q f1 f2 f3 f4).length=16:=by simp[xPr]
theorem xF5 (ws:List Int) (a b c d:Nat) (q:Q4) (f1 f2 f3 f4:Bool) {i:Nat} (h:i<16):(xPr ws a b c d q f1 f2 f3 f4)[i]?=some (if f1&&i==a then q.a else if f2&&i==b then q.b else if f3&&i==c then q.c else if f4&&i==d then q.d else ws.getD i 0):=by
 unfold xPr;rw[List.getElem?_map,List.getElem?_range h]
 rfl
theorem xLv (ws:List Int) (a b c d:Nat) (q:Q4) (h:ws.length=16):xPr ws a b c d q false false false false=ws:=by
 apply List.ext_getElem?;intro i
 by_cases hi:i<16
 ·rw[xF5 _ _ _ _ _ _ _ _ _ _ hi];simp[List.getD_eq_getElem?_getD,List.getElem?_eq_getElem (show i<ws.length by omega)]
 ·rw[List.getElem?_eq_none (by rw[kE];omega),List.getElem?_eq_none ω]
theorem mixW_u {ws:List Int} (hw:jH ws) (a b c d:Nat) {q:Q4} (ha:U32 q.a) (hb:U32 q.b) (hc:U32 q.c) (hd:U32 q.d) (f1 f2 f3 f4:Bool):jH (xPr ws a b c d q f1 f2 f3 f4):=by
 intro i
 by_cases hi:i<16
 ·rw[List.getD_eq_getElem?_getD,xF5 _ _ _ _ _ _ _ _ _ _ hi];simp only[Option.getD_some];split
  ·exact ha
  ·split
   ·exact hb
   ·split
    ·exact hc
    ·split
     ·exact hd
     ·exact hw i
 ·rw[List.getD_eq_getElem?_getD,List.getElem?_eq_none (by rw[kE];omega)];exact⟨δ,δ⟩
theorem jG {ws:List Int} (hw:jH ws) (a b c d:Nat):jH (pY ws a b c d):=by
 have h:=xHz ⟨ws.getD a 0,ws.getD b 0,ws.getD c 0,ws.getD d 0⟩;exact mixW_u hw a b c d h.1 h.2.1 h.2.2.1 h.2.2.2 _ _ _ _
theorem jX (ws:List Int) (a b c d:Nat):(pY ws a b c d).length=16:=kE _ _ _ _ _ _ _ _ _ _
theorem xJ2 {ws:List Int} {a b c d:Nat} {q:Q4} {f1 f2 f3 f4 g1 g2 g3 g4:Bool} (p:Nat) (x:Int) (h:∀i,i<16->(if f1&&i==a then q.a else if f2&&i==b then q.b else if f3&&i==c then q.c else if f4&&i==d then q.d else ws.getD i 0)=if i=p then x else(if g1&&i==a then q.a else if g2&&i==b then q.b else if g3&&i==c then q.c else if g4&&i==d then q.d else ws.getD i 0)):(xPr ws a b c d q g1 g2 g3 g4).set p x=xPr ws a b c d q f1 f2 f3 f4:=by
 apply List.ext_getElem?;intro i;rw[List.getElem?_set]
 by_cases hi:i<16
 ·rw[xF5 ws a b c d q f1 f2 f3 f4 hi,h i hi]
  by_cases e:p=i
  ·subst e;simp[kE,hi]
  ·rw[if_neg e,if_neg (Ne.symm e),xF5 _ _ _ _ _ _ _ _ _ _ hi]
 ·rw[List.getElem?_eq_none (l:=xPr ws a b c d q f1 f2 f3 f4) (by rw[kE];omega)];split
  ·rw[if_neg (by rw[kE];omega)]
  ·rw[List.getElem?_eq_none (by rw[kE];omega)]
end Mailsack
namespace Go.Proofs.SH
open Go.RowKit Mailsack MM BB
structure xTp (w:World) (g:Nat) (ws:List Int) (a b c d:Nat) (q:Q4) (f1 f2 f3 f4:Bool) (W:World):Prop where
 st:W.heap[g]?=some (.cells (yV (xPr ws a b c d q f1 f2 f3 f4)) 311 (0,0))
 grn:w.grownBy W (some g)
theorem xQ3 {w W:World} {r:Option Nat} (h:w.grownBy W r):w.grownBy W.drew r:=⟨h.os,h.tape,h.output,h.size,h.block⟩
theorem xWt {w W:World} {g:Nat} (h:w.grownBy W (some g)) (i:Nat) (u:Value):w.grownBy (W.setCell ⟨g,i,none⟩ u) (some g):=
 ⟨h.os,h.tape,h.output,by simpa[World.setCell] using h.size,λk hk hne=>(Below.heap_setCell W ⟨g,i,none⟩ u k (λe=>hne (by rw[e]))).trans (h.block k hk hne)⟩
theorem xTp.cell {w:World} {g:Nat} {ws:List Int} {a b c d:Nat} {q:Q4} {W:World} (hl:ws.length=16) (h:xTp w g ws a b c d q false false false false W) {i:Nat} (hi:i<16):W.cell? ⟨g,i,none⟩=some (.int .u32 (ws.getD i 0)):=by
 have:=h.st;rw[xLv _ _ _ _ _ _ hl] at this;rw[xA this,uL ω]
theorem xTp.put {w:World} {g:Nat} {ws:List Int} {a b c d:Nat} {q:Q4} {f1 f2 f3 f4:Bool} {W:World} (h:xTp w g ws a b c d q f1 f2 f3 f4 W) (p:Nat) (x:Int) {g1 g2 g3 g4:Bool} (he:(xPr ws a b c d q f1 f2 f3 f4).set p x=xPr ws a b c d q g1 g2 g3 g4):xTp w g ws a b c d q g1 g2 g3 g4 (W.setCell ⟨g,p,none⟩ (.int .u32 x)):=by
 refine⟨?_,xWt h.grn _ _⟩;have:=xY h.st p (.int .u32 x);rw[xD0,he] at this;exact this
theorem tQ (ws:List Int) (g a b c d:Nat) (w:World) (hg:w.heap[g]?=some (.cells (yV ws) 311 (0,0))) (hl:ws.length=16) (hu:jH ws) (ha:a<16) (hb:b<16) (hc:c<16) (hd:d<16) (hne:a≠b/\a≠c/\a≠d/\b≠c/\b≠d/\c≠d):
  Calls prog 336 #[.pointer (some ⟨g,0,none⟩),.int .i64 a,.int .i64 b,.int .i64 c,.int .i64 d] w λe w'=>e=.returned (.tuple #[])/\w'.heap[g]?=some (.cells (yV (pY ws a b c d)) 311 (0,0))/\w.grownBy w' (some g):=by
 have HQ:=ι (λW=>xNk (ws.getD a 0) (ws.getD b 0) (ws.getD c 0) (ws.getD d 0) W (hu a) (hu b) (hu c) (hu d));have HU:=ι (xHz ⟨ws.getD a 0,ws.getD b 0,ws.getD c 0,ws.getD d 0⟩)
 have HT:Hid (pY ws a b c d=xPr ws a b c d (jM ⟨ws.getD a 0,ws.getD b 0,ws.getD c 0,ws.getD d 0⟩) true true true true):=ι rfl;generalize jM ⟨ws.getD a 0,ws.getD b 0,ws.getD c 0,ws.getD d 0⟩=q at HQ HU HT;obtain⟨qa,qb,qc,qd⟩:=q
 have H0:Hid (xTp w g ws a b c d ⟨qa,qb,qc,qd⟩ false false false false w):=ι ⟨by rw[xLv _ _ _ _ _ _ hl];exact hg,⟨rfl,rfl,rfl,Nat.le_refl _,λ_ _ _=>rfl⟩⟩
 have HC:Hid (∀W,xTp w g ws a b c d ⟨qa,qb,qc,qd⟩ false false false false W->∀i,i<16->W.cell? ⟨g,i,none⟩=some (.int .u32 (ws.getD i 0))):=ι (λW h i hi=>h.cell hl hi);obtain⟨n1,n2,n3,n4,n5,n6⟩:=hne
 have HN:=ι (And.intro n1 (And.intro n2 (And.intro n3 (And.intro n4 (And.intro n5 n6)))));clear hg hl hu n1 n2 n3 n4 n5 n6;go_enter func336,ntmps336;go_upto_region 0 with fail
 refine RG.yD 46 (λL W=>Hid (xTp w g ws a b c d ⟨qa,qb,qc,qd⟩ (L 36) (L 39) (L 42) (L 45) W)) (λL L' W h hI=>by rw[<-h 36 δ,<-h 39 δ,<-h 42 δ,<-h 45 δ];exact hI) κ κ rfl (ι ⟨H0.o.st,xQ3 H0.o.grn⟩) ?_;iterate 12 refine RG.cS ?_
 apply RG.xN
 ·rfl
 ·rfl
 ·intro L w9 h0 hcl xK hw9;have e1:=hcl.not 6 (i:=36) h0 κ;have e2:=hcl.not 6 (i:=39) h0 κ;have e3:=hcl.not 6 (i:=42) h0 κ;have e4:=hcl.not 6 (i:=45) h0 κ;have hs:=hw9.o;rw[e1,e2,e3,e4] at hs;have q:=HC.o w9 hs a ha;clear e1 e2 e3 e4 hs;repeat go_step
  refine RG.xC ?_;exact⟨xK,hw9⟩
 ·rfl
 iterate 4 refine RG.cS ?_
 apply RG.xN
 ·rfl
 ·rfl
 ·intro L w9 h0 hcl xK hw9;have e1:=hcl.not 6 (i:=36) h0 κ;have e2:=hcl.not 6 (i:=39) h0 κ;have e3:=hcl.not 6 (i:=42) h0 κ;have e4:=hcl.not 6 (i:=45) h0 κ;have hs:=hw9.o;rw[e1,e2,e3,e4] at hs;have q:=HC.o w9 hs b hb;clear e1 e2 e3 e4 hs;repeat go_step
  refine RG.xC ?_;exact⟨xK,hw9⟩
 ·rfl
 iterate 4 refine RG.cS ?_
 apply RG.xN
 ·rfl
 ·rfl
 ·intro L w9 h0 hcl xK hw9;have e1:=hcl.not 6 (i:=36) h0 κ;have e2:=hcl.not 6 (i:=39) h0 κ;have e3:=hcl.not 6 (i:=42) h0 κ;have e4:=hcl.not 6 (i:=45) h0 κ;have hs:=hw9.o;rw[e1,e2,e3,e4] at hs;have q:=HC.o w9 hs c hc;clear e1 e2 e3 e4 hs;repeat go_step
  refine RG.xC ?_;exact⟨xK,hw9⟩
 ·rfl
 iterate 4 refine RG.cS ?_
 apply RG.xN
 ·rfl
 ·rfl
 ·intro L w9 h0 hcl xK hw9;have e1:=hcl.not 6 (i:=36) h0 κ;have e2:=hcl.not 6 (i:=39) h0 κ;have e3:=hcl.not 6 (i:=42) h0 κ;have e4:=hcl.not 6 (i:=45) h0 κ;have hs:=hw9.o;rw[e1,e2,e3,e4] at hs;have q:=HC.o w9 hs d hd;clear e1 e2 e3 e4 hs;repeat go_step
  refine RG.xC ?_;exact⟨xK,hw9⟩
 ·rfl
 apply RG.xN
 ·rfl
 ·rfl
 ·intro L w9 h0 hcl xK hw9;repeat go_step
  refine(HQ.o _).mono ?_;rintro e w10 ⟨rfl,rfl⟩;simp only[];repeat go_step
  refine RG.xC ?_;exact⟨xK,hw9⟩
 ·rfl
 iterate 7 refine RG.cS ?_
 apply RG.xN
 ·rfl
 ·rfl
 ·intro L w9 h0 hcl xK hw9;have q1:=xA hw9.o.st a;rw[uL (by rw[kE];exact ha)] at q1;have q2:=xB hw9.o.st a
  have hp:=ι (hw9.o.put a qa (xJ2 a qa (f1:=true) (f2:=(L 39)) (f3:=(L 42)) (f4:=(L 45)) (λi _=>by
   by_cases e:i=a
   ·subst e;simp
   ·simp[e])))
  generalize List.getD _ a 0=old at q1;repeat go_step
  refine RG.xC ?_;refine⟨xK,?_⟩;show Hid (xTp w g ws a b c d ⟨qa,qb,qc,qd⟩ true (L 39) (L 42) (L 45) _);with_reducible exact hp
 ·rfl
 iterate 2 refine RG.cS ?_
 apply RG.xN
 ·rfl
 ·rfl
 ·intro L w9 h0 hcl xK hw9;have q1:=xA hw9.o.st b;rw[uL (by rw[kE];exact hb)] at q1;have q2:=xB hw9.o.st b
  have hp:=ι (hw9.o.put b qb (xJ2 b qb (f1:=(L 36)) (f2:=true) (f3:=(L 42)) (f4:=(L 45)) (λi _=>by
   obtain⟨n1,_⟩:=HN.o
   by_cases e:i=b
   ·subst e;simp[Ne.symm n1]
   ·simp[e])))
  generalize List.getD _ b 0=old at q1;repeat go_step
  refine RG.xC ?_;refine⟨xK,?_⟩;show Hid (xTp w g ws a b c d ⟨qa,qb,qc,qd⟩ (L 36) true (L 42) (L 45) _);with_reducible exact hp
 ·rfl
 iterate 2 refine RG.cS ?_
 apply RG.xN
 ·rfl
 ·rfl
 ·intro L w9 h0 hcl xK hw9;have q1:=xA hw9.o.st c;rw[uL (by rw[kE];exact hc)] at q1;have q2:=xB hw9.o.st c
  have hp:=ι (hw9.o.put c qc (xJ2 c qc (f1:=(L 36)) (f2:=(L 39)) (f3:=true) (f4:=(L 45)) (λi _=>by
   obtain⟨_,n2,_,n4,_⟩:=HN.o
   by_cases e:i=c
   ·subst e;simp[Ne.symm n2,Ne.symm n4]
   ·simp[e])))
  generalize List.getD _ c 0=old at q1;repeat go_step
  refine RG.xC ?_;refine⟨xK,?_⟩;show Hid (xTp w g ws a b c d ⟨qa,qb,qc,qd⟩ (L 36) (L 39) true (L 45) _);with_reducible exact hp
 ·rfl
 iterate 2 refine RG.cS ?_
 apply RG.xN
 ·rfl
 ·rfl
 ·intro L w9 h0 hcl xK hw9;have q1:=xA hw9.o.st d;rw[uL (by rw[kE];exact hd)] at q1;have q2:=xB hw9.o.st d
  have hp:=ι (hw9.o.put d qd (xJ2 d qd (f1:=(L 36)) (f2:=(L 39)) (f3:=(L 42)) (f4:=true) (λi _=>by
   obtain⟨_,_,n3,_,n5,n6⟩:=HN.o
   by_cases e:i=d
   ·subst e;simp[Ne.symm n3,Ne.symm n5,Ne.symm n6]
   ·simp[e])))
  generalize List.getD _ d 0=old at q1;repeat go_step
  refine RG.xC ?_;refine⟨xK,?_⟩;show Hid (xTp w g ws a b c d ⟨qa,qb,qc,qd⟩ (L 36) (L 39) (L 42) true _);with_reducible exact hp
 ·rfl
 refine RG.xZ (λw9 hw9=>?_)
 go_end0
 rw[HT.o];exact⟨rfl,hw9.o.st,hw9.o.grn⟩
end Go.Proofs.SH
namespace Mailsack
def xU4 (c0 c1 c2 c3:Int):Int:=Go.bits .or .u32 (Go.bits .or .u32 (Go.bits .or .u32 c0 (c1*256)) (c2*65536)) (c3*16777216)
def xR3 (b:ByteArray) (k:Nat):Int:=xU4 (yQ (b.extract (4*k) (4*k+4)) 0) (yQ (b.extract (4*k) (4*k+4)) 1) (yQ (b.extract (4*k) (4*k+4)) 2) (yQ (b.extract (4*k) (4*k+4)) 3)
theorem xU1 (b:ByteArray) (k:Nat):U32 (xR3 b k):=by unfold xR3 xU4;exact xA6 _ _ _
def xAu (ws:List Int) (off:Nat) (b:ByteArray):Nat->List Int
 |0=>ws
 |k+1=>(xAu ws off b k).set (off+k) (xR3 b k)
theorem qG (ws:List Int) (off:Nat) (b:ByteArray):∀k,(xAu ws off b k).length=ws.length
 |0=>rfl
 |k+1=>by simp[xAu,qG ws off b k]
theorem xK2 {ws:List Int} (h:jH ws) (off:Nat) (b:ByteArray):∀k,jH (xAu ws off b k)
 |0=>h
 |k+1=>(xK2 h off b k).set (off+k) (xU1 b k)
end Mailsack
namespace Go.Proofs.SH
open Go.RowKit Mailsack MM BB
structure xYe (w:World) (g:Nat) (xs:List Int) (W:World):Prop where
 st:W.heap[g]?=some (.cells (yV xs) 311 (0,0))
 grn:w.grownBy W (some g)
theorem xYe.drew {w:World} {g:Nat} {xs:List Int} {W:World} (h:xYe w g xs W):xYe w g xs W.drew:=⟨h.st,xQ3 h.grn⟩
theorem xYe.put {w:World} {g:Nat} {xs:List Int} {W:World} (h:xYe w g xs W) (p:Nat) (x:Int):xYe w g (xs.set p x) (W.setCell ⟨g,p,none⟩ (.int .u32 x)):=by
 refine⟨?_,xWt h.grn _ _⟩;have:=xY h.st p (.int .u32 x);rw[xD0] at this;exact this
theorem tY (ws:List Int) (g off n cap:Nat) (b:ByteArray) (w:World) (hg:w.heap[g]?=some (.cells (yV ws) 311 (0,0))) (hn:off+n<=ws.length) (hb:4*n<=b.size) (hn2:n<=16):
  Calls prog 335 #[.slice (some ⟨g,off,none⟩) n cap,.string b] w λe w'=>e=.returned (.tuple #[])/\w'.heap[g]?=some (.cells (yV (xAu ws off b n)) 311 (0,0))/\w.grownBy w' (some g):=by
 have H0:Hid (xYe w g (xAu ws off b 0) w):=ι ⟨hg,⟨rfl,rfl,rfl,Nat.le_refl _,λ_ _ _=>rfl⟩⟩;have HL:=ι (λk=>qG ws off b k);clear hg;go_enter func335,ntmps335;go_wp2_with fail
 go_loopw [8] (λiv wr=>∃k:Nat,k<=n/\iv=.int .i64 k/\Hid (xYe w g (xAu ws off b k) wr)) (λiv _=>n- (intOf iv).toNat)
 case atStart=>exact⟨0,Nat.zero_le _,rfl,H0⟩
 case round=>
  obtain⟨k,hk,rfl,hr⟩:=hrel;clear H0
  by_cases hlt:k<n
  ·have hl:=HL.o k;have HW:Hid (xAu ws off b (k+1)=(xAu ws off b k).set (off+k) (xR3 b k)):=ι rfl;obtain⟨z,hz⟩:∃z,xR3 b k=z:=⟨_,rfl⟩;rw[hz] at HW;generalize xAu ws off b k=xs at hr hl HW;go_upto_region 4 with fail
   refine RG.yT [21] (λL W=>Hid (xYe w g (if L 21 then xs.set (off+k) z else xs) W)) (λL L' W h hI=>by rw[<-h 21 δ];exact hI) κ κ δ (ι hr.o.drew) ?_;iterate 3 refine RG.lS ?_
   unfold xR3 at hz;obtain⟨x,hx⟩:∃x,b.extract (4*k) (4*k+4)=x:=⟨_,rfl⟩;rw[hx] at hz⊢;have hxs:x.size=4:=by rw[<-hx,ByteArray.size_extract];omega
   have i0:=λw=>zL (P:=prog) underlying9 x 0 0 rfl ω w;have i1:=λw=>zL (P:=prog) underlying9 x 1 1 rfl ω w;have i2:=λw=>zL (P:=prog) underlying9 x 2 2 rfl ω w;have i3:=λw=>zL (P:=prog) underlying9 x 3 3 rfl ω w;obtain⟨r00,r01⟩:=yR x 0
   obtain⟨r10,r11⟩:=yR x 1;obtain⟨r20,r21⟩:=yR x 2;obtain⟨r30,r31⟩:=yR x 3;generalize yQ x 0=c0 at i0 r00 r01 hz;generalize yQ x 1=c1 at i1 r10 r11 hz;generalize yQ x 2=c2 at i2 r20 r21 hz;generalize yQ x 3=c3 at i3 r30 r31 hz;unfold xU4 at hz;have HZ:=ι hz;clear hx hz
   iterate 17 refine RG.lS ?_
   rw[HZ.o];refine RG.lS ?_;apply RG.yA
   ·rfl
   ·intro L w9 h0 _ hw9;rw[h0,if_neg σ] at hw9;have q1:=xA hw9.o.st (off+k);rw[uL ω] at q1;have q2:=xB hw9.o.st (off+k);repeat go_step
    refine RG.xC ?_;have hp:=ι (hw9.o.put (off+k) z);rw[if_pos σ];with_reducible exact hp
   ·rfl
   refine RG.xZ (λw9 hw9=>?_);rw[if_pos rfl,<-HW.o] at hw9;clear i0 i1 i2 i3;go_wp2;exact⟨⟨k+1,ω,by go_num,hw9⟩,by simp[intOf];omega⟩
  ·have hke:k=n:=ω;have hneg:¬((k:Int)<(n:Int)):=ω;have HR:Hid (xYe w g (xAu ws off b n) wr):=by rw[<-hke];exact hr
   clear hr hke hlt hk;go_wp2
   go_end0
   exact⟨rfl,HR.o.st,HR.o.grn⟩
end Go.Proofs.SH
namespace Mailsack
structure S8 where
 a:Int
 b:Int
 c:Int
 d:Int
 e:Int
 f:Int
 g:Int
 h:Int
def S8.list (s:S8):List Int:=[s.a,s.b,s.c,s.d,s.e,s.f,s.g,s.h]
def S8.ok (s:S8):Prop:=U32 s.a/\U32 s.b/\U32 s.c/\U32 s.d/\U32 s.e/\U32 s.f/\U32 s.g/\U32 s.h
def rE:List Int:=[0x428a2f98,0x71374491,0xb5c0fbcf,0xe9b5dba5,0x3956c25b,0x59f111f1,0x923f82a4,0xab1c5ed5,
 0xd807aa98,0x12835b01,0x243185be,0x550c7dc3,0x72be5d74,0x80deb1fe,0x9bdc06a7,0xc19bf174,
 0xe49b69c1,0xefbe4786,0x0fc19dc6,0x240ca1cc,0x2de92c6f,0x4a7484aa,0x5cb0a9dc,0x76f988da,
 0x983e5152,0xa831c66d,0xb00327c8,0xbf597fc7,0xc6e00bf3,0xd5a79147,0x06ca6351,0x14292967,
 0x27b70a85,0x2e1b2138,0x4d2c6dfc,0x53380d13,0x650a7354,0x766a0abb,0x81c2c92e,0x92722c85,
 0xa2bfe8a1,0xa81a664b,0xc24b8b70,0xc76c51a3,0xd192e819,0xd6990624,0xf40e3585,0x106aa070,
 0x19a4c116,0x1e376c08,0x2748774c,0x34b0bcb5,0x391c0cb3,0x4ed8aa4a,0x5b9cca4f,0x682e6ff3,
 0x748f82ee,0x78a5636f,0x84c87814,0x8cc70208,0x90befffa,0xa4506ceb,0xbef9a3f7,0xc67178f2]
def xSj:List Int:=[0x6a09e667,0xbb67ae85,0x3c6ef372,0xa54ff53a,0x510e527f,0x9b05688c,0x1f83d9ab,0x5be0cd19]
theorem xZ3:jH rE:=by
 intro i
 by_cases h:i<64
 ·have:∀j:Fin 64,0<=rE.getD j 0/\rE.getD j 0<4294967296:=by decide +kernel
  exact this ⟨i,h⟩
 ·rw[List.getD_eq_getElem?_getD,List.getElem?_eq_none (by simp[rE];omega)];exact⟨δ,δ⟩
def sumE (s:S8):Int:=Go.bits .xor .u32 (Go.bits .xor .u32 (xHx s.e 26) (xHx s.e 21)) (xHx s.e 7)
def chE (s:S8):Int:=Go.bits .xor .u32 (Go.bits .and .u32 s.e s.f) (Go.bits .and .u32 (Go.bits .xor .u32 (if Go.IntKind.u32.signed=true then -1 else Go.IntKind.u32.max) s.e) s.g)
def sumA (s:S8):Int:=Go.bits .xor .u32 (Go.bits .xor .u32 (xHx s.a 30) (xHx s.a 19)) (xHx s.a 10)
def majA (s:S8):Int:=Go.bits .xor .u32 (Go.bits .xor .u32 (Go.bits .and .u32 s.a s.b) (Go.bits .and .u32 s.a s.c)) (Go.bits .and .u32 s.b s.c)
def rnd (K W:Int) (s:S8):S8:=
 ⟨((s.h+sumE s+chE s+K+W) % 4294967296+(sumA s+majA s) % 4294967296) % 4294967296,s.a,s.b,s.c,(s.d+(s.h+sumE s+chE s+K+W) % 4294967296) % 4294967296,s.e,s.f,s.g⟩
theorem rnd_ok (K W:Int) {s:S8} (h:s.ok):(rnd K W s).ok:=by
 obtain⟨ha,hb,hc,hd,he,hf,hg,hh⟩:=h;exact⟨wF _,ha,hb,hc,wF _,he,hf,hg⟩
def rounds (ws:List Int) (s:S8):Nat->S8
 |0=>s
 |k+1=>rnd (rE.getD k 0) (ws.getD k 0) (rounds ws s k)
theorem xLd (ws:List Int) {s:S8} (h:s.ok):∀k,(rounds ws s k).ok
 |0=>h
 |k+1=>rnd_ok _ _ (xLd ws h k)
def add8 (s r:S8):S8:=⟨(s.a+r.a) % 4294967296,(s.b+r.b) % 4294967296,(s.c+r.c) % 4294967296,(s.d+r.d) % 4294967296,(s.e+r.e) % 4294967296,(s.f+r.f) % 4294967296,(s.g+r.g) % 4294967296,(s.h+r.h) % 4294967296⟩
def xEr (s:S8) (b:ByteArray):S8:=add8 s (rounds (qY b) s 64)
theorem xXy (s:S8) (b:ByteArray):(xEr s b).ok:=⟨wF _,wF _,wF _,wF _,wF _,wF _,wF _,wF _⟩
end Mailsack
namespace Go.Proofs.SH
open Go.RowKit Mailsack MM
structure vT (w:World):Prop where
 ini:∃t fr,w.heap[1]?=some (.cells (yV xSj) t fr)
 rnd:∃t fr,w.heap[4]?=some (.cells (yV rE) t fr)
theorem vT.below {w w':World} {B:Nat} (h:vT w) (hb:Below B w w') (hB:w.heap.size<=B):vT w':=by
 obtain⟨⟨t,fr,h1⟩,t2,fr2,h2⟩:=h;exact⟨⟨t,fr,xD h1 hb (Nat.lt_of_lt_of_le (xH h1) hB)⟩,t2,fr2,xD h2 hb (Nat.lt_of_lt_of_le (xH h2) hB)⟩
theorem wV {P:Program} {t e:TypeId} {n:Nat} {k:IntKind} (ht:P.underlying t=some (.array n e)) (he:P.underlying e=some (.int k)) (hs:(P.info? e).map (·.size)=some 1) (cs:Array Value) (v:Value) (i:Nat) (hi:i<n) (hv:cs[i]?=some v) (w:World):
  (Instr.index t (.agg cs) (.int .i64 (i:Int))).run P w=.ok v w:=by
 have hz:∀w,(sizeOf e).run P w=.ok 1 w:=λw=>by
  cases hq:P.info? e with
  |none=>simp[hq] at hs
  |some j=>
   simp[hq] at hs;simp[sizeOf,typeInfo,hq,hs]
 have ha:∀w,(isAgg e).run P w=.ok false w:=λw=>by
  unfold isAgg;rw[Sem.run_bind,run_underlying he]
  rfl
 simp[Instr.index,asIntOf,run_underlying ht,hi,hz,part,ha,hv]
structure xMy (w:World) (s ws:List Int) (g:Nat) (W:World):Prop where
 st:W.heap[w.heap.size]?=some (.cells (yV s) 386 (0,0))
 res:W.heap[w.heap.size+1]?=some (.cells (yV (List.replicate 8 0)) 386 (0,0))
 wd:W.heap[g]?=some (.cells (yV ws) 438 (0,0))
 tab:vT W
 bel:ψ w W
theorem vT.drew {w:World} (h:vT w):vT w.drew:=⟨h.ini,h.rnd⟩
theorem xMy.drew {w:World} {s ws:List Int} {g:Nat} {W:World} (h:xMy w s ws g W):xMy w s ws g W.drew:=⟨h.st,h.res,h.wd,h.tab.drew,h.bel.drew⟩
theorem pG {w W:World} (h:ψ w W) (i:Nat) (u:Value):ψ w (W.setCell ⟨w.heap.size+1,i,none⟩ u):=h.setCell (p:=⟨w.heap.size+1,i,none⟩) (Nat.le_succ _) u
theorem xXx (S:S8) (b:ByteArray) (w:World) (hS:S.ok) (hb:b.size=64) (hT:vT w):
  Calls prog 337 #[.agg (yV S.list),.string b] w λe w'=>e=.returned (.agg (yV (xEr S b).list))/\ψ w w':=by
 have HT:=ι hT;have HSch:=ι (λW=>xL8 b W hb);have HWl:(qY b).length=64:=xCi b 48;have HWu:=ι (show jH (qY b) from xV5 b 48);have HI:Hid ((prog.info? 438).map (·.size)=some (yV (qY b)).size):=ι (by rw[yY,HWl];kernel_rfl)
 have HO:Hid ((yV (List.replicate 64 0)).size=(yV (qY b)).size):=ι (by rw[yY,yY,HWl,List.length_replicate]);have H1:=ι (tZ (qY b));clear hT;have HF:Hid (xEr S b=add8 S (rounds (qY b) S 64)):=ι rfl;have HS:=ι hS;generalize xEr S b=R at HF⊢
 generalize qY b=ws at HSch HWl HWu HI HO H1 HF;obtain⟨s0,s1,s2,s3,s4,s5,s6,s7⟩:=S;obtain⟨⟨l0,m0⟩,⟨l1,m1⟩,⟨l2,m2⟩,⟨l3,m3⟩,⟨l4,m4⟩,⟨l5,m5⟩,⟨l6,m6⟩,⟨l7,m7⟩⟩:=hS;simp only at l0 m0 l1 m1 l2 m2 l3 m3 l4 m4 l5 m5 l6 m6 l7 m7
 show Calls _ _ #[.agg #[.int .u32 s0,.int .u32 s1,.int .u32 s2,.int .u32 s3,.int .u32 s4,.int .u32 s5,.int .u32 s6,.int .u32 s7],.string b] w _;go_enter func337,ntmps337;go_wp2_with fail
 refine(HSch.o _).mono ?_;rintro e w1 ⟨rfl,hb1⟩;have ha1:=(φ w (.cells (yV [s0,s1,s2,s3,s4,s5,s6,s7]) 386)).alloc σ (.cells (yV (List.replicate 8 0)) 386)
 have HB:Hid (xMy w [s0,s1,s2,s3,s4,s5,s6,s7] ws w1.heap.size (w1.alloc (.cells (yV ws) 438))):=ι ⟨
  xO (xD (zV w (.cells (yV [s0,s1,s2,s3,s4,s5,s6,s7]) 386) (.cells (yV (List.replicate 8 0)) 386)) hb1 (by simp;omega)) _,
  xO (xD (zK w (.cells (yV [s0,s1,s2,s3,s4,s5,s6,s7]) 386) (.cells (yV (List.replicate 8 0)) 386)) hb1 σ) _,
  xM _ _,
  HT.o.below ((ha1.trans (hb1.mono ha1.size)).alloc (Nat.le_trans ha1.size hb1.size) _) ν,
  (ha1.trans (hb1.mono ha1.size)).alloc (Nat.le_trans ha1.size hb1.size) _⟩
 clear hb1 ha1 HT HSch
 have hst:(storeCells ⟨w1.heap.size,0,none⟩ (yV ws).toList).run prog (w1.alloc (.cells #[.int .u32 0,.int .u32 0,.int .u32 0,.int .u32 0,.int .u32 0,.int .u32 0,.int .u32 0,.int .u32 0,.int .u32 0,.int .u32 0,.int .u32 0,.int .u32 0,.int .u32 0,.int .u32 0,.int .u32 0,.int .u32 0,.int .u32 0,.int .u32 0,.int .u32 0,.int .u32 0,.int .u32 0,.int .u32 0,.int .u32 0,.int .u32 0,.int .u32 0,.int .u32 0,.int .u32 0,.int .u32 0,.int .u32 0,.int .u32 0,.int .u32 0,.int .u32 0,.int .u32 0,.int .u32 0,.int .u32 0,.int .u32 0,.int .u32 0,.int .u32 0,.int .u32 0,.int .u32 0,.int .u32 0,.int .u32 0,.int .u32 0,.int .u32 0,.int .u32 0,.int .u32 0,.int .u32 0,.int .u32 0,.int .u32 0,.int .u32 0,.int .u32 0,.int .u32 0,.int .u32 0,.int .u32 0,.int .u32 0,.int .u32 0,.int .u32 0,.int .u32 0,.int .u32 0,.int .u32 0,.int .u32 0,.int .u32 0,.int .u32 0,.int .u32 0] 438))=.ok () (w1.alloc (.cells (yV ws) 438)):=run_storeCells_new w1 _ _ _ HI.o HO.o H1.o
 have hsz:(yV ws).size=64:=by rw[yY,HWl]
 go_upto_region 4 with fail
 clear hst hsz;generalize w1.alloc (.cells (yV ws) 438)=w2 at HB⊢;generalize w1.heap.size=g1 at HB⊢;refine RG.xQ (λW=>Hid (xMy w [s0,s1,s2,s3,s4,s5,s6,s7] ws g1 W)) κ κ (ι HB.o.drew) ?_
 iterate 12
  apply RG.xJ
  ·intro w9 hw9;have q0:w9.cell? ⟨w.heap.size,0,none⟩=some (.int .u32 s0):=xA hw9.o.st 0;have q1:w9.cell? ⟨w.heap.size,1,none⟩=some (.int .u32 s1):=xA hw9.o.st 1;have q2:w9.cell? ⟨w.heap.size,2,none⟩=some (.int .u32 s2):=xA hw9.o.st 2
   have q3:w9.cell? ⟨w.heap.size,3,none⟩=some (.int .u32 s3):=xA hw9.o.st 3;repeat go_step
   exact RG.xC hw9
  ·rfl
 refine RG.xS (λw3 hw3=>?_);clear HB;go_upto_region 5 with fail
 refine RG.xQ (λW=>Hid (xMy w [s0,s1,s2,s3,s4,s5,s6,s7] ws g1 W)) κ κ (ι hw3.o.drew) ?_
 iterate 12
  apply RG.xJ
  ·intro w9 hw9;have q0:w9.cell? ⟨w.heap.size,4,none⟩=some (.int .u32 s4):=xA hw9.o.st 4;have q1:w9.cell? ⟨w.heap.size,5,none⟩=some (.int .u32 s5):=xA hw9.o.st 5;have q2:w9.cell? ⟨w.heap.size,6,none⟩=some (.int .u32 s6):=xA hw9.o.st 6
   have q3:w9.cell? ⟨w.heap.size,7,none⟩=some (.int .u32 s7):=xA hw9.o.st 7;repeat go_step
   exact RG.xC hw9
  ·rfl
 refine RG.xS (λw4 hw4=>?_);clear hw3;go_wp2_with (refine wpList_load_row rfl _ _ rfl g1 rfl _ _ (0,0) _ hw4.o.wd underlying438 rfl HI.o ?_)
 go_loopw [6,7,8,9,10,11,12,13,45] (λva vb vc vd ve vf vg vh iv wr=>∃(k:Nat) (a b c d e f g h:Int),k<=64/\iv=.int .i64 k/\va=.int .u32 a/\vb=.int .u32 b/\vc=.int .u32 c/\vd=.int .u32 d/\ve=.int .u32 e/\vf=.int .u32 f/\vg=.int .u32 g/\vh=.int .u32 h/\Hid ((⟨a,b,c,d,e,f,g,h⟩:S8)=rounds ws ⟨s0,s1,s2,s3,s4,s5,s6,s7⟩ k/\xMy w [s0,s1,s2,s3,s4,s5,s6,s7] ws g1 wr)) (λ_ _ _ _ _ _ _ _ iv _=>64- (intOf iv).toNat)
 case atStart=>exact⟨0,s0,s1,s2,s3,s4,s5,s6,s7,δ,rfl,rfl,rfl,rfl,rfl,rfl,rfl,rfl,rfl,ι ⟨rfl,hw4.o⟩⟩
 case round=>
  obtain⟨k,xa,xb,xc,xd,xe,xf,xg,xh,hk,rfl,rfl,rfl,rfl,rfl,rfl,rfl,rfl,rfl,hr⟩:=hrel;clear hw4
  by_cases hlt:k<64
  ·have HBK:=ι hr.o.2;have hok:=xLd ws HS.o k;rw[<-hr.o.1] at hok;have HRR:=ι hr.o.1;obtain⟨ua,ub,uc,ud,ue,uf,ug,uh⟩:=hok;clear hr;simp only at ua ub uc ud ue uf ug uh;obtain⟨W,hW⟩:∃W,ws.getD k 0=W:=⟨_,rfl⟩;have uW:=HWu.o k;rw[hW] at uW
   have ix:=λw=>wV (P:=prog) underlying438 underlying228 κ (yV ws) (.int .u32 W) k hlt (by rw[uL ω,hW]) w;obtain⟨K,hK⟩:∃K,rE.getD k 0=K:=⟨_,rfl⟩;have uK:=xZ3 k;rw[hK] at uK
   have gK:∀X,Hid (xMy w [s0,s1,s2,s3,s4,s5,s6,s7] ws g1 X)->X.cell? ⟨4,k,none⟩=some (.int .u32 K):=λX h=>by
    obtain⟨t,fr,hh⟩:=h.o.tab.rnd;rw[cell_of_row _ _ _ _ _ _ hh,uL (by simp[rE];omega),hK]
   have GK:=ι gK;have R1:=ι (λX=>kC xe (-6) 26 X ue δ δ);have R2:=ι (λX=>kC xe (-11) 21 X ue δ δ);have R3:=ι (λX=>kC xe (-25) 7 X ue δ δ);have R4:=ι (λX=>kC xa (-2) 30 X ua δ δ);have R5:=ι (λX=>kC xa (-13) 19 X ua δ δ);have R6:=ι (λX=>kC xa (-22) 10 X ua δ δ)
   have HU:Hid (rnd K W ⟨xa,xb,xc,xd,xe,xf,xg,xh⟩=rounds ws ⟨s0,s1,s2,s3,s4,s5,s6,s7⟩ (k+1)):=ι (by rw[HRR.o,<-hK,<-hW];rfl);obtain⟨ua0,ua1⟩:=ua;obtain⟨ub0,ub1⟩:=ub;obtain⟨uc0,uc1⟩:=uc;obtain⟨ud0,ud1⟩:=ud;obtain⟨ue0,ue1⟩:=ue;obtain⟨uf0,uf1⟩:=uf;obtain⟨ug0,ug1⟩:=ug
   obtain⟨uh0,uh1⟩:=uh;obtain⟨uW0,uW1⟩:=uW;obtain⟨uK0,uK1⟩:=uK;clear gK hW hK;go_upto_region 9 with fail
   clear ix;refine RG.yP (λX=>Hid (xMy w [s0,s1,s2,s3,s4,s5,s6,s7] ws g1 X)) HBK ?_;refine RG.dS ?_;apply RG.xJ
   ·intro w9 hw9;repeat go_step
    refine(R1.o _).mono ?_;rintro e w10 ⟨rfl,rfl⟩;simp only[];repeat go_step
    exact RG.xC hw9
   ·rfl
   refine RG.dS ?_;apply RG.xJ
   ·intro w9 hw9;repeat go_step
    refine(R2.o _).mono ?_;rintro e w10 ⟨rfl,rfl⟩;simp only[];repeat go_step
    exact RG.xC hw9
   ·rfl
   iterate 2 refine RG.dS ?_
   apply RG.xJ
   ·intro w9 hw9;repeat go_step
    refine(R3.o _).mono ?_;rintro e w10 ⟨rfl,rfl⟩;simp only[];repeat go_step
    exact RG.xC hw9
   ·rfl
   iterate 2 refine RG.dS ?_
   refine RG.xS (λw5 hw5=>?_);clear HBK;go_upto_region 10 with fail
   refine RG.yP (λX=>Hid (xMy w [s0,s1,s2,s3,s4,s5,s6,s7] ws g1 X)) hw5 ?_;clear hw5;iterate 9 refine RG.dS ?_
   refine RG.xS (λw5 hw5=>?_);go_upto_region 11 with fail
   refine RG.yP (λX=>Hid (xMy w [s0,s1,s2,s3,s4,s5,s6,s7] ws g1 X)) hw5 ?_;clear hw5;iterate 6 refine RG.dS ?_
   iterate 2 refine RG.dF (λw9 hw9=>GK.o _ hw9) ?_
   iterate 4 refine RG.dS ?_
   refine RG.xS (λw5 hw5=>?_);go_upto_region 12 with fail
   refine RG.yP (λX=>Hid (xMy w [s0,s1,s2,s3,s4,s5,s6,s7] ws g1 X)) hw5 ?_;clear hw5;refine RG.dS ?_;apply RG.xJ
   ·intro w9 hw9;repeat go_step
    refine(R4.o _).mono ?_;rintro e w10 ⟨rfl,rfl⟩;simp only[];repeat go_step
    exact RG.xC hw9
   ·rfl
   refine RG.dS ?_;apply RG.xJ
   ·intro w9 hw9;repeat go_step
    refine(R5.o _).mono ?_;rintro e w10 ⟨rfl,rfl⟩;simp only[];repeat go_step
    exact RG.xC hw9
   ·rfl
   iterate 2 refine RG.dS ?_
   apply RG.xJ
   ·intro w9 hw9;repeat go_step
    refine(R6.o _).mono ?_;rintro e w10 ⟨rfl,rfl⟩;simp only[];repeat go_step
    exact RG.xC hw9
   ·rfl
   iterate 2 refine RG.dS ?_
   refine RG.xS (λw5 hw5=>?_);go_upto_region 13 with fail
   refine RG.yP (λX=>Hid (xMy w [s0,s1,s2,s3,s4,s5,s6,s7] ws g1 X)) hw5 ?_;clear hw5;iterate 12 refine RG.dS ?_
   refine RG.xS (λw5 hw5=>?_);go_upto_region 14 with fail
   refine RG.yP (λX=>Hid (xMy w [s0,s1,s2,s3,s4,s5,s6,s7] ws g1 X)) hw5 ?_;clear hw5;iterate 4 refine RG.dS ?_
   refine RG.xS (λw5 hw5=>?_);go_upto_region 15 with fail
   refine RG.yP (λX=>Hid (xMy w [s0,s1,s2,s3,s4,s5,s6,s7] ws g1 X)) hw5 ?_;clear hw5;iterate 10 refine RG.dS ?_
   refine RG.xS (λw5 hw5=>?_);go_upto_region 16 with fail
   refine RG.yP (λX=>Hid (xMy w [s0,s1,s2,s3,s4,s5,s6,s7] ws g1 X)) hw5 ?_;clear hw5;iterate 10 refine RG.dS ?_
   refine RG.xS (λw5 hw5=>?_);go_wp2;exact⟨⟨k+1,_,_,_,_,_,_,_,_,ω,by go_num,rfl,rfl,rfl,rfl,rfl,rfl,rfl,rfl,ι ⟨HU.o,hw5.o⟩⟩,by simp[intOf];omega⟩
  ·obtain rfl:k=64:=ω;rw[<-hr.o.1] at HF;have q0:wr.cell? ⟨w.heap.size,0,none⟩=some (.int .u32 s0):=xA hr.o.2.st 0;have q1:wr.cell? ⟨w.heap.size,1,none⟩=some (.int .u32 s1):=xA hr.o.2.st 1;have q2:wr.cell? ⟨w.heap.size,2,none⟩=some (.int .u32 s2):=xA hr.o.2.st 2
   have q3:wr.cell? ⟨w.heap.size,3,none⟩=some (.int .u32 s3):=xA hr.o.2.st 3;have q4:wr.cell? ⟨w.heap.size,4,none⟩=some (.int .u32 s4):=xA hr.o.2.st 4;have q5:wr.cell? ⟨w.heap.size,5,none⟩=some (.int .u32 s5):=xA hr.o.2.st 5
   have q6:wr.cell? ⟨w.heap.size,6,none⟩=some (.int .u32 s6):=xA hr.o.2.st 6;have q7:wr.cell? ⟨w.heap.size,7,none⟩=some (.int .u32 s7):=xA hr.o.2.st 7;have f0:wr.cell? ⟨w.heap.size+1,0,none⟩=some (.int .u32 0):=xA hr.o.2.res 0;have x0:=xB hr.o.2.res 0
   have f1:wr.cell? ⟨w.heap.size+1,1,none⟩=some (.int .u32 0):=xA hr.o.2.res 1;have x1:=xB hr.o.2.res 1;have f2:wr.cell? ⟨w.heap.size+1,2,none⟩=some (.int .u32 0):=xA hr.o.2.res 2;have x2:=xB hr.o.2.res 2
   have f3:wr.cell? ⟨w.heap.size+1,3,none⟩=some (.int .u32 0):=xA hr.o.2.res 3;have x3:=xB hr.o.2.res 3;have f4:wr.cell? ⟨w.heap.size+1,4,none⟩=some (.int .u32 0):=xA hr.o.2.res 4;have x4:=xB hr.o.2.res 4
   have f5:wr.cell? ⟨w.heap.size+1,5,none⟩=some (.int .u32 0):=xA hr.o.2.res 5;have x5:=xB hr.o.2.res 5;have f6:wr.cell? ⟨w.heap.size+1,6,none⟩=some (.int .u32 0):=xA hr.o.2.res 6;have x6:=xB hr.o.2.res 6
   have f7:wr.cell? ⟨w.heap.size+1,7,none⟩=some (.int .u32 0):=xA hr.o.2.res 7;have x7:=xB hr.o.2.res 7;have HRS:=ι hr.o.2.res;have HBL:=ι hr.o.2.bel;clear hr;go_wp2
   refine bodyPost_ret (v:=.agg (yV (add8 ⟨s0,s1,s2,s3,s4,s5,s6,s7⟩ ⟨xa,xb,xc,xd,xe,xf,xg,xh⟩).list)) (by simp[results,results337,go_sem,f0,f1,f2,f3,f4,f5,f6,f7];rfl) rfl ?_;rw[HF.o];refine⟨rfl,?_⟩;have h:=HBL.o
   clear f0 q0 x0 f1 q1 x1 f2 q2 x2 f3 q3 x3 f4 q4 x4 f5 q5 x5 f6 q6 x6 f7 q7 x7;have k0:=pG h 0 (.int .u32 ((s0+xa) % 4294967296));have k1:=pG k0 1 (.int .u32 ((s1+xb) % 4294967296));have k2:=pG k1 2 (.int .u32 ((s2+xc) % 4294967296))
   have k3:=pG k2 3 (.int .u32 ((s3+xd) % 4294967296));have k4:=pG k3 4 (.int .u32 ((s4+xe) % 4294967296));have k5:=pG k4 5 (.int .u32 ((s5+xf) % 4294967296));have k6:=pG k5 6 (.int .u32 ((s6+xg) % 4294967296));have k7:=pG k6 7 (.int .u32 ((s7+xh) % 4294967296))
   with_reducible exact k7
end Go.Proofs.SH
namespace Go.Proofs.BB
open Go.RowKit Mailsack MM
theorem xZ2 {P:Program} (w:World) (base:Nat) (t u ty e:TypeId) (i:TypeInfo) (ht:P.underlying t=some (.slice e)) (hu:P.underlying u=some .string) (hi:P.info? e=some i) (hz:i.zero=some (.int .u8 0))
  (hsize:i.size=1) (hby:i.bytes=1) (g n cap:Nat) (xs:List Value) (hown:w.ownsRow base e 1 (.slice (some ⟨g,0,none⟩) n cap) n xs) (s:ByteArray)
  (h63:n+s.size<=maxLen) (hbytes:n+s.size<=140737488355328) (hbase:base<=w.heap.size):
  ∃v' w',(Builtin.append_ #[t,u] ty #[.slice (some ⟨g,0,none⟩) n cap,.string s]).run P w=.ok v' w'/\w'.ownsRow base e 1 v' (n+s.size) (xs++Lib.strCells s)/\w.grownBy w' (some g)/\
   (v'.ownBlock=some g∨v'.ownBlock=some w.heap.size):=by
 obtain⟨v',w',hr,h2,h3,_⟩:=Lib.run_append_own_string (P:=P) w base t u ty e i ht hu hi hz hsize hby _ n xs hown s h63 hbytes hbase;refine⟨v',w',hr,h2,h3,?_⟩;have hsmall:n+s.size<=9223372036854775807:=by simp only[maxLen] at h63;omega
 have hxl:xs.length=n:=by simpa using hown.1
 rcases hown.2 with ⟨h,_⟩|⟨g',cap',cur,h,hbg,hg,hnc,hcm,hcs,htake⟩
 ·cases h
 ·injection h with h h' h'';injection h with h;injection h with h;subst h h''
  by_cases hroom:n+s.size<=cap
  ·have hcs':cur.size=cap:=by simpa using hcs
   have hq:=Lib.run_append_room_string (P:=P) w t u ty e i ht hu hi hsize g n cap cur hg s hroom ω;rw[hq] at hr;injection hr with hv hw;exact .inl (by rw[<-hv];rfl)
  ·have holds:∀j u,xs[j]?=some u->w.cell? ((⟨g,0,none⟩:Addr).add j)=some u:=hown.cells (g:=g) rfl
   have hq:=Lib.run_append_grow_string (P:=P) w t u ty e i (.int .u8 0) ht hu hi hz ⟨g,0,none⟩ n cap xs (by rw[hsize];simpa using hxl) holds s ω ω (by rw[hby];exact growslice_fits ω ω);rw[hq] at hr;injection hr with hv hw;exact .inr (by rw[<-hv];rfl)
theorem xFf {P:Program} {w:World} {ops:Array Oper} {rest:List Oper} {o:Oper} {a:Act} {Q:Exit->Act->World->Prop} (hgd:o.guard=none) (sl x:Operand) (t u:TypeId)
  (ho:o.op=.call {callee:=.builtin .append,args:=#[sl,x],argTypes:=#[t,u]})
  (base:Nat) (e:TypeId) (i:TypeInfo) (ht:P.underlying t=some (.slice e)) (hu:P.underlying u=some .string) (hi:P.info? e=some i) (hz:i.zero=some (.int .u8 0))
  (hsize:i.size=1) (hby:i.bytes=1)
  (g n cap:Nat) (xs:List Value) (hs:a.eval sl=.slice (some ⟨g,0,none⟩) n cap) (hown:w.ownsRow base e 1 (.slice (some ⟨g,0,none⟩) n cap) n xs) (s:ByteArray) (hx:a.eval x=.string s)
  (h63:n+s.size<=maxLen) (hbytes:n+s.size<=140737488355328) (hbase:base<=w.heap.size)
  (h:∀v' w',w'.ownsRow base e 1 v' (n+s.size) (xs++Lib.strCells s)->w.grownBy w' (some g)->(v'.ownBlock=some g∨v'.ownBlock=some w.heap.size)->wpList P ops Q rest (a.put o.dst v') w'):wpList P ops Q (o::rest) a w:=by
 refine wpList_plain hgd λK hK=>?_;obtain⟨v',w',hr,h2,h3,h4⟩:=xZ2 (P:=P) w base t u o.type e i ht hu hi hz hsize hby g n cap xs hown s h63 hbytes hbase;unfold Oper.wp execOp
 simp only[ho,resolve,invoke,builtin,Sem.run_bind,Sem.run_pure,Result.andThen_ok,List.map_toArray,List.map_cons,List.map_nil,hs,hx,hr];exact hK _ _ (h v' w' h2 h3 h4)
theorem xSk:(prog.info? 5).map (λi=>(i.zero,i.size,i.bytes))=some (some (.int .u8 0),1,1):=κ
theorem jA {P:Program} {t:TypeId} {z:Value} {n b:Nat} (h:(P.info? t).map (λi=>(i.zero,i.size,i.bytes))=some (some z,n,b)):∃i,P.info? t=some i/\i.zero=some z/\i.size=n/\i.bytes=b:=by
 cases hq:P.info? t with
 |none=>rw[hq] at h;cases h
 |some i=>
  rw[hq] at h;simp only[Option.map_some,Option.some.injEq,Prod.mk.injEq] at h;exact⟨i,rfl,h.1,h.2.1,h.2.2⟩
def uG (w:World) (base:Nat) (v:Value) (l:Bs):Prop:=w.ownsRow base 5 1 v l.length (l.map λc=>Value.int .u8 (c.toNat:Int))
theorem uG.row {w:World} {base:Nat} {v:Value} {l:Bs} (h:uG w base v l):w.ownsRow base 5 1 v l.length (l.map λc=>Value.int .u8 (c.toNat:Int)):=h
theorem uG.of {w:World} {base:Nat} {v:Value} {l m:Bs} (h:w.ownsRow base 5 1 v (l.length+m.length) (l.map (λc=>Value.int .u8 (c.toNat:Int))++m.map (λc=>Value.int .u8 (c.toNat:Int)))):uG w base v (l++m):=by
 unfold uG;rw[List.length_append,List.map_append];exact h
theorem uG.alloc {w:World} {base:Nat} {v:Value} {l:Bs} (h:uG w base v l) (o:Obj):uG (w.alloc o) base v l:=World.ownsRow.alloc h o
theorem uG.grown {w w':World} {base:Nat} {v:Value} {l:Bs} {row:Option Nat} (h:uG w base v l) (hg:w.grownBy w' row) (hne:v.ownBlock=none∨v.ownBlock≠row):uG w' base v l:=h.row.kept hg hne
theorem uG.below {w w':World} {base:Nat} {v:Value} {l:Bs} (h:uG w base v l) (hb:ψ w w'):uG w' base v l:=
 h.grown (pQ hb none) (by cases v.ownBlock<;>simp)
theorem uG.drew {w:World} {base:Nat} {v:Value} {l:Bs} (h:uG w base v l):uG w.drew base v l:=h
theorem uG.form {w:World} {base:Nat} {v:Value} {l:Bs} (h:uG w base v l):∃A c,v=.slice A l.length c/\l.length<=c:=by
 rcases h.2 with ⟨h1,h2⟩|⟨g,cap,cur,h1,_,_,h2,_⟩
 ·exact⟨none,0,by rw[h1,h2],ω⟩
 ·exact⟨_,_,h1,h2⟩
theorem uG.room (w:World) (c:Nat) (base:Nat) (hb:base<=w.heap.size) (hc:c<=9223372036854775807):uG (w.alloc (.cells (yE (xP c)) 5)) base (.slice (some ⟨w.heap.size,0,none⟩) 0 c) []:=
 ⟨rfl,.inr ⟨w.heap.size,c,_,rfl,hb,xM _ _,Nat.zero_le _,by unfold maxLen;exact hc,by rw[uO,yO,Nat.mul_one],σ⟩⟩
theorem uG.head {w:World} {g:Nat} {l:Bs} (h:wK w g l) (n:Nat) (base:Nat) (hb:base<=g) (hn:n<=l.length) (hc:l.length<=9223372036854775807):uG w base (.slice (some ⟨g,0,none⟩) n l.length) (l.take n):=by
 have hl:(l.take n).length=n:=by rw[List.length_take];omega
 unfold uG;rw[hl];refine⟨by simp;omega,.inr ⟨g,l.length,_,rfl,hb,h.blk,hn,by unfold maxLen;exact hc,by rw[uO,Nat.mul_one],?_⟩⟩;rw[Nat.mul_one,List.map_take]
 rfl
theorem uG.text {w:World} {base:Nat} {v:Value} {l:Bs} (h:uG w base v l):(convert 125 9 v).run prog w=.ok (xR l) w:=by
 rcases h.2 with ⟨h1,h2⟩|⟨g,cap,cur,h1,_,_,h2,_⟩
 ·have:l=[]:=List.eq_nil_of_length_eq_zero h2;subst this;have h0:∀W:World,(convert 125 9 (.slice none 0 0)).run prog W=.ok (.string ⟨#[]⟩) W:=λ_=>by kernel_rfl
  rw[h1];exact h0 w
 ·rw[h1];refine run_convert_bytes_back w _ _ 5 ⟨g,0,none⟩ cap l underlying125 underlying5 underlying9 (λj hj=>?_);exact World.ownsRow.cells h (g:=g) (by rw[h1];rfl) j _ (by simp[hj])
theorem xRw {w w2 w1:World} {B n:Nat} {tv:Value} {xs:List Value} {E:TypeId} {o:Obj} (hT:w2.ownsRow B E 1 tv n xs) (hg:(w2.alloc o).grownBy w1 tv.ownBlock) (hb:Below B w w2) (hB:B<=w2.heap.size):Below B w w1:=
 (hb.alloc hB o).grown hg (by simp;omega) (λk hk=>(World.ownsRow.lt hT k hk).1)
theorem xXr (w:World) (xs:List Value) (t:TypeId):∀j u,xs[j]?=some u->(w.alloc (.cells xs.toArray t)).cell? ((⟨w.heap.size,0,none⟩:Addr).add j)=some u:=by
 intro j u hj;have hadd:(⟨w.heap.size,0,none⟩:Addr).add j=⟨w.heap.size,j,none⟩:=by unfold Addr.add;split<;>simp_all
 rw[hadd,xA (xM w (.cells xs.toArray t)) j];simpa using hj
end Go.Proofs.BB
namespace Mailsack
def xTk (r:Bs):Nat:=if 64<r.length+9 then 128 else 64
def endA (r:Bs):Bs:=(r++(xP (xTk r)).drop r.length).set r.length (oct 128)
def xOd (r:Bs) (count:Int):Nat->Bs
 |0=>endA r
 |k+1=>(xOd r count k).set (xTk r-1-k) (oct (count / 2^(8*k)))
def endP (r:Bs) (count:Int):Bs:=xOd r count 8
theorem yE7 (r:Bs) (h:r.length<64):r.length<xTk r:=by unfold xTk;split<;>omega
theorem xK3 (r:Bs) (count:Int) (h:r.length<64):∀k,(xOd r count k).length=xTk r
 |0=>by have:=yE7 r h;simp[xOd,endA,yO];omega
 |k+1=>by simp[xOd,xK3 r count h k]
end Mailsack
namespace Go.Proofs.SH
open Go.RowKit Mailsack MM BB
theorem xSu (b:ByteArray) (count:Int) (w:World) (hb:b.size<64):
  Calls prog 338 #[.string b,.int .u64 count] w λe w'=>e=.returned (.string ⟨(endP b.data.toList count).toArray⟩)/\ψ w w':=by
 have hbl:b.data.toList.length=b.size:=σ;have HL:=ι (λk=>xK3 b.data.toList count ω k)
 by_cases hn:64<b.size+9
 ·have HN:Hid (xTk b.data.toList=128):=ι (by unfold xTk;rw[if_pos ω]);have hmk:∀W:World,(Instr.makeSlice 125 (.int .i64 128) (.int .i64 128)).run prog W=.ok (.slice (some ⟨W.heap.size,0,none⟩) 128 128) (W.alloc (.cells (yE (xP 128)) 5)):=λW=>made W 128 128 δ δ
  have HB0:Hid (wK (w.alloc (.cells (yE (xP 128)) 5)) w.heap.size (xP 128)):=ι (xM _ _);have HW0:=ι (φ w (.cells (yE (xP 128)) 5));go_enter func338,ntmps338;go_upto_region 5 with fail
  refine wp_region_lit ?_;iterate 6 go_step
  refine Lib.wpList_copy_run _ rfl _ _ _ _ rfl _ _ rfl rfl (copied HB0.o _ _ _ _ ω (by rw[yO];omega)) ?_;have HB1:=ι (HB0.o.row (b.data.toList++(xP 128).drop b.size));have HW1:=ι (below_setRow HW0.o ν (yE (b.data.toList++(xP 128).drop b.size)));clear hmk HB0 HW0
  generalize (w.alloc (.cells (yE (xP 128)) 5)).setRow w.heap.size (yE (b.data.toList++(xP 128).drop b.size))=w1 at HB1 HW1⊢;have q0:=HB1.o.cell (i:=b.size) (by simp[yO];omega);have q1:=HB1.o.free b.size
  have HB2:Hid (wK (w1.setCell ⟨w.heap.size,b.size,none⟩ (.int .u8 128)) w.heap.size (xOd b.data.toList count 0)):=ι (by
   have h:=HB1.o.put b.size 128;unfold xOd endA;rw[HN.o,hbl];exact h)
  have HW2:=ι (HW1.o.setCell (p:=⟨w.heap.size,b.size,none⟩) ν (.int .u8 128));clear HB1 HW1;go_wp2_with fail
  clear q0 q1
  go_loopw [21] (λiv wr=>∃k:Nat,k<=8/\iv=.int .i64 k/\Hid (wK wr w.heap.size (xOd b.data.toList count k)/\ψ w wr)) (λiv _=>8- (intOf iv).toNat)
  case atStart=>exact⟨0,δ,rfl,ι ⟨HB2.o,HW2.o⟩⟩
  case round=>
   obtain⟨k,hk,rfl,hr⟩:=hrel;clear HB2 HW2
   by_cases hlt:k<8
   ·have q0:=hr.o.1.cell (i:=127-k) (by rw[HL.o k,HN.o];omega);have q1:=hr.o.1.free (127-k)
    have HK:Hid (wK (wr.setCell ⟨w.heap.size,127-k,none⟩ (.int .u8 (count / 2^(8*k) % 256))) w.heap.size (xOd b.data.toList count (k+1))):=ι (by
     have h:=hr.o.1.put (127-k) (count / 2^(8*k));unfold xOd;rw[HN.o];exact h)
    have HKW:=ι (hr.o.2.setCell (p:=⟨w.heap.size,127-k,none⟩) ν (.int .u8 (count / 2^(8*k) % 256)));clear hr;go_wp2;exact⟨⟨k+1,ω,by go_num,ι ⟨HK.o,HKW.o⟩⟩,by simp[intOf];omega⟩
   ·obtain rfl:k=8:=ω;have ht:=xFm hr.o.1 128 128 (by rw[HL.o 8,HN.o];exact Nat.le_refl _);rw[List.take_of_length_le (by rw[HL.o 8,HN.o];exact Nat.le_refl _)] at ht;have HBW:=ι hr.o.2;clear hr;go_wp2;go_ret;exact⟨rfl,HBW.o⟩
 ·have HN:Hid (xTk b.data.toList=64):=ι (by unfold xTk;rw[if_neg ω]);have hmk:∀W:World,(Instr.makeSlice 125 (.int .i64 64) (.int .i64 64)).run prog W=.ok (.slice (some ⟨W.heap.size,0,none⟩) 64 64) (W.alloc (.cells (yE (xP 64)) 5)):=λW=>made W 64 64 δ δ
  have HB0:Hid (wK (w.alloc (.cells (yE (xP 64)) 5)) w.heap.size (xP 64)):=ι (xM _ _);have HW0:=ι (φ w (.cells (yE (xP 64)) 5));go_enter func338,ntmps338;go_upto_region 5 with fail
  refine wp_region_lit ?_;iterate 6 go_step
  refine Lib.wpList_copy_run _ rfl _ _ _ _ rfl _ _ rfl rfl (copied HB0.o _ _ _ _ ω (by rw[yO];omega)) ?_;have HB1:=ι (HB0.o.row (b.data.toList++(xP 64).drop b.size));have HW1:=ι (below_setRow HW0.o ν (yE (b.data.toList++(xP 64).drop b.size)));clear hmk HB0 HW0
  generalize (w.alloc (.cells (yE (xP 64)) 5)).setRow w.heap.size (yE (b.data.toList++(xP 64).drop b.size))=w1 at HB1 HW1⊢;have q0:=HB1.o.cell (i:=b.size) (by simp[yO];omega);have q1:=HB1.o.free b.size
  have HB2:Hid (wK (w1.setCell ⟨w.heap.size,b.size,none⟩ (.int .u8 128)) w.heap.size (xOd b.data.toList count 0)):=ι (by
   have h:=HB1.o.put b.size 128;unfold xOd endA;rw[HN.o,hbl];exact h)
  have HW2:=ι (HW1.o.setCell (p:=⟨w.heap.size,b.size,none⟩) ν (.int .u8 128));clear HB1 HW1;go_wp2_with fail
  clear q0 q1
  go_loopw [21] (λiv wr=>∃k:Nat,k<=8/\iv=.int .i64 k/\Hid (wK wr w.heap.size (xOd b.data.toList count k)/\ψ w wr)) (λiv _=>8- (intOf iv).toNat)
  case atStart=>exact⟨0,δ,rfl,ι ⟨HB2.o,HW2.o⟩⟩
  case round=>
   obtain⟨k,hk,rfl,hr⟩:=hrel;clear HB2 HW2
   by_cases hlt:k<8
   ·have q0:=hr.o.1.cell (i:=63-k) (by rw[HL.o k,HN.o];omega);have q1:=hr.o.1.free (63-k)
    have HK:Hid (wK (wr.setCell ⟨w.heap.size,63-k,none⟩ (.int .u8 (count / 2^(8*k) % 256))) w.heap.size (xOd b.data.toList count (k+1))):=ι (by
     have h:=hr.o.1.put (63-k) (count / 2^(8*k));unfold xOd;rw[HN.o];exact h)
    have HKW:=ι (hr.o.2.setCell (p:=⟨w.heap.size,63-k,none⟩) ν (.int .u8 (count / 2^(8*k) % 256)));clear hr;go_wp2;exact⟨⟨k+1,ω,by go_num,ι ⟨HK.o,HKW.o⟩⟩,by simp[intOf];omega⟩
   ·obtain rfl:k=8:=ω;have ht:=xFm hr.o.1 64 64 (by rw[HL.o 8,HN.o];exact Nat.le_refl _);rw[List.take_of_length_le (by rw[HL.o 8,HN.o];exact Nat.le_refl _)] at ht;have HBW:=ι hr.o.2;clear hr;go_wp2;go_ret;exact⟨rfl,HBW.o⟩
end Go.Proofs.SH
namespace Mailsack
def xJv:S8:=⟨0x6a09e667,0xbb67ae85,0x3c6ef372,0xa54ff53a,0x510e527f,0x9b05688c,0x1f83d9ab,0x5be0cd19⟩
theorem xQ0:xJv.ok:=⟨⟨δ,δ⟩,⟨δ,δ⟩,⟨δ,δ⟩,⟨δ,δ⟩,⟨δ,δ⟩,⟨δ,δ⟩,⟨δ,δ⟩,⟨δ,δ⟩⟩
def xMr (s:S8) (b:ByteArray):Nat->S8
 |0=>s
 |k+1=>xEr (xMr s b k) (b.extract (64*k) (64*k+64))
theorem xJ8 {s:S8} (h:s.ok) (b:ByteArray):∀k,(xMr s b k).ok
 |0=>h
 |_+1=>xXy _ _
theorem xLb (s:S8) (b:ByteArray) (k:Nat):xMr s b (k+1)=xEr (xMr s b k) (b.extract (64*k) (64*k+64)):=rfl
def xU2 (x:Int):Bs:=[oct (x / 16777216),oct (x / 65536),oct (x / 256),oct x]
def xBm (l:List Int):Nat->Bs
 |0=>[]
 |k+1=>xBm l k++xU2 (l.getD k 0)
theorem xDe (l:List Int):∀k,(xBm l k).length=4*k
 |0=>rfl
 |k+1=>by simp[xBm,xDe l k,xU2];omega
theorem xN0 (l:List Int) (k:Nat):xBm l (k+1)=xBm l k++xU2 (l.getD k 0):=rfl
def xJb (b:ByteArray):ByteArray:=b.extract (64*(b.size / 64)) b.size
theorem xHy (b:ByteArray):(xJb b).size<64:=by unfold xJb;rw[ByteArray.size_extract];omega
def xH6 (b:ByteArray):ByteArray:=⟨(endP (xJb b).data.toList ((b.size:Int)*8)).toArray⟩
def shaS (b:ByteArray):S8:=xMr (xMr xJv b (b.size / 64)) (xH6 b) ((xH6 b).size / 64)
def xH7 (b:ByteArray):Bs:=xBm (shaS b).list 8
theorem xB3 (b:ByteArray):(xH7 b).length=32:=xDe _ 8
theorem xUu (b:ByteArray):(xH6 b).size=xTk (xJb b).data.toList:=by
 have hz:(xJb b).data.toList.length<64:=by
  have:=xHy b;simpa using this
 have h:(endP (xJb b).data.toList ((b.size:Int)*8)).length=xTk (xJb b).data.toList:=by
  unfold endP;exact xK3 _ _ hz 8
 unfold xH6;generalize endP (xJb b).data.toList ((b.size:Int)*8)=l at h;rw[<-h];simp[ByteArray.size]
theorem xRe (b:ByteArray):(xH6 b).size=64∨(xH6 b).size=128:=by
 rw[xUu];unfold xTk;split
 ·exact .inr rfl
 ·exact .inl rfl
end Mailsack
namespace Go.Proofs.SH
open Go.RowKit Mailsack MM BB
structure xKg (w:World) (s:S8) (W:World):Prop where
 st:W.heap[w.heap.size]?=some (.cells (yV s.list) 386 (0,0))
 bel:ψ w W
theorem xKg.drew {w:World} {s:S8} {W:World} (h:xKg w s W):xKg w s W.drew:=⟨h.st,h.bel.drew⟩
theorem xKg.below {w:World} {s:S8} {W W':World} (h:xKg w s W) (hb:ψ W W'):xKg w s W':=
 ⟨xD h.st hb (xH h.st),h.bel.trans (hb.mono h.bel.size)⟩
theorem xKg.put {w:World} {s:S8} {W:World} (h:xKg w s W) (s':S8):xKg w s' (W.setRow w.heap.size (yV s'.list)):=
 ⟨setRow_heap _ _ _ _ _ _ h.st,below_setRow h.bel ν _⟩
theorem xKg.tab {w:World} {s:S8} {W:World} (h:xKg w s W) (ht:vT w):vT W:=ht.below h.bel ν
theorem xX9 (b:ByteArray):b.extract 0 b.size=b:=σ
theorem list_u {s:S8} (h:s.ok):jH s.list:=by
 obtain⟨h0,h1,h2,h3,h4,h5,h6,h7⟩:=h;intro i
 match i with
 |0=>exact h0
 |1=>exact h1
 |2=>exact h2
 |3=>exact h3
 |4=>exact h4
 |5=>exact h5
 |6=>exact h6
 |7=>exact h7
 |n+8=>
  rw[List.getD_eq_getElem?_getD,List.getElem?_eq_none (by simp[S8.list])];exact⟨δ,δ⟩
def SI (w:World) (s s':S8) (l0 l3 l4:Bool) (W:World):Prop:=(l3=true->l0=true)/\(l4=true->l3=true)/\xKg w (if l4 then s' else s) W
theorem SI.no4 {w:World} {s s':S8} {l0 l3 l4:Bool} {W:World} (h:SI w s s' l0 l3 l4 W) (h4:l4=false):xKg w s W:=by
 have:=h.2.2;rw[h4,if_neg σ] at this;exact this
theorem SI.no3 {w:World} {s s':S8} {l0 l3 l4:Bool} {W:World} (h:SI w s s' l0 l3 l4 W) (h3:l3=false):xKg w s W:=
 h.no4 (by cases l4 with
  |false=>rfl
  |true=>rw[h3] at h;exact absurd (h.2.1 rfl) σ)
theorem SI.no0 {w:World} {s s':S8} {l0 l3 l4:Bool} {W:World} (h:SI w s s' l0 l3 l4 W) (h0:l0=false):xKg w s W:=
 h.no3 (by cases l3 with
  |false=>rfl
  |true=>rw[h0] at h;exact absurd (h.1 rfl) σ)
theorem SI.done0 {w:World} {s s':S8} {l0 l3 l4:Bool} {W:World} (h:SI w s s' l0 l3 l4 W) (_:l0=false):SI w s s' true l3 l4 W:=⟨λ_=>rfl,h.2.1,h.2.2⟩
theorem SI.done3 {w:World} {s s':S8} {l0 l3 l4:Bool} {W W':World} (h:SI w s s' l0 l3 l4 W) (h3:l3=false) (h0:l0=true) (hb:ψ W W'):SI w s s' l0 true l4 W':=by
 refine⟨λ_=>h0,λ_=>rfl,?_⟩
 have h4:l4=false:=by cases l4 with
  |false=>rfl
  |true=>rw[h3] at h;exact absurd (h.2.1 rfl) σ
 rw[h4,if_neg σ];exact(h.no3 h3).below hb
theorem SI.done4 {w:World} {s s':S8} {l0 l3 l4:Bool} {W:World} (h:SI w s s' l0 l3 l4 W) (h4:l4=false) (h3:l3=true):SI w s s' l0 l3 true (W.setRow w.heap.size (yV s'.list)):=by
 refine⟨h.1,λ_=>h3,?_⟩;rw[if_pos rfl];exact(h.no4 h4).put s'
theorem xFn (b:ByteArray) (w:World) (hb:b.size<=1152921504606846976) (hT:vT w):
  Calls prog 263 #[.string b] w λe w'=>e=.returned (xR (xH7 b))/\ψ w w':=by
 have HT:=ι hT;have hi8:Hid (∀s:S8,(prog.info? 386).map (·.size)=some (yV s.list).size):=ι (λs=>by rw[yY];kernel_rfl);have HBk:=ι (λ(S:S8) (c:ByteArray) (W:World) (h1:S.ok) (h2:c.size=64) (h3:vT W)=>xXx S c W h1 h2 h3);obtain⟨t1,fr1,yA8⟩:=hT.ini
 have i0:w.cell? ⟨1,0,none⟩=some (.int .u32 1779033703):=cell_of_row _ _ _ _ _ _ yA8;have i1:w.cell? ⟨1,1,none⟩=some (.int .u32 3144134277):=cell_of_row _ _ _ _ _ _ yA8;have i2:w.cell? ⟨1,2,none⟩=some (.int .u32 1013904242):=cell_of_row _ _ _ _ _ _ yA8
 have i3:w.cell? ⟨1,3,none⟩=some (.int .u32 2773480762):=cell_of_row _ _ _ _ _ _ yA8;have i4:w.cell? ⟨1,4,none⟩=some (.int .u32 1359893119):=cell_of_row _ _ _ _ _ _ yA8;have i5:w.cell? ⟨1,5,none⟩=some (.int .u32 2600822924):=cell_of_row _ _ _ _ _ _ yA8
 have i6:w.cell? ⟨1,6,none⟩=some (.int .u32 528734635):=cell_of_row _ _ _ _ _ _ yA8;have i7:w.cell? ⟨1,7,none⟩=some (.int .u32 1541459225):=cell_of_row _ _ _ _ _ _ yA8;clear yA8 hT;have HS0:Hid (xKg w (xMr xJv b 0) (w.alloc (.cells (yV xJv.list) 386))):=ι ⟨xM _ _,φ w _⟩
 go_enter func263,ntmps263;go_wp2_with fail
 clear i0 i1 i2 i3 i4 i5 i6 i7
 go_loopw [4] (λrv wr=>∃k:Nat,64*k<=(b).size/\rv=.string ((b).extract (64*k) (b).size)/\Hid (xKg w (xMr (xJv) (b) k) wr)) (λrv _=>lenOf rv)
 case atStart=>exact⟨0,ω,by rw[Nat.mul_zero,xX9],HS0⟩
 case round=>
  clear HS0;obtain⟨k,hk,rfl,hr⟩:=hrel
  by_cases hlt:64*k+64<=(b).size
  ·obtain⟨c,hc⟩:∃c,(b).extract (64*k) (b).size=c:=⟨_,rfl⟩;have hcs:c.size=(b).size-64*k:=by rw[<-hc,ByteArray.size_extract];omega
   have HC0:Hid ((b).extract (64*k) (64*k+64)=c.extract 0 64):=ι (by rw[<-hc,ByteArray.extract_extract];congr 1;omega);have HC1:Hid ((b).extract (64*(k+1)) (b).size=c.extract 64 ((b).size-64*k)):=ι (by rw[<-hc,ByteArray.extract_extract];congr 1<;>omega);rw[hc];clear hc
   have hok:=xJ8 xQ0 (b) k;have HRS:=ι (xLb (xJv) (b) k);generalize xMr (xJv) (b) k=s at hr hok HRS;have HOK:=ι hok;clear hok;have hc64:64<=c.size:=ω;go_upto_region 4 with fail
   refine RG.yT [0,3,4] (λL W=>Hid (SI w s (xEr s (c.extract 0 64)) (L 0) (L 3) (L 4) W)) (λL L' W h hI=>by rw[<-h 0 δ,<-h 3 δ,<-h 4 δ];exact hI) κ κ δ (ι ⟨(by intro h;cases h),(by intro h;cases h),hr.o.drew⟩) ?_;apply RG.yA
   ·rfl
   ·intro L w9 h0 _ hw9;have hs:=hw9.o.no0 h0;refine wpList_load_row rfl _ _ rfl w.heap.size rfl _ _ (0,0) _ hs.st underlying386 rfl (hi8.o s) ?_;repeat go_step
    refine RG.xC ?_;exact ι (hw9.o.done0 h0)
   ·rfl
   iterate 2 refine RG.lS ?_
   apply RG.yA
   ·rfl
   ·intro L w9 h0 hd hw9;have hs:=hw9.o.no3 h0;repeat go_step
    refine(HBk.o s _ w9 HOK.o (by rw[ByteArray.size_extract];omega) (hs.tab HT.o)).mono ?_;rintro e w10 ⟨rfl,zF⟩;simp only[];repeat go_step
    refine RG.xC ?_;exact ι (hw9.o.done3 h0 (hd 0 δ) zF)
   ·rfl
   apply RG.yA
   ·rfl
   ·intro L w9 h0 hd hw9;have hs:=hw9.o.no4 h0;refine wpList_store_row rfl _ _ _ rfl w.heap.size _ rfl rfl _ _ hs.st (hi8.o _) (by rw[yY,yY];rfl) (tZ _) ?_;repeat go_step
    refine RG.xC ?_;exact ι (hw9.o.done4 h0 (hd 3 δ))
   ·rfl
   refine RG.xZ (λw5 hw5=>?_);have hw6:=ι hw5.o.2.2;rw[if_pos rfl,<-HC0.o,<-HRS.o] at hw6;clear hw5 hr;go_wp2;exact⟨⟨k+1,ω,by rw[HC1.o],hw6⟩,by simp[lenOf,ByteArray.size_extract];omega⟩
  ·have hke:b.size / 64=k:=ω;have hs64:(b.size:Int)*8<18446744073709551616:=ω
   have HE:Hid (∀W,Calls prog 338 #[.string (b.extract (64*(b.size / 64)) b.size),.int .u64 ((b.size:Int)*8)] W λe w'=>e=.returned (.string (xH6 b))/\ψ W w'):=ι (λW=>xSu (xJb b) ((b.size:Int)*8) W (xHy b));have HT2:=ι (xRe b)
   have HP:Hid (xH7 b=xBm (xMr (xMr xJv b (b.size / 64)) (xH6 b) ((xH6 b).size / 64)).list 8):=ι rfl;have HOK1:=ι (xJ8 xQ0 b (b.size / 64));rw[hke] at HE HP HOK1;clear hke;generalize xH6 b=tl at HE HT2 HP;generalize xMr xJv b k=S1 at hr HP HOK1
   have hrs:(b.extract (64*k) b.size).size<64:=by rw[ByteArray.size_extract];omega
   generalize b.extract (64*k) b.size=rs at HE hrs⊢;have HS64:=ι hs64;have hneg:¬(64<=(rs.size:Int)):=ω;clear hlt hk hs64 hrs;go_upto_region 6 with fail
   have hs64:=HS64.o;clear hneg;go_wp2_with fail
   refine(HE.o _).mono ?_;rintro e w4 ⟨rfl,hb4⟩;have HS1:Hid (xKg w (xMr S1 tl 0) w4):=ι (hr.o.below hb4);clear hr hb4 HE hs64 HS64;go_wp2_with fail
   go_loopw [5] (λrv wr=>∃k:Nat,64*k<=(tl).size/\rv=.string ((tl).extract (64*k) (tl).size)/\Hid (xKg w (xMr (S1) (tl) k) wr)) (λrv _=>lenOf rv)
   case atStart=>exact⟨0,ω,by rw[Nat.mul_zero,xX9],HS1⟩
   case round=>
    clear HS1;obtain⟨k,hk,rfl,hr⟩:=hrel
    by_cases hlt:64*k+64<=(tl).size
    ·obtain⟨c,hc⟩:∃c,(tl).extract (64*k) (tl).size=c:=⟨_,rfl⟩;have hcs:c.size=(tl).size-64*k:=by rw[<-hc,ByteArray.size_extract];omega
     have HC0:Hid ((tl).extract (64*k) (64*k+64)=c.extract 0 64):=ι (by rw[<-hc,ByteArray.extract_extract];congr 1;omega);have HC1:Hid ((tl).extract (64*(k+1)) (tl).size=c.extract 64 ((tl).size-64*k)):=ι (by rw[<-hc,ByteArray.extract_extract];congr 1<;>omega);rw[hc];clear hc
     have hok:=xJ8 HOK1.o (tl) k;have HRS:=ι (xLb (S1) (tl) k);generalize xMr (S1) (tl) k=s at hr hok HRS;have HOK:=ι hok;clear hok;have hc64:64<=c.size:=ω;go_upto_region 8 with fail
     refine RG.yT [0,3,4] (λL W=>Hid (SI w s (xEr s (c.extract 0 64)) (L 0) (L 3) (L 4) W)) (λL L' W h hI=>by rw[<-h 0 δ,<-h 3 δ,<-h 4 δ];exact hI) κ κ δ (ι ⟨(by intro h;cases h),(by intro h;cases h),hr.o.drew⟩) ?_;apply RG.yA
     ·rfl
     ·intro L w9 h0 _ hw9;have hs:=hw9.o.no0 h0;refine wpList_load_row rfl _ _ rfl w.heap.size rfl _ _ (0,0) _ hs.st underlying386 rfl (hi8.o s) ?_;repeat go_step
      refine RG.xC ?_;exact ι (hw9.o.done0 h0)
     ·rfl
     iterate 2 refine RG.lS ?_
     apply RG.yA
     ·rfl
     ·intro L w9 h0 hd hw9;have hs:=hw9.o.no3 h0;repeat go_step
      refine(HBk.o s _ w9 HOK.o (by rw[ByteArray.size_extract];omega) (hs.tab HT.o)).mono ?_;rintro e w10 ⟨rfl,zF⟩;simp only[];repeat go_step
      refine RG.xC ?_;exact ι (hw9.o.done3 h0 (hd 0 δ) zF)
     ·rfl
     apply RG.yA
     ·rfl
     ·intro L w9 h0 hd hw9;have hs:=hw9.o.no4 h0;refine wpList_store_row rfl _ _ _ rfl w.heap.size _ rfl rfl _ _ hs.st (hi8.o _) (by rw[yY,yY];rfl) (tZ _) ?_;repeat go_step
      refine RG.xC ?_;exact ι (hw9.o.done4 h0 (hd 3 δ))
     ·rfl
     refine RG.xZ (λw5 hw5=>?_);have hw6:=ι hw5.o.2.2;rw[if_pos rfl,<-HC0.o,<-HRS.o] at hw6;clear hw5 hr;go_wp2;exact⟨⟨k+1,ω,by rw[HC1.o],hw6⟩,by simp[lenOf,ByteArray.size_extract];omega⟩
    ·have hke:tl.size / 64=k:=ω;rw[hke] at HP;clear hke;have hok2:=xJ8 HOK1.o tl k;generalize xMr S1 tl k=S2 at hr HP hok2;have hneg:¬(64<=((tl.extract (64*k) tl.size).size:Int)):=by rw[ByteArray.size_extract];omega
     generalize tl.extract (64*k) tl.size=rs2 at hneg⊢;have HU:=ι (list_u hok2);obtain⟨s0,s1,s2,s3,s4,s5,s6,s7⟩:=S2;clear hlt hk hok2 HT2 HOK1;have HLst:Hid (xH7 b=xBm [s0,s1,s2,s3,s4,s5,s6,s7] 8):=HP;have HUl:Hid (jH [s0,s1,s2,s3,s4,s5,s6,s7]):=HU;clear HP HU
     have hmk:∀W:World,(Instr.makeSlice 125 (.int .i64 0) (.int .i64 32)).run prog W=.ok (.slice (some ⟨W.heap.size,0,none⟩) 0 32) (W.alloc (.cells (yE (xP 32)) 5)):=λW=>made W 0 32 δ δ;have HBW:=ι (hr.o.bel.alloc hr.o.bel.size (.cells (yE (xP 32)) 5))
     have HOW:=ι (uG.room wr 32 w.heap.size hr.o.bel.size δ);have hst:=xO hr.o.st (.cells (yE (xP 32)) 5);have q0:(wr.alloc (.cells (yE (xP 32)) 5)).cell? ⟨w.heap.size,0,none⟩=some (.int .u32 s0):=xA hst 0
     have q1:(wr.alloc (.cells (yE (xP 32)) 5)).cell? ⟨w.heap.size,1,none⟩=some (.int .u32 s1):=xA hst 1;have q2:(wr.alloc (.cells (yE (xP 32)) 5)).cell? ⟨w.heap.size,2,none⟩=some (.int .u32 s2):=xA hst 2
     have q3:(wr.alloc (.cells (yE (xP 32)) 5)).cell? ⟨w.heap.size,3,none⟩=some (.int .u32 s3):=xA hst 3;have q4:(wr.alloc (.cells (yE (xP 32)) 5)).cell? ⟨w.heap.size,4,none⟩=some (.int .u32 s4):=xA hst 4
     have q5:(wr.alloc (.cells (yE (xP 32)) 5)).cell? ⟨w.heap.size,5,none⟩=some (.int .u32 s5):=xA hst 5;have q6:(wr.alloc (.cells (yE (xP 32)) 5)).cell? ⟨w.heap.size,6,none⟩=some (.int .u32 s6):=xA hst 6
     have q7:(wr.alloc (.cells (yE (xP 32)) 5)).cell? ⟨w.heap.size,7,none⟩=some (.int .u32 s7):=xA hst 7;clear hst hr;go_wp2_with fail
     clear q0 q1 q2 q3 q4 q5 q6 q7 hneg hmk;obtain⟨i0,hi,hz0,hz1,hz2⟩:=jA xSk
     go_loopw [6,37] (λov iv wr=>∃k:Nat,k<=8/\iv=.int .i64 k/\Hid (uG wr w.heap.size ov (xBm [s0,s1,s2,s3,s4,s5,s6,s7] k))/\Hid (ψ w wr)) (λ_ iv _=>8- (intOf iv).toNat)
     case atStart=>exact⟨0,δ,rfl,HOW,HBW⟩
     case round=>
      obtain⟨k,hk,rfl,ho,hb⟩:=hrel;clear HOW HBW
      by_cases hlt:k<8
      ·have HWS:=ι (xN0 [s0,s1,s2,s3,s4,s5,s6,s7] k);have HWL:=ι (xDe [s0,s1,s2,s3,s4,s5,s6,s7] k);obtain⟨x,hx⟩:∃x,[s0,s1,s2,s3,s4,s5,s6,s7].getD k 0=x:=⟨_,rfl⟩;have ux:=HUl.o k;rw[hx] at ux HWS
       have ix:∀W:World,(Instr.index 386 (.agg #[.int .u32 s0,.int .u32 s1,.int .u32 s2,.int .u32 s3,.int .u32 s4,.int .u32 s5,.int .u32 s6,.int .u32 s7]) (.int .i64 k)).run prog W=.ok (.int .u32 x) W:=λW=>wV (P:=prog) underlying386 underlying228 κ (yV [s0,s1,s2,s3,s4,s5,s6,s7]) (.int .u32 x) k hlt (by rw[uL (by simpa using hlt),hx]) W
       obtain⟨u0,u1⟩:=ux;clear hx;generalize xBm [s0,s1,s2,s3,s4,s5,s6,s7] k=acc at ho HWS HWL;obtain⟨A,c,rfl,hc⟩:=ho.o.form;go_upto_region 14 with fail
       clear ix
       have hv:[Value.int .u8 (x / 16777216),.int .u8 (x / 65536 % 256),.int .u8 (x / 256 % 256),.int .u8 (x % 256)]=(xU2 x).map λc=>Value.int .u8 (c.toNat:Int):=by
        have e0:x / 16777216 % 256=x / 16777216:=ω;simp[xU2,qK,e0]
       have HV:=ι hv;have HBH:=ι (show w.heap.size<=wr.heap.size from hb.o.size);have HK:=ι hlt;clear hv
       go_wp2_with (at_builtin;refine wpList_append_lies _ rfl _ _ 125 rfl w.heap.size 5 i0 (.int .u8 0) 1 1 underlying125 hi hz0 hz1 hz2 rfl δ _ _ _ rfl (ho.o.alloc _) ⟨wr.heap.size,0,none⟩ 4 4 [.int .u8 (x / 16777216),.int .u8 (x / 65536 % 256),.int .u8 (x / 256 % 256),.int .u8 (x % 256)] rfl rfl (xXr _ _ _) (by intro u hu;simp at hu;rcases hu with rfl|rfl|rfl|rfl<;>rfl) δ (by have:=HWL.o;have:=HK.o;unfold maxLen;omega) (by have:=HWL.o;have:=HK.o;omega) (by have:=HBH.o;simp;omega) _ rfl ?_;intro g cap w3 hown1 hgrow1 hloc1 _;have h9:=ι (xRw ho.o.row hgrow1 hb.o HBH.o);have h8:=ι hown1;clear hown1 hgrow1 hloc1)
       exact⟨⟨k+1,ω,by go_num,ι (by rw[HWS.o];refine uG.of ?_;rw[<-HV.o];exact h8.o),ι h9.o⟩,by simp[intOf];omega⟩
      ·obtain rfl:k=8:=ω;have ht:=ho.o.text;rw[<-HLst.o] at ht;obtain⟨A,c,rfl,hc⟩:=ho.o.form;clear hc;go_wp2;go_ret;exact⟨rfl,hb.o⟩
end Go.Proofs.SH