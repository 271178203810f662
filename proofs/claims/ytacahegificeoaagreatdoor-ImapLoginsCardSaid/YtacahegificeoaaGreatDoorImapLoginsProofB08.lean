/- Contracts of functions. Conditions: as stated. -/
import Derived.Test.YtacahegificeoaaGreatDoorImapLoginsProofB07
import Derived.Laws.CopyOwn
import Derived.Lib.SlBuf
set_option maxHeartbeats 8000000
set_option maxRecDepth 100000
namespace Mailsack
def yO (s:ByteArray) (i:Nat):Int:=((s.data.toList.getD i 0).toNat:Int)
theorem yQ (s:ByteArray) (i:Nat):0<=yO s i/\yO s i<256:=by
 unfold yO;have:=(s.data.toList.getD i 0).toNat_lt;omega
def yCy (c0 c1 c2 c3:Int):Int:=Go.bits .or .u32 (Go.bits .or .u32 (Go.bits .or .u32 (c0*16777216) (c1*65536)) (c2*256)) c3
def xHp (b:ByteArray) (k:Nat):Int:=yCy (yO (b.extract (4*k) (4*k+4)) 0) (yO (b.extract (4*k) (4*k+4)) 1) (yO (b.extract (4*k) (4*k+4)) 2) (yO (b.extract (4*k) (4*k+4)) 3)
theorem xR8 (b:ByteArray) (k:Nat):U32 (xHp b k):=by unfold xHp yCy;exact xAc _ _ _
def xVh (b:ByteArray):Nat->List Int
 |0=>List.replicate 64 0
 |k+1=>(xVh b k).set k (xHp b k)
def yAe (ws:List Int) (i:Nat):Int:=
 ((ws.getD (i-16) 0+Go.bits .xor .u32 (Go.bits .xor .u32 (xHt (ws.getD (i-15) 0) 25) (xHt (ws.getD (i-15) 0) 14)) (ws.getD (i-15) 0 / 8)+ws.getD (i-7) 0) % 4294967296+Go.bits .xor .u32 (Go.bits .xor .u32 (xHt (ws.getD (i-2) 0) 15) (xHt (ws.getD (i-2) 0) 13)) (ws.getD (i-2) 0 / 1024)) % 4294967296
def xRs (b:ByteArray):Nat->List Int
 |0=>xVh b 16
 |k+1=>(xRs b k).set (16+k) (yAe (xRs b k) (16+k))
def qU (b:ByteArray):List Int:=xRs b 48
def jG (ws:List Int):Prop:=∀i,U32 (ws.getD i 0)
theorem jG.set {ws:List Int} (h:jG ws) (i:Nat) {x:Int} (hx:U32 x):jG (ws.set i x):=by
 intro j;rw[List.getD_eq_getElem?_getD,List.getElem?_set];split
 ·split
  ·exact hx
  ·exact⟨δ,δ⟩
 ·have:=h j
  rwa [List.getD_eq_getElem?_getD] at this
theorem xIw (b:ByteArray):∀k,(xVh b k).length=64
 |0=>by simp[xVh]
 |k+1=>by simp[xVh,xIw b k]
theorem xCp (b:ByteArray):∀k,(xRs b k).length=64
 |0=>xIw b 16
 |k+1=>by simp[xRs,xCp b k]
theorem yC6 (b:ByteArray):∀k,jG (xVh b k)
 |0=>λi=>by
  unfold xVh;rw[List.getD_eq_getElem?_getD,List.getElem?_replicate];split<;>exact⟨δ,δ⟩
 |k+1=>(yC6 b k).set k (xR8 b k)
theorem wC (x:Int):U32 (x % 4294967296):=⟨ω,ω⟩
theorem xVg (b:ByteArray):∀k,jG (xRs b k)
 |0=>yC6 b 16
 |k+1=>(xVg b k).set (16+k) (wC _)
end Mailsack
namespace Go.Proofs.SH
open Go.RowKit Mailsack MM
theorem zH {P:Program} {t:TypeId} (ht:P.underlying t=some .string) (s:ByteArray) (n:Int) (i:Nat) (hn:n=i) (hi:i<s.size) (w:World):(Instr.index t (.string s) (.int .i64 n)).run P w=.ok (.int .u8 (yO s i)) w:=by
 subst hn;rw[run_index_string _ _ _ _ _ ht,dif_pos ⟨ω,ω⟩];simp[yO,List.getD_eq_getElem?_getD,List.getElem?_eq_getElem (show i<s.data.toList.length by simpa using hi)]
 rfl
theorem tT (ws:List Int):(yY ws).all (·.oneCell')=true:=by
 simp[yY,Value.oneCell']
structure xH2 (w:World) (ws:List Int) (W:World):Prop where
 blk:W.heap[w.heap.size+1]?=some (.cells (yY ws) 307 (0,0))
 res:W.heap[w.heap.size]?=some (.cells (yY (List.replicate 64 0)) 307 (0,0))
 bel:Below w.heap.size w W
theorem xH2.drew {w:World} {ws:List Int} {W:World} (h:xH2 w ws W):xH2 w ws W.drew:=⟨h.blk,h.res,h.bel.drew⟩
theorem xH2.put {w:World} {ws:List Int} {W:World} (h:xH2 w ws W) (i:Nat) (x:Int):xH2 w (ws.set i x) (W.setCell ⟨w.heap.size+1,i,none⟩ (.int .u32 x)):=by
 refine⟨?_,yA h.res (p:=⟨w.heap.size+1,i,none⟩) σ _,h.bel.setCell (p:=⟨w.heap.size+1,i,none⟩) σ _⟩;have:=xY h.blk i (.int .u32 x);rw[xD7] at this;exact this
theorem xPh {w:World} {ws:List Int} {z:Int} {i j:Nat} {c:Bool} {W:World} (hj:j<ws.length) (hne:j≠i) (h:xH2 w (if c=true then ws.set i z else ws) W):W.cell? ⟨w.heap.size+1,j,none⟩=some (.int .u32 (ws.getD j 0)):=by
 rw[xA h.blk];cases c
 ·exact uO hj
 ·rw[if_pos rfl,uO (by simpa using hj),List.getD_eq_getElem?_getD,List.getElem?_set,if_neg (Ne.symm hne),<-List.getD_eq_getElem?_getD]
theorem xL0 (b:ByteArray) (w:World) (hb:b.size=64):
  Calls Tryz.prog 235 #[.string b] w λe w'=>e=.returned (.agg (yY (qU b)))/\Below w.heap.size w w':=by
 go_enter Tryz.func235,Tryz.ntmps235;go_wp2_with fail
 go_loopw [11] (λiv wr=>∃k:Nat,k<=16/\iv=.int .i64 k/\Hid (xH2 w (xVh b k) wr)) (λiv _=>16- (intOf iv).toNat)
 case atStart=>exact⟨0,δ,rfl,ι ⟨yX _ _ _,zG _ _ _,(((Below.refl w.heap.size w).alloc ν _).alloc σ _)⟩⟩
 case round=>
  obtain⟨k,hk,rfl,hr⟩:=hrel
  by_cases hlt:k<16
  ·go_upto_region 6 with fail
   have hl:=xIw b k;have HW:Hid (xVh b (k+1)=(xVh b k).set k (xHp b k)):=ι rfl;obtain⟨z,hz⟩:∃z,xHp b k=z:=⟨_,rfl⟩;rw[hz] at HW;generalize xVh b k=ws at hr hl HW
   refine RG.zJ [20] (λL W=>Hid (xH2 w (if L 20 then ws.set k z else ws) W)) (λL L' W h hI=>by rw[<-h 20 δ];exact hI) κ κ δ (ι hr.o.drew) ?_;iterate 2 refine RG.lS ?_
   unfold xHp at hz;obtain⟨x,hx⟩:∃x,b.extract (4*k) (4*k+4)=x:=⟨_,rfl⟩;rw[hx] at hz⊢;have hxs:x.size=4:=by rw[<-hx,ByteArray.size_extract];omega
   have i0:=λw=>zH (P:=Tryz.prog) Tryz.underlying9 x 0 0 rfl ω w;have i1:=λw=>zH (P:=Tryz.prog) Tryz.underlying9 x 1 1 rfl ω w;have i2:=λw=>zH (P:=Tryz.prog) Tryz.underlying9 x 2 2 rfl ω w;have i3:=λw=>zH (P:=Tryz.prog) Tryz.underlying9 x 3 3 rfl ω w;obtain⟨r00,r01⟩:=yQ x 0
   obtain⟨r10,r11⟩:=yQ x 1;obtain⟨r20,r21⟩:=yQ x 2;obtain⟨r30,r31⟩:=yQ x 3;generalize yO x 0=c0 at i0 r00 r01 hz;generalize yO x 1=c1 at i1 r10 r11 hz;generalize yO x 2=c2 at i2 r20 r21 hz;generalize yO x 3=c3 at i3 r30 r31 hz;unfold yCy at hz;have HZ:=ι hz;clear hx hz
   iterate 17 refine RG.lS ?_
   rw[HZ.o];refine RG.lS ?_;apply RG.yL
   ·rfl
   ·intro L w9 h0 _ hw9;rw[h0,if_neg σ] at hw9;have q1:=xA hw9.o.blk k;rw[uO ω] at q1;have q2:=xC hw9.o.blk k;repeat go_step
    with_reducible refine RG.xD ?_
    have hp:=ι (hw9.o.put k z);rw[if_pos σ];with_reducible exact hp
   ·rfl
   refine RG.yI (λw9 hw9=>?_);rw[if_pos rfl,<-HW.o] at hw9;clear i0 i1 i2 i3;go_wp2;exact⟨⟨k+1,ω,by go_num,hw9⟩,by simp[intOf];omega⟩
  ·obtain rfl:k=16:=by omega
   have hr0:Hid (xH2 w (xRs b 0) wr):=hr;clear hr;go_wp2_with fail
   go_loopw [6] (λiv wr=>∃i:Nat,16<=i/\i<=64/\iv=.int .i64 i/\Hid (xH2 w (xRs b (i-16)) wr)) (λiv _=>64- (intOf iv).toNat)
   case atStart=>exact⟨16,δ,δ,rfl,hr0⟩
   case round=>
    clear hr0;obtain⟨i,hi,hk,rfl,hr⟩:=hrel
    by_cases hlt:i<64
    ·have hl:=xCp b (i-16);have hu:=xVg b (i-16)
     have HW:Hid (xRs b (i+1-16)=(xRs b (i-16)).set i (yAe (xRs b (i-16)) i)):=ι (by
      obtain⟨k,rfl⟩:∃k,i=16+k:=⟨i-16,ω⟩;rw[show 16+k+1-16=k+1 by omega,show 16+k-16=k by omega]
      rfl)
     obtain⟨z,hz⟩:∃z,yAe (xRs b (i-16)) i=z:=⟨_,rfl⟩;rw[hz] at HW;generalize xRs b (i-16)=ws at hr hl HW hz hu;unfold yAe at hz;have u16:=hu (i-16);have u15:=hu (i-15);have u7':=hu (i-7);have u2:=hu (i-2)
     have g16:∀W,Hid (xH2 w ws W)->W.cell? ⟨w.heap.size+1,i-16,none⟩=some (.int .u32 (ws.getD (i-16) 0)):=λW h=>by rw[xA h.o.blk,uO ω]
     have g15:∀W,Hid (xH2 w ws W)->W.cell? ⟨w.heap.size+1,i-15,none⟩=some (.int .u32 (ws.getD (i-15) 0)):=λW h=>by rw[xA h.o.blk,uO ω]
     have g7:∀W,Hid (xH2 w ws W)->W.cell? ⟨w.heap.size+1,i-7,none⟩=some (.int .u32 (ws.getD (i-7) 0)):=λW h=>by rw[xA h.o.blk,uO ω]
     have g2:∀W,Hid (xH2 w ws W)->W.cell? ⟨w.heap.size+1,i-2,none⟩=some (.int .u32 (ws.getD (i-2) 0)):=λW h=>by rw[xA h.o.blk,uO ω]
     have c16:∀(c:Bool) W,Hid (xH2 w (if c=true then ws.set i z else ws) W)->W.cell? ⟨w.heap.size+1,i-16,none⟩=some (.int .u32 (ws.getD (i-16) 0)):=λc W h=>xPh (i:=i) ω ω h.o
     have c7:∀(c:Bool) W,Hid (xH2 w (if c=true then ws.set i z else ws) W)->W.cell? ⟨w.heap.size+1,i-7,none⟩=some (.int .u32 (ws.getD (i-7) 0)):=λc W h=>xPh (i:=i) ω ω h.o;generalize ws.getD (i-16) 0=v16 at hz u16 g16 c16;generalize ws.getD (i-15) 0=v15 at hz u15 g15
     generalize ws.getD (i-7) 0=v7 at hz u7' g7 c7;generalize ws.getD (i-2) 0=v2 at hz u2 g2;have C16:=ι c16;have C7:=ι c7;have G15:=ι g15;have G2:=ι g2;have HZ:=ι hz;have R1:=ι (λW=>kD v15 (-7) 25 W u15 δ δ);have R2:=ι (λW=>kD v15 (-18) 14 W u15 δ δ)
     have R3:=ι (λW=>kD v2 (-17) 15 W u2 δ δ);have R4:=ι (λW=>kD v2 (-19) 13 W u2 δ δ);obtain⟨u160,u161⟩:=u16;obtain⟨u150,u151⟩:=u15;obtain⟨u70',u71'⟩:=u7';obtain⟨u20',u21'⟩:=u2;clear hu hz g16 g15 g7 g2 c16 c7;go_upto_region 11 with fail
     refine RG.xP (λW=>Hid (xH2 w ws W)) κ κ (ι hr.o.drew) ?_;iterate 2 refine RG.dS ?_
     rw[show((i:Int)-15)=((i-15:Nat):Int) by omega];iterate 2 refine RG.dF (λw9 hw9=>G15.o _ hw9) ?_
     iterate 2 refine RG.dS ?_
     rw[show((i:Int)-2)=((i-2:Nat):Int) by omega];iterate 2 refine RG.dF (λw9 hw9=>G2.o _ hw9) ?_
     iterate 2 refine RG.dS ?_
     refine RG.xS (λw9 hw9=>?_);clear hr;go_upto_region 12 with fail
     refine RG.yP (λW=>Hid (xH2 w ws W)) hw9 ?_;clear hw9;refine RG.dS ?_;apply RG.xJ
     ·intro w9 hw9;repeat go_step
      refine(R1.o _).mono ?_;rintro e w10 ⟨rfl,rfl⟩;simp only[];repeat go_step
      with_reducible exact RG.xD hw9
     ·rfl
     refine RG.dS ?_;apply RG.xJ
     ·intro w9 hw9;repeat go_step
      refine(R2.o _).mono ?_;rintro e w10 ⟨rfl,rfl⟩;simp only[];repeat go_step
      with_reducible exact RG.xD hw9
     ·rfl
     iterate 5 refine RG.dS ?_
     refine RG.xS (λw10 hw10=>?_);go_upto_region 13 with fail
     refine RG.yP (λW=>Hid (xH2 w ws W)) hw10 ?_;clear hw10;refine RG.dS ?_;apply RG.xJ
     ·intro w9 hw9;repeat go_step
      refine(R3.o _).mono ?_;rintro e w10 ⟨rfl,rfl⟩;simp only[];repeat go_step
      with_reducible exact RG.xD hw9
     ·rfl
     refine RG.dS ?_;apply RG.xJ
     ·intro w9 hw9;repeat go_step
      refine(R4.o _).mono ?_;rintro e w10 ⟨rfl,rfl⟩;simp only[];repeat go_step
      with_reducible exact RG.xD hw9
     ·rfl
     iterate 5 refine RG.dS ?_
     refine RG.xS (λw11 hw11=>?_);go_upto_region 14 with fail
     refine RG.zJ [15] (λL W=>Hid (xH2 w (if L 15 then ws.set i z else ws) W)) (λL L' W h hI=>by rw[<-h 15 δ];exact hI) κ κ δ (ι hw11.o.drew) ?_;iterate 3 refine RG.lS ?_
     rw[show((i:Int)-16)=((i-16:Nat):Int) by omega];iterate 2 refine RG.lF (λL w9 hw9=>C16.o _ _ hw9) ?_
     iterate 4 refine RG.lS ?_
     rw[show((i:Int)-7)=((i-7:Nat):Int) by omega];iterate 2 refine RG.lF (λL w9 hw9=>C7.o _ _ hw9) ?_
     iterate 3 refine RG.lS ?_
     rw[HZ.o];refine RG.lS ?_;apply RG.yL
     ·rfl
     ·intro L w9 h0 _ hw9;rw[h0,if_neg σ] at hw9;have q1:=xA hw9.o.blk i;rw[uO ω] at q1;have q2:=xC hw9.o.blk i;repeat go_step
      with_reducible refine RG.xD ?_
      have hp:=ι (hw9.o.put i z);rw[if_pos σ];with_reducible exact hp
     ·rfl
     refine RG.yI (λw12 xX0=>?_);rw[if_pos rfl,<-HW.o] at xX0;go_wp2;exact⟨⟨i+1,ω,ω,by go_num,xX0⟩,by simp[intOf];omega⟩
    ·obtain rfl:i=64:=by omega
     have hr2:Hid (xH2 w (qU b) wr):=hr;clear hr;have hi64:(Tryz.prog.info? 307).map (·.size)=some (yY (qU b)).size:=by rw[zA];unfold qU;rw[xCp];kernel_rfl
     have ho64:(yY (List.replicate 64 0)).size=(yY (qU b)).size:=by rw[zA,zA];unfold qU;rw[xCp,List.length_replicate]
     have h1:=tT (qU b);have HI:=ι hi64;have HO:=ι ho64;have H1:=ι h1;clear hi64 ho64 h1
     go_wp2_with (first|refine wpList_load_row rfl _ _ rfl (w.heap.size+1) rfl _ _ (0,0) _ hr2.o.blk Tryz.underlying307 rfl HI.o ?_|refine wpList_store_row rfl _ _ _ rfl w.heap.size _ rfl rfl _ _ hr2.o.res HI.o HO.o H1.o ?_)
     refine bodyPost_ret (results_cell_row rfl _ _ w.heap.size _ _ (0,0) _ rfl (setRow_heap _ _ _ _ _ _ hr2.o.res) Tryz.underlying307 rfl HI.o) rfl ?_;exact⟨rfl,below_setRow hr2.o.bel ν _⟩
end Go.Proofs.SH
namespace Mailsack
def oct (z:Int):UInt8:=UInt8.ofNat (z % 256).toNat
theorem xA5 (z:Int):((oct z).toNat:Int)=z % 256:=by
 unfold oct;have h1:=Int.emod_nonneg z (b:=256) δ;have h2:=Int.emod_lt_of_pos z (b:=256) δ;rw[UInt8.toNat_ofNat',Nat.mod_eq_of_lt ω];omega
def xQ (n:Nat):Bs:=List.replicate n 0
theorem zC (n:Nat):(xQ n).length=n:=by simp[xQ]
end Mailsack
namespace Go.Proofs.BB
open Go.RowKit Mailsack MM
def yJ (l:Bs):Array Value:=(l.map λb=>Value.int .u8 (b.toNat:Int)).toArray
theorem uZ (l:Bs):(yJ l).size=l.length:=by simp[yJ]
theorem qN {l:Bs} {i:Nat} (h:i<l.length):(yJ l)[i]?=some (.int .u8 ((l.getD i 0).toNat:Int)):=by
 simp[yJ,List.getD_eq_getElem?_getD,List.getElem?_eq_getElem h]
theorem xQi (l:Bs) (i:Nat) (b:UInt8):(yJ l).setIfInBounds i (.int .u8 (b.toNat:Int))=yJ (l.set i b):=by
 simp[yJ,List.map_set]
theorem xD8 (l:Bs) (i:Nat) (z:Int):(yJ l).setIfInBounds i (.int .u8 (z % 256))=yJ (l.set i (oct z)):=by
 rw[<-xA5,xQi]
theorem xJv (l:Bs):∀v∈(yJ l).toList,v.oneCell'=true:=by
 intro v hv;simp[yJ] at hv;obtain⟨b,_,rfl⟩:=hv
 rfl
theorem xXu (n:Nat):madeCells (Value.cells (.int .u8 0)) (n*1)=yJ (xQ n):=by
 unfold xQ;apply Array.ext_getElem?;intro i
 by_cases h:i<n
 ·have:(yJ (List.replicate n 0))[i]?=some (.int .u8 0):=by rw[qN (by simpa using h)];simp[List.getD_eq_getElem?_getD,h]
  rw[this];simp[madeCells,Value.cells,h,Nat.mod_one]
 ·rw[Array.getElem?_eq_none (by simp[madeCells];omega),Array.getElem?_eq_none (by rw[uZ];simp;omega)]
def jF (W:World) (g:Nat) (l:Bs):Prop:=W.heap[g]?=some (.cells (yJ l) 5 (0,0))
theorem jF.blk {W:World} {g:Nat} {l:Bs} (h:jF W g l):W.heap[g]?=some (.cells (yJ l) 5 (0,0)):=h
theorem jF.cell {W:World} {g:Nat} {l:Bs} (h:jF W g l) {i:Nat} (hi:i<l.length):W.cell? ⟨g,i,none⟩=some (.int .u8 ((l.getD i 0).toNat:Int)):=by rw[xA h.blk,qN hi]
theorem jF.free {W:World} {g:Nat} {l:Bs} (h:jF W g l) (i:Nat):W.frozen? ⟨g,i,none⟩=false:=xC h.blk i
theorem jF.put {W:World} {g:Nat} {l:Bs} (h:jF W g l) (i:Nat) (z:Int):jF (W.setCell ⟨g,i,none⟩ (.int .u8 (z % 256))) g (l.set i (oct z)):=by
 have:=xY h.blk i (.int .u8 (z % 256));rw[xD8] at this;exact this
theorem made (W:World) (n c:Nat) (hc:n<=c) (hm:c<=281474976710656):(Instr.makeSlice 79 (.int .i64 (n:Int)) (.int .i64 (c:Int))).run Tryz.prog W=.ok (.slice (some ⟨W.heap.size,0,none⟩) n c) (W.alloc (.cells (yJ (xQ c)) 5)):=by
 have hinfo:(Tryz.prog.info? 5).map (λi=>(i.zero,i.size,i.bytes))=some (some (.int .u8 0),1,1):=by kernel_rfl
 cases hq:Tryz.prog.info? 5 with
 |none=>rw[hq] at hinfo;cases hinfo
 |some i=>
  rw[hq] at hinfo;simp only[Option.map_some,Option.some.injEq,Prod.mk.injEq] at hinfo;obtain⟨hz,hs,hb⟩:=hinfo;have h:=run_make (P:=Tryz.prog) (w:=W) 79 5 i _ Tryz.underlying79 hq hz .i64 .i64 (n:Int) (c:Int) ω ω (by rw[hb];omega) ω;simp only[Int.toNat_natCast] at h
  rw[hs,xXu] at h;exact h
theorem copied {W:World} {g:Nat} {l:Bs} (h:jF W g l) (ty:TypeId) (dLen dCap:Nat) (s:ByteArray) (h1:s.size<=dLen) (h2:s.size<=l.length):
  (Builtin.copy_ #[79,9] ty #[.slice (some ⟨g,0,none⟩) dLen dCap,.string s]).run Tryz.prog W=.ok (goInt s.size) (W.setRow g (yJ (s.data.toList++l.drop s.size))):=by
 have h3:=Lib.run_copy_row_string (P:=Tryz.prog) W 79 9 ty 5 g 0 dLen dCap s (yJ l) _ Tryz.underlying79 κ h.blk h1 (by rw[uZ];omega)
 have h4:((yJ l).toList.take 0++Lib.byteCells s.data.toList++(yJ l).toList.drop (0+s.size)).toArray=yJ (s.data.toList++l.drop s.size):=by
  simp[yJ,Lib.byteCells,List.map_drop]
 rw[h3,h4]
theorem jF.row {W:World} {g:Nat} {l:Bs} (h:jF W g l) (l':Bs):jF (W.setRow g (yJ l')) g l':=setRow_heap W g _ _ _ _ h.blk
theorem xNa {W:World} {g:Nat} {l:Bs} (h:jF W g l) (n cap:Nat) (hn:n<=l.length):(convert 79 9 (.slice (some ⟨g,0,none⟩) n cap)).run Tryz.prog W=.ok (.string ⟨(l.take n).toArray⟩) W:=by
 have h1:=run_convert_bytes_back (P:=Tryz.prog) W 79 9 5 ⟨g,0,none⟩ cap (l.take n) Tryz.underlying79 Tryz.underlying5 Tryz.underlying9 (λj hj=>by
  have hj':j<l.length:=by rw[List.length_take] at hj;omega
  have hadd:(⟨g,0,none⟩:Addr).add j=⟨g,j,none⟩:=by unfold Addr.add;split<;>simp_all
  rw[hadd,h.cell hj',List.getElem_take,List.getD_eq_getElem?_getD,List.getElem?_eq_getElem hj']
  rfl)
 rw[List.length_take,Nat.min_eq_left hn] at h1;exact h1
end Go.Proofs.BB
namespace Mailsack
structure Q4 where
 a:Int
 b:Int
 c:Int
 d:Int
def jM (q:Q4):Q4:=
 let a1:=(q.a+q.b) % 4294967296
 let d1:=xHt (Go.bits .xor .u32 q.d a1) 16
 let c1:=(q.c+d1) % 4294967296
 let b1:=xHt (Go.bits .xor .u32 q.b c1) 12
 let a2:=(a1+b1) % 4294967296
 let d2:=xHt (Go.bits .xor .u32 d1 a2) 8
 let c2:=(c1+d2) % 4294967296
 let b2:=xHt (Go.bits .xor .u32 b1 c2) 7
 ⟨a2,b2,c2,d2⟩
theorem xHw (q:Q4):U32 (jM q).a/\U32 (jM q).b/\U32 (jM q).c/\U32 (jM q).d:=⟨wC _,xCr _ _,wC _,xCr _ _⟩
end Mailsack
namespace Go.Proofs.SH
open Go.RowKit Mailsack MM BB
theorem xNk (a b c d:Int) (w:World) (ha:U32 a) (hb:U32 b) (hc:U32 c) (hd:U32 d):
  Calls Tryz.prog 325 #[.int .u32 a,.int .u32 b,.int .u32 c,.int .u32 d] w λe w'=>
   e=.returned (.tuple #[.int .u32 (jM ⟨a,b,c,d⟩).a,.int .u32 (jM ⟨a,b,c,d⟩).b,.int .u32 (jM ⟨a,b,c,d⟩).c,.int .u32 (jM ⟨a,b,c,d⟩).d])/\w'=w:=by
 obtain⟨a1,ha1⟩:∃x,(a+b) % 4294967296=x:=⟨_,rfl⟩;have ua1:U32 a1:=ha1▸wC _;obtain⟨d1,hd1⟩:∃x,xHt (bits .xor .u32 d a1) 16=x:=⟨_,rfl⟩;have ud1:U32 d1:=hd1▸xCr _ _;obtain⟨c1,hc1⟩:∃x,(c+d1) % 4294967296=x:=⟨_,rfl⟩;have uc1:U32 c1:=hc1▸wC _
 obtain⟨b1,hb1⟩:∃x,xHt (bits .xor .u32 b c1) 12=x:=⟨_,rfl⟩;have ub1:U32 b1:=hb1▸xCr _ _;obtain⟨a2,ha2⟩:∃x,(a1+b1) % 4294967296=x:=⟨_,rfl⟩;have ua2:U32 a2:=ha2▸wC _;obtain⟨d2,hd2⟩:∃x,xHt (bits .xor .u32 d1 a2) 8=x:=⟨_,rfl⟩;have ud2:U32 d2:=hd2▸xCr _ _
 obtain⟨c2,hc2⟩:∃x,(c1+d2) % 4294967296=x:=⟨_,rfl⟩;have uc2:U32 c2:=hc2▸wC _;obtain⟨b2,hb2⟩:∃x,xHt (bits .xor .u32 b1 c2) 7=x:=⟨_,rfl⟩
 have hq:jM ⟨a,b,c,d⟩=⟨a2,b2,c2,d2⟩:=by
  subst hb2;subst hc2;subst hd2;subst ha2;subst hb1;subst hc1;subst hd1;subst ha1
  rfl
 rw[hq];have H:=ι (⟨ha1,hd1,hc1,hb1,ha2,hd2,hc2,hb2⟩:_/\_/\_/\_/\_/\_/\_/\_);have R1:=ι (λW=>kD (bits .xor .u32 d a1) 16 16 W (xAc _ _ _) δ δ);have R2:=ι (λW=>kD (bits .xor .u32 b c1) 12 12 W (xAc _ _ _) δ δ);have R3:=ι (λW=>kD (bits .xor .u32 d1 a2) 8 8 W (xAc _ _ _) δ δ)
 have R4:=ι (λW=>kD (bits .xor .u32 b1 c2) 7 7 W (xAc _ _ _) δ δ);rw[hd1] at R1;rw[hb1] at R2;rw[hd2] at R3;rw[hb2] at R4;obtain⟨ha,ha'⟩:=ha;obtain⟨hb,hb'⟩:=hb;obtain⟨hc,hc'⟩:=hc;obtain⟨hd,hd'⟩:=hd;obtain⟨ua1,ua1'⟩:=ua1;obtain⟨ud1,ud1'⟩:=ud1;obtain⟨uc1,uc1'⟩:=uc1
 obtain⟨ub1,ub1'⟩:=ub1;obtain⟨ua2,ua2'⟩:=ua2;obtain⟨ud2,ud2'⟩:=ud2;obtain⟨uc2,uc2'⟩:=uc2;clear ha1 hd1 hc1 hb1 ha2 hd2 hc2 hb2 hq;go_enter Tryz.func325,Tryz.ntmps325;go_upto_region 2 with fail
 rw[H.o.1];refine RG.yP (λX=>Hid (X=w)) (ι rfl) ?_;iterate 3 refine RG.dS ?_
 apply RG.xJ
 ·intro w9 hw9;repeat go_step
  refine(R1.o _).mono ?_;rintro e w10 ⟨rfl,rfl⟩;simp only[];repeat go_step
  with_reducible exact RG.xD hw9
 ·rfl
 refine RG.dS ?_;refine RG.xS (λw5 hw5=>?_);have ehw5:=hw5.o;subst ehw5;clear hw5;go_upto_region 4 with fail
 rw[H.o.2.2.1];refine RG.yP (λX=>Hid (X=w5)) (ι rfl) ?_;iterate 3 refine RG.dS ?_
 apply RG.xJ
 ·intro w9 hw9;repeat go_step
  refine(R2.o _).mono ?_;rintro e w10 ⟨rfl,rfl⟩;simp only[];repeat go_step
  with_reducible exact RG.xD hw9
 ·rfl
 refine RG.dS ?_;refine RG.xS (λw6 hw6=>?_);have ehw6:=hw6.o;subst ehw6;clear hw6;go_upto_region 6 with fail
 rw[H.o.2.2.2.2.1];refine RG.yP (λX=>Hid (X=w6)) (ι rfl) ?_;iterate 3 refine RG.dS ?_
 apply RG.xJ
 ·intro w9 hw9;repeat go_step
  refine(R3.o _).mono ?_;rintro e w10 ⟨rfl,rfl⟩;simp only[];repeat go_step
  with_reducible exact RG.xD hw9
 ·rfl
 refine RG.dS ?_;refine RG.xS (λw7 hw7=>?_);have ehw7:=hw7.o;subst ehw7;clear hw7;go_upto_region 8 with fail
 rw[H.o.2.2.2.2.2.2.1];refine RG.yP (λX=>Hid (X=w7)) (ι rfl) ?_;iterate 3 refine RG.dS ?_
 apply RG.xJ
 ·intro w9 hw9;repeat go_step
  refine(R4.o _).mono ?_;rintro e w10 ⟨rfl,rfl⟩;simp only[];repeat go_step
  with_reducible exact RG.xD hw9
 ·rfl
 refine RG.dS ?_;refine RG.xS (λw8 hw8=>?_);have ehw8:=hw8.o;subst ehw8;clear hw8;go_wp2;refine bodyPost_ret (xL8 rfl _ _ _) rfl ?_;exact⟨rfl,rfl⟩
end Go.Proofs.SH
namespace Mailsack
def xPv (ws:List Int) (a b c d:Nat) (q:Q4) (f1 f2 f3 f4:Bool):List Int:=
 (List.range 16).map λi=>if f1&&i==a then q.a else if f2&&i==b then q.b else if f3&&i==c then q.c else if f4&&i==d then q.d else ws.getD i 0
def pW (ws:List Int) (a b c d:Nat):List Int:=xPv ws a b c d (jM ⟨ws.getD a 0,ws.getD b 0,ws.getD c 0,ws.getD d 0⟩) true true true true
theorem kG (ws:List Int) (a b c d:Nat) (q:Q4) (f1 f2 f3 f4:Bool):(xPv ws a b c d q f1 f2 f3 f4).length=16:=by simp[xPv]
theorem xF9 (ws:List Int) (a b c d:Nat) (q:Q4) (f1 f2 f3 f4:Bool) {i:Nat} (h:i<16):(xPv ws a b c d q f1 f2 f3 f4)[i]?=some (if f1&&i==a then q.a else if f2&&i==b then q.b else if f3&&i==c then q.c else if f4&&i==d then q.d else ws.getD i 0):=by
 unfold xPv;rw[List.getElem?_map,List.getElem?_range h]
 rfl
theorem xLj (ws:List Int) (a b c d:Nat) (q:Q4) (h:ws.length=16):xPv ws a b c d q false false false false=ws:=by
 apply List.ext_getElem?;intro i
 by_cases hi:i<16
 ·rw[xF9 _ _ _ _ _ _ _ _ _ _ hi];simp[List.getD_eq_getElem?_getD,List.getElem?_eq_getElem (show i<ws.length by omega)]
 ·rw[List.getElem?_eq_none (by rw[kG];omega),List.getElem?_eq_none ω]
theorem mixW_u {ws:List Int} (hw:jG ws) (a b c d:Nat) {q:Q4} (ha:U32 q.a) (hb:U32 q.b) (hc:U32 q.c) (hd:U32 q.d) (f1 f2 f3 f4:Bool):jG (xPv ws a b c d q f1 f2 f3 f4):=by
 intro i
 by_cases hi:i<16
 ·rw[List.getD_eq_getElem?_getD,xF9 _ _ _ _ _ _ _ _ _ _ hi];simp only[Option.getD_some];split
  ·exact ha
  ·split
   ·exact hb
   ·split
    ·exact hc
    ·split
     ·exact hd
     ·exact hw i
 ·rw[List.getD_eq_getElem?_getD,List.getElem?_eq_none (by rw[kG];omega)];exact⟨δ,δ⟩
theorem jD {ws:List Int} (hw:jG ws) (a b c d:Nat):jG (pW ws a b c d):=by
 have h:=xHw ⟨ws.getD a 0,ws.getD b 0,ws.getD c 0,ws.getD d 0⟩;exact mixW_u hw a b c d h.1 h.2.1 h.2.2.1 h.2.2.2 _ _ _ _
theorem jZ (ws:List Int) (a b c d:Nat):(pW ws a b c d).length=16:=kG _ _ _ _ _ _ _ _ _ _
theorem xIu {ws:List Int} {a b c d:Nat} {q:Q4} {f1 f2 f3 f4 g1 g2 g3 g4:Bool} (p:Nat) (x:Int) (h:∀i,i<16->(if f1&&i==a then q.a else if f2&&i==b then q.b else if f3&&i==c then q.c else if f4&&i==d then q.d else ws.getD i 0)=if i=p then x else(if g1&&i==a then q.a else if g2&&i==b then q.b else if g3&&i==c then q.c else if g4&&i==d then q.d else ws.getD i 0)):(xPv ws a b c d q g1 g2 g3 g4).set p x=xPv ws a b c d q f1 f2 f3 f4:=by
 apply List.ext_getElem?;intro i;rw[List.getElem?_set]
 by_cases hi:i<16
 ·rw[xF9 ws a b c d q f1 f2 f3 f4 hi,h i hi]
  by_cases e:p=i
  ·subst e;simp[kG,hi]
  ·rw[if_neg e,if_neg (Ne.symm e),xF9 _ _ _ _ _ _ _ _ _ _ hi]
 ·rw[List.getElem?_eq_none (l:=xPv ws a b c d q f1 f2 f3 f4) (by rw[kG];omega)];split
  ·rw[if_neg (by rw[kG];omega)]
  ·rw[List.getElem?_eq_none (by rw[kG];omega)]
end Mailsack
namespace Go.Proofs.SH
open Go.RowKit Mailsack MM BB
structure xU3 (w:World) (g:Nat) (ws:List Int) (a b c d:Nat) (q:Q4) (f1 f2 f3 f4:Bool) (W:World):Prop where
 st:W.heap[g]?=some (.cells (yY (xPv ws a b c d q f1 f2 f3 f4)) 234 (0,0))
 grn:w.grownBy W (some g)
theorem xQ9 {w W:World} {r:Option Nat} (h:w.grownBy W r):w.grownBy W.drew r:=⟨h.os,h.tape,h.output,h.size,h.block⟩
theorem xX9 {w W:World} {g:Nat} (h:w.grownBy W (some g)) (i:Nat) (u:Value):w.grownBy (W.setCell ⟨g,i,none⟩ u) (some g):=
 ⟨h.os,h.tape,h.output,by simpa[World.setCell] using h.size,λk hk hne=>(Below.heap_setCell W ⟨g,i,none⟩ u k (λe=>hne (by rw[e]))).trans (h.block k hk hne)⟩
theorem xU3.cell {w:World} {g:Nat} {ws:List Int} {a b c d:Nat} {q:Q4} {W:World} (hl:ws.length=16) (h:xU3 w g ws a b c d q false false false false W) {i:Nat} (hi:i<16):W.cell? ⟨g,i,none⟩=some (.int .u32 (ws.getD i 0)):=by
 have:=h.st;rw[xLj _ _ _ _ _ _ hl] at this;rw[xA this,uO ω]
theorem xU3.put {w:World} {g:Nat} {ws:List Int} {a b c d:Nat} {q:Q4} {f1 f2 f3 f4:Bool} {W:World} (h:xU3 w g ws a b c d q f1 f2 f3 f4 W) (p:Nat) (x:Int) {g1 g2 g3 g4:Bool} (he:(xPv ws a b c d q f1 f2 f3 f4).set p x=xPv ws a b c d q g1 g2 g3 g4):xU3 w g ws a b c d q g1 g2 g3 g4 (W.setCell ⟨g,p,none⟩ (.int .u32 x)):=by
 refine⟨?_,xX9 h.grn _ _⟩;have:=xY h.st p (.int .u32 x);rw[xD7,he] at this;exact this
theorem tK (ws:List Int) (g a b c d:Nat) (w:World) (hg:w.heap[g]?=some (.cells (yY ws) 234 (0,0))) (hl:ws.length=16) (hu:jG ws) (ha:a<16) (hb:b<16) (hc:c<16) (hd:d<16) (hne:a≠b/\a≠c/\a≠d/\b≠c/\b≠d/\c≠d):
  Calls Tryz.prog 244 #[.pointer (some ⟨g,0,none⟩),.int .i64 a,.int .i64 b,.int .i64 c,.int .i64 d] w λe w'=>e=.returned (.tuple #[])/\w'.heap[g]?=some (.cells (yY (pW ws a b c d)) 234 (0,0))/\w.grownBy w' (some g):=by
 have HQ:=ι (λW=>xNk (ws.getD a 0) (ws.getD b 0) (ws.getD c 0) (ws.getD d 0) W (hu a) (hu b) (hu c) (hu d));have HU:=ι (xHw ⟨ws.getD a 0,ws.getD b 0,ws.getD c 0,ws.getD d 0⟩)
 have HT:Hid (pW ws a b c d=xPv ws a b c d (jM ⟨ws.getD a 0,ws.getD b 0,ws.getD c 0,ws.getD d 0⟩) true true true true):=ι rfl;generalize jM ⟨ws.getD a 0,ws.getD b 0,ws.getD c 0,ws.getD d 0⟩=q at HQ HU HT;obtain⟨qa,qb,qc,qd⟩:=q
 have H0:Hid (xU3 w g ws a b c d ⟨qa,qb,qc,qd⟩ false false false false w):=ι ⟨by rw[xLj _ _ _ _ _ _ hl];exact hg,⟨rfl,rfl,rfl,Nat.le_refl _,λ_ _ _=>rfl⟩⟩
 have HC:Hid (∀W,xU3 w g ws a b c d ⟨qa,qb,qc,qd⟩ false false false false W->∀i,i<16->W.cell? ⟨g,i,none⟩=some (.int .u32 (ws.getD i 0))):=ι (λW h i hi=>h.cell hl hi);obtain⟨n1,n2,n3,n4,n5,n6⟩:=hne
 have HN:=ι (And.intro n1 (And.intro n2 (And.intro n3 (And.intro n4 (And.intro n5 n6)))));clear hg hl hu n1 n2 n3 n4 n5 n6;go_enter Tryz.func244,Tryz.ntmps244;go_upto_region 0 with fail
 refine RG.yT 46 (λL W=>Hid (xU3 w g ws a b c d ⟨qa,qb,qc,qd⟩ (L 36) (L 39) (L 42) (L 45) W)) (λL L' W h hI=>by rw[<-h 36 δ,<-h 39 δ,<-h 42 δ,<-h 45 δ];exact hI) κ κ rfl (ι ⟨H0.o.st,xQ9 H0.o.grn⟩) ?_;iterate 12 refine RG.cS ?_
 apply RG.xR
 ·rfl
 ·rfl
 ·intro L w9 h0 hcl xN hw9;have e1:=hcl.not 6 (i:=36) h0 κ;have e2:=hcl.not 6 (i:=39) h0 κ;have e3:=hcl.not 6 (i:=42) h0 κ;have e4:=hcl.not 6 (i:=45) h0 κ;have hs:=hw9.o;rw[e1,e2,e3,e4] at hs;have q:=HC.o w9 hs a ha;clear e1 e2 e3 e4 hs;repeat go_step
  with_reducible refine RG.xD ?_
  exact⟨xN,hw9⟩
 ·rfl
 iterate 4 refine RG.cS ?_
 apply RG.xR
 ·rfl
 ·rfl
 ·intro L w9 h0 hcl xN hw9;have e1:=hcl.not 6 (i:=36) h0 κ;have e2:=hcl.not 6 (i:=39) h0 κ;have e3:=hcl.not 6 (i:=42) h0 κ;have e4:=hcl.not 6 (i:=45) h0 κ;have hs:=hw9.o;rw[e1,e2,e3,e4] at hs;have q:=HC.o w9 hs b hb;clear e1 e2 e3 e4 hs;repeat go_step
  with_reducible refine RG.xD ?_
  exact⟨xN,hw9⟩
 ·rfl
 iterate 4 refine RG.cS ?_
 apply RG.xR
 ·rfl
 ·rfl
 ·intro L w9 h0 hcl xN hw9;have e1:=hcl.not 6 (i:=36) h0 κ;have e2:=hcl.not 6 (i:=39) h0 κ;have e3:=hcl.not 6 (i:=42) h0 κ;have e4:=hcl.not 6 (i:=45) h0 κ;have hs:=hw9.o;rw[e1,e2,e3,e4] at hs;have q:=HC.o w9 hs c hc;clear e1 e2 e3 e4 hs;repeat go_step
  with_reducible refine RG.xD ?_
  exact⟨xN,hw9⟩
 ·rfl
 iterate 4 refine RG.cS ?_
 apply RG.xR
 ·rfl
 ·rfl
 ·intro L w9 h0 hcl xN hw9;have e1:=hcl.not 6 (i:=36) h0 κ;have e2:=hcl.not 6 (i:=39) h0 κ;have e3:=hcl.not 6 (i:=42) h0 κ;have e4:=hcl.not 6 (i:=45) h0 κ;have hs:=hw9.o;rw[e1,e2,e3,e4] at hs;have q:=HC.o w9 hs d hd;clear e1 e2 e3 e4 hs;repeat go_step
  with_reducible refine RG.xD ?_
  exact⟨xN,hw9⟩
 ·rfl
 apply RG.xR
 ·rfl
 ·rfl
 ·intro L w9 h0 hcl xN hw9;repeat go_step
  refine(HQ.o _).mono ?_;rintro e w10 ⟨rfl,rfl⟩;simp only[];repeat go_step
  with_reducible refine RG.xD ?_
  exact⟨xN,hw9⟩
 ·rfl
 iterate 7 refine RG.cS ?_
 apply RG.xR
 ·rfl
 ·rfl
 ·intro L w9 h0 hcl xN hw9;have q1:=xA hw9.o.st a;rw[uO (by rw[kG];exact ha)] at q1;have q2:=xC hw9.o.st a
  have hp:=ι (hw9.o.put a qa (xIu a qa (f1:=true) (f2:=(L 39)) (f3:=(L 42)) (f4:=(L 45)) (λi _=>by
   by_cases e:i=a
   ·subst e;simp
   ·simp[e])))
  generalize List.getD _ a 0=old at q1;repeat go_step
  with_reducible refine RG.xD ?_
  refine⟨xN,?_⟩;show Hid (xU3 w g ws a b c d ⟨qa,qb,qc,qd⟩ true (L 39) (L 42) (L 45) _);with_reducible exact hp
 ·rfl
 iterate 2 refine RG.cS ?_
 apply RG.xR
 ·rfl
 ·rfl
 ·intro L w9 h0 hcl xN hw9;have q1:=xA hw9.o.st b;rw[uO (by rw[kG];exact hb)] at q1;have q2:=xC hw9.o.st b
  have hp:=ι (hw9.o.put b qb (xIu b qb (f1:=(L 36)) (f2:=true) (f3:=(L 42)) (f4:=(L 45)) (λi _=>by
   obtain⟨n1,_⟩:=HN.o
   by_cases e:i=b
   ·subst e;simp[Ne.symm n1]
   ·simp[e])))
  generalize List.getD _ b 0=old at q1;repeat go_step
  with_reducible refine RG.xD ?_
  refine⟨xN,?_⟩;show Hid (xU3 w g ws a b c d ⟨qa,qb,qc,qd⟩ (L 36) true (L 42) (L 45) _);with_reducible exact hp
 ·rfl
 iterate 2 refine RG.cS ?_
 apply RG.xR
 ·rfl
 ·rfl
 ·intro L w9 h0 hcl xN hw9;have q1:=xA hw9.o.st c;rw[uO (by rw[kG];exact hc)] at q1;have q2:=xC hw9.o.st c
  have hp:=ι (hw9.o.put c qc (xIu c qc (f1:=(L 36)) (f2:=(L 39)) (f3:=true) (f4:=(L 45)) (λi _=>by
   obtain⟨_,n2,_,n4,_⟩:=HN.o
   by_cases e:i=c
   ·subst e;simp[Ne.symm n2,Ne.symm n4]
   ·simp[e])))
  generalize List.getD _ c 0=old at q1;repeat go_step
  with_reducible refine RG.xD ?_
  refine⟨xN,?_⟩;show Hid (xU3 w g ws a b c d ⟨qa,qb,qc,qd⟩ (L 36) (L 39) true (L 45) _);with_reducible exact hp
 ·rfl
 iterate 2 refine RG.cS ?_
 apply RG.xR
 ·rfl
 ·rfl
 ·intro L w9 h0 hcl xN hw9;have q1:=xA hw9.o.st d;rw[uO (by rw[kG];exact hd)] at q1;have q2:=xC hw9.o.st d
  have hp:=ι (hw9.o.put d qd (xIu d qd (f1:=(L 36)) (f2:=(L 39)) (f3:=(L 42)) (f4:=true) (λi _=>by
   obtain⟨_,_,n3,_,n5,n6⟩:=HN.o
   by_cases e:i=d
   ·subst e;simp[Ne.symm n3,Ne.symm n5,Ne.symm n6]
   ·simp[e])))
  generalize List.getD _ d 0=old at q1;repeat go_step
  with_reducible refine RG.xD ?_
  refine⟨xN,?_⟩;show Hid (xU3 w g ws a b c d ⟨qa,qb,qc,qd⟩ (L 36) (L 39) (L 42) true _);with_reducible exact hp
 ·rfl
 refine RG.yI (λw9 hw9=>?_)
 go_end0
 rw[HT.o];exact⟨rfl,hw9.o.st,hw9.o.grn⟩
end Go.Proofs.SH
namespace Mailsack
def xUi (c0 c1 c2 c3:Int):Int:=Go.bits .or .u32 (Go.bits .or .u32 (Go.bits .or .u32 c0 (c1*256)) (c2*65536)) (c3*16777216)
def xR7 (b:ByteArray) (k:Nat):Int:=xUi (yO (b.extract (4*k) (4*k+4)) 0) (yO (b.extract (4*k) (4*k+4)) 1) (yO (b.extract (4*k) (4*k+4)) 2) (yO (b.extract (4*k) (4*k+4)) 3)
theorem xUf (b:ByteArray) (k:Nat):U32 (xR7 b k):=by unfold xR7 xUi;exact xAc _ _ _
def xAy (ws:List Int) (off:Nat) (b:ByteArray):Nat->List Int
 |0=>ws
 |k+1=>(xAy ws off b k).set (off+k) (xR7 b k)
theorem qE (ws:List Int) (off:Nat) (b:ByteArray):∀k,(xAy ws off b k).length=ws.length
 |0=>rfl
 |k+1=>by simp[xAy,qE ws off b k]
theorem xJs {ws:List Int} (h:jG ws) (off:Nat) (b:ByteArray):∀k,jG (xAy ws off b k)
 |0=>h
 |k+1=>(xJs h off b k).set (off+k) (xUf b k)
end Mailsack
namespace Go.Proofs.SH
open Go.RowKit Mailsack MM BB
structure xZ7 (w:World) (g:Nat) (xs:List Int) (W:World):Prop where
 st:W.heap[g]?=some (.cells (yY xs) 234 (0,0))
 grn:w.grownBy W (some g)
theorem xZ7.drew {w:World} {g:Nat} {xs:List Int} {W:World} (h:xZ7 w g xs W):xZ7 w g xs W.drew:=⟨h.st,xQ9 h.grn⟩
theorem xZ7.put {w:World} {g:Nat} {xs:List Int} {W:World} (h:xZ7 w g xs W) (p:Nat) (x:Int):xZ7 w g (xs.set p x) (W.setCell ⟨g,p,none⟩ (.int .u32 x)):=by
 refine⟨?_,xX9 h.grn _ _⟩;have:=xY h.st p (.int .u32 x);rw[xD7] at this;exact this
theorem tQ (ws:List Int) (g off n cap:Nat) (b:ByteArray) (w:World) (hg:w.heap[g]?=some (.cells (yY ws) 234 (0,0))) (hn:off+n<=ws.length) (hb:4*n<=b.size) (hn2:n<=16):
  Calls Tryz.prog 243 #[.slice (some ⟨g,off,none⟩) n cap,.string b] w λe w'=>e=.returned (.tuple #[])/\w'.heap[g]?=some (.cells (yY (xAy ws off b n)) 234 (0,0))/\w.grownBy w' (some g):=by
 have H0:Hid (xZ7 w g (xAy ws off b 0) w):=ι ⟨hg,⟨rfl,rfl,rfl,Nat.le_refl _,λ_ _ _=>rfl⟩⟩;have HL:=ι (λk=>qE ws off b k);clear hg;go_enter Tryz.func243,Tryz.ntmps243;go_wp2_with fail
 go_loopw [8] (λiv wr=>∃k:Nat,k<=n/\iv=.int .i64 k/\Hid (xZ7 w g (xAy ws off b k) wr)) (λiv _=>n- (intOf iv).toNat)
 case atStart=>exact⟨0,Nat.zero_le _,rfl,H0⟩
 case round=>
  obtain⟨k,hk,rfl,hr⟩:=hrel;clear H0
  by_cases hlt:k<n
  ·have hl:=HL.o k;have HW:Hid (xAy ws off b (k+1)=(xAy ws off b k).set (off+k) (xR7 b k)):=ι rfl;obtain⟨z,hz⟩:∃z,xR7 b k=z:=⟨_,rfl⟩;rw[hz] at HW;generalize xAy ws off b k=xs at hr hl HW;go_upto_region 4 with fail
   refine RG.zJ [21] (λL W=>Hid (xZ7 w g (if L 21 then xs.set (off+k) z else xs) W)) (λL L' W h hI=>by rw[<-h 21 δ];exact hI) κ κ δ (ι hr.o.drew) ?_;iterate 3 refine RG.lS ?_
   unfold xR7 at hz;obtain⟨x,hx⟩:∃x,b.extract (4*k) (4*k+4)=x:=⟨_,rfl⟩;rw[hx] at hz⊢;have hxs:x.size=4:=by rw[<-hx,ByteArray.size_extract];omega
   have i0:=λw=>zH (P:=Tryz.prog) Tryz.underlying9 x 0 0 rfl ω w;have i1:=λw=>zH (P:=Tryz.prog) Tryz.underlying9 x 1 1 rfl ω w;have i2:=λw=>zH (P:=Tryz.prog) Tryz.underlying9 x 2 2 rfl ω w;have i3:=λw=>zH (P:=Tryz.prog) Tryz.underlying9 x 3 3 rfl ω w;obtain⟨r00,r01⟩:=yQ x 0
   obtain⟨r10,r11⟩:=yQ x 1;obtain⟨r20,r21⟩:=yQ x 2;obtain⟨r30,r31⟩:=yQ x 3;generalize yO x 0=c0 at i0 r00 r01 hz;generalize yO x 1=c1 at i1 r10 r11 hz;generalize yO x 2=c2 at i2 r20 r21 hz;generalize yO x 3=c3 at i3 r30 r31 hz;unfold xUi at hz;have HZ:=ι hz;clear hx hz
   iterate 17 refine RG.lS ?_
   rw[HZ.o];refine RG.lS ?_;apply RG.yL
   ·rfl
   ·intro L w9 h0 _ hw9;rw[h0,if_neg σ] at hw9;have q1:=xA hw9.o.st (off+k);rw[uO ω] at q1;have q2:=xC hw9.o.st (off+k);repeat go_step
    with_reducible refine RG.xD ?_
    have hp:=ι (hw9.o.put (off+k) z);rw[if_pos σ];with_reducible exact hp
   ·rfl
   refine RG.yI (λw9 hw9=>?_);rw[if_pos rfl,<-HW.o] at hw9;clear i0 i1 i2 i3;go_wp2;exact⟨⟨k+1,ω,by go_num,hw9⟩,by simp[intOf];omega⟩
  ·have hke:k=n:=by omega
   have hneg:¬((k:Int)<(n:Int)):=by omega
   have HR:Hid (xZ7 w g (xAy ws off b n) wr):=by rw[<-hke];exact hr
   clear hr hke hlt hk;go_wp2
   go_end0
   exact⟨rfl,HR.o.st,HR.o.grn⟩
end Go.Proofs.SH