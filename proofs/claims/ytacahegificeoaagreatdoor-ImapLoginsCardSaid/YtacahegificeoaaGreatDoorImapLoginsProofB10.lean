/- Contracts of functions. Conditions: as stated. -/
import Derived.Test.YtacahegificeoaaGreatDoorImapLoginsProofB09
set_option maxHeartbeats 8000000
set_option maxRecDepth 100000
namespace Mailsack
def xJm:S8:=⟨0x6a09e667,0xbb67ae85,0x3c6ef372,0xa54ff53a,0x510e527f,0x9b05688c,0x1f83d9ab,0x5be0cd19⟩
theorem xQ7:xJm.ok:=⟨⟨δ,δ⟩,⟨δ,δ⟩,⟨δ,δ⟩,⟨δ,δ⟩,⟨δ,δ⟩,⟨δ,δ⟩,⟨δ,δ⟩,⟨δ,δ⟩⟩
def xMt (s:S8) (b:ByteArray):Nat->S8
 |0=>s
 |k+1=>xEs (xMt s b k) (b.extract (64*k) (64*k+64))
theorem xIy {s:S8} (h:s.ok) (b:ByteArray):∀k,(xMt s b k).ok
 |0=>h
 |_+1=>xYe _ _
theorem xL3 (s:S8) (b:ByteArray) (k:Nat):xMt s b (k+1)=xEs (xMt s b k) (b.extract (64*k) (64*k+64)):=rfl
def xUg (x:Int):Bs:=[oct (x / 16777216),oct (x / 65536),oct (x / 256),oct x]
def xBq (l:List Int):Nat->Bs
 |0=>[]
 |k+1=>xBq l k++xUg (l.getD k 0)
theorem xDh (l:List Int):∀k,(xBq l k).length=4*k
 |0=>rfl
 |k+1=>by simp[xBq,xDh l k,xUg];omega
theorem xN3 (l:List Int) (k:Nat):xBq l (k+1)=xBq l k++xUg (l.getD k 0):=rfl
def xJ1 (b:ByteArray):ByteArray:=b.extract (64*(b.size / 64)) b.size
theorem xHu (b:ByteArray):(xJ1 b).size<64:=by unfold xJ1;rw[ByteArray.size_extract];omega
def xH6 (b:ByteArray):ByteArray:=⟨(endP (xJ1 b).data.toList ((b.size:Int)*8)).toArray⟩
def shaS (b:ByteArray):S8:=xMt (xMt xJm b (b.size / 64)) (xH6 b) ((xH6 b).size / 64)
def xH7 (b:ByteArray):Bs:=xBq (shaS b).list 8
theorem xB8 (b:ByteArray):(xH7 b).length=32:=xDh _ 8
theorem xV4 (b:ByteArray):(xH6 b).size=xU1 (xJ1 b).data.toList:=by
 have hz:(xJ1 b).data.toList.length<64:=by
  have:=xHu b;simpa using this
 have h:(endP (xJ1 b).data.toList ((b.size:Int)*8)).length=xU1 (xJ1 b).data.toList:=by
  unfold endP;exact xJu _ _ hz 8
 unfold xH6;generalize endP (xJ1 b).data.toList ((b.size:Int)*8)=l at h;rw[<-h];simp[ByteArray.size]
theorem xRh (b:ByteArray):(xH6 b).size=64∨(xH6 b).size=128:=by
 rw[xV4];unfold xU1;split
 ·exact .inr rfl
 ·exact .inl rfl
end Mailsack
namespace Go.Proofs.SH
open Go.RowKit Mailsack MM BB
structure xKa (w:World) (s:S8) (W:World):Prop where
 st:W.heap[w.heap.size]?=some (.cells (yY s.list) 225 (0,0))
 bel:Below w.heap.size w W
theorem xKa.drew {w:World} {s:S8} {W:World} (h:xKa w s W):xKa w s W.drew:=⟨h.st,h.bel.drew⟩
theorem xKa.below {w:World} {s:S8} {W W':World} (h:xKa w s W) (hb:Below W.heap.size W W'):xKa w s W':=
 ⟨xB h.st hb (xG h.st),h.bel.trans (hb.mono h.bel.size)⟩
theorem xKa.put {w:World} {s:S8} {W:World} (h:xKa w s W) (s':S8):xKa w s' (W.setRow w.heap.size (yY s'.list)):=
 ⟨setRow_heap _ _ _ _ _ _ h.st,below_setRow h.bel ν _⟩
theorem xKa.tab {w:World} {s:S8} {W:World} (h:xKa w s W) (ht:wL w):wL W:=ht.below h.bel ν
theorem xXr (b:ByteArray):b.extract 0 b.size=b:=by simp
theorem list_u {s:S8} (h:s.ok):jG s.list:=by
 obtain⟨h0,h1,h2,h3,h4,h5,h6,h7⟩:=h;intro i
 match i with
 |0=>exact h0
 |1=>exact h1
 |2=>exact h2
 |3=>exact h3
 |4=>exact h4
 |5=>exact h5
 |6=>exact h6
 |7=>exact h7
 |n+8=>
  rw[List.getD_eq_getElem?_getD,List.getElem?_eq_none (by simp[S8.list])];exact⟨δ,δ⟩
def SI (w:World) (s s':S8) (l0 l3 l4:Bool) (W:World):Prop:=(l3=true->l0=true)/\(l4=true->l3=true)/\xKa w (if l4 then s' else s) W
theorem SI.no4 {w:World} {s s':S8} {l0 l3 l4:Bool} {W:World} (h:SI w s s' l0 l3 l4 W) (h4:l4=false):xKa w s W:=by
 have:=h.2.2;rw[h4,if_neg σ] at this;exact this
theorem SI.no3 {w:World} {s s':S8} {l0 l3 l4:Bool} {W:World} (h:SI w s s' l0 l3 l4 W) (h3:l3=false):xKa w s W:=
 h.no4 (by cases l4 with
  |false=>rfl
  |true=>rw[h3] at h;exact absurd (h.2.1 rfl) σ)
theorem SI.no0 {w:World} {s s':S8} {l0 l3 l4:Bool} {W:World} (h:SI w s s' l0 l3 l4 W) (h0:l0=false):xKa w s W:=
 h.no3 (by cases l3 with
  |false=>rfl
  |true=>rw[h0] at h;exact absurd (h.1 rfl) σ)
theorem SI.done0 {w:World} {s s':S8} {l0 l3 l4:Bool} {W:World} (h:SI w s s' l0 l3 l4 W) (_:l0=false):SI w s s' true l3 l4 W:=⟨λ_=>rfl,h.2.1,h.2.2⟩
theorem SI.done3 {w:World} {s s':S8} {l0 l3 l4:Bool} {W W':World} (h:SI w s s' l0 l3 l4 W) (h3:l3=false) (h0:l0=true) (hb:Below W.heap.size W W'):SI w s s' l0 true l4 W':=by
 refine⟨λ_=>h0,λ_=>rfl,?_⟩
 have h4:l4=false:=by cases l4 with
  |false=>rfl
  |true=>rw[h3] at h;exact absurd (h.2.1 rfl) σ
 rw[h4,if_neg σ];exact(h.no3 h3).below hb
theorem SI.done4 {w:World} {s s':S8} {l0 l3 l4:Bool} {W:World} (h:SI w s s' l0 l3 l4 W) (h4:l4=false) (h3:l3=true):SI w s s' l0 l3 true (W.setRow w.heap.size (yY s'.list)):=by
 refine⟨h.1,λ_=>h3,?_⟩;rw[if_pos rfl];exact(h.no4 h4).put s'
theorem xFq (b:ByteArray) (w:World) (hb:b.size<=1152921504606846976) (hT:wL w):
  Calls Tryz.prog 83 #[.string b] w λe w'=>e=.returned (xO (xH7 b))/\Below w.heap.size w w':=by
 have HT:=ι hT;have hi8:Hid (∀s:S8,(Tryz.prog.info? 225).map (·.size)=some (yY s.list).size):=ι (λs=>by rw[zA];kernel_rfl);have HBk:=ι (λ(S:S8) (c:ByteArray) (W:World) (h1:S.ok) (h2:c.size=64) (h3:wL W)=>xYd S c W h1 h2 h3);obtain⟨t1,fr1,yB6⟩:=hT.ini
 have i0:w.cell? ⟨0,0,none⟩=some (.int .u32 1779033703):=cell_of_row _ _ _ _ _ _ yB6;have i1:w.cell? ⟨0,1,none⟩=some (.int .u32 3144134277):=cell_of_row _ _ _ _ _ _ yB6;have i2:w.cell? ⟨0,2,none⟩=some (.int .u32 1013904242):=cell_of_row _ _ _ _ _ _ yB6
 have i3:w.cell? ⟨0,3,none⟩=some (.int .u32 2773480762):=cell_of_row _ _ _ _ _ _ yB6;have i4:w.cell? ⟨0,4,none⟩=some (.int .u32 1359893119):=cell_of_row _ _ _ _ _ _ yB6;have i5:w.cell? ⟨0,5,none⟩=some (.int .u32 2600822924):=cell_of_row _ _ _ _ _ _ yB6
 have i6:w.cell? ⟨0,6,none⟩=some (.int .u32 528734635):=cell_of_row _ _ _ _ _ _ yB6;have i7:w.cell? ⟨0,7,none⟩=some (.int .u32 1541459225):=cell_of_row _ _ _ _ _ _ yB6;clear yB6 hT
 have HS0:Hid (xKa w (xMt xJm b 0) (w.alloc (.cells (yY xJm.list) 225))):=ι ⟨xL _ _,(Below.refl w.heap.size w).alloc ν _⟩;go_enter Tryz.func83,Tryz.ntmps83;go_wp2_with fail
 clear i0 i1 i2 i3 i4 i5 i6 i7
 go_loopw [4] (λrv wr=>∃k:Nat,64*k<=(b).size/\rv=.string ((b).extract (64*k) (b).size)/\Hid (xKa w (xMt (xJm) (b) k) wr)) (λrv _=>lenOf rv)
 case atStart=>exact⟨0,ω,by rw[Nat.mul_zero,xXr],HS0⟩
 case round=>
  clear HS0;obtain⟨k,hk,rfl,hr⟩:=hrel
  by_cases hlt:64*k+64<=(b).size
  ·obtain⟨c,hc⟩:∃c,(b).extract (64*k) (b).size=c:=⟨_,rfl⟩;have hcs:c.size=(b).size-64*k:=by rw[<-hc,ByteArray.size_extract];omega
   have HC0:Hid ((b).extract (64*k) (64*k+64)=c.extract 0 64):=ι (by rw[<-hc,ByteArray.extract_extract];congr 1;omega);have HC1:Hid ((b).extract (64*(k+1)) (b).size=c.extract 64 ((b).size-64*k)):=ι (by rw[<-hc,ByteArray.extract_extract];congr 1<;>omega);rw[hc];clear hc
   have hok:=xIy xQ7 (b) k;have HRS:=ι (xL3 (xJm) (b) k);generalize xMt (xJm) (b) k=s at hr hok HRS;have HOK:=ι hok;clear hok;have hc64:64<=c.size:=by omega
   go_upto_region 4 with fail
   refine RG.zJ [0,3,4] (λL W=>Hid (SI w s (xEs s (c.extract 0 64)) (L 0) (L 3) (L 4) W)) (λL L' W h hI=>by rw[<-h 0 δ,<-h 3 δ,<-h 4 δ];exact hI) κ κ δ (ι ⟨(by intro h;cases h),(by intro h;cases h),hr.o.drew⟩) ?_;apply RG.yL
   ·rfl
   ·intro L w9 h0 _ hw9;have hs:=hw9.o.no0 h0;refine wpList_load_row rfl _ _ rfl w.heap.size rfl _ _ (0,0) _ hs.st Tryz.underlying225 rfl (hi8.o s) ?_;repeat go_step
    with_reducible refine RG.xD ?_
    exact ι (hw9.o.done0 h0)
   ·rfl
   iterate 2 refine RG.lS ?_
   apply RG.yL
   ·rfl
   ·intro L w9 h0 hd hw9;have hs:=hw9.o.no3 h0;repeat go_step
    refine(HBk.o s _ w9 HOK.o (by rw[ByteArray.size_extract];omega) (hs.tab HT.o)).mono ?_;rintro e w10 ⟨rfl,zM⟩;simp only[];repeat go_step
    with_reducible refine RG.xD ?_
    exact ι (hw9.o.done3 h0 (hd 0 δ) zM)
   ·rfl
   apply RG.yL
   ·rfl
   ·intro L w9 h0 hd hw9;have hs:=hw9.o.no4 h0;refine wpList_store_row rfl _ _ _ rfl w.heap.size _ rfl rfl _ _ hs.st (hi8.o _) (by rw[zA,zA];rfl) (tT _) ?_;repeat go_step
    with_reducible refine RG.xD ?_
    exact ι (hw9.o.done4 h0 (hd 3 δ))
   ·rfl
   refine RG.yI (λw5 hw5=>?_);have hw6:=ι hw5.o.2.2;rw[if_pos rfl,<-HC0.o,<-HRS.o] at hw6;clear hw5 hr;go_wp2;exact⟨⟨k+1,ω,by rw[HC1.o],hw6⟩,by simp[lenOf,ByteArray.size_extract];omega⟩
  ·have hke:b.size / 64=k:=by omega
   have hs64:(b.size:Int)*8<18446744073709551616:=by omega
   have HE:Hid (∀W,Calls Tryz.prog 161 #[.string (b.extract (64*(b.size / 64)) b.size),.int .u64 ((b.size:Int)*8)] W λe w'=>e=.returned (.string (xH6 b))/\Below W.heap.size W w'):=ι (λW=>xT2 (xJ1 b) ((b.size:Int)*8) W (xHu b));have HT2:=ι (xRh b)
   have HP:Hid (xH7 b=xBq (xMt (xMt xJm b (b.size / 64)) (xH6 b) ((xH6 b).size / 64)).list 8):=ι rfl;have yFg:=ι (xIy xQ7 b (b.size / 64));rw[hke] at HE HP yFg;clear hke;generalize xH6 b=tl at HE HT2 HP;generalize xMt xJm b k=S1 at hr HP yFg
   have hrs:(b.extract (64*k) b.size).size<64:=by rw[ByteArray.size_extract];omega
   generalize b.extract (64*k) b.size=rs at HE hrs⊢;have HS64:=ι hs64;have hneg:¬(64<=(rs.size:Int)):=by omega
   clear hlt hk hs64 hrs;go_upto_region 6 with fail
   have hs64:=HS64.o;clear hneg;go_wp2_with fail
   refine(HE.o _).mono ?_;rintro e w4 ⟨rfl,hb4⟩;have HS1:Hid (xKa w (xMt S1 tl 0) w4):=ι (hr.o.below hb4);clear hr hb4 HE hs64 HS64;go_wp2_with fail
   go_loopw [5] (λrv wr=>∃k:Nat,64*k<=(tl).size/\rv=.string ((tl).extract (64*k) (tl).size)/\Hid (xKa w (xMt (S1) (tl) k) wr)) (λrv _=>lenOf rv)
   case atStart=>exact⟨0,ω,by rw[Nat.mul_zero,xXr],HS1⟩
   case round=>
    clear HS1;obtain⟨k,hk,rfl,hr⟩:=hrel
    by_cases hlt:64*k+64<=(tl).size
    ·obtain⟨c,hc⟩:∃c,(tl).extract (64*k) (tl).size=c:=⟨_,rfl⟩;have hcs:c.size=(tl).size-64*k:=by rw[<-hc,ByteArray.size_extract];omega
     have HC0:Hid ((tl).extract (64*k) (64*k+64)=c.extract 0 64):=ι (by rw[<-hc,ByteArray.extract_extract];congr 1;omega);have HC1:Hid ((tl).extract (64*(k+1)) (tl).size=c.extract 64 ((tl).size-64*k)):=ι (by rw[<-hc,ByteArray.extract_extract];congr 1<;>omega);rw[hc];clear hc
     have hok:=xIy yFg.o (tl) k;have HRS:=ι (xL3 (S1) (tl) k);generalize xMt (S1) (tl) k=s at hr hok HRS;have HOK:=ι hok;clear hok;have hc64:64<=c.size:=by omega
     go_upto_region 8 with fail
     refine RG.zJ [0,3,4] (λL W=>Hid (SI w s (xEs s (c.extract 0 64)) (L 0) (L 3) (L 4) W)) (λL L' W h hI=>by rw[<-h 0 δ,<-h 3 δ,<-h 4 δ];exact hI) κ κ δ (ι ⟨(by intro h;cases h),(by intro h;cases h),hr.o.drew⟩) ?_;apply RG.yL
     ·rfl
     ·intro L w9 h0 _ hw9;have hs:=hw9.o.no0 h0;refine wpList_load_row rfl _ _ rfl w.heap.size rfl _ _ (0,0) _ hs.st Tryz.underlying225 rfl (hi8.o s) ?_;repeat go_step
      with_reducible refine RG.xD ?_
      exact ι (hw9.o.done0 h0)
     ·rfl
     iterate 2 refine RG.lS ?_
     apply RG.yL
     ·rfl
     ·intro L w9 h0 hd hw9;have hs:=hw9.o.no3 h0;repeat go_step
      refine(HBk.o s _ w9 HOK.o (by rw[ByteArray.size_extract];omega) (hs.tab HT.o)).mono ?_;rintro e w10 ⟨rfl,zM⟩;simp only[];repeat go_step
      with_reducible refine RG.xD ?_
      exact ι (hw9.o.done3 h0 (hd 0 δ) zM)
     ·rfl
     apply RG.yL
     ·rfl
     ·intro L w9 h0 hd hw9;have hs:=hw9.o.no4 h0;refine wpList_store_row rfl _ _ _ rfl w.heap.size _ rfl rfl _ _ hs.st (hi8.o _) (by rw[zA,zA];rfl) (tT _) ?_;repeat go_step
      with_reducible refine RG.xD ?_
      exact ι (hw9.o.done4 h0 (hd 3 δ))
     ·rfl
     refine RG.yI (λw5 hw5=>?_);have hw6:=ι hw5.o.2.2;rw[if_pos rfl,<-HC0.o,<-HRS.o] at hw6;clear hw5 hr;go_wp2;exact⟨⟨k+1,ω,by rw[HC1.o],hw6⟩,by simp[lenOf,ByteArray.size_extract];omega⟩
    ·have hke:tl.size / 64=k:=by omega
     rw[hke] at HP;clear hke;have hok2:=xIy yFg.o tl k;generalize xMt S1 tl k=S2 at hr HP hok2;have hneg:¬(64<=((tl.extract (64*k) tl.size).size:Int)):=by rw[ByteArray.size_extract];omega
     generalize tl.extract (64*k) tl.size=rs2 at hneg⊢;have HU:=ι (list_u hok2);obtain⟨s0,s1,s2,s3,s4,s5,s6,s7⟩:=S2;clear hlt hk hok2 HT2 yFg;have HLst:Hid (xH7 b=xBq [s0,s1,s2,s3,s4,s5,s6,s7] 8):=HP;have HUl:Hid (jG [s0,s1,s2,s3,s4,s5,s6,s7]):=HU;clear HP HU
     have hmk:∀W:World,(Instr.makeSlice 79 (.int .i64 0) (.int .i64 32)).run Tryz.prog W=.ok (.slice (some ⟨W.heap.size,0,none⟩) 0 32) (W.alloc (.cells (yJ (xQ 32)) 5)):=λW=>made W 0 32 δ δ;have HBW:=ι (hr.o.bel.alloc hr.o.bel.size (.cells (yJ (xQ 32)) 5))
     have HOW:=ι (uG.room wr 32 w.heap.size hr.o.bel.size δ);have hst:=xK hr.o.st (.cells (yJ (xQ 32)) 5);have q0:(wr.alloc (.cells (yJ (xQ 32)) 5)).cell? ⟨w.heap.size,0,none⟩=some (.int .u32 s0):=xA hst 0
     have q1:(wr.alloc (.cells (yJ (xQ 32)) 5)).cell? ⟨w.heap.size,1,none⟩=some (.int .u32 s1):=xA hst 1;have q2:(wr.alloc (.cells (yJ (xQ 32)) 5)).cell? ⟨w.heap.size,2,none⟩=some (.int .u32 s2):=xA hst 2
     have q3:(wr.alloc (.cells (yJ (xQ 32)) 5)).cell? ⟨w.heap.size,3,none⟩=some (.int .u32 s3):=xA hst 3;have q4:(wr.alloc (.cells (yJ (xQ 32)) 5)).cell? ⟨w.heap.size,4,none⟩=some (.int .u32 s4):=xA hst 4
     have q5:(wr.alloc (.cells (yJ (xQ 32)) 5)).cell? ⟨w.heap.size,5,none⟩=some (.int .u32 s5):=xA hst 5;have q6:(wr.alloc (.cells (yJ (xQ 32)) 5)).cell? ⟨w.heap.size,6,none⟩=some (.int .u32 s6):=xA hst 6
     have q7:(wr.alloc (.cells (yJ (xQ 32)) 5)).cell? ⟨w.heap.size,7,none⟩=some (.int .u32 s7):=xA hst 7;clear hst hr;go_wp2_with fail
     clear q0 q1 q2 q3 q4 q5 q6 q7 hneg hmk;obtain⟨i0,hi,hz0,hz1,hz2⟩:=vM xSu
     go_loopw [6,37] (λov iv wr=>∃k:Nat,k<=8/\iv=.int .i64 k/\Hid (uG wr w.heap.size ov (xBq [s0,s1,s2,s3,s4,s5,s6,s7] k))/\Hid (Below w.heap.size w wr)) (λ_ iv _=>8- (intOf iv).toNat)
     case atStart=>exact⟨0,δ,rfl,HOW,HBW⟩
     case round=>
      obtain⟨k,hk,rfl,ho,hb⟩:=hrel;clear HOW HBW
      by_cases hlt:k<8
      ·have HWS:=ι (xN3 [s0,s1,s2,s3,s4,s5,s6,s7] k);have HWL:=ι (xDh [s0,s1,s2,s3,s4,s5,s6,s7] k);obtain⟨x,hx⟩:∃x,[s0,s1,s2,s3,s4,s5,s6,s7].getD k 0=x:=⟨_,rfl⟩;have ux:=HUl.o k;rw[hx] at ux HWS
       have ix:∀W:World,(Instr.index 225 (.agg #[.int .u32 s0,.int .u32 s1,.int .u32 s2,.int .u32 s3,.int .u32 s4,.int .u32 s5,.int .u32 s6,.int .u32 s7]) (.int .i64 k)).run Tryz.prog W=.ok (.int .u32 x) W:=λW=>wQ (P:=Tryz.prog) Tryz.underlying225 Tryz.underlying143 κ (yY [s0,s1,s2,s3,s4,s5,s6,s7]) (.int .u32 x) k hlt (by rw[uO (by simpa using hlt),hx]) W
       obtain⟨u0,u1⟩:=ux;clear hx;generalize xBq [s0,s1,s2,s3,s4,s5,s6,s7] k=acc at ho HWS HWL;obtain⟨A,c,rfl,hc⟩:=ho.o.form;go_upto_region 14 with fail
       clear ix
       have hv:[Value.int .u8 (x / 16777216),.int .u8 (x / 65536 % 256),.int .u8 (x / 256 % 256),.int .u8 (x % 256)]=(xUg x).map λc=>Value.int .u8 (c.toNat:Int):=by
        have e0:x / 16777216 % 256=x / 16777216:=by omega
        simp[xUg,xA5,e0]
       have HV:=ι hv;have HBH:=ι (show w.heap.size<=wr.heap.size from hb.o.size);have HK:=ι hlt;clear hv
       go_wp2_with (at_builtin;refine wpList_append_lies _ rfl _ _ 79 rfl w.heap.size 5 i0 (.int .u8 0) 1 1 Tryz.underlying79 hi hz0 hz1 hz2 rfl δ _ _ _ rfl (ho.o.alloc _) ⟨wr.heap.size,0,none⟩ 4 4 [.int .u8 (x / 16777216),.int .u8 (x / 65536 % 256),.int .u8 (x / 256 % 256),.int .u8 (x % 256)] rfl rfl (xY9 _ _ _) (by intro u hu;simp at hu;rcases hu with rfl|rfl|rfl|rfl<;>rfl) δ (by have:=HWL.o;have:=HK.o;unfold maxLen;omega) (by have:=HWL.o;have:=HK.o;omega) (by have:=HBH.o;simp;omega) _ rfl ?_;intro g cap w3 hown1 hgrow1 hloc1 _;have h9:=ι (xRz ho.o.row hgrow1 hb.o HBH.o);have h8:=ι hown1;clear hown1 hgrow1 hloc1)
       exact⟨⟨k+1,ω,by go_num,ι (by rw[HWS.o];refine uG.of ?_;rw[<-HV.o];exact h8.o),ι h9.o⟩,by simp[intOf];omega⟩
      ·obtain rfl:k=8:=by omega
       have ht:=ho.o.text;rw[<-HLst.o] at ht;obtain⟨A,c,rfl,hc⟩:=ho.o.form;clear hc;go_wp2;go_ret;exact⟨rfl,hb.o⟩
end Go.Proofs.SH
namespace Mailsack
theorem xB3 (op:Go.BinOp) (x y:Int):0<=Go.bits op .u8 x y/\Go.bits op .u8 x y<256:=by
 have h:=Go.wf_bits op .u8 x y;simp[Go.Lit.wf] at h;have e1:Go.IntKind.u8.min=0:=δ;have e2:Go.IntKind.u8.max=255:=δ;omega
def xKk (l:Bs) (b:Int):Nat->Bs
 |0=>l
 |k+1=>(xKk l b k).set k (oct (Go.bits .xor .u8 (((xKk l b k).getD k 0).toNat:Int) b))
theorem xIn (l:Bs) (b:Int):∀k,(xKk l b k).length=l.length
 |0=>rfl
 |k+1=>by simp[xKk,xIn l b k]
def xJe (key s:Bs):Bs:=key++(xQ (64+s.length)).drop key.length
def xBn (key:Bs) (b:Int) (s:Bs):Bs:=(xKk (xJe key s) b 64).take 64++s
theorem xLk (key:Bs) (b:Int) (s:Bs) (h:key.length<=64):(xBn key b s).length=64+s.length:=by
 unfold xBn xJe;rw[List.length_append,List.length_take,xIn,List.length_append,List.length_drop,zC];omega
end Mailsack
namespace Go.Proofs.SH
open Go.RowKit Mailsack MM BB
theorem jF.putV {W:World} {g:Nat} {l:Bs} (h:jF W g l) (i:Nat) {z:Int} (h0:0<=z) (h1:z<256):jF (W.setCell ⟨g,i,none⟩ (.int .u8 z)) g (l.set i (oct z)):=by
 have:=h.put i z
 rwa [show z % 256=z by omega] at this
theorem xPx (key s:ByteArray) (b:Int) (w:World) (hk:key.size<=64) (hs:s.size<=1099511627776):
  Calls Tryz.prog 162 #[.string key,.int .u8 b,.string s] w λe w'=>e=.returned (.string ⟨(xBn key.data.toList b s.data.toList).toArray⟩)/\Below w.heap.size w w':=by
 have hkl:key.data.toList.length=key.size:=by simp
 have hsl:s.data.toList.length=s.size:=by simp
 have hmk:∀W:World,(Instr.makeSlice 79 (.int .i64 64) (.int .i64 (64+(s.size:Int)))).run Tryz.prog W=.ok (.slice (some ⟨W.heap.size,0,none⟩) 64 (64+s.size)) (W.alloc (.cells (yJ (xQ (64+s.size))) 5)):=λW=>made W 64 (64+s.size) ω ω
 have HB0:Hid (jF (w.alloc (.cells (yJ (xQ (64+s.size))) 5)) w.heap.size (xQ (64+s.size))):=ι (xL _ _);have HW0:=ι ((Below.refl w.heap.size w).alloc ν (.cells (yJ (xQ (64+s.size))) 5));go_enter Tryz.func162,Tryz.ntmps162;go_upto_region 2 with fail
 refine wp_region_lit ?_;iterate 6 go_step
 refine Lib.wpList_copy_run _ rfl _ _ _ _ rfl _ _ rfl rfl (copied HB0.o _ _ _ _ ω (by rw[zC];omega)) ?_
 have HB1:Hid (jF ((w.alloc (.cells (yJ (xQ (64+s.size))) 5)).setRow w.heap.size (yJ (key.data.toList++(xQ (64+s.size)).drop key.size))) w.heap.size (xKk (xJe key.data.toList s.data.toList) b 0)):=ι (by
  have h:=HB0.o.row (key.data.toList++(xQ (64+s.size)).drop key.size);unfold xKk xJe;rw[hkl,hsl];exact h)
 have HW1:=ι (below_setRow HW0.o ν (yJ (key.data.toList++(xQ (64+s.size)).drop key.size)));clear hmk HB0 HW0;generalize (w.alloc (.cells (yJ (xQ (64+s.size))) 5)).setRow w.heap.size (yJ (key.data.toList++(xQ (64+s.size)).drop key.size))=w1 at HB1 HW1⊢
 have HL:Hid ((xJe key.data.toList s.data.toList).length=64+s.size):=ι (by unfold xJe;rw[List.length_append,List.length_drop,zC];omega);have HXL:=ι (λk=>xIn (xJe key.data.toList s.data.toList) b k)
 have HP:Hid (∀n,n=64->xBn key.data.toList b s.data.toList=(xKk (xJe key.data.toList s.data.toList) b n).take n++s.data.toList):=ι (λn hn=>by subst hn;rfl);generalize xJe key.data.toList s.data.toList=l at HB1 HL HXL HP;clear hkl;go_wp2_with fail
 go_loopw [18] (λiv wr=>∃k:Nat,k<=64/\iv=.int .i64 k/\Hid (jF wr w.heap.size (xKk l b k)/\Below w.heap.size w wr)) (λiv _=>64- (intOf iv).toNat)
 case atStart=>exact⟨0,δ,rfl,ι ⟨HB1.o,HW1.o⟩⟩
 case round=>
  obtain⟨k,hk,rfl,hr⟩:=hrel;clear HB1 HW1
  by_cases hlt:k<64
  ·have q0:=hr.o.1.cell (i:=k) (by rw[HXL.o k,HL.o];omega);have q1:=hr.o.1.free k;have hu:=xB3 .xor (((xKk l b k).getD k 0).toNat:Int) b
   have HK:Hid (jF (wr.setCell ⟨w.heap.size,k,none⟩ (.int .u8 (bits .xor .u8 (((xKk l b k).getD k 0).toNat:Int) b))) w.heap.size (xKk l b (k+1))):=ι (jF.putV hr.o.1 k hu.1 hu.2)
   have HKW:=ι (hr.o.2.setCell (p:=⟨w.heap.size,k,none⟩) ν (.int .u8 (bits .xor .u8 (((xKk l b k).getD k 0).toNat:Int) b)));clear hr hu;generalize (((xKk l b k).getD k 0).toNat:Int)=x at q0 HK HKW;go_wp2;exact⟨⟨k+1,ω,by go_num,ι ⟨HK.o,HKW.o⟩⟩,by simp[intOf];omega⟩
  ·have hke:k=64:=by omega
   have HPk:=ι (HP.o k hke);clear HP;obtain⟨i0,hi,hz0,hz1,hz2⟩:=vM xSu
   have HO:Hid (uG wr w.heap.size (.slice (some ⟨w.heap.size,0,none⟩) k (64+s.size)) ((xKk l b k).take k)):=ι (by
    have h:=uG.head hr.o.1 k w.heap.size ν (by rw[HXL.o,HL.o];omega) (by rw[HXL.o,HL.o];omega);rw[HXL.o,HL.o] at h;exact h)
   have HTL:Hid (((xKk l b k).take k).length=k):=ι (by rw[List.length_take,HXL.o,HL.o];omega);have HBW:=ι hr.o.2;clear hr;generalize (xKk l b k).take k=hd at HO HTL HPk;subst hke;clear hk hlt
   have HO2:Hid (wr.ownsRow w.heap.size 5 1 (.slice (some ⟨w.heap.size,0,none⟩) 64 (64+s.size)) 64 (hd.map λc=>Value.int .u8 (c.toNat:Int))):=ι (by have h:=HO.o.row;rw[HTL.o] at h;exact h);have HS:=ι hs
   go_wp2_with (at_builtin;refine xFm rfl _ _ 79 9 rfl w.heap.size 5 i0 Tryz.underlying79 Tryz.underlying9 hi hz0 hz1 hz2 w.heap.size 64 (64+s.size) _ rfl HO2.o s rfl (by have:=HS.o;unfold maxLen;omega) (by have:=HS.o;omega) HBW.o.size ?_;intro v3 w3 hown hgrow hloc;have h7:=uG.text (l:=hd++s.data.toList) (uG.of (by rw[HTL.o,hsl];exact hown));have h8:=ι (HBW.o.grown hgrow HBW.o.size (λk hk=>by injection hk with hk;omega));clear hown hgrow hloc)
   rw[<-HPk.o];go_ret;exact⟨rfl,h8.o⟩
end Go.Proofs.SH
namespace Mailsack
def bsA (l:Bs):ByteArray:=⟨l.toArray⟩
def jJ (key:ByteArray):ByteArray:=if 64<key.size then bsA (xH7 key) else key
def xTz (key s:ByteArray):Bs:=xH7 (bsA (xBn (jJ key).data.toList 92 (xH7 (bsA (xBn (jJ key).data.toList 54 s.data.toList)))))
theorem yS (l:Bs):(bsA l).size=l.length:=by simp[bsA,ByteArray.size]
theorem xCy (key:ByteArray):(jJ key).size<=64:=by
 unfold jJ;split
 ·rw[yS,xB8];decide
 ·omega
theorem xFb (key s:ByteArray):(xTz key s).length=32:=xB8 _
end Mailsack
namespace Go.Proofs.SH
open Go.RowKit Mailsack MM BB
theorem xF8 (key s:ByteArray) (w:World) (hk:key.size<=1099511627776) (hs:s.size<=1099511627776) (hT:wL w):
  Calls Tryz.prog 84 #[.string key,.string s] w λe w'=>e=.returned (xO (xTz key s))/\Below w.heap.size w w':=by
 have HT:=ι hT;have HM:Hid (∀W,Calls Tryz.prog 162 #[.string (jJ key),.int .u8 54,.string s] W λe w'=>e=.returned (.string (bsA (xBn (jJ key).data.toList 54 s.data.toList)))/\Below W.heap.size W w'):=ι (λW=>xPx (jJ key) s 54 W (xCy key) hs)
 have HS:Hid (∀W,wL W->Calls Tryz.prog 83 #[.string (bsA (xBn (jJ key).data.toList 54 s.data.toList))] W λe w'=>e=.returned (.string (bsA (xH7 (bsA (xBn (jJ key).data.toList 54 s.data.toList)))))/\Below W.heap.size W w'):=ι (λW hW=>xFq _ W (by
  rw[yS,xLk _ _ _ (by have:=xCy key;simpa using this)];have:s.data.toList.length=s.size:=by simp
  omega) hW)
 have HM2:Hid (∀W,Calls Tryz.prog 162 #[.string (jJ key),.int .u8 92,.string (bsA (xH7 (bsA (xBn (jJ key).data.toList 54 s.data.toList))))] W λe w'=>e=.returned (.string (bsA (xBn (jJ key).data.toList 92 (xH7 (bsA (xBn (jJ key).data.toList 54 s.data.toList))))))/\Below W.heap.size W w'):=ι (λW=>xPx (jJ key) _ 92 W (xCy key) (by rw[yS,xB8];decide))
 have HS2:Hid (∀W,wL W->Calls Tryz.prog 83 #[.string (bsA (xBn (jJ key).data.toList 92 (xH7 (bsA (xBn (jJ key).data.toList 54 s.data.toList)))))] W λe w'=>e=.returned (xO (xTz key s))/\Below W.heap.size W w'):=ι (λW hW=>xFq _ W (by
  rw[yS,xLk _ _ _ (by have:=xCy key;simpa using this),xB8]
  decide) hW)
 have HK:Hid (∀W,wL W->Calls Tryz.prog 83 #[.string key] W λe w'=>e=.returned (.string (bsA (xH7 key)))/\Below W.heap.size W w'):=ι (λW hW=>xFq key W ω hW);generalize bsA (xBn (jJ key).data.toList 54 s.data.toList)=x1 at HM HS HM2 HS2;generalize bsA (xH7 x1)=x2 at HS HM2 HS2
 generalize bsA (xBn (jJ key).data.toList 92 (xH7 x1))=x3 at HM2 HS2;clear hT hs
 by_cases h:64<key.size
 ·have hkey:Hid (jJ key=bsA (xH7 key)):=ι (by unfold jJ;rw[if_pos h]);rw[<-hkey.o] at HK;generalize jJ key=k1 at HM HM2 HK;go_enter Tryz.func84,Tryz.ntmps84;go_wp2_with fail
  refine(HK.o _ HT.o).mono ?_;rintro e w1 ⟨rfl,hb1⟩;have B1:=ι hb1;clear hb1 h hk;go_wp2_with fail
  refine(HM.o _).mono ?_;rintro e w2 ⟨rfl,hb2⟩;have B2:=ι (B1.o.trans (hb2.mono B1.o.size));clear hb2 B1;go_wp2_with fail
  refine(HS.o _ (HT.o.below B2.o ν)).mono ?_;rintro e w3 ⟨rfl,hb3⟩;have B3:=ι (B2.o.trans (hb3.mono B2.o.size));clear hb3 B2;go_wp2_with fail
  refine(HM2.o _).mono ?_;rintro e w4 ⟨rfl,hb4⟩;have B4:=ι (B3.o.trans (hb4.mono B3.o.size));clear hb4 B3;go_wp2_with fail
  refine(HS2.o _ (HT.o.below B4.o ν)).mono ?_;rintro e w5 ⟨rfl,hb5⟩;go_wp2;go_ret;exact⟨rfl,B4.o.trans (hb5.mono B4.o.size)⟩
 ·have hkey:jJ key=key:=by unfold jJ;rw[if_neg h]
  rw[hkey] at HM HM2;have B1:=ι (Below.refl w.heap.size w);clear hkey HK;go_enter Tryz.func84,Tryz.ntmps84;go_wp2_with fail
  refine(HM.o _).mono ?_;rintro e w2 ⟨rfl,hb2⟩;have B2:=ι (B1.o.trans (hb2.mono B1.o.size));clear hb2 B1 h hk;go_wp2_with fail
  refine(HS.o _ (HT.o.below B2.o ν)).mono ?_;rintro e w3 ⟨rfl,hb3⟩;have B3:=ι (B2.o.trans (hb3.mono B2.o.size));clear hb3 B2;go_wp2_with fail
  refine(HM2.o _).mono ?_;rintro e w4 ⟨rfl,hb4⟩;have B4:=ι (B3.o.trans (hb4.mono B3.o.size));clear hb4 B3;go_wp2_with fail
  refine(HS2.o _ (HT.o.below B4.o ν)).mono ?_;rintro e w5 ⟨rfl,hb5⟩;go_wp2;go_ret;exact⟨rfl,B4.o.trans (hb5.mono B4.o.size)⟩
def xGh (a b:ByteArray):Nat->Int
 |0=>0
 |k+1=>bits .or .u8 (xGh a b k) (bits .xor .u8 (yO a k) (yO b k))
def rX (a b:ByteArray):Bool:=decide (a.size=b.size)&&(xGh a b a.size==0)
theorem xOn (a b:ByteArray):∀k,0<=xGh a b k/\xGh a b k<256
 |0=>by unfold xGh;exact⟨δ,δ⟩
 |_+1=>xB3 _ _ _
theorem xIx (a b:ByteArray) (w:World) (ha:a.size<=1099511627776):
  Calls Tryz.prog 35 #[.string a,.string b] w λe w'=>e=.returned (.bool (rX a b))/\Below w.heap.size w w':=by
 by_cases h:a.size=b.size
 ·have HP:Hid (∀n,n=a.size->rX a b=(xGh a b n==0)):=ι (λn hn=>by unfold rX;rw[hn];simp[h]);have h2:((a.size:Int)!=(b.size:Int))=false:=by simp[h]
  have hbs:b.size=a.size:=h.symm;have HBS:=ι hbs;clear h hbs;go_enter Tryz.func35,Tryz.ntmps35;go_wp2_with fail
  clear h2
  go_loopw [5,14] (λdv iv wr=>∃k:Nat,k<=a.size/\iv=.int .i64 k/\dv=.int .u8 (xGh a b k)/\Hid (Below w.heap.size w wr)) (λ_ iv _=>a.size- (intOf iv).toNat)
  case atStart=>exact⟨0,Nat.zero_le _,rfl,rfl,ι (Below.refl _ _)⟩
  case round=>
   obtain⟨k,hk,rfl,rfl,hb⟩:=hrel
   by_cases hlt:k<a.size
   ·have i0:=λw=>zH (P:=Tryz.prog) Tryz.underlying9 a (k:Int) k rfl hlt w;have i1:=λw=>zH (P:=Tryz.prog) Tryz.underlying9 b (k:Int) k rfl (by rw[HBS.o];exact hlt) w;have r0:=yQ a k;have r1:=yQ b k;have rd:=xOn a b k
    have HK:Hid (bits .or .u8 (xGh a b k) (bits .xor .u8 (yO a k) (yO b k))=xGh a b (k+1)):=ι rfl;generalize yO a k=x at i0 r0 HK;generalize yO b k=y at i1 r1 HK;generalize xGh a b k=d at rd HK⊢;obtain⟨r00,r01⟩:=r0;obtain⟨r10,r11⟩:=r1;obtain⟨rd0,rd1⟩:=rd
    go_upto_region 7 with fail
    go_quiet (fail)
    clear i0 i1;rw[HK.o];have HB:=ι (below_drewN hb.o nq);go_wp2;exact⟨⟨k+1,ω,by go_num,rfl,HB⟩,by simp[intOf];omega⟩
   ·have hke:k=a.size:=by omega
    have HPk:=ι (HP.o k hke);clear HP;generalize xGh a b k=d at HPk⊢;subst hke;clear hk hlt;go_wp2;go_ret;exact⟨by rw[HPk.o];rfl,hb.o⟩
 ·have HP:Hid (rX a b=false):=ι (by unfold rX;simp[h]);have h2:((a.size:Int)!=(b.size:Int))=true:=by simp;omega
  have h3:((a.size:Int)≠(b.size:Int)):=by omega
  clear h;go_enter Tryz.func35,Tryz.ntmps35;go_wp2;go_ret;exact⟨by rw[HP.o];rfl,Below.refl _ _⟩
end Go.Proofs.SH
namespace Mailsack
def xAz (ex info:ByteArray):Nat->ByteArray
 |0=>⟨#[]⟩
 |k+1=>bsA (xTz ex (xAz ex info k++info++bsA [oct (k+1)]))
def xGf (ex info:ByteArray):Nat->Bs
 |0=>[]
 |k+1=>xGf ex info k++(xAz ex info (k+1)).data.toList
def xJy (secret yN info:ByteArray) (n:Nat):Bs:=(xGf (bsA (xTz yN secret)) info ((n+31) / 32)).take n
theorem xDz (ex info:ByteArray) (k:Nat):(xAz ex info (k+1)).size=32:=by
 unfold xAz;rw[yS,xFb]
theorem yBh (ex info:ByteArray):∀k,(xAz ex info k).size<=32
 |0=>by unfold xAz;decide
 |k+1=>by rw[xDz];exact Nat.le_refl _
theorem xD9 (ex info:ByteArray):∀k,(xGf ex info k).length=32*k
 |0=>rfl
 |k+1=>by
  have h:(xAz ex info (k+1)).data.toList.length=32:=by
   have:=xDz ex info k;simpa using this
  unfold xGf;rw[List.length_append,xD9 ex info k,h];omega
theorem xGe (secret yN info:ByteArray) (n:Nat):(xJy secret yN info n).length=n:=by
 unfold xJy;rw[List.length_take,xD9];omega
end Mailsack
namespace Go.Proofs.SH
open Go.RowKit Mailsack MM BB
theorem uG.at {w:World} {base:Nat} {v:Value} {l:Bs} (h:uG w base v l) (h0:0<l.length):∃g cap,v=.slice (some ⟨g,0,none⟩) l.length cap/\l.length<=cap:=by
 rcases h.2 with ⟨_,h2⟩|⟨g,cap,cur,h1,_,_,h2,_⟩
 ·omega
 ·exact⟨g,cap,h1,h2⟩
theorem uG.part {w:World} {base g n cap:Nat} {l:Bs} (h:uG w base (.slice (some ⟨g,0,none⟩) l.length cap) l) (hn:n<=l.length):(convert 79 9 (.slice (some ⟨g,0,none⟩) n cap)).run Tryz.prog w=.ok (xO (l.take n)) w:=by
 have h1:=run_convert_bytes_back (P:=Tryz.prog) w 79 9 5 ⟨g,0,none⟩ cap (l.take n) Tryz.underlying79 Tryz.underlying5 Tryz.underlying9 (λj hj=>by
  have hj':j<l.length:=by rw[List.length_take] at hj;omega
  have:=World.ownsRow.cells h (g:=g) rfl j _ (by simp[hj'];rfl);rw[this,List.getElem_take])
 rw[List.length_take,Nat.min_eq_left hn] at h1;exact h1
theorem yF5 (c:Int) (hc:0<=c) (hc2:c<256) (W:World):(convert 79 9 (.slice (some ⟨W.heap.size,0,none⟩) 1 1)).run Tryz.prog (W.alloc (.cells #[.int .u8 c] 5))=.ok (.string (bsA [oct c])) (W.alloc (.cells #[.int .u8 c] 5)):=by
 refine run_convert_bytes_back (P:=Tryz.prog) (W.alloc (.cells #[.int .u8 c] 5)) _ _ 5 ⟨W.heap.size,0,none⟩ 1 [oct c] Tryz.underlying79 Tryz.underlying5 Tryz.underlying9 (λj hj=>?_);have hj0:j=0:=by simpa using hj
 subst hj0;have:=cell_one_new W (.int .u8 c) 5 0 _ rfl;rw[this];simp[xA5];omega
theorem xJx (secret yN info:ByteArray) (n:Nat) (w:World) (h1:secret.size<=1099511627776) (h2:yN.size<=1099511627776) (h3:info.size<=1000000) (hn:n<=8160) (hT:wL w):
  Calls Tryz.prog 89 #[.string secret,.string yN,.string info,.int .i64 n] w λe w'=>e=.returned (.tuple #[xO (xJy secret yN info n),.int .i64 0])/\Below w.heap.size w w':=by
 have HT:=ι hT;have HE:Hid (∀W,wL W->Calls Tryz.prog 84 #[.string yN,.string secret] W λe w'=>e=.returned (.string (bsA (xTz yN secret)))/\Below W.heap.size W w'):=ι (λW hW=>xF8 yN secret W h2 h1 hW)
 have HP:Hid (xJy secret yN info n=(xGf (bsA (xTz yN secret)) info ((n+31) / 32)).take n):=ι rfl;have hex:(bsA (xTz yN secret)).size=32:=by rw[yS,xFb]
 have HX:=ι hex;generalize bsA (xTz yN secret)=ex at HE HP hex HX;have HMK:=ι (λW:World=>made W 0 (n+32) ω ω);obtain⟨i0,hi,hz0,hz1,hz2⟩:=vM xSu;have HN:=ι hn;clear hex h1 h2;go_enter Tryz.func89,Tryz.ntmps89;go_wp2_with fail
 refine(HE.o _ HT.o).mono ?_;rintro e w1 ⟨rfl,hb1⟩;have B1:=ι hb1;clear hb1 HE;have hmk:∀W:World,(Instr.makeSlice 79 (.int .i64 0) (.int .i64 ((n:Int)+32))).run Tryz.prog W=.ok (.slice (some ⟨W.heap.size,0,none⟩) 0 (n+32)) (W.alloc (.cells (yJ (xQ (n+32))) 5)):=HMK.o
 have HO0:=ι (uG.room w1 (n+32) w.heap.size B1.o.size ω);have B2:=ι (B1.o.alloc B1.o.size (.cells (yJ (xQ (n+32))) 5));go_wp2_with fail
 clear hmk HMK
 go_loopw [11,12,13] (λov lv cv wr=>∃(k g cap:Nat),32*k<n+32/\ov=.slice (some ⟨g,0,none⟩) (32*k) cap/\32*k<=cap/\lv=.string (xAz ex info k)/\cv=.int .u8 (((k:Int)+1) % 256)/\Hid (uG wr w.heap.size (.slice (some ⟨g,0,none⟩) (32*k) cap) (xGf ex info k))/\Hid (Below w.heap.size w wr)) (λov _ _ _=>match ov with|.slice _ m _=>n+32-m|_=>0)
 case atStart=>exact⟨0,w1.heap.size,n+32,ω,rfl,ω,rfl,rfl,HO0,B2⟩
 case round=>
  obtain⟨k,g,cap,hk,rfl,hcap,rfl,rfl,ho,hb⟩:=hrel;clear HO0 B2
  by_cases hlt:32*k<n
  ·have HKS:Hid (xAz ex info (k+1)=bsA (xTz ex (xAz ex info k++info++bsA [oct ((k:Int)+1)]))):=ι rfl;have HOS:Hid (xGf ex info (k+1)=xGf ex info k++(xAz ex info (k+1)).data.toList):=ι rfl;have HKZ:=ι (xDz ex info k);have hKl:=yBh ex info k;have HOL:=ι (xD9 ex info k)
   have hc:((k:Int)+1) % 256=(k:Int)+1:=by omega
   rw[hc];have hcv:=yF5 ((k:Int)+1) ω ω;have hcb:(bsA [oct ((k:Int)+1)]).size=1:=by rw[yS];rfl
   generalize bsA [oct ((k:Int)+1)]=cb at hcv HKS hcb;have nb1:¬(9223372036854775807<(xAz ex info k).size+info.size):=by omega
   have nb2:¬(9223372036854775807<(xAz ex info k++info).size+cb.size):=by rw[ByteArray.size_append];omega
   have HS:Hid (∀W,wL W->Calls Tryz.prog 84 #[.string ex,.string (xAz ex info k++info++cb)] W λe w'=>e=.returned (.string (xAz ex info (k+1)))/\Below W.heap.size W w'):=ι (λW hW=>by
    rw[HKS.o];exact xF8 ex _ W (by rw[HX.o];decide) (by rw[ByteArray.size_append,ByteArray.size_append];omega) hW)
   have HKW:=ι hlt;generalize xAz ex info k=l0 at nb1 nb2 HS HKS⊢;obtain⟨l1,hl1⟩:∃l1,xAz ex info (k+1)=l1:=⟨_,rfl⟩;rw[hl1] at HS HKS HKZ HOS;have HL1:=ι hl1;clear hl1;generalize xGf ex info k=acc at ho HOS HOL;clear hKl hcb h3 hn;go_wp2_with fail
   refine(HS.o _ ((HT.o.below (hb.o.alloc hb.o.size (.cells #[.int .u8 ((k:Int)+1)] 5)) ν))).mono ?_;rintro e w3 ⟨rfl,hb3⟩;have HO3:=ι ((ho.o.alloc (.cells #[.int .u8 ((k:Int)+1)] 5)).below hb3)
   have HB3:=ι ((hb.o.alloc hb.o.size (.cells #[.int .u8 ((k:Int)+1)] 5)).trans (hb3.mono (hb.o.alloc hb.o.size (.cells #[.int .u8 ((k:Int)+1)] 5)).size));clear hb3 nb1 nb2 hcv HS hb ho
   have HO2:Hid (w3.ownsRow w.heap.size 5 1 (.slice (some ⟨g,0,none⟩) (32*k) cap) (32*k) (acc.map λc=>Value.int .u8 (c.toNat:Int))):=ι (by have h:=HO3.o.row;rw[HOL.o] at h;exact h)
   go_wp2_with (at_builtin;refine xFm rfl _ _ 79 9 rfl w.heap.size 5 i0 Tryz.underlying79 Tryz.underlying9 hi hz0 hz1 hz2 g (32*k) cap _ rfl HO2.o l1 rfl (by have:=HKZ.o;have:=HN.o;have:=HKW.o;unfold maxLen;omega) (by have:=HKZ.o;have:=HN.o;have:=HKW.o;omega) HB3.o.size ?_;intro v4 w4 hown hgrow hloc;have h7:=ι (uG.of (l:=acc) (m:=l1.data.toList) (by rw[HOL.o,show l1.data.toList.length=l1.size by simp];exact hown));have h8:=ι (HB3.o.grown hgrow HB3.o.size (λq hq=>World.ownsRow.lt HO2.o q hq |>.1));clear hown hgrow hloc)
   have hlen:(acc++l1.data.toList).length=32*(k+1):=by
    rw[List.length_append,HOL.o,show l1.data.toList.length=l1.size by simp,HKZ.o];omega
   obtain⟨g4,cap4,hv4,hcap4⟩:=uG.at h7.o (by rw[hlen];omega);rw[hlen] at hv4 hcap4;subst hv4;exact⟨⟨k+1,g4,cap4,ω,rfl,hcap4,by rw[HL1.o],by rw[show((k:Int)+1+1)=(((k+1:Nat):Int)+1) by omega],ι (by rw[HOS.o];exact h7.o),h8⟩,by show n+32-32*(k+1)<n+32-32*k;omega⟩
  ·have HOL:=ι (xD9 ex info k)
   have HPk:Hid (xJy secret yN info n=(xGf ex info k).take n):=ι (by
    have hke:(n+31) / 32=k:=by omega
    rw[HP.o,hke])
   clear HP;generalize xGf ex info k=acc at ho HOL HPk
   have ht:(convert 79 9 (.slice (some ⟨g,0,none⟩) n cap)).run Tryz.prog wr=.ok (xO (xJy secret yN info n)) wr:=by
    rw[HPk.o];have h:=ho.o;rw[<-HOL.o] at h;exact uG.part h (by rw[HOL.o];omega)
   go_wp2;go_ret2;exact⟨rfl,hb.o⟩
end Go.Proofs.SH