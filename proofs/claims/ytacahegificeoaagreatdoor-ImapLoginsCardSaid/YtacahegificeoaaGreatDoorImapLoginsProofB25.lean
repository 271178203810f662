/- Contracts of functions. Conditions: as stated. -/
import Derived.Test.YtacahegificeoaaGreatDoorImapLoginsProofB24
set_option maxHeartbeats 8000000
set_option maxRecDepth 100000
namespace Mailsack
theorem yDx (z:Int):oct (z % 256)=oct z:=by
 unfold oct;rw[Int.emod_emod_of_dvd z (by omega:(256:Int) ∣ 256)]
end Mailsack
namespace Go.Proofs.ST
open Go.RowKit Mailsack MM BB SH SV RK DS
abbrev qC (t:Slot):List Value:=[.bool t.used,.int .i64 t.cls,.int .i64 t.blk,.int .i64 t.size,xO t.name]
theorem zL (t:Slot):(qC t).length=5:=rfl
theorem sloF_one (x:Slot):∀u∈qC x,u.oneCell'=true:=by
 intro u hu;simp only[qC,List.mem_cons,List.not_mem_nil,or_false] at hu;rcases hu with rfl|rfl|rfl|rfl|rfl<;>rfl
abbrev xGz (t:Slot):Value:=.agg #[.bool t.used,.int .i64 t.cls,.int .i64 t.blk,.int .i64 t.size,xO t.name]
abbrev wO (t:Slot):Obj:=.cells #[.bool t.used,.int .i64 t.cls,.int .i64 t.blk,.int .i64 t.size,xO t.name] 137
theorem yEm:(Tryz.prog.info? 137).map (λi=>(i.zero,i.size,i.bytes))=some (some (.agg #[.bool false,.int .i64 0,.int .i64 0,.int .i64 0,.string ⟨#[]⟩]),5,48):=by kernel_rfl
theorem xY1 (l:List Int) (hl:∀x∈l,0<=x/\x<256) (g:Nat) (W:World) (hb:W.heap[g]?=some (.cells (l.map (Value.int .u8)).toArray 5 (0,0))):(convert 79 9 (.slice (some ⟨g,0,none⟩) l.length l.length)).run Tryz.prog W=.ok (.string (bsA (l.map oct))) W:=by
 have:=run_convert_bytes_back (P:=Tryz.prog) W 79 9 5 ⟨g,0,none⟩ l.length (l.map oct) Tryz.underlying79 Tryz.underlying5 Tryz.underlying9 (λj hj=>by
  have hj2:j<l.length:=by simpa using hj
  have ha:(⟨g,0,none⟩:Addr).add j=⟨g,j,none⟩:=by unfold Addr.add;split<;>simp_all
  rw[ha,xA hb];have h1:=hl l[j] (List.getElem_mem hj2);have h2:=xA5 l[j];simp[hj2];omega)
 rw[List.length_map] at this;exact this
theorem xBh (c:Nat) (w:World):Calls Tryz.prog 230 #[.int .i64 c] w λe w'=>e=.returned (.int .i64 (jT c))/\w'=w:=by
 by_cases h:c=0
 ·subst h;go_enter Tryz.func230,Tryz.ntmps230;go_wp2;go_ret;exact⟨rfl,rfl⟩
 ·have h1:¬((c:Int)=0):=by omega
  have h2:((c:Int)==0)=false:=by simpa using h1
  have H:Hid (jT c=12):=ι (by unfold jT;rw[if_neg h]);clear h;go_enter Tryz.func230,Tryz.ntmps230;go_wp2;go_ret;exact⟨by rw[H.o];rfl,rfl⟩
theorem tX (c:Nat) (w:World):Calls Tryz.prog 231 #[.int .i64 c] w λe w'=>e=.returned (.int .i64 (xId c))/\w'=w:=by
 by_cases h:c=0
 ·subst h;go_enter Tryz.func231,Tryz.ntmps231;go_wp2;go_ret;exact⟨rfl,rfl⟩
 ·have h1:¬((c:Int)=0):=by omega
  have h2:((c:Int)==0)=false:=by simpa using h1
  have H:Hid (xId c=1024):=ι (by unfold xId;rw[if_neg h]);clear h;go_enter Tryz.func231,Tryz.ntmps231;go_wp2;go_ret;exact⟨by rw[H.o];rfl,rfl⟩
theorem xFx (c b:Nat) (w:World) (hb:b<=10000):Calls Tryz.prog 78 #[.int .i64 c,.int .i64 b] w λe w'=>e=.returned (.tuple #[.int .i64 (kP c b),.int .i64 (countP c)])/\w'=w:=by
 by_cases h:c=0
 ·subst h;have H:Hid ((kP 0 b:Nat)=(93:Int)+b*4/\countP 0=4):=ι ⟨by unfold kP;rw[if_pos rfl];omega,rfl⟩;go_enter Tryz.func78,Tryz.ntmps78;go_wp2;go_ret2;exact⟨by rw[H.o.1,H.o.2];rfl,rfl⟩
 ·have h1:¬((c:Int)=0):=by omega
  have h2:((c:Int)==0)=false:=by simpa using h1
  have H:Hid ((kP c b:Nat)=(189:Int)+b*16/\countP c=16):=ι ⟨by unfold kP;rw[if_neg h];omega,by unfold countP;rw[if_neg h]⟩;clear h;go_enter Tryz.func78,Tryz.ntmps78;go_wp2;go_ret2;exact⟨by rw[H.o.1,H.o.2];rfl,rfl⟩
theorem xIa (t:Slot) (w:World) (hc:t.cls<=255) (hb:t.blk<=255) (hs:t.size<=65535) (hn:t.name.length<=255):Calls Tryz.prog 232 #[xGz t] w λe w'=>e=.returned (xO (xQh t))/\Below w.heap.size w w':=by
 obtain⟨u,c,b,s,n⟩:=t;simp only at hc hb hs hn;have HB0:=ι ((Below.refl w.heap.size w).alloc ν (wO ⟨u,c,b,s,n⟩));have hbk:=xL w (wO ⟨u,c,b,s,n⟩);obtain⟨x0,x1,x2,x3,x4⟩:=xU2 hbk;cases u with
 |false=>
  have HP:=ι (λW=>xNt ⟨#[]⟩ 64 W ω (by show 0<=_;omega));clear hbk;have HE:Hid (xQh ⟨false,c,b,s,n⟩=xS5 (⟨#[]⟩:ByteArray).data.toList 64):=ι rfl;obtain⟨ev,hev⟩:∃ev,xQh ⟨false,c,b,s,n⟩=ev:=⟨_,rfl⟩;rw[hev] at HE⊢;rw[<-HE.o] at HP;clear hev HE;go_enter Tryz.func232,Tryz.ntmps232
  go_wp2_with fail
  refine(HP.o _).mono ?_;rintro e w1 ⟨rfl,hb1⟩;have HB:=ι (HB0.o.trans (hb1.mono HB0.o.size));clear hb1 HB0 HP;go_wp2;go_ret;exact⟨rfl,HB.o⟩
 |true=>
  have m1:(c:Int) % 256=c:=by omega
  have m2:(b:Int) % 256=b:=by omega
  have m5:(n.length:Int) % 256=n.length:=by omega
  clear hbk;obtain⟨ev,hev⟩:∃ev,xQh ⟨true,c,b,s,n⟩=ev:=⟨_,rfl⟩;rw[hev];have HEV:=ι hev;clear hev;go_enter Tryz.func232,Tryz.ntmps232;go_upto_region 4 with fail
  have HCV:=ι (xY1 [1,(c:Int),(b:Int),(s:Int) % 256,(s:Int) / 256,(n.length:Int)] (by
   intro x hx;simp only[List.mem_cons,List.not_mem_nil,or_false] at hx
   rcases hx with rfl|rfl|rfl|rfl|rfl|rfl<;>omega) (w.heap.size+1) ((w.alloc (wO ⟨true,c,b,s,n⟩)).alloc (.cells #[.int .u8 1,.int .u8 c,.int .u8 b,.int .u8 ((s:Int) % 256),.int .u8 ((s:Int) / 256),.int .u8 (n.length:Int)] 5)) (yX _ _ _))
  obtain⟨h6,hh6⟩:∃h6,bsA ([1,(c:Int),(b:Int),(s:Int) % 256,(s:Int) / 256,(n.length:Int)].map oct)=h6:=⟨_,rfl⟩;have hsz:h6.size=6:=by rw[<-hh6,yS];rfl
  rw[hh6] at HCV;have HBB:=ι (HB0.o.alloc HB0.o.size (.cells #[.int .u8 1,.int .u8 c,.int .u8 b,.int .u8 ((s:Int) % 256),.int .u8 ((s:Int) / 256),.int .u8 (n.length:Int)] 5))
  have hb4:=xK (xL w (wO ⟨true,c,b,s,n⟩)) (.cells #[.int .u8 1,.int .u8 c,.int .u8 b,.int .u8 ((s:Int) % 256),.int .u8 ((s:Int) / 256),.int .u8 (n.length:Int)] 5);have y4:=xA hb4 4;simp only[gA,gB,gC] at y4;obtain⟨nb,hnb⟩:∃nb:ByteArray,(⟨n.toArray⟩:ByteArray)=nb:=⟨_,rfl⟩
  have hns:nb.size=n.length:=by rw[<-hnb];rfl
  have HP:=ι (λW=>xNt (h6++nb) 64 W ω (by rw[ByteArray.size_append];omega))
  have HE:Hid (xS5 (h6++nb).data.toList 64=ev):=ι (by
   rw[<-HEV.o,<-hh6,<-hnb];unfold xQh;rw[if_pos rfl]
   congr 1
   unfold xZs;rw[ByteArray.data_append];simp[bsA,yDx]
   rfl)
  rw[HE.o] at HP;have nb1:¬(9223372036854775807<h6.size+nb.size):=by omega
  rw[show xO n=.string nb from by rw[<-hnb]] at y4;have hcv:=HCV.o;clear hh6 HEV HB0 x0 x1 x2 x3 x4 hb4 hns HCV m1 m2 m5 hc hb hs hn HE;simp only[List.length_cons,List.length_nil,Nat.zero_add,Nat.reduceAdd] at hcv
  generalize (w.alloc (wO ⟨true,c,b,s,n⟩)).alloc (.cells #[.int .u8 1,.int .u8 c,.int .u8 b,.int .u8 ((s:Int) % 256),.int .u8 ((s:Int) / 256),.int .u8 (n.length:Int)] 5)=w2 at hcv y4 HBB⊢;go_wp2_with fail
  refine(HP.o _).mono ?_;rintro e w1 ⟨rfl,hb1⟩;have HB:=ι (HBB.o.trans (hb1.mono HBB.o.size));clear hb1 HBB HP hcv y4;go_wp2;go_ret;exact⟨rfl,HB.o⟩
end Go.Proofs.ST
namespace Mailsack
theorem yCb (a b:Nat) (ha:a<256) (hb:b<256):Go.bits .or .i64 (a:Int) ((b:Int)*256)=(a:Int)+256*b:=by
 have hx:b*256 |||a=b*256+a:=by
  have:=Nat.two_pow_add_eq_or_of_lt (i:=8) (b:=a) ω b;rw[show 2^8*b=b*256 by omega] at this;exact this.symm
 have h1:(BitVec.ofInt 64 (a:Int)).toNat=a:=by
  rw[BitVec.ofInt_natCast,BitVec.toNat_ofNat];exact Nat.mod_eq_of_lt ω
 have h2:(BitVec.ofInt 64 ((b:Int)*256)).toNat=b*256:=by
  rw[show(b:Int)*256=((b*256:Nat):Int) by omega,BitVec.ofInt_natCast,BitVec.toNat_ofNat];exact Nat.mod_eq_of_lt ω
 show Go.IntKind.i64.wrap ((BitVec.ofInt 64 (a:Int) |||BitVec.ofInt 64 ((b:Int)*256)).toNat:Int)=_;rw[BitVec.toNat_or,h1,h2,Nat.or_comm,hx,Go.IntKind.wrap_i64];omega
theorem xQt (s:ByteArray) (i:Nat):yO s i=(bN s.data.toList i:Int):=rfl
end Mailsack
namespace Go.Proofs.ST
open Go.RowKit Mailsack MM BB SH SV RK DS
structure DcM (w:World) (g:Nat) (t:Slot) (W:World):Prop where
 o:W.heap[w.heap.size]?=some (wO noSlot)
 s:W.heap[g]?=some (wO t)
 bel:Below w.heap.size w W
 lt:w.heap.size<g
theorem xT5 (s:ByteArray) (w:World) (hs:s.size=64):
  Calls Tryz.prog 155 #[.string s] w λe w'=>e=.returned (xGz (xQk s.data.toList))/\Below w.heap.size w w':=by
 have i0:=λw=>zH (P:=Tryz.prog) Tryz.underlying9 s (0:Int) 0 rfl ω w;have i1:=λw=>zH (P:=Tryz.prog) Tryz.underlying9 s (1:Int) 1 rfl ω w;have i2:=λw=>zH (P:=Tryz.prog) Tryz.underlying9 s (2:Int) 2 rfl ω w;have i3:=λw=>zH (P:=Tryz.prog) Tryz.underlying9 s (3:Int) 3 rfl ω w
 have i4:=λw=>zH (P:=Tryz.prog) Tryz.underlying9 s (4:Int) 4 rfl ω w;have i5:=λw=>zH (P:=Tryz.prog) Tryz.underlying9 s (5:Int) 5 rfl ω w;rw[xQt] at i0 i1 i2 i3 i4 i5;have l0:=xTi s.data.toList 0;have l1:=xTi s.data.toList 1;have l2:=xTi s.data.toList 2
 have l3:=xTi s.data.toList 3;have l4:=xTi s.data.toList 4;have l5:=xTi s.data.toList 5;have xP1:Hid (xQk s.data.toList=if xPq s.data.toList=true then(if s.data.toList=xQh (qB s.data.toList) then qB s.data.toList else noSlot) else noSlot):=ι rfl
 have HOK:Hid (xPq s.data.toList=(decide (bN s.data.toList 0=1)&&decide (bN s.data.toList 1<=1)&&decide (bN s.data.toList 2<jT (bN s.data.toList 1))&&decide (bN s.data.toList 3+256*bN s.data.toList 4<=xId (bN s.data.toList 1))&&decide (1<=bN s.data.toList 5)&&decide (bN s.data.toList 5<=24))):=ι rfl
 have HSL:Hid (qB s.data.toList=⟨true,bN s.data.toList 1,bN s.data.toList 2,bN s.data.toList 3+256*bN s.data.toList 4,(s.data.toList.drop 6).take (bN s.data.toList 5)⟩):=ι rfl;have HOR:=ι (yCb _ _ l3 l4);generalize bN s.data.toList 0=b0 at*;generalize bN s.data.toList 1=b1 at*
 generalize bN s.data.toList 2=b2 at*;generalize bN s.data.toList 3=b3 at*;generalize bN s.data.toList 4=b4 at*;generalize bN s.data.toList 5=b5 at*;obtain⟨dv,hdv⟩:∃dv,xQk s.data.toList=dv:=⟨_,rfl⟩;rw[hdv] at xP1⊢;have HSZ:=ι hs;clear hdv hs
 have HO0:=ι (And.intro (xL w (wO noSlot)) ((Below.refl w.heap.size w).alloc ν (wO noSlot)));go_enter Tryz.func155,Tryz.ntmps155;go_upto_region 1 with fail
 generalize hw1:w.alloc (.cells #[.bool false,.int .i64 0,.int .i64 0,.int .i64 0,.string ⟨#[]⟩] 137)=w1;have HO1:Hid (w1.heap[w.heap.size]?=some (wO noSlot)/\Below w.heap.size w w1):=ι (by rw[<-hw1];exact HO0.o);clear hw1 HO0;have hor:=HOR.o
 obtain⟨sz,hsz⟩:∃sz:Nat,b3+256*b4=sz:=⟨_,rfl⟩;rw[show(b3:Int)+256*b4=(sz:Int) by omega] at hor;rw[hsz] at HOK HSL;have HSB:Hid (sz<=65535):=ι ω;clear HOR hsz;have hTT:qC ⟨true,b1,b2,sz,[]⟩=[.bool true,.int .i64 b1,.int .i64 b2,.int .i64 sz,.string ⟨#[]⟩]:=rfl;have HTT:=ι hTT
 clear hTT
 refine RG.uB [16] [15] (λL α W=>Hid (W.heap[w.heap.size]?=some (wO noSlot)/\Below w.heap.size w W/\(L 15=true->∃g,α 15=.pointer (some ⟨g,0,none⟩)/\w.heap.size<g/\(L 16=false->W.heap[g]?=some (wO noSlot))/\(L 16=true->W.heap[g]?=some (wO ⟨true,b1,b2,sz,[]⟩)))))
  (λL L' α α' W hl ha h=>ι ⟨h.o.1,h.o.2.1,λe15=>by
   have f15:L 15=true:=by rw[hl 15 σ];exact e15
   rw[<-ha 15 σ f15,<-hl 16 σ];exact h.o.2.2 f15⟩) κ κ κ (ι ⟨HO1.o.1,HO1.o.2.drew,λe=>(by cases e)⟩) ?_
 iterate 15 refine RG.vS ?_
 apply RG.jC
 ·rfl
 ·intro α L w9 h0 hcl xN hw9;have h16:L 16=false:=hcl.not 8 (i:=16) h0 κ;refine⟨.pointer (some ⟨w9.heap.size,0,none⟩),λbv hbv=>?_⟩;repeat go_step
  rw[<-hbv];with_reducible refine RG.xD ?_
  exact ι ⟨xK hw9.o.1 _,hw9.o.2.1.alloc hw9.o.2.1.size _,λ_=>⟨w9.heap.size,by
   rw[show RG.wF α (0+1+1+1+1+1+1+1+1+1+1+1+1+1+1+1) bv 15=bv from RG.zF _ _ _,hbv],xG hw9.o.1,λ_=>xL _ _,λe=>by
    have:L 16=true:=by simpa using e
    rw[h16] at this;cases this⟩⟩
 ·intro b α;rfl
 apply RG.rU (v:=undef)
 ·rfl
 ·rfl
 ·intro α L w9 h0 hcl xN hw9
  have h15:L 15=true:=by
   have:=xN.yes 8 (i:=16) (j:=15) σ κ;simpa using this
  obtain⟨g,hg,hlt,hb,_⟩:=hw9.o.2.2 h15;have hbg:=hb h0;rw[show α (0+1+1+1+1+1+1+1+1+1+1+1+1+1+1+1)=_ from hg];obtain⟨o0,y0,f0,o1,y1,f1,o2,y2,f2,o3,y3,f3,o4,y4,f4,HB⟩:=yBk hbg hw9.o.2.1 ω (.bool true) (.int .i64 b1) (.int .i64 b2) (.int .i64 sz) (.string ⟨#[]⟩) _ rfl
  have HSS:=ι (And.intro (yU (b:=g) (l:=[.bool true,.int .i64 b1,.int .i64 b2,.int .i64 sz,.string ⟨#[]⟩]) hbg rfl) (xM (b:=g) (g:=w.heap.size) ω [.bool true,.int .i64 b1,.int .i64 b2,.int .i64 sz,.string ⟨#[]⟩] 0 _ hw9.o.1));have HG:=ι (And.intro hg hlt);clear hg hlt hb hbg
  repeat go_step
  rw[<-show α (0+1+1+1+1+1+1+1+1+1+1+1+1+1+1+1)=_ from HG.o.1];with_reducible refine RG.xD ?_
  exact ι ⟨HSS.o.2,HB.o,λ_=>⟨g,HG.o.1,HG.o.2,λe=>by simp at e,λ_=>HSS.o.1⟩⟩
 ·intro α;rfl
 refine RG.pE (λα w9 hw9=>?_);obtain⟨g,hg,hlt,_,hb⟩:=hw9.o.2.2 rfl;rw[show α (0+1+1+1+1+1+1+1+1+1+1+1+1+1+1+1)=_ from hg];have HD:=ι (show DcM w g ⟨true,b1,b2,sz,[]⟩ w9 from⟨hw9.o.1,hb rfl,hw9.o.2.1,hlt⟩);clear hg hlt hb hw9 HO1 hor HTT;go_wp2_with fail
 have HBL:=ι (λW=>xBh b1 W);have HCP:=ι (λW=>tX b1 W);have HCL:Hid (xId b1<=1024/\jT b1<=24):=ι ⟨xOt _,xIg _⟩;generalize jT b1=bl at HBL HOK HCL;generalize xId b1=cp at HCP HOK HCL
 by_cases t0:b0=1
 rotate_left
 ·have e0:¬((b0:Int)=1):=by omega
  have e9:((b0:Int)!=1)=true:=by simpa using e0
  have HDV:Hid (dv=noSlot):=ι (by rw[xP1.o,if_neg];rw[HOK.o];simp;omega);clear xP1 HOK HSL;go_upto_region 3 with fail
  refine RG.xP (λW=>Hid (DcM w g ⟨true,b1,b2,sz,[]⟩ W)) κ κ (ι ⟨HD.o.o,HD.o.s,HD.o.bel.drew,HD.o.lt⟩) ?_;iterate 4 refine RG.dS ?_
  iterate 3 refine RG.kS ?_
  iterate 2 refine RG.dS ?_
  iterate 6 refine RG.kS ?_
  iterate 2 refine RG.dS ?_
  iterate 6 refine RG.kS ?_
  iterate 2 refine RG.dS ?_
  iterate 2 refine RG.kS ?_
  iterate 2 refine RG.dS ?_
  iterate 2 refine RG.kS ?_
  refine RG.dS ?_;refine RG.xS (λw3 hw3=>?_);obtain⟨o0,y0,f0,o1,y1,f1,o2,y2,f2,o3,y3,f3,o4,y4,f4,HB⟩:=yBk hw3.o.o hw3.o.bel ω (.bool false) (.int .i64 0) (.int .i64 0) (.int .i64 0) (.string ⟨#[]⟩) _ rfl;clear hw3 HD;go_wp2
  refine bodyPost_ret (v:=xGz noSlot) (by simp[results,Tryz.results155,go_sem,f0,f1,f2,f3,f4,noSlot]) rfl ?_;exact⟨by rw[HDV.o],HB.o⟩
 have g0:(b0:Int)=1:=by omega
 have g9:((b0:Int)!=1)=false:=by simp[g0]
 by_cases t1:b1<=1
 rotate_left
 ·have e0:1<(b1:Int):=by omega
  have HDV:Hid (dv=noSlot):=ι (by rw[xP1.o,if_neg];rw[HOK.o];simp;omega);clear xP1 HOK HSL;go_upto_region 3 with fail
  refine RG.xP (λW=>Hid (DcM w g ⟨true,b1,b2,sz,[]⟩ W)) κ κ (ι ⟨HD.o.o,HD.o.s,HD.o.bel.drew,HD.o.lt⟩) ?_;iterate 4 refine RG.dS ?_
  iterate 3
   apply RG.xJ
   ·intro w9 hw9;have hb:=hw9.o.s;have c1:=xA hb 1;have c2:=xA hb 2;have c3:=xA hb 3;simp only[gA,gB,gC] at c1 c2 c3;repeat go_step
    with_reducible exact RG.xD hw9
   ·rfl
  iterate 2 refine RG.dS ?_
  iterate 6 refine RG.kS ?_
  iterate 2 refine RG.dS ?_
  iterate 6 refine RG.kS ?_
  iterate 2 refine RG.dS ?_
  iterate 2 refine RG.kS ?_
  iterate 2 refine RG.dS ?_
  iterate 2 refine RG.kS ?_
  refine RG.dS ?_;refine RG.xS (λw3 hw3=>?_);obtain⟨o0,y0,f0,o1,y1,f1,o2,y2,f2,o3,y3,f3,o4,y4,f4,HB⟩:=yBk hw3.o.o hw3.o.bel ω (.bool false) (.int .i64 0) (.int .i64 0) (.int .i64 0) (.string ⟨#[]⟩) _ rfl;clear hw3 HD;go_wp2
  refine bodyPost_ret (v:=xGz noSlot) (by simp[results,Tryz.results155,go_sem,f0,f1,f2,f3,f4,noSlot]) rfl ?_;exact⟨by rw[HDV.o],HB.o⟩
 have g1:¬(1<(b1:Int)):=by omega
 by_cases t2:b2<bl
 rotate_left
 ·have e0:(bl:Int)<=(b2:Int):=by omega
  have HDV:Hid (dv=noSlot):=ι (by rw[xP1.o,if_neg];rw[HOK.o];simp;omega);clear xP1 HOK HSL;go_upto_region 3 with fail
  refine RG.xP (λW=>Hid (DcM w g ⟨true,b1,b2,sz,[]⟩ W)) κ κ (ι ⟨HD.o.o,HD.o.s,HD.o.bel.drew,HD.o.lt⟩) ?_;iterate 4 refine RG.dS ?_
  iterate 3
   apply RG.xJ
   ·intro w9 hw9;have hb:=hw9.o.s;have c1:=xA hb 1;have c2:=xA hb 2;have c3:=xA hb 3;simp only[gA,gB,gC] at c1 c2 c3;repeat go_step
    with_reducible exact RG.xD hw9
   ·rfl
  iterate 2 refine RG.dS ?_
  iterate 4
   apply RG.xJ
   ·intro w9 hw9;have hb:=hw9.o.s;have c1:=xA hb 1;have c2:=xA hb 2;have c3:=xA hb 3;simp only[gA,gB,gC] at c1 c2 c3;repeat go_step
    with_reducible exact RG.xD hw9
   ·rfl
  apply RG.xJ
  ·intro w9 hw9;repeat go_step
   refine(HBL.o _).mono ?_;rintro e w10 ⟨rfl,rfl⟩;simp only[];repeat go_step
   with_reducible exact RG.xD hw9
  ·rfl
  apply RG.xJ
  ·intro w9 hw9;have hb:=hw9.o.s;have c1:=xA hb 1;have c2:=xA hb 2;have c3:=xA hb 3;simp only[gA,gB,gC] at c1 c2 c3;repeat go_step
   with_reducible exact RG.xD hw9
  ·rfl
  iterate 2 refine RG.dS ?_
  iterate 6 refine RG.kS ?_
  iterate 2 refine RG.dS ?_
  iterate 2 refine RG.kS ?_
  iterate 2 refine RG.dS ?_
  iterate 2 refine RG.kS ?_
  refine RG.dS ?_;refine RG.xS (λw3 hw3=>?_);obtain⟨o0,y0,f0,o1,y1,f1,o2,y2,f2,o3,y3,f3,o4,y4,f4,HB⟩:=yBk hw3.o.o hw3.o.bel ω (.bool false) (.int .i64 0) (.int .i64 0) (.int .i64 0) (.string ⟨#[]⟩) _ rfl;clear hw3 HD;go_wp2
  refine bodyPost_ret (v:=xGz noSlot) (by simp[results,Tryz.results155,go_sem,f0,f1,f2,f3,f4,noSlot]) rfl ?_;exact⟨by rw[HDV.o],HB.o⟩
 have g2:¬((bl:Int)<=(b2:Int)):=by omega
 by_cases t3:sz<=cp
 rotate_left
 ·have e0:(cp:Int)<(sz:Int):=by omega
  have HDV:Hid (dv=noSlot):=ι (by rw[xP1.o,if_neg];rw[HOK.o];simp;omega);clear xP1 HOK HSL;go_upto_region 3 with fail
  refine RG.xP (λW=>Hid (DcM w g ⟨true,b1,b2,sz,[]⟩ W)) κ κ (ι ⟨HD.o.o,HD.o.s,HD.o.bel.drew,HD.o.lt⟩) ?_;iterate 4 refine RG.dS ?_
  iterate 3
   apply RG.xJ
   ·intro w9 hw9;have hb:=hw9.o.s;have c1:=xA hb 1;have c2:=xA hb 2;have c3:=xA hb 3;simp only[gA,gB,gC] at c1 c2 c3;repeat go_step
    with_reducible exact RG.xD hw9
   ·rfl
  iterate 2 refine RG.dS ?_
  iterate 4
   apply RG.xJ
   ·intro w9 hw9;have hb:=hw9.o.s;have c1:=xA hb 1;have c2:=xA hb 2;have c3:=xA hb 3;simp only[gA,gB,gC] at c1 c2 c3;repeat go_step
    with_reducible exact RG.xD hw9
   ·rfl
  apply RG.xJ
  ·intro w9 hw9;repeat go_step
   refine(HBL.o _).mono ?_;rintro e w10 ⟨rfl,rfl⟩;simp only[];repeat go_step
   with_reducible exact RG.xD hw9
  ·rfl
  apply RG.xJ
  ·intro w9 hw9;have hb:=hw9.o.s;have c1:=xA hb 1;have c2:=xA hb 2;have c3:=xA hb 3;simp only[gA,gB,gC] at c1 c2 c3;repeat go_step
   with_reducible exact RG.xD hw9
  ·rfl
  iterate 2 refine RG.dS ?_
  iterate 4
   apply RG.xJ
   ·intro w9 hw9;have hb:=hw9.o.s;have c1:=xA hb 1;have c2:=xA hb 2;have c3:=xA hb 3;simp only[gA,gB,gC] at c1 c2 c3;repeat go_step
    with_reducible exact RG.xD hw9
   ·rfl
  apply RG.xJ
  ·intro w9 hw9;repeat go_step
   refine(HCP.o _).mono ?_;rintro e w10 ⟨rfl,rfl⟩;simp only[];repeat go_step
   with_reducible exact RG.xD hw9
  ·rfl
  apply RG.xJ
  ·intro w9 hw9;have hb:=hw9.o.s;have c1:=xA hb 1;have c2:=xA hb 2;have c3:=xA hb 3;simp only[gA,gB,gC] at c1 c2 c3;repeat go_step
   with_reducible exact RG.xD hw9
  ·rfl
  iterate 2 refine RG.dS ?_
  iterate 2 refine RG.kS ?_
  iterate 2 refine RG.dS ?_
  iterate 2 refine RG.kS ?_
  refine RG.dS ?_;refine RG.xS (λw3 hw3=>?_);obtain⟨o0,y0,f0,o1,y1,f1,o2,y2,f2,o3,y3,f3,o4,y4,f4,HB⟩:=yBk hw3.o.o hw3.o.bel ω (.bool false) (.int .i64 0) (.int .i64 0) (.int .i64 0) (.string ⟨#[]⟩) _ rfl;clear hw3 HD;go_wp2
  refine bodyPost_ret (v:=xGz noSlot) (by simp[results,Tryz.results155,go_sem,f0,f1,f2,f3,f4,noSlot]) rfl ?_;exact⟨by rw[HDV.o],HB.o⟩
 have g3:¬((cp:Int)<(sz:Int)):=by omega
 by_cases t4:1<=b5
 rotate_left
 ·have e0:(b5:Int)<1:=by omega
  have HDV:Hid (dv=noSlot):=ι (by rw[xP1.o,if_neg];rw[HOK.o];simp;omega);clear xP1 HOK HSL;go_upto_region 3 with fail
  refine RG.xP (λW=>Hid (DcM w g ⟨true,b1,b2,sz,[]⟩ W)) κ κ (ι ⟨HD.o.o,HD.o.s,HD.o.bel.drew,HD.o.lt⟩) ?_;iterate 4 refine RG.dS ?_
  iterate 3
   apply RG.xJ
   ·intro w9 hw9;have hb:=hw9.o.s;have c1:=xA hb 1;have c2:=xA hb 2;have c3:=xA hb 3;simp only[gA,gB,gC] at c1 c2 c3;repeat go_step
    with_reducible exact RG.xD hw9
   ·rfl
  iterate 2 refine RG.dS ?_
  iterate 4
   apply RG.xJ
   ·intro w9 hw9;have hb:=hw9.o.s;have c1:=xA hb 1;have c2:=xA hb 2;have c3:=xA hb 3;simp only[gA,gB,gC] at c1 c2 c3;repeat go_step
    with_reducible exact RG.xD hw9
   ·rfl
  apply RG.xJ
  ·intro w9 hw9;repeat go_step
   refine(HBL.o _).mono ?_;rintro e w10 ⟨rfl,rfl⟩;simp only[];repeat go_step
   with_reducible exact RG.xD hw9
  ·rfl
  apply RG.xJ
  ·intro w9 hw9;have hb:=hw9.o.s;have c1:=xA hb 1;have c2:=xA hb 2;have c3:=xA hb 3;simp only[gA,gB,gC] at c1 c2 c3;repeat go_step
   with_reducible exact RG.xD hw9
  ·rfl
  iterate 2 refine RG.dS ?_
  iterate 4
   apply RG.xJ
   ·intro w9 hw9;have hb:=hw9.o.s;have c1:=xA hb 1;have c2:=xA hb 2;have c3:=xA hb 3;simp only[gA,gB,gC] at c1 c2 c3;repeat go_step
    with_reducible exact RG.xD hw9
   ·rfl
  apply RG.xJ
  ·intro w9 hw9;repeat go_step
   refine(HCP.o _).mono ?_;rintro e w10 ⟨rfl,rfl⟩;simp only[];repeat go_step
   with_reducible exact RG.xD hw9
  ·rfl
  apply RG.xJ
  ·intro w9 hw9;have hb:=hw9.o.s;have c1:=xA hb 1;have c2:=xA hb 2;have c3:=xA hb 3;simp only[gA,gB,gC] at c1 c2 c3;repeat go_step
   with_reducible exact RG.xD hw9
  ·rfl
  iterate 2 refine RG.dS ?_
  iterate 2 refine RG.dS ?_
  iterate 2 refine RG.dS ?_
  iterate 2 refine RG.kS ?_
  refine RG.dS ?_;refine RG.xS (λw3 hw3=>?_);obtain⟨o0,y0,f0,o1,y1,f1,o2,y2,f2,o3,y3,f3,o4,y4,f4,HB⟩:=yBk hw3.o.o hw3.o.bel ω (.bool false) (.int .i64 0) (.int .i64 0) (.int .i64 0) (.string ⟨#[]⟩) _ rfl;clear hw3 HD;go_wp2
  refine bodyPost_ret (v:=xGz noSlot) (by simp[results,Tryz.results155,go_sem,f0,f1,f2,f3,f4,noSlot]) rfl ?_;exact⟨by rw[HDV.o],HB.o⟩
 have g4:¬((b5:Int)<1):=by omega
 by_cases t5:b5<=24
 rotate_left
 ·have e0:24<(b5:Int):=by omega
  have HDV:Hid (dv=noSlot):=ι (by rw[xP1.o,if_neg];rw[HOK.o];simp;omega);clear xP1 HOK HSL;go_upto_region 3 with fail
  refine RG.xP (λW=>Hid (DcM w g ⟨true,b1,b2,sz,[]⟩ W)) κ κ (ι ⟨HD.o.o,HD.o.s,HD.o.bel.drew,HD.o.lt⟩) ?_;iterate 4 refine RG.dS ?_
  iterate 3
   apply RG.xJ
   ·intro w9 hw9;have hb:=hw9.o.s;have c1:=xA hb 1;have c2:=xA hb 2;have c3:=xA hb 3;simp only[gA,gB,gC] at c1 c2 c3;repeat go_step
    with_reducible exact RG.xD hw9
   ·rfl
  iterate 2 refine RG.dS ?_
  iterate 4
   apply RG.xJ
   ·intro w9 hw9;have hb:=hw9.o.s;have c1:=xA hb 1;have c2:=xA hb 2;have c3:=xA hb 3;simp only[gA,gB,gC] at c1 c2 c3;repeat go_step
    with_reducible exact RG.xD hw9
   ·rfl
  apply RG.xJ
  ·intro w9 hw9;repeat go_step
   refine(HBL.o _).mono ?_;rintro e w10 ⟨rfl,rfl⟩;simp only[];repeat go_step
   with_reducible exact RG.xD hw9
  ·rfl
  apply RG.xJ
  ·intro w9 hw9;have hb:=hw9.o.s;have c1:=xA hb 1;have c2:=xA hb 2;have c3:=xA hb 3;simp only[gA,gB,gC] at c1 c2 c3;repeat go_step
   with_reducible exact RG.xD hw9
  ·rfl
  iterate 2 refine RG.dS ?_
  iterate 4
   apply RG.xJ
   ·intro w9 hw9;have hb:=hw9.o.s;have c1:=xA hb 1;have c2:=xA hb 2;have c3:=xA hb 3;simp only[gA,gB,gC] at c1 c2 c3;repeat go_step
    with_reducible exact RG.xD hw9
   ·rfl
  apply RG.xJ
  ·intro w9 hw9;repeat go_step
   refine(HCP.o _).mono ?_;rintro e w10 ⟨rfl,rfl⟩;simp only[];repeat go_step
   with_reducible exact RG.xD hw9
  ·rfl
  apply RG.xJ
  ·intro w9 hw9;have hb:=hw9.o.s;have c1:=xA hb 1;have c2:=xA hb 2;have c3:=xA hb 3;simp only[gA,gB,gC] at c1 c2 c3;repeat go_step
   with_reducible exact RG.xD hw9
  ·rfl
  iterate 2 refine RG.dS ?_
  iterate 2 refine RG.dS ?_
  iterate 2 refine RG.dS ?_
  iterate 2 refine RG.dS ?_
  refine RG.dS ?_;refine RG.xS (λw3 hw3=>?_);obtain⟨o0,y0,f0,o1,y1,f1,o2,y2,f2,o3,y3,f3,o4,y4,f4,HB⟩:=yBk hw3.o.o hw3.o.bel ω (.bool false) (.int .i64 0) (.int .i64 0) (.int .i64 0) (.string ⟨#[]⟩) _ rfl;clear hw3 HD;go_wp2
  refine bodyPost_ret (v:=xGz noSlot) (by simp[results,Tryz.results155,go_sem,f0,f1,f2,f3,f4,noSlot]) rfl ?_;exact⟨by rw[HDV.o],HB.o⟩
 have g5:¬(24<(b5:Int)):=by omega
 have HTR:Hid (dv=if s.data.toList=xQh (qB s.data.toList) then qB s.data.toList else noSlot):=ι (by rw[xP1.o,if_pos];rw[HOK.o];simp[t0,t1,t2,t3,t4,t5]);clear xP1 HOK;go_upto_region 3 with fail
 refine RG.xP (λW=>Hid (DcM w g ⟨true,b1,b2,sz,[]⟩ W)) κ κ (ι ⟨HD.o.o,HD.o.s,HD.o.bel.drew,HD.o.lt⟩) ?_;iterate 4 refine RG.dS ?_
 iterate 3
  apply RG.xJ
  ·intro w9 hw9;have hb:=hw9.o.s;have c1:=xA hb 1;have c2:=xA hb 2;have c3:=xA hb 3;simp only[gA,gB,gC] at c1 c2 c3;repeat go_step
   with_reducible exact RG.xD hw9
  ·rfl
 iterate 2 refine RG.dS ?_
 iterate 4
  apply RG.xJ
  ·intro w9 hw9;have hb:=hw9.o.s;have c1:=xA hb 1;have c2:=xA hb 2;have c3:=xA hb 3;simp only[gA,gB,gC] at c1 c2 c3;repeat go_step
   with_reducible exact RG.xD hw9
  ·rfl
 apply RG.xJ
 ·intro w9 hw9;repeat go_step
  refine(HBL.o _).mono ?_;rintro e w10 ⟨rfl,rfl⟩;simp only[];repeat go_step
  with_reducible exact RG.xD hw9
 ·rfl
 apply RG.xJ
 ·intro w9 hw9;have hb:=hw9.o.s;have c1:=xA hb 1;have c2:=xA hb 2;have c3:=xA hb 3;simp only[gA,gB,gC] at c1 c2 c3;repeat go_step
  with_reducible exact RG.xD hw9
 ·rfl
 iterate 2 refine RG.dS ?_
 iterate 4
  apply RG.xJ
  ·intro w9 hw9;have hb:=hw9.o.s;have c1:=xA hb 1;have c2:=xA hb 2;have c3:=xA hb 3;simp only[gA,gB,gC] at c1 c2 c3;repeat go_step
   with_reducible exact RG.xD hw9
  ·rfl
 apply RG.xJ
 ·intro w9 hw9;repeat go_step
  refine(HCP.o _).mono ?_;rintro e w10 ⟨rfl,rfl⟩;simp only[];repeat go_step
  with_reducible exact RG.xD hw9
 ·rfl
 apply RG.xJ
 ·intro w9 hw9;have hb:=hw9.o.s;have c1:=xA hb 1;have c2:=xA hb 2;have c3:=xA hb 3;simp only[gA,gB,gC] at c1 c2 c3;repeat go_step
  with_reducible exact RG.xD hw9
 ·rfl
 iterate 2 refine RG.dS ?_
 iterate 2 refine RG.dS ?_
 iterate 2 refine RG.dS ?_
 iterate 2 refine RG.dS ?_
 refine RG.dS ?_;refine RG.xS (λw3 hw3=>?_);have HD3:=hw3;clear hw3 HD HBL HCP;obtain⟨nb,hnb⟩:∃nb:ByteArray,s.extract 6 (6+b5)=nb:=⟨_,rfl⟩
 have HNB:Hid (xO ((s.data.toList.drop 6).take b5)=.string nb/\nb.size=b5):=ι (by
  have hz:=HSZ.o;have h1:s.data.size=64:=hz
  constructor
  ·rw[<-hnb];show Value.string _=Value.string _
   congr 1
   apply ByteArray.ext;apply Array.ext';rw[ByteArray.data_extract,Array.toList_extract];simp[List.extract]
  ·rw[<-hnb,ByteArray.size_extract];omega)
 have hzi:(s.size:Int)=64:=by have:=HSZ.o;omega
 have hnbi:s.extract 6 (6+b5)=nb:=hnb;have hb:=HD3.o.s;obtain⟨c0,c1,c2,c3,c4⟩:=xU2 hb;have y4:=xC hb 4;clear hb hnb;go_upto_region 6 with fail
 have HD4:=ι (show DcM w g ⟨true,b1,b2,sz,(s.data.toList.drop 6).take b5⟩ (w3.setCell ⟨g,4,none⟩ (.string nb)) from⟨yA HD3.o.o (p:=⟨g,4,none⟩) (by have:=HD3.o.lt;show w.heap.size≠g;omega) _,by
  have:=xY HD3.o.s 4 (.string nb);rw[this];show some (Obj.cells _ _ _)=some (wO _);simp only[wO,HNB.o.1]
  rfl,HD3.o.bel.setCell (p:=⟨g,4,none⟩) (Nat.le_of_lt HD3.o.lt) _,HD3.o.lt⟩)
 have HEN:=ι (λW=>xIa ⟨true,b1,b2,sz,(s.data.toList.drop 6).take b5⟩ W (by show b1<=255;omega) (by show b2<=255;omega) (HSB.o) (by show((s.data.toList.drop 6).take b5).length<=255;rw[List.length_take];omega));rw[<-HSL.o] at HEN
 rw[show xGz (qB s.data.toList)=.agg #[.bool true,.int .i64 b1,.int .i64 b2,.int .i64 sz,.string nb] from by rw[HSL.o];simp only[xGz,HNB.o.1]] at HEN;clear HD3 c0 c1 c2 c3 c4 y4;generalize w3.setCell ⟨g,4,none⟩ (.string nb)=w4 at HD4⊢;rw[<-HSL.o] at HD4;have hb:=HD4.o.s
 rw[HSL.o] at hb;simp only[wO,HNB.o.1] at hb;obtain⟨c0,c1,c2,c3,c4⟩:=xU2 hb;clear hb
 have HSF:Hid (wO (qB s.data.toList)=.cells #[.bool true,.int .i64 b1,.int .i64 b2,.int .i64 sz,.string nb] 137/\xGz (qB s.data.toList)=.agg #[.bool true,.int .i64 b1,.int .i64 b2,.int .i64 sz,.string nb]):=ι (by rw[HSL.o];simp only[wO,xGz,HNB.o.1,and_self]);clear HSL HNB
 generalize qB s.data.toList=so at HEN HD4 HTR HSF;obtain⟨ev,hev⟩:∃ev,xQh so=ev:=⟨_,rfl⟩;rw[hev] at HEN HTR;clear hev;go_wp2_with fail
 refine(HEN.o _).mono ?_;rintro e w5 ⟨rfl,hb5⟩;clear c0 c1 c2 c3 c4
 have HD5:=ι (show Below w.heap.size w w5/\w5.heap[w.heap.size]?=some (wO noSlot)/\w5.heap[g]?=some (.cells #[.bool true,.int .i64 b1,.int .i64 b2,.int .i64 sz,.string nb] 137 (0,0)) from⟨HD4.o.bel.trans (hb5.mono HD4.o.bel.size),xB HD4.o.o hb5 (xG HD4.o.o),by rw[<-HSF.o.1];exact xB HD4.o.s hb5 (xG HD4.o.s)⟩)
 clear hb5 HD4 HEN
 by_cases he:s.data.toList=ev
 ·have HDV:Hid (dv=so):=ι (by rw[HTR.o,if_pos he]);have e1:(!s.toList==ev)=false:=by rw[ByteArray.toList_eq,he];simp
  clear HTR he hnbi;go_upto_region 8 with fail
  have hb:=HD5.o.2.2;obtain⟨c0,c1,c2,c3,c4⟩:=xU2 hb;clear hb;obtain⟨o0,y0,f0,o1,y1,f1,o2,y2,f2,o3,y3,f3,o4,y4,f4,HB⟩:=yBk HD5.o.2.1 HD5.o.1 ω (.bool true) (.int .i64 b1) (.int .i64 b2) (.int .i64 sz) (.string nb) _ rfl;clear HD5 e1;go_wp2
  refine bodyPost_ret (v:=.agg #[.bool true,.int .i64 b1,.int .i64 b2,.int .i64 sz,.string nb]) (by simp[results,Tryz.results155,go_sem,f0,f1,f2,f3,f4]) rfl ?_;exact⟨by rw[HDV.o,HSF.o.2],HB.o⟩
 ·have HDV:Hid (dv=noSlot):=ι (by rw[HTR.o,if_neg he]);have e1:(!s.toList==ev)=true:=by rw[ByteArray.toList_eq];simpa using he
  clear HTR he hnbi;obtain⟨o0,y0,f0,o1,y1,f1,o2,y2,f2,o3,y3,f3,o4,y4,f4,HB⟩:=yBk HD5.o.2.1 HD5.o.1 ω (.bool false) (.int .i64 0) (.int .i64 0) (.int .i64 0) (.string ⟨#[]⟩) _ rfl;clear HD5;go_wp2
  refine bodyPost_ret (v:=xGz noSlot) (by simp[results,Tryz.results155,go_sem,f0,f1,f2,f3,f4,noSlot]) rfl ?_;exact⟨by rw[HDV.o],HB.o⟩
end Go.Proofs.ST
namespace Mailsack
def unN (s:ByteArray):Nat:=(s.data.toList.getD 0 0).toNat+256*(s.data.toList.getD 1 0).toNat
def zB (r:ByteArray):Nat->Bool
 |0=>true
 |k+1=>zB r k&&yO r k==0
def unR (s:ByteArray):ByteArray:=s.extract (2+unN s) s.size
def xYv (s:ByteArray):Bool:=decide (2<=s.size)&&(xK1 (unN s)==(s.size:Int))&&zB (unR s) (unR s).size
def unE (s:ByteArray):Int:=if xYv s=true then 0 else 3
def unT (s:ByteArray):ByteArray:=if xYv s=true then s.extract 2 (2+unN s) else⟨#[]⟩
theorem xZ8 (r:ByteArray) (k:Nat) (h:zB r k=false):∀n,k<=n->zB r n=false:=by
 intro n hn
 induction n with
 |zero=>rw[show k=0 by omega] at h;exact h
 |succ n ih=>
  by_cases e:k=n+1
  ·rw[<-e];exact h
  ·rw[zB,ih ω,Bool.false_and]
theorem yF7 {n c:Nat} (h:xK1 (n:Int)=(c:Int)) (hc:2<=c):2+n<=c/\n<=700:=by
 have h2:n<=700:=by
  apply Nat.le_of_not_lt;intro hh;unfold xK1 at h;rw[if_pos ω] at h;omega
 obtain⟨c',e,h1,_⟩:=yF6 h2;rw[h] at e;omega
end Mailsack
namespace Go.Proofs.SE
open Go.RowKit Mailsack MM BB SH SV
theorem xY4 (s:ByteArray) (w:World) (hs:s.size<=1000000):Calls Tryz.prog 268 #[.string s] w λe w'=>e=.returned (.string s)/\Below w.heap.size w w':=by
 go_enter Tryz.func268,Tryz.ntmps268;go_wp2_with fail
 refine(Tryz.stringslite_Clone s _ ω).mono ?_;rintro e w1 ⟨rfl,hb⟩;go_wp2;go_ret;exact⟨rfl,hb⟩
theorem xUt (s:ByteArray) (w:World) (hs:s.size<=1000000) (hC:ClsT w):
  Calls Tryz.prog 183 #[.string s] w λe w'=>e=.returned (.tuple #[.string (unT s),.int .i64 (unE s)])/\Below w.heap.size w w':=by
 by_cases h2:s.size<2
 ·have HR:Hid (xYv s=false):=ι (by unfold xYv;rw[decide_eq_false ω];rfl);rw[show unT s=⟨#[]⟩ by unfold unT;rw[HR.o];rfl,show unE s=3 by unfold unE;rw[HR.o];rfl];have hi:(s.size:Int)<2:=by omega
  clear h2 hs hC;go_enter Tryz.func183,Tryz.ntmps183;go_wp2;go_ret2;exact⟨rfl,Below.refl _ _⟩
 ·have hi:¬(s.size:Int)<2:=by omega
  have hj:¬(s.size<2):=h2;have i0:=λw=>zH (P:=Tryz.prog) Tryz.underlying9 s 0 0 rfl ω w;have i1:=λw=>zH (P:=Tryz.prog) Tryz.underlying9 s 1 1 rfl ω w;have hN:(unN s:Int)=yO s 0+yO s 1*256:=by unfold unN yO;omega
  have hor:Go.bits .or .i64 (yO s 0) (yO s 1*256)=(unN s:Int):=by
   unfold unN yO;rw[yCb _ _ (UInt8.toNat_lt _) (UInt8.toNat_lt _)];omega
  obtain⟨c00,c01⟩:=yQ s 0;obtain⟨c10,c11⟩:=yQ s 1;have HCL:=ι (λW (hb:Below w.heap.size w W)=>xY5 (unN s:Int) W (hC.below hb ν));have HOK:Hid (xYv s=((xK1 (unN s)==(s.size:Int))&&zB (unR s) (unR s).size)):=ι (by unfold xYv;rw[decide_eq_true ω,Bool.true_and])
  have HE:Hid (unE s=if xYv s=true then 0 else 3):=ι rfl;have HTT:Hid (unT s=if xYv s=true then s.extract 2 (2+unN s) else⟨#[]⟩):=ι rfl;have HCE:=ι (λh=>yF7 (n:=unN s) (c:=s.size) h ω);have HUR:Hid (unR s=s.extract (2+unN s) s.size):=ι rfl;generalize unE s=ue at HE⊢
  generalize unT s=ut at HTT⊢;generalize xYv s=ok at HOK HE HTT;generalize unR s=rr at HOK HUR;generalize unN s=n at hN hor HCL HOK HTT HCE HUR;generalize yO s 0=b0 at i0 hN hor c00 c01;generalize yO s 1=b1 at i1 hN hor c10 c11;clear h2 hC hN;go_enter Tryz.func183,Tryz.ntmps183
  go_upto_region 3 with fail
  refine RG.xP (λW=>Hid (Below w.heap.size w W)) κ κ (ι (Below.refl w.heap.size w).drew) ?_;iterate 9 refine RG.dS ?_
  refine RG.xS (λw1 hw1=>?_);clear i0 i1 hor c00 c01 c10 c11;go_wp2_with fail
  refine(HCL.o _ hw1.o).mono ?_;rintro e w2 ⟨rfl,hw2⟩;rw[hw2];clear hw2 w2 HCL;have B1:=ι hw1.o;clear hw1
  by_cases hc:xK1 (n:Int)=(s.size:Int)
  rotate_left
  ·have hc1:(xK1 (n:Int)==(s.size:Int))=false:=by simpa using hc
   have hc2:(xK1 (n:Int)!=(s.size:Int))=true:=by simpa using hc
   rw[hc1,Bool.false_and] at HOK;rw[HOK.o] at HE HTT;clear HOK HCE HUR;go_wp2;go_ret2;exact⟨by rw[HE.o,HTT.o];rfl,B1.o⟩
  ·have hc1:(xK1 (n:Int)==(s.size:Int))=true:=by simpa using hc
   have hc2:(xK1 (n:Int)!=(s.size:Int))=false:=by simpa using hc
   obtain⟨g1,g2⟩:=HCE.o hc;rw[hc1,Bool.true_and] at HOK;clear HCE hc;go_upto_region 6 with fail
   clear hc1 hc2 hi hj;refine RG.xP (λW=>Hid (Below w.heap.size w W)) κ κ (ι B1.o.drew) ?_;iterate 10 refine RG.dS ?_
   refine RG.xS (λw3 hw3=>?_);rw[<-HUR.o];have hts:(s.extract 2 (2+n)).size<=1000000:=by rw[ByteArray.size_extract];omega
   have hrs:rr.size<=1000000:=by rw[HUR.o,ByteArray.size_extract];omega
   generalize s.extract 2 (2+n)=tt at HTT hts⊢;have HW:=ι hw3.o;clear hw3 B1 HUR g1 g2;have HLT:=ι (xZ8 rr);have HSS:Hid (∀k,zB rr (k+1)=(zB rr k&&yO rr k==0)):=ι (λk=>rfl);have HS0:Hid (zB rr 0=true):=ι rfl;have HCN:=ι (λW=>xY4 tt W hts);clear hts;go_wp2_with fail
   go_loopw [34] (λiv W=>∃k:Nat,k<=rr.size/\iv=.int .i64 k/\Hid (zB rr k=true)/\Hid (Below w.heap.size w W)) (λiv _=>rr.size- (intOf iv).toNat)
   case atStart=>exact⟨0,Nat.zero_le _,rfl,HS0,HW⟩
   case round=>
    obtain⟨k,hk,rfl,hu,hbw⟩:=hrel
    by_cases hlt:k<rr.size
    ·have i1:=λw=>zH (P:=Tryz.prog) Tryz.underlying9 rr (k:Int) k rfl hlt w;have HSk:=ι (HSS.o k);generalize yO rr k=c at i1 HSk
     by_cases hcz:c=0
     ·have hc0:(c==0)=true:=by simpa using hcz
      have hc1:(c !=0)=false:=by simp[hcz]
      have HN:Hid (zB rr (k+1)=true):=ι (by rw[HSk.o,hu.o,hc0];rfl);subst hcz;clear HSk hu;go_wp2;exact⟨⟨k+1,ω,by go_num,HN,hbw⟩,by simp[intOf];omega⟩
     ·have hc0:(c==0)=false:=by simpa using hcz
      have hc1:(c !=0)=true:=by simp[hcz]
      have HN:Hid (ok=false):=ι (by rw[HOK.o];exact HLT.o (k+1) (by rw[HSk.o,hc0,Bool.and_false]) rr.size ω);clear HSk hu HOK HLT;go_wp2;go_ret2;exact⟨by rw[HE.o,HTT.o,HN.o];rfl,hbw.o⟩
    ·have he:k=rr.size:=by omega
     subst he;have HN:Hid (ok=true):=ι (by rw[HOK.o];exact hu.o);clear hu HOK HLT HSS HS0;go_wp2_with fail
     refine(HCN.o _).mono ?_;rintro e w5 ⟨rfl,hb5⟩;have B5:=ι (hbw.o.trans (hb5.mono hbw.o.size));clear hb5 hbw;go_wp2;go_ret2;exact⟨by rw[HE.o,HTT.o,HN.o];rfl,B5.o⟩
end Go.Proofs.SE