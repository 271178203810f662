/- Contracts of functions. Conditions: as stated. -/
import Derived.Test.YtacahegificeoaaGreatDoorImapLoginsProofB29
set_option maxHeartbeats 8000000
set_option maxRecDepth 100000
namespace Go.Proofs.SH
open Go.RowKit Mailsack MM BB SV FE
abbrev yC4 (r:ByteArray):Obj:=.cells #[.string r] 9
structure TkA (w:World) (r:ByteArray) (W:World):Prop where
 o:W.heap[w.heap.size]?=some (zX vL)
 r:W.heap[w.heap.size+1]?=some (yC4 r)
 bel:Below w.heap.size w W
theorem TkA.next {w W:World} {r:ByteArray} (h:TkA w r W) (r':ByteArray):TkA w r' (W.setCell ⟨w.heap.size+1,0,none⟩ (.string r')):=
 ⟨yA h.o (p:=⟨w.heap.size+1,0,none⟩) (by show w.heap.size≠w.heap.size+1;omega) _,by have:=xY h.r 0 (.string r');simpa using this,h.bel.setCell (p:=⟨w.heap.size+1,0,none⟩) σ _⟩
structure TkB (w:World) (g:Nat) (r:ByteArray) (a:tJ) (W:World):Prop where
 o:W.heap[w.heap.size]?=some (zX vL)
 r:W.heap[w.heap.size+1]?=some (yC4 r)
 a:W.heap[g]?=some (zX a)
 bel:Below w.heap.size w W
 lt:w.heap.size+1<g
theorem TkB.next {w W:World} {g:Nat} {r:ByteArray} {a:tJ} (h:TkB w g r a W) (r':ByteArray):TkB w g r' a (W.setCell ⟨w.heap.size+1,0,none⟩ (.string r')):=
 ⟨yA h.o (p:=⟨w.heap.size+1,0,none⟩) (by show w.heap.size≠w.heap.size+1;omega) _,by have:=xY h.r 0 (.string r');simpa using this,yA h.a (p:=⟨w.heap.size+1,0,none⟩) (by show g≠w.heap.size+1;have:=h.lt;omega) _,h.bel.setCell (p:=⟨w.heap.size+1,0,none⟩) σ _,h.lt⟩
theorem TkB.put {w W:World} {g:Nat} {r:ByteArray} {a:tJ} (h:TkB w g r a W) (i:Nat) (v:Value) (a':tJ) (e:(#[Value.string a.user,.string a.yN,.int .i64 a.rounds,.int .i64 a.xAb,.string a.pub,.string a.xE,.string a.wrapped,.string a.old]:Array Value).setIfInBounds i v=#[.string a'.user,.string a'.yN,.int .i64 a'.rounds,.int .i64 a'.xAb,.string a'.pub,.string a'.xE,.string a'.wrapped,.string a'.old]):TkB w g r a' (W.setCell ⟨g,i,none⟩ v):=
 ⟨yA h.o (p:=⟨g,i,none⟩) (by show w.heap.size≠g;have:=h.lt;omega) _,yA h.r (p:=⟨g,i,none⟩) (by show w.heap.size+1≠g;have:=h.lt;omega) _,by have:=xY h.a i v;rw[e] at this;exact this,h.bel.setCell (p:=⟨g,i,none⟩) (by show w.heap.size<=g;have:=h.lt;omega) _,h.lt⟩
theorem xVk (s:ByteArray) (w:World) (hs:s.size<=1000000):
  Calls Tryz.prog 30 #[.string s] w λe w'=>e=.returned (.tuple #[xHj (if xBr s=true then xBm s else vL),.int .i64 (if xBr s=true then 0 else 3)])/\Below w.heap.size w w':=by
 have HO:Hid ((w.alloc (zX vL)).heap[w.heap.size]?=some (zX vL)/\Below w.heap.size w (w.alloc (zX vL))):=ι ⟨xL _ _,(Below.refl w.heap.size w).alloc ν _⟩;have HF:Hid (xBr s=(!decide (s.size=0)&&!decide (s.size<xN6 s+111)&&uP (xBm s))):=ι rfl
 by_cases h0:s.size=0
 ·have e0:xBr s=false:=by rw[HF.o,decide_eq_true h0];rfl
  rw[e0,if_neg σ,if_neg σ];have i6:(s.toList==[])=true:=by rw[ByteArray.toList_eq];simp;exact Array.eq_empty_of_size_eq_zero h0
  clear HF e0 h0 hs;go_enter Tryz.func30,Tryz.ntmps30;go_upto_region 2 with fail
  obtain⟨w1,hw1⟩:∃w1,w.alloc (zX vL)=w1:=⟨_,rfl⟩;rw[hw1] at HO;simp only[zX,vL] at hw1;rw[hw1]
  obtain⟨o0,y0,f0,o1,y1,f1,o2,y2,f2,o3,y3,f3,o4,y4,f4,o5,y5,f5,o6,y6,f6,o7,y7,f7,HB⟩:=yCk HO.o.1 HO.o.2 ω (.string ⟨#[]⟩) (.string ⟨#[]⟩) (.int .i64 0) (.int .i64 0) (.string ⟨#[]⟩) (.string ⟨#[]⟩) (.string ⟨#[]⟩) (.string ⟨#[]⟩) _ rfl;clear HO hw1;go_wp2
  refine bodyPost_ret (v:=.tuple #[.agg #[.string ⟨#[]⟩,.string ⟨#[]⟩,.int .i64 0,.int .i64 0,.string ⟨#[]⟩,.string ⟨#[]⟩,.string ⟨#[]⟩,.string ⟨#[]⟩],.int .i64 3]) (by simp[results,Tryz.results30,go_sem,f0,f1,f2,f3,f4,f5,f6,f7]) rfl ?_;exact⟨rfl,HB.o⟩
 ·have i6:(s.toList==[])=false:=by
   rw[ByteArray.toList_eq];cases hx:(s.data.toList==[]) with
   |false=>rfl
   |true=>
    simp only[beq_iff_eq] at hx;exact absurd (show s.data.size=0 by rw[<-Array.length_toList,hx];rfl) h0
  have ix:=λw=>zH (P:=Tryz.prog) Tryz.underlying9 s (0:Int) 0 rfl ω w;obtain⟨b0,b1⟩:=yQ s 0;obtain⟨u,hu⟩:∃u:Nat,yO s 0=(u:Int):=⟨(yO s 0).toNat,ω⟩;have hun:xN6 s=u:=by unfold xN6;rw[hu];rfl
  rw[hu] at ix b0 b1;have hsz:=wV s 1;have hr0:s.extract 1 s.size=yH s 1:=rfl
  have HT:Hid (xBm s=⟨uY (yH s 1) u,uY (yH (yH s 1) u) 16,yO (uY (yH (yH (yH s 1) u) 16) 1) 0,yO (uY (yH (yH (yH (yH s 1) u) 16) 1) 1) 0,uY (yH (yH (yH (yH (yH s 1) u) 16) 1) 1) 32,
   uY (yH (yH (yH (yH (yH (yH s 1) u) 16) 1) 1) 32) 12,uY (yH (yH (yH (yH (yH (yH (yH s 1) u) 16) 1) 1) 32) 12) 48,yH (yH (yH (yH (yH (yH (yH (yH s 1) u) 16) 1) 1) 32) 12) 48⟩):=ι (by
    unfold xBm yFc;rw[hun])
  have h1s:¬((s.size:Int)<1):=by omega
  have h1t:(1:Int)<=(s.size:Int):=by omega
  generalize yH s 1=r0 at hsz hr0 HT;have HSZ:=ι hsz;have hu0:¬((u:Int)<0):=by omega
  have huu:u<256:=by omega
  have hrz:(r0.size:Int)=(s.size:Int)-1:=by omega
  clear hu hsz
  by_cases hsh:s.size<u+111
  ·have e0:xBr s=false:=by rw[HF.o,hun,decide_eq_true hsh,Bool.not_true,Bool.and_false,Bool.false_and]
   rw[e0,if_neg σ,if_neg σ];have hshi:(r0.size:Int)<(u:Int)+16+2+32+12+48:=by omega
   clear HF e0 HT hun b0 b1 hsh hrz;go_enter Tryz.func30,Tryz.ntmps30;go_upto_region 6 with fail
   have HO2:=ι (show TkA w r0 ((w.alloc (zX vL)).alloc (yC4 r0)) from⟨xK HO.o.1 _,yX _ _ _,HO.o.2.alloc HO.o.2.size _⟩);obtain⟨w1,hw1⟩:∃w1,(w.alloc (zX vL)).alloc (yC4 r0)=w1:=⟨_,rfl⟩;rw[hw1] at HO2;simp only[zX,vL,yC4] at hw1;rw[hw1];clear hw1 HO
   obtain⟨o0,y0,f0,o1,y1,f1,o2,y2,f2,o3,y3,f3,o4,y4,f4,o5,y5,f5,o6,y6,f6,o7,y7,f7,HB⟩:=yCk HO2.o.o HO2.o.bel ω (.string ⟨#[]⟩) (.string ⟨#[]⟩) (.int .i64 0) (.int .i64 0) (.string ⟨#[]⟩) (.string ⟨#[]⟩) (.string ⟨#[]⟩) (.string ⟨#[]⟩) _ rfl;clear HO2;go_wp2
   refine bodyPost_ret (v:=.tuple #[.agg #[.string ⟨#[]⟩,.string ⟨#[]⟩,.int .i64 0,.int .i64 0,.string ⟨#[]⟩,.string ⟨#[]⟩,.string ⟨#[]⟩,.string ⟨#[]⟩],.int .i64 3]) (by simp[results,Tryz.results30,go_sem,f0,f1,f2,f3,f4,f5,f6,f7]) rfl ?_;exact⟨rfl,HB.o⟩
  ·have hshi:¬((r0.size:Int)<(u:Int)+16+2+32+12+48):=by omega
   have hrn:u+110<=r0.size:=by have:=HSZ.o;omega
   clear hrz;obtain⟨rv,hrv⟩:∃rv,(if xBr s=true then xBm s else vL)=rv:=⟨_,rfl⟩;obtain⟨re,hre⟩:∃re:Int,(if xBr s=true then(0:Int) else 3)=re:=⟨_,rfl⟩;rw[hrv,hre];have HV:=ι (And.intro hrv hre);clear hrv hre;go_enter Tryz.func30,Tryz.ntmps30;go_upto_region 8 with fail
   have HA0:=ι (show TkA w r0 ((w.alloc (zX vL)).alloc (yC4 r0)) from⟨xK HO.o.1 _,yX _ _ _,HO.o.2.alloc HO.o.2.size _⟩);obtain⟨w1,hw1⟩:∃w1,(w.alloc (zX vL)).alloc (yC4 r0)=w1:=⟨_,rfl⟩;rw[hw1] at HA0;simp only[zX,vL,yC4] at hw1;rw[hw1];clear hw1 HO
   have HZ:Hid (u+110<=r0.size/\r0.size<=1000000):=ι ⟨hrn,by have:=HSZ.o;omega⟩;have HSH:=ι hsh;clear hrn hshi h1s h1t i6 ix hr0 hsh HSZ;obtain⟨p0,hp0⟩:∃p,uY r0 u=p:=⟨_,rfl⟩;obtain⟨r1,hr1⟩:∃r,yH r0 u=r:=⟨_,rfl⟩
   have HN:=ι (xA6 (w.heap.size+1) u r0 _ HA0.o.r (by have:=HZ.o;omega));have HP0:Hid (p0.size=u):=ι (by rw[<-hp0];exact jR _ _ (by have:=HZ.o;omega));have HZ2:Hid (110<=r1.size/\r1.size<=1000000):=ι (by have:=HZ.o;rw[<-hr1,wV];omega);rw[hp0,hr1] at HN;simp only[hp0,hr1] at HT
   clear hp0 hr1 HZ;have HZ:=HZ2;clear HZ2;go_wp2_with fail
   refine HN.o.mono ?_;rintro e wn ⟨rfl,hwn⟩;have HA1:Hid (TkA w r1 wn):=ι (by rw[hwn];exact HA0.o.next r1);clear hwn HA0 HN;obtain⟨p1,hp1⟩:∃p,uY r1 16=p:=⟨_,rfl⟩;obtain⟨r2,hr2⟩:∃r,yH r1 16=r:=⟨_,rfl⟩;have HN:=ι (xA6 (w.heap.size+1) 16 r1 _ HA1.o.r (by have:=HZ.o;omega))
   have HP1:Hid (p1.size=16):=ι (by rw[<-hp1];exact jR _ _ (by have:=HZ.o;omega));have HZ2:Hid (94<=r2.size/\r2.size<=1000000):=ι (by have:=HZ.o;rw[<-hr2,wV];omega);rw[hp1,hr2] at HN;simp only[hp1,hr2] at HT;clear hp1 hr2 HZ;have HZ:=HZ2;clear HZ2;go_wp2_with fail
   refine HN.o.mono ?_;rintro e wm ⟨rfl,hwn⟩;have HA2:Hid (TkA w r2 wm):=ι (by rw[hwn];exact HA1.o.next r2);clear hwn HA1 HN
   have HB0:=ι (show TkB w wm.heap.size r2 ⟨p0,p1,0,0,⟨#[]⟩,⟨#[]⟩,⟨#[]⟩,⟨#[]⟩⟩ (wm.alloc (zX ⟨p0,p1,0,0,⟨#[]⟩,⟨#[]⟩,⟨#[]⟩,⟨#[]⟩⟩)) from⟨xK HA2.o.o _,xK HA2.o.r _,xL _ _,HA2.o.bel.alloc HA2.o.bel.size _,xG HA2.o.r⟩);go_upto_region 9 with fail
   obtain⟨w3,hw3⟩:∃w3,wm.alloc (zX ⟨p0,p1,0,0,⟨#[]⟩,⟨#[]⟩,⟨#[]⟩,⟨#[]⟩⟩)=w3:=⟨_,rfl⟩;rw[hw3] at HB0;simp only[zX] at hw3;rw[hw3];clear hw3;obtain⟨g,hg⟩:∃g,wm.heap.size=g:=⟨_,rfl⟩;rw[hg] at HB0⊢;clear hg HA2;obtain⟨p2,hp2⟩:∃p,uY r2 1=p:=⟨_,rfl⟩
   obtain⟨r3,hr3⟩:∃r,yH r2 1=r:=⟨_,rfl⟩;have HN:=ι (xA6 (w.heap.size+1) 1 r2 _ HB0.o.r (by have:=HZ.o;omega));have HP2:Hid (p2.size=1):=ι (by rw[<-hp2];exact jR _ _ (by have:=HZ.o;omega));have HZ2:Hid (93<=r3.size/\r3.size<=1000000):=ι (by have:=HZ.o;rw[<-hr3,wV];omega)
   rw[hp2,hr3] at HN;simp only[hp2,hr3] at HT;clear hp2 hr3 HZ;have HZ:=HZ2;clear HZ2;go_wp2_with fail
   refine HN.o.mono ?_;rintro e wn ⟨rfl,hwn⟩;have HC:Hid (TkB w g r3 ⟨p0,p1,0,0,⟨#[]⟩,⟨#[]⟩,⟨#[]⟩,⟨#[]⟩⟩ wn):=ι (by rw[hwn];exact HB0.o.next r3);clear hwn HB0 HN;have c2:=xA HC.o.a 2;have f2:=xC HC.o.a 2;simp only[gA,gB,gC] at c2
   have ix:=λw=>zH (P:=Tryz.prog) Tryz.underlying9 p2 (0:Int) 0 rfl (by have:=HP2.o;omega) w;have hpi:(p2.size:Int)=1:=by have:=HP2.o;omega
   obtain⟨q0,q1⟩:=yQ p2 0;generalize yO p2 0=e2 at ix q0 q1 HT;go_upto_region 10 with fail
   have HB1:=ι (HC.o.put 2 (.int .i64 e2) ⟨p0,p1,e2,0,⟨#[]⟩,⟨#[]⟩,⟨#[]⟩,⟨#[]⟩⟩ rfl);clear c2 f2 HC ix q0 q1 hpi;generalize wn.setCell ⟨g,2,none⟩ (.int .i64 e2)=wk0 at HB1⊢;obtain⟨p3,hp3⟩:∃p,uY r3 1=p:=⟨_,rfl⟩;obtain⟨r4,hr4⟩:∃r,yH r3 1=r:=⟨_,rfl⟩
   have HN:=ι (xA6 (w.heap.size+1) 1 r3 _ HB1.o.r (by have:=HZ.o;omega));have HP3:Hid (p3.size=1):=ι (by rw[<-hp3];exact jR _ _ (by have:=HZ.o;omega));have HZ2:Hid (92<=r4.size/\r4.size<=1000000):=ι (by have:=HZ.o;rw[<-hr4,wV];omega);rw[hp3,hr4] at HN;simp only[hp3,hr4] at HT
   clear hp3 hr4 HZ;have HZ:=HZ2;clear HZ2;go_wp2_with fail
   refine HN.o.mono ?_;rintro e wn ⟨rfl,hwn⟩;have HC:Hid (TkB w g r4 ⟨p0,p1,e2,0,⟨#[]⟩,⟨#[]⟩,⟨#[]⟩,⟨#[]⟩⟩ wn):=ι (by rw[hwn];exact HB1.o.next r4);clear hwn HB1 HN;have c3:=xA HC.o.a 3;have f3:=xC HC.o.a 3;simp only[gA,gB,gC] at c3
   have ix:=λw=>zH (P:=Tryz.prog) Tryz.underlying9 p3 (0:Int) 0 rfl (by have:=HP3.o;omega) w;have hpi:(p3.size:Int)=1:=by have:=HP3.o;omega
   obtain⟨q0,q1⟩:=yQ p3 0;generalize yO p3 0=e3 at ix q0 q1 HT;go_upto_region 11 with fail
   have HB2:=ι (HC.o.put 3 (.int .i64 e3) ⟨p0,p1,e2,e3,⟨#[]⟩,⟨#[]⟩,⟨#[]⟩,⟨#[]⟩⟩ rfl);clear c3 f3 HC ix q0 q1 hpi;generalize wn.setCell ⟨g,3,none⟩ (.int .i64 e3)=wk1 at HB2⊢;obtain⟨p4,hp4⟩:∃p,uY r4 32=p:=⟨_,rfl⟩;obtain⟨r5,hr5⟩:∃r,yH r4 32=r:=⟨_,rfl⟩
   have HN:=ι (xA6 (w.heap.size+1) 32 r4 _ HB2.o.r (by have:=HZ.o;omega));have HP4:Hid (p4.size=32):=ι (by rw[<-hp4];exact jR _ _ (by have:=HZ.o;omega));have HZ2:Hid (60<=r5.size/\r5.size<=1000000):=ι (by have:=HZ.o;rw[<-hr5,wV];omega);rw[hp4,hr5] at HN;simp only[hp4,hr5] at HT
   clear hp4 hr5 HZ;have HZ:=HZ2;clear HZ2;go_wp2_with fail
   refine HN.o.mono ?_;rintro e wn ⟨rfl,hwn⟩;have HC:Hid (TkB w g r5 ⟨p0,p1,e2,e3,⟨#[]⟩,⟨#[]⟩,⟨#[]⟩,⟨#[]⟩⟩ wn):=ι (by rw[hwn];exact HB2.o.next r5);clear hwn HB2 HN;have c4:=xA HC.o.a 4;have f4:=xC HC.o.a 4;simp only[gA,gB,gC] at c4;go_upto_region 12 with fail
   have HB3:=ι (HC.o.put 4 (.string p4) ⟨p0,p1,e2,e3,p4,⟨#[]⟩,⟨#[]⟩,⟨#[]⟩⟩ rfl);clear c4 f4 HC;generalize wn.setCell ⟨g,4,none⟩ (.string p4)=wk2 at HB3⊢;obtain⟨p5,hp5⟩:∃p,uY r5 12=p:=⟨_,rfl⟩;obtain⟨r6,hr6⟩:∃r,yH r5 12=r:=⟨_,rfl⟩
   have HN:=ι (xA6 (w.heap.size+1) 12 r5 _ HB3.o.r (by have:=HZ.o;omega));have HP5:Hid (p5.size=12):=ι (by rw[<-hp5];exact jR _ _ (by have:=HZ.o;omega));have HZ2:Hid (48<=r6.size/\r6.size<=1000000):=ι (by have:=HZ.o;rw[<-hr6,wV];omega);rw[hp5,hr6] at HN;simp only[hp5,hr6] at HT
   clear hp5 hr6 HZ;have HZ:=HZ2;clear HZ2;go_wp2_with fail
   refine HN.o.mono ?_;rintro e wn ⟨rfl,hwn⟩;have HC:Hid (TkB w g r6 ⟨p0,p1,e2,e3,p4,⟨#[]⟩,⟨#[]⟩,⟨#[]⟩⟩ wn):=ι (by rw[hwn];exact HB3.o.next r6);clear hwn HB3 HN;have c5:=xA HC.o.a 5;have f5:=xC HC.o.a 5;simp only[gA,gB,gC] at c5;go_upto_region 13 with fail
   have HB4:=ι (HC.o.put 5 (.string p5) ⟨p0,p1,e2,e3,p4,p5,⟨#[]⟩,⟨#[]⟩⟩ rfl);clear c5 f5 HC;generalize wn.setCell ⟨g,5,none⟩ (.string p5)=wk3 at HB4⊢;obtain⟨p6,hp6⟩:∃p,uY r6 48=p:=⟨_,rfl⟩;obtain⟨r7,hr7⟩:∃r,yH r6 48=r:=⟨_,rfl⟩
   have HN:=ι (xA6 (w.heap.size+1) 48 r6 _ HB4.o.r (by have:=HZ.o;omega));have HP6:Hid (p6.size=48):=ι (by rw[<-hp6];exact jR _ _ (by have:=HZ.o;omega));have HZ2:Hid (0<=r7.size/\r7.size<=1000000):=ι (by have:=HZ.o;rw[<-hr7,wV];omega);rw[hp6,hr7] at HN;simp only[hp6,hr7] at HT
   clear hp6 hr7 HZ;have HZ:=HZ2;clear HZ2;go_wp2_with fail
   refine HN.o.mono ?_;rintro e wn ⟨rfl,hwn⟩;have HC:Hid (TkB w g r7 ⟨p0,p1,e2,e3,p4,p5,⟨#[]⟩,⟨#[]⟩⟩ wn):=ι (by rw[hwn];exact HB4.o.next r7);clear hwn HB4 HN;have c6:=xA HC.o.a 6;have f6:=xC HC.o.a 6;simp only[gA,gB,gC] at c6;go_upto_region 14 with fail
   have HB5:=ι (HC.o.put 6 (.string p6) ⟨p0,p1,e2,e3,p4,p5,p6,⟨#[]⟩⟩ rfl);clear c6 f6 HC;generalize wn.setCell ⟨g,6,none⟩ (.string p6)=wk4 at HB5⊢;have c7:=xA HB5.o.a 7;have f7:=xC HB5.o.a 7;have cr:=xA HB5.o.r 0;simp only[gA,gB,gC] at c7 cr;go_upto_region 15 with fail
   have HB6:=ι (HB5.o.put 7 (.string r7) ⟨p0,p1,e2,e3,p4,p5,p6,r7⟩ rfl);clear c7 f7 cr HB5;generalize wk4.setCell ⟨g,7,none⟩ (.string r7)=w9 at HB6⊢;have HR:=ι (λW=>xHs ⟨p0,p1,e2,e3,p4,p5,p6,r7⟩ W (by have:=HP0.o;simp only;omega));rw[<-HT.o] at HR
   obtain⟨c0,c1,c2,c3,c4,c5,c6,c7⟩:=yBn HB6.o.a;rw[hun,decide_eq_false h0,decide_eq_false HSH.o,Bool.not_false,Bool.true_and,Bool.true_and] at HF;rw[HF.o] at HV;clear HF hun h0 HSH;cases hra:uP (xBm s) with
   |false=>
    rw[hra] at HR;rw[hra,if_neg σ,if_neg σ] at HV;simp only[HT.o,xHj] at HR;clear hra HT;go_wp2_with fail
    refine(HR.o _).mono ?_;rintro e wz ⟨rfl,hbz⟩;have hoz:=xB HB6.o.o hbz (xG HB6.o.o);have hbb:=HB6.o.bel.trans (hbz.mono HB6.o.bel.size)
    obtain⟨o0,y0,f0,o1,y1,f1,o2,y2,f2,o3,y3,f3,o4,y4,f4,o5,y5,f5,o6,y6,f6,o7,y7,f7,HB⟩:=yCk hoz hbb ω (.string ⟨#[]⟩) (.string ⟨#[]⟩) (.int .i64 0) (.int .i64 0) (.string ⟨#[]⟩) (.string ⟨#[]⟩) (.string ⟨#[]⟩) (.string ⟨#[]⟩) _ rfl
    clear hoz hbb hbz HB6 HR c0 c1 c2 c3 c4 c5 c6 c7;go_wp2
    refine bodyPost_ret (v:=.tuple #[.agg #[.string ⟨#[]⟩,.string ⟨#[]⟩,.int .i64 0,.int .i64 0,.string ⟨#[]⟩,.string ⟨#[]⟩,.string ⟨#[]⟩,.string ⟨#[]⟩],.int .i64 3]) (by simp[results,Tryz.results30,go_sem,f0,f1,f2,f3,f4,f5,f6,f7]) rfl ?_
    exact⟨by rw[<-HV.o.1,<-HV.o.2];rfl,HB.o⟩
   |true=>
    rw[hra] at HR;rw[hra,if_pos rfl,if_pos rfl,HT.o] at HV;simp only[HT.o,xHj] at HR;clear hra HT;go_wp2_with fail
    clear c0 c1 c2 c3 c4 c5 c6 c7;refine(HR.o _).mono ?_;rintro e wz ⟨rfl,hbz⟩;have hoz:=xB HB6.o.o hbz (xG HB6.o.o);have haz:=xB HB6.o.a hbz (xG HB6.o.a);have hbb:=HB6.o.bel.trans (hbz.mono HB6.o.bel.size);obtain⟨c0,c1,c2,c3,c4,c5,c6,c7⟩:=yBn haz
    obtain⟨o0,y0,f0,o1,y1,f1,o2,y2,f2,o3,y3,f3,o4,y4,f4,o5,y5,f5,o6,y6,f6,o7,y7,f7,HB⟩:=yCk hoz hbb ω (.string p0) (.string p1) (.int .i64 e2) (.int .i64 e3) (.string p4) (.string p5) (.string p6) (.string r7) _ rfl;clear hoz haz hbb hbz HB6 HR;go_wp2
    refine bodyPost_ret (v:=.tuple #[.agg #[.string p0,.string p1,.int .i64 e2,.int .i64 e3,.string p4,.string p5,.string p6,.string r7],.int .i64 0]) (by simp[results,Tryz.results30,go_sem,f0,f1,f2,f3,f4,f5,f6,f7]) rfl ?_;exact⟨by rw[<-HV.o.1,<-HV.o.2],HB.o⟩
end Go.Proofs.SH
namespace Mailsack
theorem xI2 (l:Bs) (c:UInt8):numOf (l++[c])=10*numOf l+(c.toNat-48):=by unfold numOf;rw[List.foldl_append];rfl
theorem xPr:∀(n:Nat) (l:Bs),l.length=n->(∀c∈l,xGa c=true)->numOf l<10^n
 |0,l,h,_=>by
  have:l=[]:=List.eq_nil_of_length_eq_zero h;subst this;simp[numOf]
 |n+1,l,h,hd=>by
  obtain⟨m,c,rfl⟩:∃m c,l=m++[c]:=⟨l.dropLast,l.getLast (by intro e;rw[e] at h;simp at h),(List.dropLast_concat_getLast _).symm⟩;have ih:=xPr n m (by simpa using h) λx hx=>hd x (List.mem_append_left _ hx);have hc:=hd c (List.mem_append_right _ (List.mem_singleton.2 rfl))
  unfold xGa at hc;simp at hc;rw[xI2,Nat.pow_succ];omega
end Mailsack
namespace Go.Proofs.VA
open Go.RowKit Mailsack MM BB SH SV RK DS Go.Proofs.ST
theorem pG (k u:ByteArray) (w:World) (hk:k.size<=100) (hu:u.size<=1000000):Calls Tryz.prog 29 #[.string k,.string u] w λe w'=>e=.returned (xO (xKd k.data.toList u.data.toList))/\w'=w:=by
 have HE:Hid (xO (xKd k.data.toList u.data.toList)=.string (k++⟨#[47]⟩++u)):=ι (by
  show Value.string _=Value.string _
  congr 1)
 have n1:¬(9223372036854775807<k.size+1):=by omega
 have n2:¬(9223372036854775807<(k++⟨#[47]⟩).size+u.size):=by rw[ByteArray.size_append];show ¬(_<k.size+1+u.size);omega
 clear hk hu;go_enter Tryz.func29,Tryz.ntmps29;go_wp2;go_ret;exact⟨by rw[HE.o];rfl,rfl⟩
def yCp (s:Bs) (w:World) (e:Ending) (w':World):Prop:=∃z,e=.returned (.tuple #[.int .i64 z,.bool (kT s)])/\(kT s=true->z=(numOf s:Int))/\w'=w
theorem xVu (s:Bs) (w:World) (hl:s.length<=1000000):Calls Tryz.prog 95 #[xO s] w (yCp s w):=by
 have HP:Hid (kT s=(decide (1<=s.length)&&decide (s.length<=10)&&(s.getD 0 0 !=48)&&s.all xGa&&decide (numOf s<=4294967295))):=ι rfl
 have HQ:Hid (∀z b,kT s=b->(b=true->z=(numOf s:Int))->yCp s w (.returned (.tuple #[.int .i64 z,.bool b])) w):=ι (λz b h1 h2=>⟨z,by rw[h1],λh=>h2 (by rw[<-h1];exact h),rfl⟩)
 by_cases h0:s=[]
 ·subst h0;have HF:Hid (kT []=false):=ι rfl;go_enter Tryz.func95,Tryz.ntmps95;go_wp2;go_ret2;exact HQ.o 0 false HF.o (λh=>(by cases h))
 ·have hl0:1<=s.length:=by
   rcases s with _|⟨x,s⟩
   ·exact absurd rfl h0
   ·simp
  have e0:(s==[])=false:=by simpa using h0
  by_cases h10:10<s.length
  ·have i10:10<(s.length:Int):=by omega
   have HF:Hid (kT s=false):=ι (by rw[HP.o];simp;omega);clear h10;go_enter Tryz.func95,Tryz.ntmps95;go_wp2;go_ret2;exact HQ.o 0 false HF.o (λh=>(by cases h))
  ·have i10:¬(10<(s.length:Int)):=by omega
   have ix0:=λw=>zH (P:=Tryz.prog) Tryz.underlying9 ⟨s.toArray⟩ (0:Int) 0 rfl (by show 0<s.toArray.size;simp;omega) w;rw[xQt] at ix0;rw[show(⟨s.toArray⟩:ByteArray).data.toList=s from rfl] at ix0;have HB0:Hid (bN s 0=(s.getD 0 0).toNat):=ι rfl;generalize bN s 0=b0 at ix0 HB0
   by_cases hz:b0=48
   ·have HF:Hid (kT s=false):=ι (by
     have e:s.getD 0 0=48:=by apply UInt8.toNat_inj.1;rw[<-HB0.o,hz];rfl
     rw[HP.o,e];simp)
    have z1:(b0:Int)=48:=by omega
    have z2:((b0:Int)==48)=true:=by simpa using z1
    clear hz;go_enter Tryz.func95,Tryz.ntmps95;go_wp2;go_ret2;exact HQ.o 0 false HF.o (λh=>(by cases h))
   ·have z1:¬((b0:Int)=48):=by omega
    have z2:((b0:Int)==48)=false:=by simpa using z1
    have HZ:Hid ((s.getD 0 0 !=48)=true):=ι (by
     simp only[bne_iff_ne,ne_eq];intro e;apply hz;rw[HB0.o,e];rfl)
    have HL:Hid (1<=s.length/\s.length<=10):=ι ⟨hl0,ω⟩;clear hz;go_enter Tryz.func95,Tryz.ntmps95;go_wp2_with fail
    clear ix0 z1 z2
    go_loopw [4,20] (λnv iv wr=>∃k:Nat,k<=s.length/\iv=.int .i64 k/\nv=.int .i64 (numOf (s.take k):Nat)/\wr=w/\Hid (∀c∈s.take k,xGa c=true)) (λ_ iv _=>s.length- (intOf iv).toNat)
    case atStart=>exact⟨0,Nat.zero_le _,rfl,rfl,rfl,ι σ⟩
    case round=>
     obtain⟨k,hk,rfl,rfl,rfl,HD⟩:=hrel;have hnb:=xPr k (s.take k) (by rw[List.length_take];omega) HD.o;have hpw:10^k<=10^10:=Nat.pow_le_pow_right ω ω;have HN:Hid (numOf (s.take k)<10^10):=ι ω
     by_cases hlt:k<s.length
     ·obtain⟨x,hx⟩:∃x,s[k]?=some x:=⟨_,List.getElem?_eq_getElem hlt⟩;have ixk:=λw=>zH (P:=Tryz.prog) Tryz.underlying9 ⟨s.toArray⟩ (k:Int) k rfl (by show k<s.toArray.size;simpa using hlt) w
      have hby:yO ⟨s.toArray⟩ k=(x.toNat:Int):=by
       unfold yO;show((s.getD k 0).toNat:Int)=_;rw[List.getD_eq_getElem?_getD,hx];rfl
      rw[hby] at ixk;have HTK:Hid (s.take (k+1)=s.take k++[x]):=ι (by rw[List.take_add_one,hx];rfl);have HXM:=ι (List.mem_of_getElem? hx);have hx256:=UInt8.toNat_lt x;have hnn:numOf (s.take k)<10000000000:=by have:=HN.o;omega
      have HSN:=ι (xI2 (s.take k) x);generalize numOf (s.take k)=m at hnn HSN
      by_cases hd:xGa x=true
      ·have hd2:=hd;unfold xGa at hd2;simp only[Bool.and_eq_true,decide_eq_true_eq] at hd2;obtain⟨d1,d2⟩:=hd2;have g1:¬((x.toNat:Int)<48):=by omega
       have g2:¬(57<(x.toNat:Int)):=by omega
       have g3:(0:Int)<=(x.toNat:Int)-48:=by omega
       have g4:(x.toNat:Int)-48<=9:=by omega
       have HD2:Hid (∀c∈s.take (k+1),xGa c=true):=ι (by
        intro c hc;rw[HTK.o] at hc;rcases List.mem_append.1 hc with hc|hc
        ·exact HD.o c hc
        ·rw[List.mem_singleton.1 hc];exact hd)
       have HNV:Hid ((numOf (s.take (k+1)):Int)=10*(m:Int)+((x.toNat:Int)-48)):=ι (by rw[HTK.o,HSN.o];omega);clear hx hby hd hnb hpw d1 d2 HD;go_wp2;exact⟨⟨k+1,ω,by go_num,by rw[HNV.o],trivial,HD2⟩,by simp[intOf];omega⟩
      ·have HF:Hid (kT s=false):=ι (by
        have:s.all xGa=false:=List.all_eq_false.2 ⟨x,HXM.o,hd⟩;rw[HP.o,this];simp)
       unfold xGa at hd;simp only[Bool.and_eq_true,decide_eq_true_eq] at hd
       by_cases d1:x.toNat<48
       ·have g1:(x.toNat:Int)<48:=by omega
        clear hx hby hd hnb hpw d1 HD;go_wp2;go_ret2;exact HQ.o 0 false HF.o (λh=>(by cases h))
       ·have g1:¬((x.toNat:Int)<48):=by omega
        have g2:57<(x.toNat:Int):=by omega
        clear hx hby hd hnb hpw d1 HD;go_wp2;go_ret2;exact HQ.o 0 false HF.o (λh=>(by cases h))
     ·obtain rfl:k=s.length:=by omega
      have HT:Hid (s.take s.length=s):=ι List.take_length;rw[HT.o];rw[HT.o] at HN HD;have HA:Hid (s.all xGa=true):=ι (List.all_eq_true.2 HD.o);have hnn:numOf s<10000000000:=by have:=HN.o;omega
      have HPE:Hid (kT s=decide (numOf s<=4294967295)):=ι (by rw[HP.o,HZ.o,HA.o,decide_eq_true HL.o.1,decide_eq_true HL.o.2];simp);obtain⟨m,hm⟩:∃m,numOf s=m:=⟨_,rfl⟩;have HM:=ι hm;rw[hm] at HPE hnn⊢;clear hnb hpw hm HN HT
      by_cases hg:m<=4294967295
      ·have gi:(m:Int)<=4294967295:=by omega
       rw[decide_eq_true hg] at HPE;clear hg;go_wp2;go_ret2;exact HQ.o _ true HPE.o (λ_=>by rw[HM.o])
      ·have gi:¬((m:Int)<=4294967295):=by omega
       rw[decide_eq_false hg] at HPE;clear hg;go_wp2;go_ret2;exact HQ.o _ false HPE.o (λh=>(by cases h))
end Go.Proofs.VA
namespace Mailsack
def xAj (h:List Nat) (i j:Nat):List Nat:=(h.set i (h.getD j 0)).set j (h.getD i 0)
theorem xCk (h:List Nat) (i j:Nat):(xAj h i j).length=h.length:=by simp[xAj]
end Mailsack
namespace Go.Proofs.AL
open Go.RowKit Mailsack MM SV
def xMv (l:List Nat):List Value:=l.map λ(x:Nat)=>Value.int .i64 (x:Int)
def vI (W:World) (g:Nat) (h:List Nat) (rest:List Value):Prop:=W.heap[g]?=some (.cells (xMv h++rest).toArray 3 (0,0))
theorem vI.blk {W:World} {g:Nat} {h:List Nat} {rest:List Value} (hr:vI W g h rest):W.heap[g]?=some (.cells (xMv h++rest).toArray 3 (0,0)):=hr
theorem vI.cell {W:World} {g:Nat} {h:List Nat} {rest:List Value} (hr:vI W g h rest) {i:Nat} (hi:i<h.length):W.cell? ⟨g,i,none⟩=some (.int .i64 ((h.getD i 0:Nat):Int)):=by
 rw[xA hr.blk,List.getElem?_toArray,List.getElem?_append_left (by simp[xMv];exact hi)];simp[xMv,hi]
theorem vI.free {W:World} {g:Nat} {h:List Nat} {rest:List Value} (hr:vI W g h rest) (i:Nat):W.frozen? ⟨g,i,none⟩=false:=xC hr.blk i
theorem vI.put {W:World} {g:Nat} {h:List Nat} {rest:List Value} (hr:vI W g h rest) {i:Nat} (hi:i<h.length) (x:Nat):vI (W.setCell ⟨g,i,none⟩ (.int .i64 (x:Int))) g (h.set i x) rest:=by
 have:=xY hr.blk i (.int .i64 (x:Int));unfold vI;rw[this]
 congr 2
 rw[List.setIfInBounds_toArray,List.set_append_left _ _ (by simp[xMv];exact hi)];simp[xMv,List.map_set]
theorem vI.below {W W':World} {g:Nat} {h:List Nat} {rest:List Value} (hr:vI W g h rest) (hb:Below W.heap.size W W'):vI W' g h rest:=xB hr.blk hb (xG hr.blk)
theorem vI.drew {W:World} {g:Nat} {h:List Nat} {rest:List Value} (hr:vI W g h rest):vI W.drew g h rest:=hr
theorem vI.far {W:World} {g:Nat} {h:List Nat} {rest:List Value} (hr:vI W g h rest) {p:Addr} (hp:g≠p.block) (u:Value):vI (W.setCell p u) g h rest:=yA hr.blk hp u
theorem xO6 (A:Option Addr) (n c:Nat) (w:World):
  Calls Tryz.prog 448 #[.slice A n c] w λe w'=>e=.returned (.int .i64 n)/\w'=w:=by
 go_enter Tryz.func448,Tryz.ntmps448;go_wp2;go_ret;exact⟨rfl,rfl⟩
theorem yAp (g n c:Nat) (h:List Nat) (rest:List Value) (i j:Nat) (w:World) (hr:vI w g h rest) (hn:n<=h.length) (hi:i<n) (hj:j<n):
  Calls Tryz.prog 449 #[.slice (some ⟨g,0,none⟩) n c,.int .i64 i,.int .i64 j] w λe w'=>e=.returned (.bool (decide (h.getD i 0<h.getD j 0)))/\Below w.heap.size w w':=by
 have c0:=hr.cell (i:=i) ω;have c1:=hr.cell (i:=j) ω;generalize h.getD i 0=x at c0⊢;generalize h.getD j 0=y at c1⊢;have hii:(i:Int)<(n:Int):=by omega
 have hjj:(j:Int)<(n:Int):=by omega
 clear hr hn hi hj;go_enter Tryz.func449,Tryz.ntmps449;go_upto_region 1 with fail
 refine RG.xP (λW=>Hid (Below w.heap.size w W/\W.cell? ⟨g,i,none⟩=some (.int .i64 (x:Int))/\W.cell? ⟨g,j,none⟩=some (.int .i64 (y:Int)))) κ κ (ι ⟨(Below.refl w.heap.size w).drew,c0,c1⟩) ?_;clear c0 c1;iterate 3 refine RG.dS ?_
 refine RG.dF (λw9 hw9=>hw9.o.2.1) ?_;iterate 3 refine RG.dS ?_
 refine RG.dF (λw9 hw9=>hw9.o.2.2) ?_;iterate 2 refine RG.dS ?_
 refine RG.xS (λw1 hw1=>?_);go_wp2;go_ret;exact⟨rfl,hw1.o.1⟩
theorem xZn (g n c:Nat) (h:List Nat) (rest:List Value) (i j:Nat) (w:World) (hr:vI w g h rest) (hn:n<=h.length) (hi:i<n) (hj:j<n):
  Calls Tryz.prog 450 #[.slice (some ⟨g,0,none⟩) n c,.int .i64 i,.int .i64 j] w λe w'=>e=.returned (.tuple #[])/\vI w' g (xAj h i j) rest/\Tn (λk=>k=g) w w':=by
 have HS:Hid (xAj h i j=(h.set i (h.getD j 0)).set j (h.getD i 0)):=ι rfl;have hih:i<h.length:=by omega
 have hjh:j<h.length:=by omega
 have HIH:=ι (And.intro hih hjh);obtain⟨x,hx⟩:∃x,h.getD i 0=x:=⟨_,rfl⟩;obtain⟨y,hy⟩:∃y,h.getD j 0=y:=⟨_,rfl⟩;rw[hx,hy] at HS;have HX:=ι (And.intro hx hy);have hii:(i:Int)<(n:Int):=by omega
 have hjj:(j:Int)<(n:Int):=by omega
 have H0:Hid (vI w g h rest/\Tn (λk=>k=g) w w):=ι ⟨hr,Tn.refl _ _⟩;clear hr hn hi hj hih hjh hx hy;go_enter Tryz.func450,Tryz.ntmps450
 refine RG.yT 16 (λL W=>Hid (vI W g (if L 15 then(if L 13 then h.set i y else h).set j x else(if L 13 then h.set i y else h)) rest/\Tn (λk=>k=g) w W)) (λL L' W h hI=>by rw[<-h 13 δ,<-h 15 δ];exact hI) κ κ rfl (ι ⟨H0.o.1.drew,H0.o.2.drew⟩) ?_;clear H0;iterate 7 refine RG.cS ?_
 apply RG.xR
 ·rfl
 ·rfl
 ·intro L w9 h0 hcl xN hw9;have e1:=hcl.not 16 (i:=13) h0 κ;have e2:=hcl.not 16 (i:=15) h0 κ;have hs9:=hw9.o.1;rw[e1,e2,if_neg (c:=false=true) σ,if_neg (c:=false=true) σ] at hs9;have q:=hs9.cell (i:=j) HIH.o.2;rw[HX.o.2] at q;clear e1 e2 hs9;repeat go_step
  with_reducible refine RG.xD ?_
  exact⟨xN,hw9⟩
 ·rfl
 iterate 3 refine RG.cS ?_
 apply RG.xR
 ·rfl
 ·rfl
 ·intro L w9 h0 hcl xN hw9;have e1:=hcl.not 16 (i:=13) h0 κ;have e2:=hcl.not 16 (i:=15) h0 κ;have hs9:=hw9.o.1;rw[e1,e2,if_neg (c:=false=true) σ,if_neg (c:=false=true) σ] at hs9;have q:=hs9.cell (i:=i) HIH.o.1;rw[HX.o.1] at q;clear e1 e2 hs9;repeat go_step
  with_reducible refine RG.xD ?_
  exact⟨xN,hw9⟩
 ·rfl
 refine RG.cS ?_;apply RG.xR
 ·rfl
 ·rfl
 ·intro L w9 h0 hcl xN hw9;have e2:=hcl.not 16 (i:=15) h0 κ;obtain⟨hs9,ht9⟩:=hw9.o;rw[h0,e2,if_neg (c:=false=true) σ,if_neg (c:=false=true) σ] at hs9;have q:=hs9.cell (i:=i) HIH.o.1;rw[HX.o.1] at q;have q1:=hs9.free i
  have hp:Hid (vI (w9.setCell ⟨g,i,none⟩ (.int .i64 (y:Int))) g (h.set i y) rest/\Tn (λk=>k=g) w (w9.setCell ⟨g,i,none⟩ (.int .i64 (y:Int)))):=ι ⟨hs9.put HIH.o.1 y,ht9.set (p:=⟨g,i,none⟩) (.inl rfl) _⟩;have E2:=ι e2;clear hs9 ht9 e2;repeat go_step
  with_reducible refine RG.xD ?_
  refine⟨xN,?_⟩;show Hid (vI _ g (if L 15=true then _ else(if (true:Bool)=true then h.set i y else h)) rest/\_);rw[E2.o,if_neg (c:=false=true) σ,if_pos rfl];with_reducible exact hp
 ·rfl
 refine RG.cS ?_;apply RG.xR
 ·rfl
 ·rfl
 ·intro L w9 h0 hcl xN hw9
  have e1:L 13=true:=by
   have:=xN.yes 16 (i:=15) (j:=13) σ κ;simpa using this
  obtain⟨hs9,ht9⟩:=hw9.o;rw[h0,e1,if_neg (c:=false=true) σ,if_pos rfl] at hs9;have q:=hs9.cell (i:=j) (by rw[List.length_set];exact HIH.o.2);have q1:=hs9.free j
  have hp:Hid (vI (w9.setCell ⟨g,j,none⟩ (.int .i64 (x:Int))) g ((h.set i y).set j x) rest/\Tn (λk=>k=g) w (w9.setCell ⟨g,j,none⟩ (.int .i64 (x:Int)))):=ι ⟨hs9.put (by rw[List.length_set];exact HIH.o.2) x,ht9.set (p:=⟨g,j,none⟩) (.inl rfl) _⟩;have E1:=ι e1;clear hs9 ht9 e1
  repeat go_step
  with_reducible refine RG.xD ?_
  refine⟨xN,?_⟩;show Hid (vI _ g (if (true:Bool)=true then(if L 13=true then h.set i y else h).set j x else _) rest/\_);rw[E1.o,if_pos rfl,if_pos rfl];with_reducible exact hp
 ·rfl
 refine RG.yI (λw9 hw9=>?_);rw[if_pos rfl,if_pos rfl,<-HS.o] at hw9;go_wp2;refine bodyPost_end (results_none rfl _ _ _) rfl ?_;exact⟨rfl,hw9.o.1,hw9.o.2⟩
end Go.Proofs.AL