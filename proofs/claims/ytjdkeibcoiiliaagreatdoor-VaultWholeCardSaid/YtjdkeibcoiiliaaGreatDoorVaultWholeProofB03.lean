/- Contracts of functions. Conditions: as stated. -/
import Derived.Test.YtjdkeibcoiiliaaGreatDoorVaultWholeProofB02
import Derived.Lib.ConvBytes
open Go.Proofs.Tryz
set_option maxHeartbeats 8000000
set_option maxRecDepth 100000
namespace Mailsack
def xV2 (ws:List Int) (a b c d:Nat) (q:Q4) (f1 f2 f3 f4:Bool):List Int:=
 (List.range 16).map λi=>if f1&&i==a then q.a else if f2&&i==b then q.b else if f3&&i==c then q.c else if f4&&i==d then q.d else ws.getD i 0
def xBq (ws:List Int) (a b c d:Nat):List Int:=xV2 ws a b c d (tK ⟨ws.getD a 0,ws.getD b 0,ws.getD c 0,ws.getD d 0⟩) true true true true
theorem pV (ws:List Int) (a b c d:Nat) (q:Q4) (f1 f2 f3 f4:Bool):(xV2 ws a b c d q f1 f2 f3 f4).length=16:=by simp[xV2]
theorem xI9 (ws:List Int) (a b c d:Nat) (q:Q4) (f1 f2 f3 f4:Bool) {i:Nat} (h:i<16):(xV2 ws a b c d q f1 f2 f3 f4)[i]?=some (if f1&&i==a then q.a else if f2&&i==b then q.b else if f3&&i==c then q.c else if f4&&i==d then q.d else ws.getD i 0):=by
 unfold xV2;rw[Cg,Fg h]
 rfl
theorem xQ2 (ws:List Int) (a b c d:Nat) (q:Q4) (h:ws.length=16):xV2 ws a b c d q false false false false=ws:=by
 apply Dt;intro i
 by_cases hi:i<16
 ·rw[xI9 _ _ _ _ _ _ _ _ _ _ hi];simp[Aa,Af (show i<ws.length by omega)]
 ·rw[Bz (by rw[pV];omega),Bz ω]
theorem mixW_u {ws:List Int} (hw:qV ws) (a b c d:Nat) {q:Q4} (ha:U32 q.a) (hb:U32 q.b) (hc:U32 q.c) (hd:U32 q.d) (f1 f2 f3 f4:Bool):qV (xV2 ws a b c d q f1 f2 f3 f4):=by
 intro i
 by_cases hi:i<16
 ·rw[Aa,xI9 _ _ _ _ _ _ _ _ _ _ hi];simp only[Hq];split
  ·exact ha
  ·split
   ·exact hb
   ·split
    ·exact hc
    ·split
     ·exact hd
     ·exact hw i
 ·rw[Aa,Bz (by rw[pV];omega)];exact⟨δ,δ⟩
theorem qR {ws:List Int} (hw:qV ws) (a b c d:Nat):qV (xBq ws a b c d):=by
 have h:=xLt ⟨ws.getD a 0,ws.getD b 0,ws.getD c 0,ws.getD d 0⟩;exact mixW_u hw a b c d h.1 h.2.1 h.2.2.1 h.2.2.2 _ _ _ _
theorem pM (ws:List Int) (a b c d:Nat):(xBq ws a b c d).length=16:=pV _ _ _ _ _ _ _ _ _ _
theorem xN8 {ws:List Int} {a b c d:Nat} {q:Q4} {f1 f2 f3 f4 g1 g2 g3 g4:Bool} (p:Nat) (x:Int) (h:∀i,i<16->(if f1&&i==a then q.a else if f2&&i==b then q.b else if f3&&i==c then q.c else if f4&&i==d then q.d else ws.getD i 0)=if i=p then x else(if g1&&i==a then q.a else if g2&&i==b then q.b else if g3&&i==c then q.c else if g4&&i==d then q.d else ws.getD i 0)):(xV2 ws a b c d q g1 g2 g3 g4).set p x=xV2 ws a b c d q f1 f2 f3 f4:=by
 apply Dt;intro i;rw[Co]
 by_cases hi:i<16
 ·rw[xI9 ws a b c d q f1 f2 f3 f4 hi,h i hi]
  by_cases e:p=i
  ·subst e;simp[pV,hi]
  ·rw[Ag e,Ag (En e),xI9 _ _ _ _ _ _ _ _ _ _ hi]
 ·rw[Bz (l:=xV2 ws a b c d q f1 f2 f3 f4) (by rw[pV];omega)];split
  ·rw[Ag (by rw[pV];omega)]
  ·rw[Bz (by rw[pV];omega)]
end Mailsack
namespace Go.Proofs.SH
open Go.RowKit Mailsack MM BB
structure xZf (w:World) (g:Nat) (ws:List Int) (a b c d:Nat) (q:Q4) (f1 f2 f3 f4:Bool) (W:World):Prop where
 st:W.heap[g]?=some (.cells (zJ (xV2 ws a b c d q f1 f2 f3 f4)) 229 (0,0))
 grn:w.grownBy W (some g)
theorem xVk {w W:World} {r:Option Nat} (h:w.grownBy W r):w.grownBy W.drew r:=⟨h.os,h.tape,h.output,h.size,h.block⟩
theorem yD4 {w W:World} {g:Nat} (h:w.grownBy W (some g)) (i:Nat) (u:Value):w.grownBy (W.setCell (θ g i) u) (some g):=
 ⟨h.os,h.tape,h.output,by simpa[World.setCell] using h.size,λk hk hne=>(Gs W (θ g i) u k (λe=>hne (by rw[e]))).trans (h.block k hk hne)⟩
theorem xZf.cell {w:World} {g:Nat} {ws:List Int} {a b c d:Nat} {q:Q4} {W:World} (hl:ws.length=16) (h:xZf w g ws a b c d q false false false false W) {i:Nat} (hi:i<16):W.cell? (θ g i)=some (.int .u32 (ws.getD i 0)):=by
 have:=h.st;rw[xQ2 _ _ _ _ _ _ hl] at this;rw[xA this,wG ω]
theorem xZf.put {w:World} {g:Nat} {ws:List Int} {a b c d:Nat} {q:Q4} {f1 f2 f3 f4:Bool} {W:World} (h:xZf w g ws a b c d q f1 f2 f3 f4 W) (p:Nat) (x:Int) {g1 g2 g3 g4:Bool} (he:(xV2 ws a b c d q f1 f2 f3 f4).set p x=xV2 ws a b c d q g1 g2 g3 g4):xZf w g ws a b c d q g1 g2 g3 g4 (W.setCell (θ g p) (.int .u32 x)):=by
 refine⟨?_,yD4 h.grn _ _⟩;have:=yD h.st p (.int .u32 x);rw[xG6,he] at this;exact this
theorem xB3 (ws:List Int) (g a b c d:Nat) (w:World) (hg:w.heap[g]?=some (.cells (zJ ws) 229 (0,0))) (hl:ws.length=16) (hu:qV ws) (ha:a<16) (hb:b<16) (hc:c<16) (hd:d<16) (hne:a≠b/\a≠c/\a≠d/\b≠c/\b≠d/\c≠d):
  Calls prog 200 #[.pointer (some (θ g 0)),.int .i64 a,.int .i64 b,.int .i64 c,.int .i64 d] w λe w'=>e=.returned (.tuple #[])/\w'.heap[g]?=some (.cells (zJ (xBq ws a b c d)) 229 (0,0))/\w.grownBy w' (some g):=by
 have HQ:=ι (λW=>xSp (ws.getD a 0) (ws.getD b 0) (ws.getD c 0) (ws.getD d 0) W (hu a) (hu b) (hu c) (hu d));have HU:=ι (xLt ⟨ws.getD a 0,ws.getD b 0,ws.getD c 0,ws.getD d 0⟩)
 have HT:Hid (xBq ws a b c d=xV2 ws a b c d (tK ⟨ws.getD a 0,ws.getD b 0,ws.getD c 0,ws.getD d 0⟩) true true true true):=ι rfl;generalize tK ⟨ws.getD a 0,ws.getD b 0,ws.getD c 0,ws.getD d 0⟩=q at HQ HU HT;obtain⟨qa,qb,qc,qd⟩:=q
 have H0:Hid (xZf w g ws a b c d ⟨qa,qb,qc,qd⟩ false false false false w):=ι ⟨by rw[xQ2 _ _ _ _ _ _ hl];exact hg,⟨rfl,rfl,rfl,Bd _,λ_ _ _=>rfl⟩⟩
 have HC:Hid (∀W,xZf w g ws a b c d ⟨qa,qb,qc,qd⟩ false false false false W->∀i,i<16->W.cell? (θ g i)=some (.int .u32 (ws.getD i 0))):=ι (λW h i hi=>h.cell hl hi);obtain⟨n1,n2,n3,n4,n5,n6⟩:=hne
 have HN:=ι (Ai n1 (Ai n2 (Ai n3 (Ai n4 (Ai n5 n6)))));clear hg hl hu n1 n2 n3 n4 n5 n6;go_enter func200,ntmps200;go_upto_region 0 with fail
 refine RG.zA 46 (λL W=>Hid (xZf w g ws a b c d ⟨qa,qb,qc,qd⟩ (L 36) (L 39) (L 42) (L 45) W)) (λL L' W h hI=>by rw[<-h 36 δ,<-h 39 δ,<-h 42 δ,<-h 45 δ];exact hI) κ κ rfl (ι ⟨H0.o.st,xVk H0.o.grn⟩) ?_;iterate 12 refine RG.cS ?_
 apply RG.xS
 ·rfl
 ·rfl
 ·intro L w9 h0 hcl xQ hw9;have e1:=hcl.not 6 (i:=36) h0 κ;have e2:=hcl.not 6 (i:=39) h0 κ;have e3:=hcl.not 6 (i:=42) h0 κ;have e4:=hcl.not 6 (i:=45) h0 κ;have hs:=hw9.o;rw[e1,e2,e3,e4] at hs;have q:=HC.o w9 hs a ha;clear e1 e2 e3 e4 hs;repeat go_step
  refine RG.xE ?_;exact⟨xQ,hw9⟩
 ·rfl
 iterate 4 refine RG.cS ?_
 apply RG.xS
 ·rfl
 ·rfl
 ·intro L w9 h0 hcl xQ hw9;have e1:=hcl.not 6 (i:=36) h0 κ;have e2:=hcl.not 6 (i:=39) h0 κ;have e3:=hcl.not 6 (i:=42) h0 κ;have e4:=hcl.not 6 (i:=45) h0 κ;have hs:=hw9.o;rw[e1,e2,e3,e4] at hs;have q:=HC.o w9 hs b hb;clear e1 e2 e3 e4 hs;repeat go_step
  refine RG.xE ?_;exact⟨xQ,hw9⟩
 ·rfl
 iterate 4 refine RG.cS ?_
 apply RG.xS
 ·rfl
 ·rfl
 ·intro L w9 h0 hcl xQ hw9;have e1:=hcl.not 6 (i:=36) h0 κ;have e2:=hcl.not 6 (i:=39) h0 κ;have e3:=hcl.not 6 (i:=42) h0 κ;have e4:=hcl.not 6 (i:=45) h0 κ;have hs:=hw9.o;rw[e1,e2,e3,e4] at hs;have q:=HC.o w9 hs c hc;clear e1 e2 e3 e4 hs;repeat go_step
  refine RG.xE ?_;exact⟨xQ,hw9⟩
 ·rfl
 iterate 4 refine RG.cS ?_
 apply RG.xS
 ·rfl
 ·rfl
 ·intro L w9 h0 hcl xQ hw9;have e1:=hcl.not 6 (i:=36) h0 κ;have e2:=hcl.not 6 (i:=39) h0 κ;have e3:=hcl.not 6 (i:=42) h0 κ;have e4:=hcl.not 6 (i:=45) h0 κ;have hs:=hw9.o;rw[e1,e2,e3,e4] at hs;have q:=HC.o w9 hs d hd;clear e1 e2 e3 e4 hs;repeat go_step
  refine RG.xE ?_;exact⟨xQ,hw9⟩
 ·rfl
 apply RG.xS
 ·rfl
 ·rfl
 ·intro L w9 h0 hcl xQ hw9;repeat go_step
  refine(HQ.o _).mono ?_;rintro e w10 ⟨rfl,rfl⟩;simp only[];repeat go_step
  refine RG.xE ?_;exact⟨xQ,hw9⟩
 ·rfl
 iterate 7 refine RG.cS ?_
 apply RG.xS
 ·rfl
 ·rfl
 ·intro L w9 h0 hcl xQ hw9;have q1:=xA hw9.o.st a;rw[wG (by rw[pV];exact ha)] at q1;have q2:=xG hw9.o.st a
  have hp:=ι (hw9.o.put a qa (xN8 a qa (f1:=true) (f2:=(L 39)) (f3:=(L 42)) (f4:=(L 45)) (λi _=>by
   by_cases e:i=a
   ·subst e;simp
   ·simp[e])))
  generalize List.getD _ a 0=old at q1;repeat go_step
  refine RG.xE ?_;refine⟨xQ,?_⟩;show Hid (xZf w g ws a b c d ⟨qa,qb,qc,qd⟩ true (L 39) (L 42) (L 45) _);with_reducible exact hp
 ·rfl
 iterate 2 refine RG.cS ?_
 apply RG.xS
 ·rfl
 ·rfl
 ·intro L w9 h0 hcl xQ hw9;have q1:=xA hw9.o.st b;rw[wG (by rw[pV];exact hb)] at q1;have q2:=xG hw9.o.st b
  have hp:=ι (hw9.o.put b qb (xN8 b qb (f1:=(L 36)) (f2:=true) (f3:=(L 42)) (f4:=(L 45)) (λi _=>by
   obtain⟨n1,_⟩:=HN.o
   by_cases e:i=b
   ·subst e;simp[En n1]
   ·simp[e])))
  generalize List.getD _ b 0=old at q1;repeat go_step
  refine RG.xE ?_;refine⟨xQ,?_⟩;show Hid (xZf w g ws a b c d ⟨qa,qb,qc,qd⟩ (L 36) true (L 42) (L 45) _);with_reducible exact hp
 ·rfl
 iterate 2 refine RG.cS ?_
 apply RG.xS
 ·rfl
 ·rfl
 ·intro L w9 h0 hcl xQ hw9;have q1:=xA hw9.o.st c;rw[wG (by rw[pV];exact hc)] at q1;have q2:=xG hw9.o.st c
  have hp:=ι (hw9.o.put c qc (xN8 c qc (f1:=(L 36)) (f2:=(L 39)) (f3:=true) (f4:=(L 45)) (λi _=>by
   obtain⟨_,n2,_,n4,_⟩:=HN.o
   by_cases e:i=c
   ·subst e;simp[En n2,En n4]
   ·simp[e])))
  generalize List.getD _ c 0=old at q1;repeat go_step
  refine RG.xE ?_;refine⟨xQ,?_⟩;show Hid (xZf w g ws a b c d ⟨qa,qb,qc,qd⟩ (L 36) (L 39) true (L 45) _);with_reducible exact hp
 ·rfl
 iterate 2 refine RG.cS ?_
 apply RG.xS
 ·rfl
 ·rfl
 ·intro L w9 h0 hcl xQ hw9;have q1:=xA hw9.o.st d;rw[wG (by rw[pV];exact hd)] at q1;have q2:=xG hw9.o.st d
  have hp:=ι (hw9.o.put d qd (xN8 d qd (f1:=(L 36)) (f2:=(L 39)) (f3:=(L 42)) (f4:=true) (λi _=>by
   obtain⟨_,_,n3,_,n5,n6⟩:=HN.o
   by_cases e:i=d
   ·subst e;simp[En n3,En n5,En n6]
   ·simp[e])))
  generalize List.getD _ d 0=old at q1;repeat go_step
  refine RG.xE ?_;refine⟨xQ,?_⟩;show Hid (xZf w g ws a b c d ⟨qa,qb,qc,qd⟩ (L 36) (L 39) (L 42) true _);with_reducible exact hp
 ·rfl
 refine RG.yY (λw9 hw9=>?_)
 go_end0
 rw[HT.o];exact⟨rfl,hw9.o.st,hw9.o.grn⟩
end Go.Proofs.SH
namespace Mailsack
def xZw (c0 c1 c2 c3:Int):Int:=Go.bits .or .u32 (Go.bits .or .u32 (Go.bits .or .u32 c0 (c1*256)) (c2*65536)) (c3*16777216)
def xWt (b:ByteArray) (k:Nat):Int:=xZw (yU (b.extract (4*k) (4*k+4)) 0) (yU (b.extract (4*k) (4*k+4)) 1) (yU (b.extract (4*k) (4*k+4)) 2) (yU (b.extract (4*k) (4*k+4)) 3)
theorem xZt (b:ByteArray) (k:Nat):U32 (xWt b k):=by unfold xWt xZw;exact xCk _ _ _
def xDi (ws:List Int) (off:Nat) (b:ByteArray):Nat->List Int
 |0=>ws
 |k+1=>(xDi ws off b k).set (off+k) (xWt b k)
theorem xA3 (ws:List Int) (off:Nat) (b:ByteArray):∀k,(xDi ws off b k).length=ws.length
 |0=>rfl
 |k+1=>by simp[xDi,xA3 ws off b k]
theorem xOe {ws:List Int} (h:qV ws) (off:Nat) (b:ByteArray):∀k,qV (xDi ws off b k)
 |0=>h
 |k+1=>(xOe h off b k).set (off+k) (xZt b k)
end Mailsack
namespace Go.Proofs.SH
open Go.RowKit Mailsack MM BB
structure yF4 (w:World) (g:Nat) (xs:List Int) (W:World):Prop where
 st:W.heap[g]?=some (.cells (zJ xs) 229 (0,0))
 grn:w.grownBy W (some g)
theorem yF4.drew {w:World} {g:Nat} {xs:List Int} {W:World} (h:yF4 w g xs W):yF4 w g xs W.drew:=⟨h.st,xVk h.grn⟩
theorem yF4.put {w:World} {g:Nat} {xs:List Int} {W:World} (h:yF4 w g xs W) (p:Nat) (x:Int):yF4 w g (xs.set p x) (W.setCell (θ g p) (.int .u32 x)):=by
 refine⟨?_,yD4 h.grn _ _⟩;have:=yD h.st p (.int .u32 x);rw[xG6] at this;exact this
theorem xB6 (ws:List Int) (g off n cap:Nat) (b:ByteArray) (w:World) (hg:w.heap[g]?=some (.cells (zJ ws) 229 (0,0))) (hn:off+n<=ws.length) (hb:4*n<=b.size) (hn2:n<=16):
  Calls prog 199 #[.slice (some (θ g off)) n cap,.string b] w λe w'=>e=.returned (.tuple #[])/\w'.heap[g]?=some (.cells (zJ (xDi ws off b n)) 229 (0,0))/\w.grownBy w' (some g):=by
 have H0:Hid (yF4 w g (xDi ws off b 0) w):=ι ⟨hg,⟨rfl,rfl,rfl,Bd _,λ_ _ _=>rfl⟩⟩;have HL:=ι (λk=>xA3 ws off b k);clear hg;go_enter func199,ntmps199;go_wp2_with fail
 go_loopw [8] (λiv wr=>∃k:Nat,k<=n/\iv=.int .i64 k/\Hid (yF4 w g (xDi ws off b k) wr)) (λiv _=>n- (intOf iv).toNat)
 case atStart=>exact⟨0,Bc _,rfl,H0⟩
 case round=>
  obtain⟨k,hk,rfl,hr⟩:=hrel;clear H0
  by_cases hlt:k<n
  ·have hl:=HL.o k;have HW:Hid (xDi ws off b (k+1)=(xDi ws off b k).set (off+k) (xWt b k)):=ι rfl;obtain⟨z,hz⟩:=eX (xWt b k);rw[hz] at HW;generalize xDi ws off b k=xs at hr hl HW;go_upto_region 4 with fail
   refine RG.vL [21] (λL W=>Hid (yF4 w g (if L 21 then xs.set (off+k) z else xs) W)) (λL L' W h hI=>by rw[<-h 21 δ];exact hI) κ κ δ (ι hr.o.drew) ?_;iterate 3 refine RG.lS ?_
   unfold xWt at hz;obtain⟨x,hx⟩:=eX (b.extract (4*k) (4*k+4));rw[hx] at hz⊢;have hxs:x.size=4:=by rw[<-hx,Az];omega
   have i0:=λw=>zN (P:=prog) underlying9 x 0 0 rfl ω w;have i1:=λw=>zN (P:=prog) underlying9 x 1 1 rfl ω w;have i2:=λw=>zN (P:=prog) underlying9 x 2 2 rfl ω w;have i3:=λw=>zN (P:=prog) underlying9 x 3 3 rfl ω w;obtain⟨r00,r01⟩:=zD x 0
   obtain⟨r10,r11⟩:=zD x 1;obtain⟨r20,r21⟩:=zD x 2;obtain⟨r30,r31⟩:=zD x 3;generalize yU x 0=c0 at i0 r00 r01 hz;generalize yU x 1=c1 at i1 r10 r11 hz;generalize yU x 2=c2 at i2 r20 r21 hz;generalize yU x 3=c3 at i3 r30 r31 hz;unfold xZw at hz;have HZ:=ι hz;clear hx hz
   iterate 17 refine RG.lS ?_
   rw[HZ.o];refine RG.lS ?_;apply RG.uV
   ·rfl
   ·intro L w9 h0 _ hw9;rw[h0,Ag σ] at hw9;have q1:=xA hw9.o.st (off+k);rw[wG ω] at q1;have q2:=xG hw9.o.st (off+k);repeat go_step
    refine RG.xE ?_;have hp:=ι (hw9.o.put (off+k) z);rw[Ah σ];with_reducible exact hp
   ·rfl
   refine RG.yY (λw9 hw9=>?_);rw[Ah rfl,<-HW.o] at hw9;clear i0 i1 i2 i3;go_wp2;exact⟨⟨k+1,ω,by go_num,hw9⟩,by simp[intOf];omega⟩
  ·have hke:k=n:=ω;have hneg:¬((k:Int)<(n:Int)):=ω;have HR:Hid (yF4 w g (xDi ws off b n) wr):=by rw[<-hke];exact hr
   clear hr hke hlt hk;go_wp2
   go_end0
   exact⟨rfl,HR.o.st,HR.o.grn⟩
end Go.Proofs.SH
namespace Mailsack
def xK9 (xs:List Int):List Int:=xBq (xBq (xBq (xBq (xBq (xBq (xBq (xBq (xs) 0 4 8 12) 1 5 9 13) 2 6 10 14) 3 7 11 15) 0 5 10 15) 1 6 11 12) 2 7 8 13) 3 4 9 14
theorem xTn (xs:List Int):(xK9 xs).length=16:=pM _ _ _ _ _
theorem yDu {xs:List Int} (h:qV xs):qV (xK9 xs):=qR (qR (qR (qR (qR (qR (qR (qR h _ _ _ _) _ _ _ _) _ _ _ _) _ _ _ _) _ _ _ _) _ _ _ _) _ _ _ _) _ _ _ _
def tL (ws:List Int):Nat->List Int
 |0=>ws
 |k+1=>xK9 (tL ws k)
theorem xQw {ws:List Int} (h:ws.length=16):∀k,(tL ws k).length=16
 |0=>h
 |_+1=>xTn _
theorem xMg {ws:List Int} (h:qV ws):∀k,qV (tL ws k)
 |0=>h
 |k+1=>yDu (xMg h k)
def yEz (l:Bs) (i:Nat) (x:Int):Nat->Bs
 |0=>l
 |j+1=>(yEz l i x j).set (4*i+j) (oct (x / 2^(8*j)))
def xZa (ws xs:List Int):Nat->Bs
 |0=>xO 64
 |i+1=>yEz (xZa ws xs i) i ((xs.getD i 0+ws.getD i 0) % 4294967296) 4
def xAf (ws:List Int):Bs:=xZa ws (tL ws 10) 16
theorem xNk (l:Bs) (i:Nat) (x:Int):∀j,(yEz l i x j).length=l.length
 |0=>rfl
 |j+1=>by simp[yEz,xNk l i x j]
theorem xI5 (ws xs:List Int):∀i,(xZa ws xs i).length=64
 |0=>yR 64
 |i+1=>by unfold xZa;rw[xNk,xI5 ws xs i]
theorem xF4 (ws:List Int):(xAf ws).length=64:=xI5 _ _ _
end Mailsack
namespace Go.Proofs.SH
open Go.RowKit Mailsack MM BB
structure FnI (w:World) (ws xs:List Int) (W:World):Prop where
 b1:W.heap[w.heap.size]?=some (.cells (zJ ws) 229 (0,0))
 b2:W.heap[w.heap.size+1]?=some (.cells (yO (xO 64)) 232 (0,0))
 b3:W.heap[w.heap.size+2]?=some (.cells (zJ xs) 229 (0,0))
 bel:ψ w W
theorem FnI.turned {w:World} {ws xs ys:List Int} {W W':World} (h:FnI w ws xs W) (hst:W'.heap[w.heap.size+2]?=some (.cells (zJ ys) 229 (0,0))) (hg:W.grownBy W' (some (w.heap.size+2))):FnI w ws ys W':=
 ⟨rC h.b1 hg σ,rC h.b2 hg σ,hst,h.bel.grown hg h.bel.size (λk hk=>by injection hk with hk;omega)⟩
theorem xMd (ws:List Int) (w:World) (hl:ws.length=16) (hu:qV ws):
  Calls prog 158 #[.agg (zJ ws)] w (pv (.agg (yO (xAf ws))) w):=by
 have HL:=ι (λk=>xQw hl k);have HU:=ι (λk=>xMg hu k);have HI:Hid ((prog.info? 229).map (·.size)=some (zJ ws).size):=ι (by rw[zK,hl];kernel_rfl);have HZ:Hid ((zJ (List.replicate 16 0)).size=(zJ ws).size):=ι (by rw[zK,zK,hl,Cv])
 have HB:Hid (FnI w ws (tL ws 0) ((((w.alloc (.cells (zJ ws) 229)).alloc (.cells (yO (xO 64)) 232)).alloc (.cells (zJ (List.replicate 16 0)) 229)).setRow (w.heap.size+1+1) (zJ ws))):=ι (by
  have h0:=xJ ((w.alloc (.cells (zJ ws) 229)).alloc (.cells (yO (xO 64)) 232)) (.cells (zJ (List.replicate 16 0)) 229);simp only[wY] at h0;refine⟨?_,?_,Bp _ _ _ _ _ _ h0,Bn (((φ w _).alloc σ _).alloc (by simp;omega) _) ω _⟩
  ·rw[Bj _ _ _ _ ω];exact xN (zM _ _ _) _
  ·rw[Bj _ _ _ _ ω];exact xN (zI _ _ _) _)
 have HDS:Hid (∀k,tL ws (k+1)=xK9 (tL ws k)):=ι (λk=>rfl);go_enter func158,ntmps158;go_upto_region 1 with fail
 refine Bi ?_;refine Ao rfl _ _ rfl w.heap.size rfl _ (zJ ws) (0,0) _ (zM _ _ _) underlying229 rfl HI.o ?_;iterate 3 go_step
 refine Av rfl _ _ _ rfl (w.heap.size+1+1) (zJ ws) rfl rfl _ (zJ (List.replicate 16 0)) (by have h:=xJ ((w.alloc (.cells (zJ ws) 229)).alloc (.cells (yO (xO 64)) 232)) (.cells (zJ (List.replicate 16 0)) 229);simp only[wY] at h;exact h) HI.o HZ.o (xB7 ws) ?_
 refine(λ(h:∀W3,Hid (FnI w ws (tL ws 0) W3)->wpList _ _ _ _ _ W3)=>h _ HB) ?_;intro w3 hw3;clear HB HZ;go_wp2_with fail
 go_loopw [9] (λiv wr=>∃k:Nat,k<=10/\iv=.int .i64 k/\Hid (FnI w ws (tL ws k) wr)) (λiv _=>10- (intOf iv).toNat)
 case atStart=>exact⟨0,δ,rfl,hw3⟩
 case round=>
  obtain⟨k,hk,rfl,hr0⟩:=hrel;clear hw3
  by_cases hlt:k<10
  ·have hl0:=HL.o k;have hu0:=HU.o k;have HD:=HDS.o k;generalize tL ws k=x0 at hr0 hl0 hu0 HD;unfold xK9 at HD
   rename World=>wr0
   go_wp2_with fail
   refine(xB3 x0 (w.heap.size+2) 0 4 8 12 wr0 hr0.o.b3 hl0 hu0 δ δ δ δ δ).mono ?_;rintro e wr1 ⟨rfl,hst,hgr⟩;obtain⟨x1,hx1⟩:=eX (xBq x0 0 4 8 12);have hl1:x1.length=16:=hx1▸pM _ _ _ _ _;have hu1:qV x1:=hx1▸qR hu0 _ _ _ _;rw[hx1] at hst HD
   have hr1:=ι (hr0.o.turned hst hgr);clear hst hgr hx1 hr0 hl0 hu0;go_wp2_with fail
   refine(xB3 x1 (w.heap.size+2) 1 5 9 13 wr1 hr1.o.b3 hl1 hu1 δ δ δ δ δ).mono ?_;rintro e wr2 ⟨rfl,hst,hgr⟩;obtain⟨x2,hx2⟩:=eX (xBq x1 1 5 9 13);have hl2:x2.length=16:=hx2▸pM _ _ _ _ _;have hu2:qV x2:=hx2▸qR hu1 _ _ _ _;rw[hx2] at hst HD
   have hr2:=ι (hr1.o.turned hst hgr);clear hst hgr hx2 hr1 hl1 hu1;go_wp2_with fail
   refine(xB3 x2 (w.heap.size+2) 2 6 10 14 wr2 hr2.o.b3 hl2 hu2 δ δ δ δ δ).mono ?_;rintro e wr3 ⟨rfl,hst,hgr⟩;obtain⟨x3,hx3⟩:=eX (xBq x2 2 6 10 14);have hl3:x3.length=16:=hx3▸pM _ _ _ _ _;have hu3:qV x3:=hx3▸qR hu2 _ _ _ _;rw[hx3] at hst HD
   have hr3:=ι (hr2.o.turned hst hgr);clear hst hgr hx3 hr2 hl2 hu2;go_wp2_with fail
   refine(xB3 x3 (w.heap.size+2) 3 7 11 15 wr3 hr3.o.b3 hl3 hu3 δ δ δ δ δ).mono ?_;rintro e wr4 ⟨rfl,hst,hgr⟩;obtain⟨x4,hx4⟩:=eX (xBq x3 3 7 11 15);have hl4:x4.length=16:=hx4▸pM _ _ _ _ _;have hu4:qV x4:=hx4▸qR hu3 _ _ _ _;rw[hx4] at hst HD
   have hr4:=ι (hr3.o.turned hst hgr);clear hst hgr hx4 hr3 hl3 hu3;go_wp2_with fail
   refine(xB3 x4 (w.heap.size+2) 0 5 10 15 wr4 hr4.o.b3 hl4 hu4 δ δ δ δ δ).mono ?_;rintro e wr5 ⟨rfl,hst,hgr⟩;obtain⟨x5,hx5⟩:=eX (xBq x4 0 5 10 15);have hl5:x5.length=16:=hx5▸pM _ _ _ _ _;have hu5:qV x5:=hx5▸qR hu4 _ _ _ _;rw[hx5] at hst HD
   have hr5:=ι (hr4.o.turned hst hgr);clear hst hgr hx5 hr4 hl4 hu4;go_wp2_with fail
   refine(xB3 x5 (w.heap.size+2) 1 6 11 12 wr5 hr5.o.b3 hl5 hu5 δ δ δ δ δ).mono ?_;rintro e wr6 ⟨rfl,hst,hgr⟩;obtain⟨x6,hx6⟩:=eX (xBq x5 1 6 11 12);have hl6:x6.length=16:=hx6▸pM _ _ _ _ _;have hu6:qV x6:=hx6▸qR hu5 _ _ _ _;rw[hx6] at hst HD
   have hr6:=ι (hr5.o.turned hst hgr);clear hst hgr hx6 hr5 hl5 hu5;go_wp2_with fail
   refine(xB3 x6 (w.heap.size+2) 2 7 8 13 wr6 hr6.o.b3 hl6 hu6 δ δ δ δ δ).mono ?_;rintro e wr7 ⟨rfl,hst,hgr⟩;obtain⟨x7,hx7⟩:=eX (xBq x6 2 7 8 13);have hl7:x7.length=16:=hx7▸pM _ _ _ _ _;have hu7:qV x7:=hx7▸qR hu6 _ _ _ _;rw[hx7] at hst HD
   have hr7:=ι (hr6.o.turned hst hgr);clear hst hgr hx7 hr6 hl6 hu6;go_wp2_with fail
   refine(xB3 x7 (w.heap.size+2) 3 4 9 14 wr7 hr7.o.b3 hl7 hu7 δ δ δ δ δ).mono ?_;rintro e wr8 ⟨rfl,hst,hgr⟩;obtain⟨x8,hx8⟩:=eX (xBq x7 3 4 9 14);have hl8:x8.length=16:=hx8▸pM _ _ _ _ _;have hu8:qV x8:=hx8▸qR hu7 _ _ _ _;rw[hx8] at hst HD
   have hr8:=ι (hr7.o.turned hst hgr);clear hst hgr hx8 hr7 hl7 hu7;have HDk:=ι HD;clear HD hl8 hu8;go_wp2;exact⟨⟨k+1,ω,by go_num,ι (by rw[HDk.o];exact hr8.o)⟩,by simp[intOf];omega⟩
  ·have hke:k=10:=ω;have HPk:Hid (∀m,m=16->xAf ws=xZa ws (tL ws k) m):=ι (λm hm=>by rw[hke,hm];rfl);have hxl:=HL.o k;have hxu:=HU.o k;have hneg:¬((k:Int)<10):=ω;generalize tL ws k=xs at hr0 HPk hxl hxu;have HXU:=ι hxu;have HWU:=ι hu
   have HIx:Hid ((prog.info? 229).map (·.size)=some (zJ xs).size):=ι (by rw[zK,hxl];kernel_rfl)
   have HO:Hid (FnI w ws xs (wr.alloc (.cells (yO (xO 64)) 232))/\(wr.alloc (.cells (yO (xO 64)) 232)).heap[wr.heap.size]?=some (.cells (yO (xZa ws xs 0)) 232 (0,0))):=ι ⟨⟨xN hr0.o.b1 _,xN hr0.o.b2 _,xN hr0.o.b3 _,hr0.o.bel.alloc hr0.o.bel.size _⟩,xJ _ _⟩
   have HG:Hid (w.heap.size+2<wr.heap.size):=ι (xH hr0.o.b3);have HB3:=ι (xN hr0.o.b3 (.cells (yO (xO 64)) 232));clear HL HU HDS hke hlt hk hxu hu hr0;go_upto_region 14 with fail
   refine Bi ?_;refine Ao rfl _ _ rfl (w.heap.size+1+1) rfl _ (zJ xs) (0,0) _ HB3.o underlying229 rfl HIx.o ?_;refine(λ(h:∀W3,Hid (FnI w ws xs W3/\W3.heap[wr.heap.size]?=some (.cells (yO (xZa ws xs 0)) 232 (0,0)))->wpList _ _ _ _ _ W3)=>h _ HO) ?_
   intro w4 hw4;generalize wr.heap.size=g4 at HG hw4⊢;clear HO HB3 hneg;go_wp2_with fail
   go_loopw [21] (λiv W=>∃i:Nat,i<=16/\iv=.int .i64 i/\Hid (FnI w ws xs W/\W.heap[g4]?=some (.cells (yO (xZa ws xs i)) 232 (0,0)))) (λiv _=>16- (intOf iv).toNat)
   case atStart=>exact⟨0,δ,rfl,hw4⟩
   case round=>
    clear hw4
    rename World=>wi
    obtain⟨i,hi,rfl,hr⟩:=hrel
    by_cases hlt:i<16
    ·have HOS:Hid (∀m,m=4->xZa ws xs (i+1)=yEz (xZa ws xs i) i ((xs.getD i 0+ws.getD i 0) % 4294967296) m):=ι (λm hm=>by rw[hm];rfl);have HOL:=ι (xI5 ws xs i);have HJL:=ι (λ(l:Bs) (x:Int) (j:Nat)=>xNk l i x j);obtain⟨x,hx⟩:=eX (xs.getD i 0)
     obtain⟨s,hs⟩:=eX (ws.getD i 0);have ux:=HXU.o i;have us:=HWU.o i;rw[hx] at ux HOS;rw[hs] at us HOS;have ix:=λW=>kR (P:=prog) underlying229 underlying181 κ (zJ xs) (.int .u32 x) i hlt (by rw[wG ω,hx]) W
     have q0:wi.cell? (θ w.heap.size i)=some (.int .u32 s):=by rw[xA hr.o.1.b1,wG ω,hs]
     obtain⟨x0,x1⟩:=ux;obtain⟨s0,s1⟩:=us;clear hx hs;generalize xZa ws xs i=acc at hr HOS HOL;go_upto_region 18 with fail
     clear ix q0;have hz:=jV (x+s);generalize (x+s) % 4294967296=z at HOS hz⊢;obtain⟨z0,z1⟩:=hz;clear x0 x1 s0 s1;go_wp2_with fail
     go_loopw [30] (λjv W=>∃j:Nat,j<=4/\jv=.int .i64 j/\Hid (FnI w ws xs W/\W.heap[g4]?=some (.cells (yO (yEz acc i z j)) 232 (0,0)))) (λjv _=>4- (intOf jv).toNat)
     case atStart=>exact⟨0,δ,rfl,hr⟩
     case round=>
      clear hr
      rename World=>wj
      obtain⟨j,hj,rfl,hr⟩:=hrel
      by_cases hlt2:j<4
      ·have HJS:Hid (yEz acc i z (j+1)=(yEz acc i z j).set (4*i+j) (oct (z / 2^(8*j)))):=ι rfl;have HJk:=HJL.o acc z j;generalize yEz acc i z j=l at hr HJS HJk;have q1:=xA hr.o.2 (4*i+j);rw[xAp (by rw[HJk,HOL.o];omega)] at q1;have q2:=xG hr.o.2 (4*i+j)
       generalize ((l.getD (4*i+j) 0).toNat:Int)=old at q1
       have hp:Hid (FnI w ws xs (wj.setCell ⟨g4,4*i+j,none⟩ (.int .u8 (z / 2^(8*j) % 256)))/\(wj.setCell ⟨g4,4*i+j,none⟩ (.int .u8 (z / 2^(8*j) % 256))).heap[g4]?=some (.cells (yO (yEz acc i z (j+1))) 232 (0,0))):=ι (by
        have hg:=HG.o;refine⟨⟨yA hr.o.1.b1 (p:=⟨g4,4*i+j,none⟩) (by simp;omega) _,yA hr.o.1.b2 (p:=⟨g4,4*i+j,none⟩) (by simp;omega) _,yA hr.o.1.b3 (p:=⟨g4,4*i+j,none⟩) (by simp;omega) _,hr.o.1.bel.setCell (p:=⟨g4,4*i+j,none⟩) (by simp;omega) _⟩,?_⟩
        have h:=yD hr.o.2 (4*i+j) (.int .u8 (z / 2^(8*j) % 256));rw[xG7] at h;rw[HJS.o];exact h)
       clear hr HJk;go_wp2;exact⟨⟨j+1,ω,by go_num,hp⟩,by simp[intOf];omega⟩
      ·have hje:j=4:=ω;have HOk:=ι (HOS.o j hje);have hneg:¬((j:Int)<4):=ω;clear HOS hlt2 hj hje;go_wp2;exact⟨⟨i+1,ω,by go_num,ι (by rw[HOk.o];exact hr.o)⟩,by simp[intOf];omega⟩
    ·have hie:i=16:=ω;have HPi:=ι (HPk.o i hie);have hol:=xI5 ws xs i;have hneg:¬((i:Int)<16):=ω;generalize xZa ws xs i=out at hr HPi hol;have HI8:Hid ((prog.info? 232).map (·.size)=some (yO out).size):=ι (by rw[wJ,hol];kernel_rfl)
     have HZ8:Hid ((yO (xO 64)).size=(yO out).size):=ι (by rw[wJ,wJ,hol,yR]);have H18:Hid ((yO out).all (·.oneCell')=true):=ι (Ep.2 (λv hv=>xOh out v (by simpa using hv)));clear HPk hlt hi hie hol;go_upto_region 24 with fail
     refine Bi ?_;refine Ao rfl _ _ rfl g4 rfl _ (yO out) (0,0) _ hr.o.2 underlying232 rfl HI8.o ?_;refine Av rfl _ _ _ rfl (w.heap.size+1) (yO out) rfl rfl _ _ hr.o.1.b2 HI8.o HZ8.o H18.o ?_;go_wp2
     refine Ak (Dn rfl _ _ (w.heap.size+1) _ _ (0,0) _ rfl (Bp _ _ _ _ _ _ hr.o.1.b2) underlying232 rfl HI8.o) rfl ?_;rw[HPi.o];exact⟨rfl,Bn hr.o.1.bel ω _⟩
end Go.Proofs.SH
namespace Mailsack
def xTi:ByteArray:=⟨#[101,120,112,97,110,100,32,51,50,45,98,121,116,101,32,107]⟩
def xAi (key xB:ByteArray) (counter:Int):List Int:=xDi ((xDi (xDi (List.replicate 16 0) 0 xTi 4) 4 key 8).set 12 counter) 13 xB 3
theorem yJc (n:Nat):qV (List.replicate n 0):=by
 intro i;rw[Aa,Fa];split<;>exact⟨δ,δ⟩
theorem xHb (key xB:ByteArray) (counter:Int):(xAi key xB counter).length=16:=by
 unfold xAi;rw[xA3,Bf,xA3,xA3,Cv]
theorem xWe (key xB:ByteArray) {counter:Int} (h:U32 counter):qV (xAi key xB counter):=xOe ((xOe (xOe (yJc 16) _ _ _) _ _ _).set 12 h) _ _ _
end Mailsack
namespace Go.Proofs.SH
open Go.RowKit Mailsack MM BB
theorem results_cell_tmp {P:Program} {fn:Func} {p u:Tmp} {ty:TypeId} (h:fn.results=#[.cell p ty,.tmp u]) (tmps:Array Value) (w:World) (g:Nat) (t:TypeId) (cs:Array Value) (fr:Nat×Nat) (d:TypeDesc)
  (hp:tmps.getD p undef=.pointer (some (θ g 0))) (hg:w.heap[g]?=some (.cells cs t fr))
  (hu:P.underlying ty=some d) (hd:(match d with|.struct _|.array _ _=>true|_=>false)=true) (hi:(P.info? ty).map (·.size)=some cs.size):
  (results fn tmps).run P w=.ok (.tuple #[.agg cs,tmps.getD u undef]) w:=by
 have hp':tmps[p]?.getD undef=.pointer (some (θ g 0)):=by simpa using hp
 simp[results,h,hp',asAddr,run_loadVar_row w g t ty cs fr d hg hu hd hi]
structure BegI (w:World) (xs:List Int) (W:World):Prop where
 res:W.heap[w.heap.size]?=some (.cells (zJ (List.replicate 16 0)) 229 (0,0))
 st:W.heap[w.heap.size+1]?=some (.cells (zJ xs) 229 (0,0))
 bel:ψ w W
theorem BegI.filled {w:World} {xs ys:List Int} {W W':World} (h:BegI w xs W) (hst:W'.heap[w.heap.size+1]?=some (.cells (zJ ys) 229 (0,0))) (hg:W.grownBy W' (some (w.heap.size+1))):BegI w ys W':=
 ⟨rC h.res hg σ,hst,h.bel.grown hg h.bel.size (λk hk=>by injection hk with hk;omega)⟩
theorem xWd (key xB:ByteArray) (counter:Int) (w:World) (hk:key.size=32) (hn:xB.size=12):
  Calls prog 157 #[.string key,.string xB,.int .u32 counter] w (pv (.tuple #[.agg (zJ (xAi key xB counter)),.bool true]) w):=by
 have HB:Hid (BegI w (List.replicate 16 0) ((w.alloc (.cells (zJ (List.replicate 16 0)) 229)).alloc (.cells (zJ (List.replicate 16 0)) 229))):=ι ⟨zM _ _ _,zI _ _ _,(φ w _).alloc σ _⟩;obtain⟨x1,hx1⟩:=eX (xDi (List.replicate 16 0) 0 xTi 4)
 have hl1:x1.length=16:=by rw[<-hx1,xA3,Cv]
 obtain⟨x2,hx2⟩:=eX (xDi x1 4 key 8);have hl2:x2.length=16:=by rw[<-hx2,xA3,hl1]
 obtain⟨x3,hx3⟩:=eX (x2.set 12 counter);have hl3:x3.length=16:=by rw[<-hx3,Bf,hl2]
 obtain⟨x4,hx4⟩:=eX (xDi x3 13 xB 3);have hl4:x4.length=16:=by rw[<-hx4,xA3,hl3]
 have HP:Hid (xAi key xB counter=x4):=ι (by unfold xAi;rw[hx1,hx2,hx3,hx4]);have F1:=ι (λW h=>xB6 (List.replicate 16 0) (w.heap.size+1) 0 4 16 xTi W h σ δ δ);have F2:=ι (λW h=>xB6 x1 (w.heap.size+1) 4 8 12 key W h ω ω δ)
 have F3:=ι (λW h=>xB6 x3 (w.heap.size+1) 13 3 3 xB W h ω ω δ);rw[hx1] at F1;rw[hx2] at F2;rw[hx4] at F3;have HX3:=ι hx3;have h2:((key.size:Int)!=32)=false:=by simp[hk]
 have h3:((xB.size:Int)!=12)=false:=by simp[hn]
 have HI:Hid ((prog.info? 229).map (·.size)=some (zJ x4).size):=ι (by rw[zK,hl4];kernel_rfl);have HZ:Hid ((zJ (List.replicate 16 0)).size=(zJ x4).size):=ι (by rw[zK,zK,hl4,Cv]);have HL2:=ι hl2;clear hx1 hx2 hx3 hx4 hk hn hl1 hl3 hl4 hl2
 go_enter func157,ntmps157;go_wp2_with fail
 refine(F1.o _ HB.o.st).mono ?_;rintro e w1 ⟨rfl,hst,hgr⟩;have H1:=ι (HB.o.filled hst hgr);clear hst hgr HB F1 h2 h3;go_wp2_with fail
 refine(F2.o _ H1.o.st).mono ?_;rintro e w2 ⟨rfl,hst,hgr⟩;have H2:=ι (H1.o.filled hst hgr);clear hst hgr H1 F2;have q1:=xA H2.o.st 12;rw[wG (by rw[HL2.o];decide)] at q1;have q2:=xG H2.o.st 12;generalize x2.getD 12 0=old at q1
 have H3:Hid (BegI w x3 (w2.setCell (θ (w.heap.size+1) 12) (.int .u32 counter))):=ι (by
  refine⟨yA H2.o.res (p:=(θ (w.heap.size+1) 12)) σ _,?_,H2.o.bel.setCell (p:=(θ (w.heap.size+1) 12)) σ _⟩;have h:=yD H2.o.st 12 (.int .u32 counter);rw[xG6,HX3.o] at h;exact h)
 go_wp2_with fail
 clear q1 q2 H2;refine(F3.o _ H3.o.st).mono ?_;rintro e w4 ⟨rfl,hst,hgr⟩;have H4:=ι (H3.o.filled hst hgr);clear hst hgr H3 F3;go_upto_region 8 with fail
 refine Bi ?_;refine Ao rfl _ _ rfl (w.heap.size+1) rfl _ (zJ x4) (0,0) _ H4.o.st underlying229 rfl HI.o ?_;refine Av rfl _ _ _ rfl w.heap.size (zJ x4) rfl rfl _ _ H4.o.res HI.o HZ.o (xB7 x4) ?_;go_wp2
 refine Ak (results_cell_tmp rfl _ _ w.heap.size _ _ (0,0) _ rfl (Bp _ _ _ _ _ _ H4.o.res) underlying229 rfl HI.o) rfl ?_;rw[HP.o];exact⟨rfl,Bn H4.o.bel ν _⟩
end Go.Proofs.SH
namespace Mailsack
def xGk (key xB:ByteArray) (counter:Int):Bs:=xAf (xAi key xB counter)
end Mailsack
namespace Go.Proofs.SH
open Go.RowKit Mailsack MM BB
theorem xFg {W:World} {g:Nat} {l:Bs} {t:TypeId} (h:W.heap[g]?=some (.cells (yO l) t (0,0))) (n cap:Nat) (hn:l.length=n):(convert 96 9 (.slice (some (θ g 0)) n cap)).run prog W=.ok (.string (bsA l)) W:=by
 subst hn
 exact Dl (P:=prog) W 96 9 5 (θ g 0) cap l underlying96 underlying5 underlying9 (λj hj=>by
  have hadd:(⟨g,0,none⟩:Addr).add j=⟨g,j,none⟩:=by unfold Addr.add;split<;>simp_all
  rw[hadd,xA h,xAp hj,Aa,Af hj]
  rfl)
theorem xTu (key xB:ByteArray) (counter:Int) (w:World) (hk:key.size=32) (hn:xB.size=12) (hc:U32 counter):
  Calls prog 159 #[.string key,.string xB,.int .u32 counter] w (pv (.tuple #[.string (bsA (xGk key xB counter)),.bool true]) w):=by
 have HB:=ι (xWd key xB counter w hk hn);have HF:=ι (λW=>xMd (xAi key xB counter) W (xHb _ _ _) (xWe _ _ hc));have hl:=xHb key xB counter;have HP:Hid (bsA (xGk key xB counter)=bsA (xAf (xAi key xB counter))):=ι rfl;have HFL:=ι (xF4 (xAi key xB counter))
 generalize xAi key xB counter=xs at HB HF hl HP HFL;generalize xAf xs=fo at HF HP HFL;have HI:Hid ((prog.info? 229).map (·.size)=some (zJ xs).size):=ι (by rw[zK,hl];kernel_rfl)
 have HO:Hid ((zJ (List.replicate 16 0)).size=(zJ xs).size):=ι (by rw[zK,zK,hl,Cv]);have HI8:Hid ((prog.info? 232).map (·.size)=some (yO fo).size):=ι (by rw[wJ,HFL.o];kernel_rfl);have HO8:Hid ((yO (xO 64)).size=(yO fo).size):=ι (by rw[wJ,wJ,HFL.o,yR])
 have H18:Hid ((yO fo).all (·.oneCell')=true):=ι (Ep.2 (λv hv=>xOh fo v (by simpa using hv)));have HSZ:Hid ((zJ xs).size=16):=ι (by rw[zK,hl]);have HSZ8:Hid ((yO fo).size=64):=ι (by rw[wJ,HFL.o]);clear hl hk hn hc;go_enter func159,ntmps159
 go_wp2_with fail
 refine HB.o.mono ?_;rintro e w1 ⟨rfl,hb1⟩;have B1:=ι hb1;clear hb1 HB
 have hst:(storeCells (θ w1.heap.size 0) (zJ xs).toList).run prog (w1.alloc (.cells #[.int .u32 0,.int .u32 0,.int .u32 0,.int .u32 0,.int .u32 0,.int .u32 0,.int .u32 0,.int .u32 0,.int .u32 0,.int .u32 0,.int .u32 0,.int .u32 0,.int .u32 0,.int .u32 0,.int .u32 0,.int .u32 0] 229))=.ok () (w1.alloc (.cells (zJ xs) 229)):=run_storeCells_new w1 _ _ _ HI.o HO.o (xB7 xs)
 have hsz:=HSZ.o;have B2:=ι (B1.o.alloc B1.o.size (.cells (zJ xs) 229));go_upto_region 4 with fail
 clear hst hsz;refine Bi ?_;refine Ao rfl _ _ rfl w1.heap.size rfl _ (zJ xs) (0,0) _ (xJ _ _) underlying229 rfl HI.o ?_;go_wp2_with fail
 refine cM (HF.o _) λw3 hb3=>?_;have B3:=ι (bT B2.o hb3);clear hb3 HF B1 B2
 have hst:(storeCells (θ w3.heap.size 0) (yO fo).toList).run prog (w3.alloc (.cells #[.int .u8 0,.int .u8 0,.int .u8 0,.int .u8 0,.int .u8 0,.int .u8 0,.int .u8 0,.int .u8 0,.int .u8 0,.int .u8 0,.int .u8 0,.int .u8 0,.int .u8 0,.int .u8 0,.int .u8 0,.int .u8 0,.int .u8 0,.int .u8 0,.int .u8 0,.int .u8 0,.int .u8 0,.int .u8 0,.int .u8 0,.int .u8 0,.int .u8 0,.int .u8 0,.int .u8 0,.int .u8 0,.int .u8 0,.int .u8 0,.int .u8 0,.int .u8 0,.int .u8 0,.int .u8 0,.int .u8 0,.int .u8 0,.int .u8 0,.int .u8 0,.int .u8 0,.int .u8 0,.int .u8 0,.int .u8 0,.int .u8 0,.int .u8 0,.int .u8 0,.int .u8 0,.int .u8 0,.int .u8 0,.int .u8 0,.int .u8 0,.int .u8 0,.int .u8 0,.int .u8 0,.int .u8 0,.int .u8 0,.int .u8 0,.int .u8 0,.int .u8 0,.int .u8 0,.int .u8 0,.int .u8 0,.int .u8 0,.int .u8 0,.int .u8 0] 232))=.ok () (w3.alloc (.cells (yO fo) 232)):=run_storeCells_new w3 _ _ _ HI8.o HO8.o H18.o
 have hsz:=HSZ8.o;have ht:=xFg (xJ w3 (.cells (yO fo) 232)) 64 64 HFL.o;have B4:=ι (B3.o.alloc B3.o.size (.cells (yO fo) 232));go_wp2;go_ret2;rw[HP.o];exact⟨rfl,B4.o⟩
end Go.Proofs.SH
namespace Mailsack
def rH (xs:List Int):Nat->List Int
 |0=>xs
 |k+1=>(rH xs k).set 12 (((rH xs k).getD 12 0+1) % 4294967296)
theorem xLi (xs:List Int):∀k,(rH xs k).length=xs.length
 |0=>rfl
 |k+1=>by simp[rH,xLi xs k]
theorem xUi {xs:List Int} (h:qV xs):∀k,qV (rH xs k)
 |0=>h
 |k+1=>(xUi h k).set 12 (jV _)
def xRz (l:Bs) (off:Nat) (blk:Bs):Nat->Bs
 |0=>l
 |i+1=>(xRz l off blk i).set (off+i) (oct (Go.bits .xor .u8 (((xRz l off blk i).getD (off+i) 0).toNat:Int) ((blk.getD i 0).toNat:Int)))
theorem xHy (l:Bs) (off:Nat) (blk:Bs):∀i,(xRz l off blk i).length=l.length
 |0=>rfl
 |i+1=>by simp[xRz,xHy l off blk i]
def xEe (l:Bs) (xs:List Int):Nat->Bs
 |0=>l
 |k+1=>xRz (xEe l xs k) (64*k) (xAf (rH xs k)) (min 64 (l.length-64*k))
theorem xFd (l:Bs) (xs:List Int):∀k,(xEe l xs k).length=l.length
 |0=>rfl
 |k+1=>by unfold xEe;rw[xHy,xFd l xs k]
def wS (key xB:ByteArray) (counter:Int) (s:ByteArray):Bs:=xEe s.data.toList (xAi key xB counter) ((s.size+63) / 64)
theorem kP (key xB:ByteArray) (counter:Int) (s:ByteArray):(wS key xB counter s).length=s.size:=by
 unfold wS;rw[xFd];simp
end Mailsack
namespace Go.Proofs.SH
open Go.RowKit Mailsack MM BB
structure xRw (W:World) (g:Nat) (l:Bs):Prop where
 cell:∀j,j<l.length->W.cell? (θ g j)=some (.int .u8 ((l.getD j 0).toNat:Int))
 free:∀j,j<l.length->W.frozen? (θ g j)=false
theorem xRw.put {W:World} {g:Nat} {l:Bs} (h:xRw W g l) {p:Nat} (hp:p<l.length) {z:Int} (h0:0<=z) (h1:z<256):xRw (W.setCell (θ g p) (.int .u8 z)) g (l.set p (oct z)):=by
 refine⟨λj hj=>?_,λj hj=>?_⟩
 ·rw[Bf] at hj
  by_cases e:j=p
  ·subst e;rw[World.cell?_setCell_same _ _ _ (h.cell j hj),Aa,Co,Ah rfl,Ah hj];simp[wW];omega
  ·rw[Et _ _ _ _ (λe'=>e (by injection e' with _ e';exact e'.symm)),h.cell j hj,Aa,Aa,Co,Ag (En e)]
 ·rw[Bf] at hj;rw[World.frozen?_setCell];exact h.free j hj
theorem xRw.keep {W W':World} {g:Nat} {l:Bs} (h:xRw W g l) (hb:W'.heap[g]?=W.heap[g]?):xRw W' g l:=
 ⟨λj hj=>(World.cell?_of_block (w:=W) (a:=θ g j) hb).trans (h.cell j hj),λj hj=>(World.frozen?_of_block (w:=W) (a:=θ g j) hb).trans (h.free j hj)⟩
theorem xRw.start (W:World) (s:ByteArray):xRw (Lib.bytesWorld W 5 s) W.heap.size s.data.toList:=by
 have hsl:s.data.toList.length=s.size:=σ;refine⟨λj hj=>Lib.bytesWorld_cell W _ s j ω,λj hj=>?_⟩;simp only[World.frozen?,Lib.bytesWorld_at_new];have hz:(Lib.bytesCells W 5 s).size=s.data.size+(grownCap W s.size 0 5-s.size):=by simp[Lib.bytesCells]
 have hs:s.data.size=s.size:=rfl;simp;omega
theorem xRw.text {W:World} {g:Nat} {l:Bs} (h:xRw W g l) (n cap:Nat) (hn:l.length=n):(convert 96 9 (.slice (some (θ g 0)) n cap)).run prog W=.ok (.string (bsA l)) W:=by
 subst hn
 exact Dl (P:=prog) W 96 9 5 (θ g 0) cap l underlying96 underlying5 underlying9 (λj hj=>by
  have hadd:(⟨g,0,none⟩:Addr).add j=⟨g,j,none⟩:=by unfold Addr.add;split<;>simp_all
  rw[hadd,h.cell j hj,Aa,Af hj]
  rfl)
structure TuI (w:World) (g1 g2:Nat) (xs:List Int) (l:Bs) (W:World):Prop where
 st:W.heap[g1]?=some (.cells (zJ xs) 229 (0,0))
 o:xRw W g2 l
 bel:ψ w W
 lo:w.heap.size<=g1
 lt:g1<g2
 hi:g2<W.heap.size
theorem TuI.below {w:World} {g1 g2:Nat} {xs:List Int} {l:Bs} {W W':World} (h:TuI w g1 g2 xs l W) (hb:ψ W W'):TuI w g1 g2 xs l W':=
 ⟨xC h.st hb (xH h.st),h.o.keep (hb.block g2 h.hi),bT h.bel hb,h.lo,h.lt,Bt h.hi hb.size⟩
theorem TuI.alloc {w:World} {g1 g2:Nat} {xs:List Int} {l:Bs} {W:World} (h:TuI w g1 g2 xs l W) (o:Obj):TuI w g1 g2 xs l (W.alloc o):=h.below (φ W o)
theorem TuI.drew {w:World} {g1 g2:Nat} {xs:List Int} {l:Bs} {W:World} (h:TuI w g1 g2 xs l W):TuI w g1 g2 xs l W.drew:=⟨h.st,⟨h.o.cell,h.o.free⟩,h.bel.drew,h.lo,h.lt,h.hi⟩
theorem TuI.put {w:World} {g1 g2:Nat} {xs:List Int} {l:Bs} {W:World} (h:TuI w g1 g2 xs l W) {p:Nat} (hp:p<l.length) {z:Int} (h0:0<=z) (h1:z<256):TuI w g1 g2 xs (l.set p (oct z)) (W.setCell (θ g2 p) (.int .u8 z)):=
 ⟨yA h.st (p:=θ g2 p) (by have:=h.lt;simp;omega) _,h.o.put hp h0 h1,h.bel.setCell (p:=θ g2 p) (by have:=h.lo;have:=h.lt;simp;omega) _,h.lo,h.lt,by rw[size_set];exact h.hi⟩
theorem TuI.step {w:World} {g1 g2:Nat} {xs:List Int} {l:Bs} {W:World} (h:TuI w g1 g2 xs l W) (z:Int):TuI w g1 g2 (xs.set 12 z) l (W.setCell (θ g1 12) (.int .u32 z)):=by
 refine⟨?_,h.o.keep (Gs W (θ g1 12) _ g2 (by have:=h.lt;simp;omega)),h.bel.setCell (p:=θ g1 12) h.lo _,h.lo,h.lt,by rw[size_set];exact h.hi⟩;have:=yD h.st 12 (.int .u32 z);rw[xG6] at this;exact this
theorem xH4 (key xB:ByteArray) (counter:Int) (s:ByteArray) (w:World) (hk:key.size=32) (hn:xB.size=12) (hc:U32 counter) (hs:s.size<=1099511627776):
  Calls prog 113 #[.string key,.string xB,.int .u32 counter,.string s] w (pv (.tuple #[.string (bsA (wS key xB counter s)),.bool true]) w):=by
 have HB:=ι (xWd key xB counter w hk hn);have hl:=xHb key xB counter;have hu:=xWe key xB hc;have HP:Hid (∀k,k=(s.size+63) / 64->wS key xB counter s=xEe s.data.toList (xAi key xB counter) k):=ι (λk hk=>by rw[hk];rfl);generalize xAi key xB counter=xs at HB hl hu HP
 have hsl:s.data.toList.length=s.size:=σ;have HI:Hid ((prog.info? 229).map (·.size)=some (zJ xs).size):=ι (by rw[zK,hl];kernel_rfl);have HO:Hid ((zJ (List.replicate 16 0)).size=(zJ xs).size):=ι (by rw[zK,zK,hl,Cv])
 have HSZ:Hid ((zJ xs).size=16):=ι (by rw[zK,hl]);have HXL:Hid (∀k,(rH xs k).length=16):=ι (λk=>by rw[xLi,hl]);have HXU:=ι (λk=>xUi hu k);have HTL:Hid (∀k,(xEe s.data.toList xs k).length=s.size):=ι (λk=>by rw[xFd,hsl])
 have HTS:Hid (∀k m,m=min 64 (s.size-64*k)->xEe s.data.toList xs (k+1)=xRz (xEe s.data.toList xs k) (64*k) (xAf (rH xs k)) m):=ι (λk m hm=>by rw[hm,<-hsl];rfl);have HXS:Hid (∀k,rH xs (k+1)=(rH xs k).set 12 (((rH xs k).getD 12 0+1) % 4294967296)):=ι (λk=>rfl)
 have xTa:=λW=>Lib.run_convert_string_bytes (P:=prog) W 9 96 5 s underlying9 underlying96 underlying5;have HS:=ι hs;clear hl hu hk hn hc;go_enter func113,ntmps113;go_wp2_with fail
 refine HB.o.mono ?_;rintro e w1 ⟨rfl,hb1⟩;have B1:=ι hb1;clear hb1 HB
 have hst:(storeCells (θ w1.heap.size 0) (zJ xs).toList).run prog (w1.alloc (.cells #[.int .u32 0,.int .u32 0,.int .u32 0,.int .u32 0,.int .u32 0,.int .u32 0,.int .u32 0,.int .u32 0,.int .u32 0,.int .u32 0,.int .u32 0,.int .u32 0,.int .u32 0,.int .u32 0,.int .u32 0,.int .u32 0] 229))=.ok () (w1.alloc (.cells (zJ xs) 229)):=run_storeCells_new w1 _ _ _ HI.o HO.o (xB7 xs)
 have hsz:=HSZ.o
 have HT:Hid (TuI w w1.heap.size (w1.heap.size+1) (rH xs 0) (xEe s.data.toList xs 0) (Lib.bytesWorld (w1.alloc (.cells (zJ xs) 229)) 5 s)):=ι (by
  have hz:(w1.alloc (.cells (zJ xs) 229)).heap.size=w1.heap.size+1:=σ;have ho:=xRw.start (w1.alloc (.cells (zJ xs) 229)) s;rw[hz] at ho
  refine⟨?_,ho,(B1.o.alloc B1.o.size (.cells (zJ xs) 229)).trans ⟨rfl,rfl,rfl,by rw[Lib.bytesWorld_size];omega,λk hk=>Lib.bytesWorld_at_old _ _ s k (by have:=B1.o.size;omega)⟩,B1.o.size,Nat.lt_succ_self _,by rw[Lib.bytesWorld_size,hz];omega⟩;rw[Lib.bytesWorld_at_old _ _ _ _ ω]
  exact xJ _ _)
 have HG:Hid (w.heap.size<=w1.heap.size):=ι B1.o.size;go_upto_region 5 with fail
 have hcap:s.size<=grownCap (w1.alloc (.cells (zJ xs) 229)) s.size 0 5:=grownCap_ge _ _ _ _;generalize grownCap _ _ _ _=cap at hcap⊢;generalize Lib.bytesWorld (w1.alloc (.cells (zJ xs) 229)) 5 s=w2 at HT⊢;clear hst hsz xTa HO HI HSZ B1;generalize w1.heap.size=g1 at HT HG⊢
 go_wp2_with fail
 go_loopw [13] (λrv wr=>∃k off c2:Nat,off=min (64*k) s.size/\64*k<s.size+64/\(∃A:Option Addr,rv=.slice A (s.size-off) c2/\s.size-off<=c2/\(off<s.size->A=some (θ (g1+1) off)))/\Hid (TuI w g1 (g1+1) (rH xs k) (xEe s.data.toList xs k) wr)) (λrv _=>match rv with|.slice _ m _=>m|_=>0)
 case atStart=>exact⟨0,0,cap,σ,ω,⟨_,rfl,hcap,λ_=>rfl⟩,HT⟩
 case round=>
  obtain⟨k,off,c2,hoff,hk,⟨A,rfl,hc2,hA⟩,hr⟩:=hrel;clear HT
  by_cases hlt:64*k<s.size
  ·obtain rfl:off=64*k:=ω;obtain rfl:=hA ω;clear hA;have hpos:0<s.size-64*k:=ω;obtain⟨m,hm⟩:=eX (s.size-64*k);have HTSk:=ι (HTS.o k);rw[hm] at hpos HTSk hc2⊢;have HMS:Hid (64*k+m=s.size):=ι ω;have HKL:=ι hlt;clear hoff hk hm hlt;go_upto_region 8 with fail
   have hsz:(min 64 (m:Int))=((min 64 m:Nat):Int):=ω;rw[hsz];obtain⟨z,hz⟩:=eX (min 64 m);have HTSz:=ι (HTSk.o z hz.symm);have HZM:Hid (z<=m/\z<=64/\0<z/\(z=64∨z=m)):=ι ω;rw[hz];clear hsz hz HTSk;have hxl:=HXL.o k;have hxu:=HXU.o k;have hll:=HTL.o k
   have HXSk:=ι (HXS.o k);obtain⟨xk1,hxk1⟩:=eX (rH xs (k+1));obtain⟨lk1,hlk1⟩:=eX (xEe s.data.toList xs (k+1));rw[hxk1] at HXSk;rw[hlk1] at HTSz;have HXK:=ι hxk1;have HLK:=ι hlk1;clear hxk1 hlk1;generalize rH xs k=xk at hr hxl hxu HXSk HTSz
   generalize xEe s.data.toList xs k=l0 at hr HTSz hll;have HF:=ι (λW=>xMd xk W hxl hxu);have HFL:=ι (xF4 xk);generalize xAf xk=fo at HF HFL HTSz;have HIk:Hid ((prog.info? 229).map (·.size)=some (zJ xk).size):=ι (by rw[zK,hxl];kernel_rfl)
   have HI8:Hid ((prog.info? 232).map (·.size)=some (yO fo).size):=ι (by rw[wJ,HFL.o];kernel_rfl);have HO8:Hid ((yO (xO 64)).size=(yO fo).size):=ι (by rw[wJ,wJ,HFL.o,yR])
   have H18:Hid ((yO fo).all (·.oneCell')=true):=ι (Ep.2 (λv hv=>xOh fo v (by simpa using hv)));have HXL16:=ι hxl;have HLL:=ι hll;clear hxl hxu hll;refine Bi ?_
   refine Ao rfl _ _ rfl g1 rfl _ (zJ xk) (0,0) _ hr.o.st underlying229 rfl HIk.o ?_;go_wp2_with fail
   refine(HF.o _).mono ?_
   rename World=>wq
   rintro e w4 ⟨rfl,hb4⟩;have H4:=ι (hr.o.below hb4);clear hb4 hr HF
   have hst:(storeCells (θ w4.heap.size 0) (yO fo).toList).run prog (w4.alloc (.cells #[.int .u8 0,.int .u8 0,.int .u8 0,.int .u8 0,.int .u8 0,.int .u8 0,.int .u8 0,.int .u8 0,.int .u8 0,.int .u8 0,.int .u8 0,.int .u8 0,.int .u8 0,.int .u8 0,.int .u8 0,.int .u8 0,.int .u8 0,.int .u8 0,.int .u8 0,.int .u8 0,.int .u8 0,.int .u8 0,.int .u8 0,.int .u8 0,.int .u8 0,.int .u8 0,.int .u8 0,.int .u8 0,.int .u8 0,.int .u8 0,.int .u8 0,.int .u8 0,.int .u8 0,.int .u8 0,.int .u8 0,.int .u8 0,.int .u8 0,.int .u8 0,.int .u8 0,.int .u8 0,.int .u8 0,.int .u8 0,.int .u8 0,.int .u8 0,.int .u8 0,.int .u8 0,.int .u8 0,.int .u8 0,.int .u8 0,.int .u8 0,.int .u8 0,.int .u8 0,.int .u8 0,.int .u8 0,.int .u8 0,.int .u8 0,.int .u8 0,.int .u8 0,.int .u8 0,.int .u8 0,.int .u8 0,.int .u8 0,.int .u8 0,.int .u8 0] 232))=.ok () (w4.alloc (.cells (yO fo) 232)):=run_storeCells_new w4 _ _ _ HI8.o HO8.o H18.o
   have hsz8:(yO fo).size=64:=by rw[wJ,HFL.o]
   have H5:Hid (TuI w g1 (g1+1) xk (xRz l0 (64*k) fo 0) (w4.alloc (.cells (yO fo) 232))/\(w4.alloc (.cells (yO fo) 232)).heap[w4.heap.size]?=some (.cells (yO fo) 232 (0,0))):=ι ⟨H4.o.alloc _,xJ _ _⟩;have HG3:Hid (g1+1<w4.heap.size):=ι H4.o.hi;go_upto_region 9 with fail
   generalize w4.alloc (.cells (yO fo) 232)=w5 at H5⊢;clear hst hsz8 H4;generalize w4.heap.size=g3 at H5 HG3⊢;go_wp2_with fail
   go_loopw [38] (λiv W=>∃i:Nat,i<=z/\iv=.int .i64 i/\Hid (TuI w g1 (g1+1) xk (xRz l0 (64*k) fo i) W/\W.heap[g3]?=some (.cells (yO fo) 232 (0,0)))) (λiv _=>z- (intOf iv).toNat)
   case atStart=>exact⟨0,Bc _,rfl,H5⟩
   case round=>
    clear H5
    rename World=>wi
    obtain⟨i,hi,rfl,hr⟩:=hrel
    by_cases hlt:i<z
    ·have HXI:Hid (xRz l0 (64*k) fo (i+1)=(xRz l0 (64*k) fo i).set (64*k+i) (oct (bits .xor .u8 (((xRz l0 (64*k) fo i).getD (64*k+i) 0).toNat:Int) ((fo.getD i 0).toNat:Int)))):=ι rfl;have hil:=xHy l0 (64*k) fo i;generalize xRz l0 (64*k) fo i=li at hr HXI hil
     have HPL:Hid (64*k+i<li.length):=ι (by rw[hil,HLL.o];have:=HMS.o;have:=HZM.o;omega);have HIF:Hid (i<fo.length):=ι (by rw[HFL.o];have:=HZM.o;omega);have HIM:Hid (i<m):=ι (by have:=HZM.o;omega);obtain⟨a,ha⟩:=eX (((li.getD (64*k+i) 0).toNat:Int))
     obtain⟨c,hc⟩:=eX (((fo.getD i 0).toNat:Int));rw[ha,hc] at HXI;have HA:=ι ha;have HCc:=ι hc;obtain⟨v,hv⟩:=eX (bits .xor .u8 a c);have HV:Hid (0<=v/\v<256):=ι (hv▸xDr _ _ _);rw[hv] at HXI;have HVE:=ι hv
     have ra:0<=a/\a<256:=by rw[<-ha];have:=(li.getD (64*k+i) 0).toNat_lt;omega
     have rc:0<=c/\c<256:=by rw[<-hc];have:=(fo.getD i 0).toNat_lt;omega
     obtain⟨ra0,ra1⟩:=ra;obtain⟨rc0,rc1⟩:=rc;have him:=HIM.o;have hi64:i<64:=by rw[<-HFL.o];exact HIF.o
     clear ha hc hv hil;go_upto_region 12 with fail
     refine RG.zA 10 (λL W=>Hid (TuI w g1 (g1+1) xk (if L 9 then li.set (64*k+i) (oct v) else li) W/\W.heap[g3]?=some (.cells (yO fo) 232 (0,0)))) (λL L' W h hI=>by rw[<-h 9 δ];exact hI) κ κ rfl (ι ⟨hr.o.1.drew,hr.o.2⟩) ?_;iterate 3 refine RG.cS ?_
     apply RG.xS
     ·rfl
     ·rfl
     ·intro L w9 h0 hcl xQ hw9;have e1:=hcl.not 6 (i:=9) h0 κ;have hs9:=hw9.o.1;rw[e1,Ag σ] at hs9;have q:=hs9.o.cell (64*k+i) HPL.o;rw[HA.o] at q;clear e1 hs9;repeat go_step
      refine RG.xE ?_;exact⟨xQ,hw9⟩
     ·rfl
     iterate 2 refine RG.cS ?_
     apply RG.xS
     ·rfl
     ·rfl
     ·intro L w9 h0 hcl xQ hw9;have q:=xA hw9.o.2 i;rw[xAp HIF.o,HCc.o] at q;repeat go_step
      refine RG.xE ?_;exact⟨xQ,hw9⟩
     ·rfl
     refine RG.cS ?_;rw[HVE.o];refine RG.cS ?_;apply RG.xS
     ·rfl
     ·rfl
     ·intro L w9 h0 hcl xQ hw9;have hs9:=hw9.o.1;rw[h0,Ag σ] at hs9;have q1:=hs9.o.cell (64*k+i) HPL.o;have q2:=hs9.o.free (64*k+i) HPL.o;generalize ((li.getD (64*k+i) 0).toNat:Int)=old at q1
      have hp:Hid (TuI w g1 (g1+1) xk (li.set (64*k+i) (oct v)) (w9.setCell ⟨g1+1,64*k+i,none⟩ (.int .u8 v))/\(w9.setCell ⟨g1+1,64*k+i,none⟩ (.int .u8 v)).heap[g3]?=some (.cells (yO fo) 232 (0,0))):=ι ⟨hs9.put HPL.o HV.o.1 HV.o.2,yA hw9.o.2 (p:=⟨g1+1,64*k+i,none⟩) (by have:=HG3.o;simp;omega) _⟩
      clear hs9;repeat go_step
      refine RG.xE ?_;refine⟨xQ,?_⟩;show Hid (TuI w g1 (g1+1) xk (if (true:Bool)=true then li.set (64*k+i) (oct v) else li) _/\_);rw[Ah rfl];with_reducible exact hp
     ·rfl
     refine RG.yY (λw9 hw9=>?_);rw[Ah rfl,<-HXI.o] at hw9;go_wp2;exact⟨⟨i+1,ω,by go_num,hw9⟩,by simp[intOf];omega⟩
    ·have hie:i=z:=ω;have HR:Hid (TuI w g1 (g1+1) xk lk1 wi):=ι (by rw[HTSz.o,<-hie];exact hr.o.1);have hneg:¬((i:Int)<(z:Int)):=ω;clear hr hlt hi hie;have q1:=xA HR.o.st 12;rw[wG (by rw[HXL16.o];decide)] at q1;have q2:=xG HR.o.st 12;obtain⟨y,hy⟩:=eX (xk.getD 12 0)
     rw[hy] at q1 HXSk;have HN:Hid (TuI w g1 (g1+1) xk1 lk1 (wi.setCell (θ g1 12) (.int .u32 ((y+1) % 4294967296)))):=ι (by rw[HXSk.o];exact HR.o.step _);clear HR hy;have hzm:=HZM.o.1;go_wp2
     refine⟨⟨k+1,64*k+z,c2-z,by have:=HMS.o;have:=HZM.o;omega,by have:=HKL.o;omega,⟨_,by rw[show s.size- (64*k+z)=m-z by have:=HMS.o;omega],by have:=HMS.o;omega,λhlt=>Ag (by have:=HMS.o;omega)⟩,ι (by rw[HXK.o,HLK.o];exact HN.o)⟩,?_⟩;show m-z<m;have:=HZM.o;omega
  ·have hoff2:off=s.size:=ω;have HPk:=ι (HP.o k ω);have HTLk:=HTL.o k;have hz0:s.size-off=0:=ω;rw[hz0];generalize xEe s.data.toList xs k=lf at hr HPk HTLk;have ht:=hr.o.o.text s.size cap HTLk;have HBl:=ι hr.o.bel;clear hr hA hc2 hk hlt HTLk hoff2 hz0 hoff hsl hs
   rw[<-HPk.o] at ht;go_wp2;go_ret2;exact⟨rfl,HBl.o⟩
end Go.Proofs.SH
namespace Mailsack
def xCq (pw xP:ByteArray):Nat->ByteArray
 |0=>bsA (xZb pw (xP++bsA [0,0,0,1]))
 |k+1=>bsA (xZb pw (xCq pw xP k))
def xKu (l:Bs) (t:ByteArray):Nat->Bs
 |0=>l
 |i+1=>(xKu l t i).set i (oct (Go.bits .xor .u8 (((xKu l t i).getD i 0).toNat:Int) (yU t i)))
theorem xHx (l:Bs) (t:ByteArray):∀i,(xKu l t i).length=l.length
 |0=>rfl
 |i+1=>by simp[xKu,xHx l t i]
def xBf (pw xP:ByteArray):Nat->Bs
 |0=>(xCq pw xP 0).data.toList
 |k+1=>xKu (xBf pw xP k) (xCq pw xP (k+1)) 32
theorem xE7 (pw xP:ByteArray):∀k,(xCq pw xP k).size=32
 |0=>by rw[xCq,yS,xIc]
 |k+1=>by rw[xCq,yS,xIc]
theorem xJe (pw xP:ByteArray):∀k,(xBf pw xP k).length=32
 |0=>by have:=xE7 pw xP 0;simpa[xBf] using this
 |k+1=>by rw[xBf,xHx,xJe pw xP k]
def xEx (pw xP:ByteArray) (rounds:Nat):ByteArray:=bsA (xBf (tC pw) xP (rounds-1))
theorem xLz (pw xP:ByteArray) (r:Nat):(xEx pw xP r).size=32:=by rw[xEx,yS,xJe]
theorem yLa (pw:ByteArray):(tC pw).size<=64:=by
 unfold tC;split
 ·rw[yS,xC6];decide
 ·omega
end Mailsack
namespace Go.Proofs.SH
open Go.RowKit Mailsack MM BB
structure PaI (w:World) (g:Nat) (l:Bs) (W:World):Prop where
 o:xRw W g l
 bel:ψ w W
 lo:w.heap.size<=g
 hi:g<W.heap.size
theorem PaI.below {w:World} {g:Nat} {l:Bs} {W W':World} (h:PaI w g l W) (hb:ψ W W'):PaI w g l W':=
 ⟨h.o.keep (hb.block g h.hi),bT h.bel hb,h.lo,Bt h.hi hb.size⟩
theorem PaI.drew {w:World} {g:Nat} {l:Bs} {W:World} (h:PaI w g l W):PaI w g l W.drew:=⟨⟨h.o.cell,h.o.free⟩,h.bel.drew,h.lo,h.hi⟩
theorem PaI.put {w:World} {g:Nat} {l:Bs} {W:World} (h:PaI w g l W) {p:Nat} (hp:p<l.length) {z:Int} (h0:0<=z) (h1:z<256):PaI w g (l.set p (oct z)) (W.setCell (θ g p) (.int .u8 z)):=
 ⟨h.o.put hp h0 h1,h.bel.setCell (p:=θ g p) h.lo _,h.lo,by rw[size_set];exact h.hi⟩
theorem yIk (pw xP:ByteArray) (r:Int) (w:World) (h:r<1∨64<r):
  Calls prog 91 #[.string pw,.string xP,.int .i64 r] w λe w'=>e=.returned (.tuple #[.string ⟨#[]⟩,.int .i64 1])/\w'=w:=by
 have hr:=h;go_enter func91,ntmps91;rcases hr with h|h
 ·go_wp2;go_ret2;exact⟨rfl,rfl⟩
 ·have h1:¬(r<1):=ω;go_wp2;go_ret2;exact⟨rfl,rfl⟩
theorem xHh (pw xP:ByteArray) (r:Nat) (w:World) (h0:1<=r) (h1:r<=64) (hp:pw.size<=1099511627776) (hs:xP.size<=1000000) (hT:jE w):
  Calls prog 91 #[.string pw,.string xP,.int .i64 r] w (pv (.tuple #[.string (xEx pw xP r),.int .i64 0]) w):=by
 have HT:=ι (λW (h:ψ w W)=>hT.below h ν);have HPP:Hid (∀k,k=r-1->xEx pw xP r=bsA (xBf (tC pw) xP k)):=ι (λk hk=>by rw[hk];rfl);have hkl:=yLa pw
 have HKP:Hid (∀W,jE W->64<pw.size->Calls prog 86 #[.string pw] W (pv (.string (tC pw)) W)):=ι (λW hW h=>by
  unfold tC;rw[Ah h];exact xIu pw W ω hW)
 have HKE:Hid (pw.size<=64->tC pw=pw):=ι (λh=>by unfold tC;rw[Ag ω]);generalize tC pw=kp at HPP hkl HKP HKE
 have HM0:Hid (∀W,jE W->Calls prog 134 #[.string kp,.string (xP++bsA [0,0,0,1])] W (pv (.string (xCq kp xP 0)) W)):=ι (λW hW=>by
  exact xI8 kp _ W ω (by rw[Aw,yS];simp;omega) hW)
 have HMK:Hid (∀k W,jE W->Calls prog 134 #[.string kp,.string (xCq kp xP k)] W (pv (.string (xCq kp xP (k+1))) W)):=ι (λk W hW=>by
  exact xI8 kp _ W ω (by rw[xE7];decide) hW)
 have HLZ:=ι (xE7 kp xP);have HPL:=ι (xJe kp xP);have nb1:¬(9223372036854775807<xP.size+4):=ω;obtain⟨l00,h00⟩:=eX (xCq kp xP 0);have hl00:=xE7 kp xP 0;rw[h00] at HM0 hl00;have HP0:Hid (l00.data.toList=xBf kp xP 0):=ι (by rw[<-h00];rfl);have H00:=ι h00;clear h00
 clear hkl hT;go_enter func91,ntmps91;go_upto_region 3 with fail
 by_cases h64:64<pw.size
 ·have h64i:(64:Int)<(pw.size:Int):=ω;go_wp2_with fail
  refine cM (HKP.o _ (HT.o _ (Aq _ _)) h64) λw1 hb1=>?_;have B1:=ι hb1;clear hb1 HKP HKE h64 h64i;go_upto_region 5 with fail
  have nb2:¬(9223372036854775807<xP.size+(bsA [0,0,0,1]).size):=by rw[yS];simp;omega
  have HB4:Hid (Value.string ⟨#[0,0,0,1]⟩=.string (bsA [0,0,0,1])):=ι rfl;go_wp2_with fail
  refine cM (HM0.o _ (HT.o _ B1.o)) λw2 hb2=>?_;have B2:=ι (bT B1.o hb2);clear hb2 HM0 nb1 nb2 HB4 B1;have xTa:=λW=>Lib.run_convert_string_bytes (P:=prog) W 9 96 5 l00 underlying9 underlying96 underlying5
  have HPI:Hid (PaI w w2.heap.size l00.data.toList (Lib.bytesWorld w2 5 l00)):=ι ⟨xRw.start w2 l00,B2.o.trans ⟨rfl,rfl,rfl,by rw[Lib.bytesWorld_size];omega,λk hk=>Lib.bytesWorld_at_old _ _ _ k (by have:=B2.o.size;omega)⟩,B2.o.size,by rw[Lib.bytesWorld_size];omega⟩
  go_upto_region 7 with fail
  have hcap:32<=grownCap w2 32 0 5:=grownCap_ge _ _ _ _;generalize grownCap w2 32 0 5=cap at hcap⊢;generalize Lib.bytesWorld w2 5 l00=w3 at HPI⊢;generalize w2.heap.size=g at HPI⊢;clear xTa hl00 B2;go_wp2_with fail
  go_loopw [8,30] (λlv iv wr=>∃k:Nat,k<=r-1/\lv=.string (xCq kp xP k)/\iv=.int .i64 k/\Hid (PaI w g (xBf kp xP k) wr)) (λ_ iv _=>r- (intOf iv).toNat)
  case atStart=>exact⟨0,Bc _,by rw[H00.o],rfl,by rw[<-HP0.o];exact HPI⟩
  case round=>
   obtain⟨k,hk,rfl,rfl,hr⟩:=hrel;clear HPI
   by_cases hlt:k<r-1
   ·have HSk:=ι (HMK.o k wr (HT.o _ hr.o.bel));have HR:=ι (Ai h0 (Ai h1 (Ai hp hs)));clear h0 h1 hp hs;go_wp2_with fail
    refine HSk.o.mono ?_;rintro e w4 ⟨rfl,hb4⟩;have H4:Hid (PaI w g (xKu (xBf kp xP k) (xCq kp xP (k+1)) 0) w4):=ι (hr.o.below hb4);have HN:Hid (∀n,n=32->xBf kp xP (k+1)=xKu (xBf kp xP k) (xCq kp xP (k+1)) n):=ι (λn hn=>by rw[hn];rfl);have hlz:=HLZ.o (k+1)
    have HPLk:=ι (HPL.o k);clear hb4 hr HSk;obtain⟨l1,hl1⟩:=eX (xCq kp xP (k+1));rw[hl1] at H4 HN hlz⊢;have HL1:=ι hl1;clear hl1;obtain⟨pk,hpk⟩:=eX (xBf kp xP (k+1));rw[hpk] at HN;have HPK:Hid (∀n,n=k+1->xBf kp xP n=pk):=ι (λn hn=>by rw[hn];exact hpk)
    clear hpk;generalize xBf kp xP k=l0 at H4 HN HPLk;go_wp2_with fail
    go_loopw [37] (λjv W=>∃i:Nat,i<=32/\jv=.int .i64 i/\Hid (PaI w g (xKu l0 l1 i) W)) (λjv _=>32- (intOf jv).toNat)
    case atStart=>exact⟨0,ω,rfl,H4⟩
    case round=>
     clear H4
     rename World=>wi
     obtain⟨i,hi,rfl,hr⟩:=hrel
     by_cases hli:i<32
     ·have HXI:Hid (xKu l0 l1 (i+1)=(xKu l0 l1 i).set i (oct (bits .xor .u8 (((xKu l0 l1 i).getD i 0).toNat:Int) (yU l1 i)))):=ι rfl;have hil:=xHx l0 l1 i;generalize xKu l0 l1 i=li at hr HXI hil;have HIF:Hid (i<li.length):=ι (by rw[hil,HPLk.o];exact hli)
      have i1:=λw=>zN (P:=prog) underlying9 l1 (i:Int) i rfl (by rw[hlz];exact hli) w;obtain⟨a,ha⟩:=eX (((li.getD i 0).toNat:Int));obtain⟨c,hc⟩:=eX (yU l1 i);have rc:=zD l1 i;rw[hc] at i1 rc;rw[ha,hc] at HXI;have HA:=ι ha
      obtain⟨v,hv⟩:=eX (bits .xor .u8 a c);have HV:Hid (0<=v/\v<256):=ι (hv▸xDr _ _ _);rw[hv] at HXI;have HVE:=ι hv;have ra:0<=a/\a<256:=by rw[<-ha];have:=(li.getD i 0).toNat_lt;omega
      obtain⟨ra0,ra1⟩:=ra;obtain⟨rc0,rc1⟩:=rc;have HLT:=ι hlt;have HK:=ι hk;have HI:=ι hi;have HLZ1:=ι hlz;clear ha hc hv hil hlt hk hlz;go_upto_region 13 with fail
      refine RG.zA 10 (λL W=>Hid (PaI w g (if L 9 then li.set i (oct v) else li) W)) (λL L' W h hI=>by rw[<-h 9 δ];exact hI) κ κ rfl (ι hr.o.drew) ?_;iterate 3 refine RG.cS ?_
      apply RG.xS
      ·rfl
      ·rfl
      ·intro L w9 h0 hcl xQ hw9;have e1:=hcl.not 6 (i:=9) h0 κ;have hs9:=hw9.o;rw[e1,Ag σ] at hs9;have q:=hs9.o.cell i HIF.o;rw[HA.o] at q;clear e1 hs9;repeat go_step
       refine RG.xE ?_;exact⟨xQ,hw9⟩
      ·rfl
      iterate 4 refine RG.cS ?_
      rw[HVE.o];refine RG.cS ?_;apply RG.xS
      ·rfl
      ·rfl
      ·intro L w9 h0 hcl xQ hw9;have hs9:=hw9.o;rw[h0,Ag σ] at hs9;have q1:=hs9.o.cell i HIF.o;have q2:=hs9.o.free i HIF.o;generalize ((li.getD i 0).toNat:Int)=old at q1
       have hp:Hid (PaI w g (li.set i (oct v)) (w9.setCell (θ g i) (.int .u8 v))):=ι (hs9.put HIF.o HV.o.1 HV.o.2);clear hs9;repeat go_step
       refine RG.xE ?_;refine⟨xQ,?_⟩;show Hid (PaI w g (if (true:Bool)=true then li.set i (oct v) else li) _);rw[Ah rfl];with_reducible exact hp
      ·rfl
      refine RG.yY (λw9 hw9=>?_);rw[Ah rfl,<-HXI.o] at hw9;go_wp2;exact⟨⟨i+1,by have:=HI.o;omega,by go_num,hw9⟩,by simp[intOf];omega⟩
     ·have HXE:Hid (xKu l0 l1 i=pk):=ι ((HN.o i ω).symm);rw[HXE.o] at hr;go_wp2;exact⟨⟨k+1,ω,by rw[HL1.o],by go_num,by rw[HPK.o _ rfl];exact hr⟩,by simp[intOf];omega⟩
   ·have HPk:=ι (HPP.o k ω);have ht:=hr.o.o.text 32 cap (HPL.o k);rw[<-HPk.o] at ht;have HBl:=ι hr.o.bel;clear hr;go_wp2;go_ret2;exact⟨rfl,HBl.o⟩
 ·have h64i:¬(64:Int)<(pw.size:Int):=ω;have hkp:=HKE.o ω;subst hkp;have B1:=ι (Aq w.heap.size w);clear HKP HKE h64;go_upto_region 5 with fail
  clear h64i;have nb2:¬(9223372036854775807<xP.size+(bsA [0,0,0,1]).size):=by rw[yS];simp;omega
  have HB4:Hid (Value.string ⟨#[0,0,0,1]⟩=.string (bsA [0,0,0,1])):=ι rfl;go_wp2_with fail
  refine cM (HM0.o _ (HT.o _ B1.o)) λw2 hb2=>?_;have B2:=ι (bT B1.o hb2);clear hb2 HM0 nb1 nb2 HB4 B1;have xTa:=λW=>Lib.run_convert_string_bytes (P:=prog) W 9 96 5 l00 underlying9 underlying96 underlying5
  have HPI:Hid (PaI w w2.heap.size l00.data.toList (Lib.bytesWorld w2 5 l00)):=ι ⟨xRw.start w2 l00,B2.o.trans ⟨rfl,rfl,rfl,by rw[Lib.bytesWorld_size];omega,λk hk=>Lib.bytesWorld_at_old _ _ _ k (by have:=B2.o.size;omega)⟩,B2.o.size,by rw[Lib.bytesWorld_size];omega⟩
  go_upto_region 7 with fail
  have hcap:32<=grownCap w2 32 0 5:=grownCap_ge _ _ _ _;generalize grownCap w2 32 0 5=cap at hcap⊢;generalize Lib.bytesWorld w2 5 l00=w3 at HPI⊢;generalize w2.heap.size=g at HPI⊢;clear xTa hl00 B2;go_wp2_with fail
  go_loopw [8,30] (λlv iv wr=>∃k:Nat,k<=r-1/\lv=.string (xCq kp xP k)/\iv=.int .i64 k/\Hid (PaI w g (xBf kp xP k) wr)) (λ_ iv _=>r- (intOf iv).toNat)
  case atStart=>exact⟨0,Bc _,by rw[H00.o],rfl,by rw[<-HP0.o];exact HPI⟩
  case round=>
   obtain⟨k,hk,rfl,rfl,hr⟩:=hrel;clear HPI
   by_cases hlt:k<r-1
   ·have HSk:=ι (HMK.o k wr (HT.o _ hr.o.bel));have HR:=ι (Ai h0 (Ai h1 (Ai hp hs)));clear h0 h1 hp hs;go_wp2_with fail
    refine HSk.o.mono ?_;rintro e w4 ⟨rfl,hb4⟩;have H4:Hid (PaI w g (xKu (xBf kp xP k) (xCq kp xP (k+1)) 0) w4):=ι (hr.o.below hb4);have HN:Hid (∀n,n=32->xBf kp xP (k+1)=xKu (xBf kp xP k) (xCq kp xP (k+1)) n):=ι (λn hn=>by rw[hn];rfl);have hlz:=HLZ.o (k+1)
    have HPLk:=ι (HPL.o k);clear hb4 hr HSk;obtain⟨l1,hl1⟩:=eX (xCq kp xP (k+1));rw[hl1] at H4 HN hlz⊢;have HL1:=ι hl1;clear hl1;obtain⟨pk,hpk⟩:=eX (xBf kp xP (k+1));rw[hpk] at HN;have HPK:Hid (∀n,n=k+1->xBf kp xP n=pk):=ι (λn hn=>by rw[hn];exact hpk)
    clear hpk;generalize xBf kp xP k=l0 at H4 HN HPLk;go_wp2_with fail
    go_loopw [37] (λjv W=>∃i:Nat,i<=32/\jv=.int .i64 i/\Hid (PaI w g (xKu l0 l1 i) W)) (λjv _=>32- (intOf jv).toNat)
    case atStart=>exact⟨0,ω,rfl,H4⟩
    case round=>
     clear H4
     rename World=>wi
     obtain⟨i,hi,rfl,hr⟩:=hrel
     by_cases hli:i<32
     ·have HXI:Hid (xKu l0 l1 (i+1)=(xKu l0 l1 i).set i (oct (bits .xor .u8 (((xKu l0 l1 i).getD i 0).toNat:Int) (yU l1 i)))):=ι rfl;have hil:=xHx l0 l1 i;generalize xKu l0 l1 i=li at hr HXI hil;have HIF:Hid (i<li.length):=ι (by rw[hil,HPLk.o];exact hli)
      have i1:=λw=>zN (P:=prog) underlying9 l1 (i:Int) i rfl (by rw[hlz];exact hli) w;obtain⟨a,ha⟩:=eX (((li.getD i 0).toNat:Int));obtain⟨c,hc⟩:=eX (yU l1 i);have rc:=zD l1 i;rw[hc] at i1 rc;rw[ha,hc] at HXI;have HA:=ι ha
      obtain⟨v,hv⟩:=eX (bits .xor .u8 a c);have HV:Hid (0<=v/\v<256):=ι (hv▸xDr _ _ _);rw[hv] at HXI;have HVE:=ι hv;have ra:0<=a/\a<256:=by rw[<-ha];have:=(li.getD i 0).toNat_lt;omega
      obtain⟨ra0,ra1⟩:=ra;obtain⟨rc0,rc1⟩:=rc;have HLT:=ι hlt;have HK:=ι hk;have HI:=ι hi;have HLZ1:=ι hlz;clear ha hc hv hil hlt hk hlz;go_upto_region 13 with fail
      refine RG.zA 10 (λL W=>Hid (PaI w g (if L 9 then li.set i (oct v) else li) W)) (λL L' W h hI=>by rw[<-h 9 δ];exact hI) κ κ rfl (ι hr.o.drew) ?_;iterate 3 refine RG.cS ?_
      apply RG.xS
      ·rfl
      ·rfl
      ·intro L w9 h0 hcl xQ hw9;have e1:=hcl.not 6 (i:=9) h0 κ;have hs9:=hw9.o;rw[e1,Ag σ] at hs9;have q:=hs9.o.cell i HIF.o;rw[HA.o] at q;clear e1 hs9;repeat go_step
       refine RG.xE ?_;exact⟨xQ,hw9⟩
      ·rfl
      iterate 4 refine RG.cS ?_
      rw[HVE.o];refine RG.cS ?_;apply RG.xS
      ·rfl
      ·rfl
      ·intro L w9 h0 hcl xQ hw9;have hs9:=hw9.o;rw[h0,Ag σ] at hs9;have q1:=hs9.o.cell i HIF.o;have q2:=hs9.o.free i HIF.o;generalize ((li.getD i 0).toNat:Int)=old at q1
       have hp:Hid (PaI w g (li.set i (oct v)) (w9.setCell (θ g i) (.int .u8 v))):=ι (hs9.put HIF.o HV.o.1 HV.o.2);clear hs9;repeat go_step
       refine RG.xE ?_;refine⟨xQ,?_⟩;show Hid (PaI w g (if (true:Bool)=true then li.set i (oct v) else li) _);rw[Ah rfl];with_reducible exact hp
      ·rfl
      refine RG.yY (λw9 hw9=>?_);rw[Ah rfl,<-HXI.o] at hw9;go_wp2;exact⟨⟨i+1,by have:=HI.o;omega,by go_num,hw9⟩,by simp[intOf];omega⟩
     ·have HXE:Hid (xKu l0 l1 i=pk):=ι ((HN.o i ω).symm);rw[HXE.o] at hr;go_wp2;exact⟨⟨k+1,ω,by rw[HL1.o],by go_num,by rw[HPK.o _ rfl];exact hr⟩,by simp[intOf];omega⟩
   ·have HPk:=ι (HPP.o k ω);have ht:=hr.o.o.text 32 cap (HPL.o k);rw[<-HPk.o] at ht;have HBl:=ι hr.o.bel;clear hr;go_wp2;go_ret2;exact⟨rfl,HBl.o⟩
end Go.Proofs.SH
namespace Mailsack
def xS5 (c:Int):Bool:=!((decide (c<97)||decide (122<c))&&(decide (c<48)||decide (57<c)))
def xEs (s:ByteArray):Nat->Bool
 |0=>true
 |k+1=>xEs s k&&xS5 (yU s k)
def zS (s:ByteArray):Bool:=decide (1<=s.size)&&decide (s.size<=8)&&xEs s s.size
theorem xS6 (s:ByteArray) (k:Nat) (h:xEs s k=false):∀n,k<=n->xEs s n=false:=by
 intro n hn
 induction n with
 |zero=>rw[show k=0 by omega] at h;exact h
 |succ n ih=>
  by_cases e:k=n+1
  ·rw[<-e];exact h
  ·rw[xEs,ih ω,Dy]
def zC (xNe:ByteArray):ByteArray:=bsA (xOk xNe ⟨#[]⟩ ⟨#[105,110,100,101,120]⟩ 32)
theorem xEp (p:ByteArray):(zC p).size=32:=by rw[zC,yS,xK7]
end Mailsack
namespace Go.Proofs.SH
open Go.RowKit Mailsack MM BB
theorem xHk (p:ByteArray) (w:World) (hp:p.size<=1000000) (hT:jE w):
  Calls prog 70 #[.string p] w (pv (.tuple #[.string (zC p),.int .i64 0]) w):=by
 have HD:Hid (Calls prog 112 #[.string p,.string ⟨#[]⟩,.string ⟨#[105,110,100,101,120]⟩,.int .i64 32] w (pv (.tuple #[.string (zC p),.int .i64 0]) w)):=ι (xOj p ⟨#[]⟩ ⟨#[105,110,100,101,120]⟩ 32 w ω δ δ δ hT);generalize zC p=r at HD⊢;clear hT
 go_enter func70,ntmps70;go_wp2_with fail
 refine HD.o.mono ?_;rintro e w1 ⟨rfl,hb1⟩;have B1:=ι hb1;go_wp2;go_ret2;exact⟨rfl,B1.o⟩
theorem xC8 (s:ByteArray) (w:World) (hs:s.size<=1099511627776):
  Calls prog 59 #[.string s] w λe w'=>e=.returned (.bool (zS s))/\w'=w:=by
 by_cases h1:s.size<1
 ·have HR:Hid (zS s=false):=ι (by unfold zS;rw[show decide (1<=s.size)=false from Cq ω];rfl);rw[HR.o];have hi:(s.size:Int)<1:=ω;clear h1 hs;go_enter func59,ntmps59;go_wp2;go_ret;exact⟨rfl,rfl⟩
 ·by_cases h8:8<s.size
  ·have HR:Hid (zS s=false):=ι (by unfold zS;rw[show decide (s.size<=8)=false from Cq ω];simp);rw[HR.o];have hi:¬(s.size:Int)<1:=ω;have hj:8<(s.size:Int):=ω;clear h1 h8 hs;go_enter func59,ntmps59;go_wp2;go_ret;exact⟨rfl,rfl⟩
  ·have HR:Hid (zS s=xEs s s.size):=ι (by unfold zS;rw[show decide (1<=s.size)=true from Bq ω,show decide (s.size<=8)=true from Bq ω];rfl);rw[HR.o];have hi:¬(s.size:Int)<1:=ω;have hj:¬8<(s.size:Int):=ω
   have HE:Hid (∀n,n=s.size->xEs s n=xEs s s.size):=ι (λn hn=>by rw[hn]);have HLT:=ι (xS6 s);have HSS:Hid (∀k,xEs s (k+1)=(xEs s k&&xS5 (yU s k))):=ι (λk=>rfl);have HS0:Hid (xEs s 0=true):=ι rfl;generalize hres:xEs s s.size=res at HE⊢;have HRES:=ι hres;clear h1 h8 hs HR hres
   go_enter func59,ntmps59;go_wp2_with fail
   clear hi
   go_loopw [14] (λiv W=>∃k:Nat,k<=s.size/\iv=.int .i64 k/\Hid (xEs s k=true)/\W=w) (λiv _=>s.size- (intOf iv).toNat)
   case atStart=>exact⟨0,Bc _,rfl,HS0,rfl⟩
   case round=>
    obtain⟨k,hk,rfl,hu,rfl⟩:=hrel
    by_cases hlt:k<s.size
    ·have i1:=λw=>zN (P:=prog) underlying9 s (k:Int) k rfl hlt w;obtain⟨c0,c1⟩:=zD s k;have HSk:=ι (HSS.o k);generalize yU s k=c at i1 c0 c1 HSk;have hcase:(97<=c/\c<=122)∨(48<=c/\c<=57)∨c<48∨(57<c/\c<97)∨122<c:=ω;rcases hcase with ⟨k1,k2⟩|⟨k1,k2⟩|k1|⟨k1,k2⟩|k1
     ·have k3:¬c<97:=ω;have k4:¬122<c:=ω;have HN:Hid (xEs s (k+1)=true):=ι (by rw[HSk.o,hu.o];unfold xS5;simp;omega);go_wp2;exact⟨⟨k+1,ω,by go_num,HN,trivial⟩,by simp[intOf];omega⟩
     ·have k3:c<97:=ω;have k4:¬c<48:=ω;have k5:¬57<c:=ω;have HN:Hid (xEs s (k+1)=true):=ι (by rw[HSk.o,hu.o];unfold xS5;simp;omega);go_wp2;exact⟨⟨k+1,ω,by go_num,HN,trivial⟩,by simp[intOf];omega⟩
     ·have k3:c<97:=ω;have HN:Hid (res=false):=ι (by rw[<-HRES.o];exact HLT.o (k+1) (by rw[HSk.o];unfold xS5;simp;omega) s.size ω);go_wp2;go_ret;rw[HN.o];exact⟨rfl,rfl⟩
     ·have k3:c<97:=ω;have k4:¬c<48:=ω;have HN:Hid (res=false):=ι (by rw[<-HRES.o];exact HLT.o (k+1) (by rw[HSk.o];unfold xS5;simp;omega) s.size ω);go_wp2;go_ret;rw[HN.o];exact⟨rfl,rfl⟩
     ·have k3:¬c<97:=ω;have k4:¬c<48:=ω;have k5:57<c:=ω;have HN:Hid (res=false):=ι (by rw[<-HRES.o];exact HLT.o (k+1) (by rw[HSk.o];unfold xS5;simp;omega) s.size ω);go_wp2;go_ret;rw[HN.o];exact⟨rfl,rfl⟩
    ·have hke:k=s.size:=ω;have HN:=ι ((HE.o k hke).symm.trans hu.o);have hneg:¬((k:Int)<(s.size:Int)):=ω;go_wp2;go_ret;rw[HN.o];exact⟨rfl,rfl⟩
end Go.Proofs.SH
namespace Mailsack
def jN (xP xB:ByteArray) (r:Int):Bool:=decide (xP.size=16)&&decide (xB.size=12)&&decide (1<=r)&&decide (r<=64)
def uR (xP xB xD:ByteArray) (r:Int):Bool:=jN xP xB r&&decide (xD.size=32)
end Mailsack
namespace Go.Proofs.SH
open Go.RowKit Mailsack MM BB
abbrev xDe (xP xB xD:ByteArray) (r:Int):Value:=.agg #[.string xP,.string xB,.string xD,.int .i64 r]
theorem xFr (xP xB xD:ByteArray) (r:Int) (w:World):
  Calls prog 105 #[xDe xP xB xD r] w (pv (.bool (jN xP xB r)) w):=by
 have HB:Hid (ψ w (w.alloc (.cells #[.string xP,.string xB,.string xD,.int .i64 r] 23))):=ι (φ w _)
 have HR:Hid (∀b,(b=true↔xP.size=16/\xB.size=12/\1<=r/\r<=64)->jN xP xB r=b):=ι (λb hb=>by
  rw[Bool.eq_iff_iff,hb];unfold jN;simp[and_assoc])
 by_cases h1:xP.size=16
 ·have i1:(xP.size:Int)=16:=ω
  by_cases h2:xB.size=12
  ·have i2:(xB.size:Int)=12:=ω
   by_cases h3:1<=r
   ·by_cases h4:r<=64
    ·rw[HR.o true (by simp[h1,h2,h3,h4])];clear h1 h2 HR;go_enter func105,ntmps105;go_wp2;go_ret;exact⟨rfl,HB.o⟩
    ·rw[HR.o false (by simp[h4])];clear h1 h2 HR;go_enter func105,ntmps105;go_wp2;go_ret;exact⟨rfl,HB.o⟩
   ·rw[HR.o false (by simp[h3])];clear h1 h2 HR;go_enter func105,ntmps105;go_wp2;go_ret;exact⟨rfl,HB.o⟩
  ·rw[HR.o false (by simp[h2])];have i2:(xB.size:Int)≠12:=ω;have i3:((xB.size:Int)==12)=false:=by simp;omega
   clear h1 h2 HR;go_enter func105,ntmps105;go_wp2;go_ret;exact⟨rfl,HB.o⟩
 ·rw[HR.o false (by simp[h1])];have i2:(xP.size:Int)≠16:=ω;have i3:((xP.size:Int)==16)=false:=by simp;omega
  clear h1 HR;go_enter func105,ntmps105;go_wp2;go_ret;exact⟨rfl,HB.o⟩
theorem xEm (xP xB xD:ByteArray) (r:Int) (w:World):
  Calls prog 60 #[xDe xP xB xD r] w (pv (.bool (uR xP xB xD r)) w):=by
 have HW:=ι (λW=>xFr xP xB xD r W);have HR:Hid (uR xP xB xD r=(jN xP xB r&&decide (xD.size=32))):=ι rfl;rw[HR.o]
 have H1:Hid (ψ w (w.alloc (.cells #[.string xP,.string xB,.string xD,.int .i64 r] 23))/\(w.alloc (.cells #[.string xP,.string xB,.string xD,.int .i64 r] 23)).heap[w.heap.size]?=some (.cells #[.string xP,.string xB,.string xD,.int .i64 r] 23 (0,0))):=ι ⟨φ w _,xJ _ _⟩;clear HR
 generalize jN xP xB r=b at HW⊢
 by_cases h:xD.size=32
 ·have i1:(xD.size:Int)=32:=ω;rw[Bq h];clear h;go_enter func60,ntmps60;go_wp2_with fail
  refine cM (HW.o _) λw1 hb1=>?_;have c2:=xA (xC H1.o.2 hb1 (xH H1.o.2)) 2;have HB:=ι (bT H1.o.1 hb1);clear hb1 H1 HW;cases b<;>go_wp2<;>go_ret<;>exact⟨rfl,HB.o⟩
 ·have i1:(xD.size:Int)≠32:=ω;have i2:((xD.size:Int)==32)=false:=by simp;omega
  rw[Cq h];clear h;go_enter func60,ntmps60;go_wp2_with fail
  refine cM (HW.o _) λw1 hb1=>?_;have c2:=xA (xC H1.o.2 hb1 (xH H1.o.2)) 2;have HB:=ι (bT H1.o.1 hb1);clear hb1 H1 HW;cases b<;>go_wp2<;>go_ret<;>exact⟨rfl,HB.o⟩
end Go.Proofs.SH
namespace Mailsack
def slash:Bs:=[47]
def vD (kind user:Bs):Bs:=kind++slash++user
def xHm (kind user:Bs):Bs:=kind++slash++user++slash
def usedNames (l:List Slot):List Bs:=(l.filter (·.used)).map (·.name)
def jZ (l:List Bs):List Bs:=l.mergeSort λx y=>decide (x<=y)
def xAg (d:Dk):List Bs:=if wX d=true then Go.Lib.compact (jZ (usedNames (yG (xY d).secs))) else[]
def numOf (s:Bs):Nat:=s.foldl (λn c=>10*n+(c.toNat-48)) 0
def xJx (c:UInt8):Bool:=decide (48<=c.toNat)&&decide (c.toNat<=57)
def rO (s:Bs):Bool:=decide (1<=s.length)&&decide (s.length<=10)&&(s.getD 0 0 !=48)&&s.all xJx&&decide (numOf s<=4294967295)
def numberOf (h n:Bs):List Int:=if n.take h.length=h then(if rO (n.drop h.length)=true then[(numOf (n.drop h.length):Int)] else[]) else[]
def xEu (l:List Int):List Int:=l.mergeSort λx y=>decide (x<=y)
def wM (d:Dk) (kind user:Bs):List Int:=xEu ((xAg d).flatMap (numberOf (xHm kind user)))
theorem xTq {α:Type} [DecidableEq α] [Inhabited α] {l:List α} {x:α} (h:x∈Go.Lib.compact l):x∈l:=by
 unfold Go.Lib.compact Go.Lib.compactUpTo at h;obtain⟨i,hi,rfl⟩:=Ew.1 h;have:=El.1 (Gv.1 hi).1;rw[Gd l.toArray i (by simpa using this)];simp
theorem xV5 {l:List Slot} {x:Bs}:x∈usedNames l↔∃t∈l,t.used=true/\t.name=x:=by
 unfold usedNames;simp only[Ew,Gv];exact⟨λ⟨t,⟨h1,h2⟩,h3⟩=>⟨t,h1,h2,h3⟩,λ⟨t,h1,h2,h3⟩=>⟨t,⟨h1,h2⟩,h3⟩⟩
theorem yBx {d:Dk} {x:Bs} (h:x∈xAg d):∃t∈yG (xY d).secs,t.used=true/\t.name=x:=by
 unfold xAg at h;split at h
 ·have:=xTq h;unfold jZ at this;rw[List.mem_mergeSort] at this;exact xV5.1 this
 ·simp at h
structure vY where
 user:ByteArray
 xP:ByteArray
 rounds:Int
 jB:Int
 pub:ByteArray
 xB:ByteArray
 wrapped:ByteArray
 old:ByteArray
def uB:vY:=⟨⟨#[]⟩,⟨#[]⟩,0,0,⟨#[]⟩,⟨#[]⟩,⟨#[]⟩,⟨#[]⟩⟩
def uL (a:vY):Bool:=
 zS a.user&&jN a.xP a.xB a.rounds&&(decide (a.jB=0)||decide (a.jB=1))&&decide (a.pub.size=32)&&decide (a.wrapped.size=48)&&(decide (a.old.size=0)||decide (a.old.size=48))
def xAa (a:vY):ByteArray:=
 bsA [oct a.user.size]++a.user++a.xP++bsA [oct a.rounds,oct a.jB]++a.pub++a.xB++a.wrapped++a.old
end Mailsack
namespace Go.Proofs.SH
open Go.RowKit Mailsack MM BB
abbrev xB1 (a:vY):Value:=.agg #[.string a.user,.string a.xP,.int .i64 a.rounds,.int .i64 a.jB,.string a.pub,.string a.xB,.string a.wrapped,.string a.old]
abbrev yV (a:vY):Obj:=.cells #[.string a.user,.string a.xP,.int .i64 a.rounds,.int .i64 a.jB,.string a.pub,.string a.xB,.string a.wrapped,.string a.old] 65
theorem xGp (a:vY) (w:World) (hu:a.user.size<=1099511627776):
  Calls prog 90 #[xB1 a] w (pv (.bool (uL a)) w):=by
 obtain⟨u,s,r,ep,pb,n,wr,o⟩:=a;simp only at hu⊢;have HU:=ι (λW=>xC8 u W hu);have HW:=ι (λW=>xFr s n ⟨#[]⟩ r W)
 have HE:Hid (uL ⟨u,s,r,ep,pb,n,wr,o⟩=(zS u&&jN s n r&&(decide (ep=0)||decide (ep=1))&&decide (pb.size=32)&&decide (wr.size=48)&&(decide (o.size=0)||decide (o.size=48)))):=ι rfl
 have H0:Hid (ψ w (w.alloc (yV ⟨u,s,r,ep,pb,n,wr,o⟩))/\(w.alloc (yV ⟨u,s,r,ep,pb,n,wr,o⟩)).heap[w.heap.size]?=some (yV ⟨u,s,r,ep,pb,n,wr,o⟩)):=ι ⟨φ w _,xJ _ _⟩;simp only[yV] at H0;clear hu;generalize zS u=b1 at HU HE;generalize jN s n r=b2 at HW HE;cases b1 with
 |false=>
  have HR:Hid (uL ⟨u,s,r,ep,pb,n,wr,o⟩=false):=ι (by rw[HE.o];rfl);clear HE;go_enter func90,ntmps90;go_wp2_with fail
  refine(HU.o _).mono ?_;rintro ex w1 ⟨rfl,rfl⟩;go_wp2;go_ret;exact⟨by rw[HR.o];rfl,H0.o.1⟩
 |true=>
  cases b2 with
  |false=>
   have HR:Hid (uL ⟨u,s,r,ep,pb,n,wr,o⟩=false):=ι (by rw[HE.o];rfl);clear HE;go_enter func90,ntmps90;go_wp2_with fail
   refine(HU.o _).mono ?_;rintro ex w1 ⟨rfl,rfl⟩;go_wp2_with fail
   refine cM (HW.o _) λw2 hb2=>?_;have HB2:=ι (bT H0.o.1 hb2);have hk2:=xC H0.o.2 hb2 (xH H0.o.2);have c3:=xA hk2 3;have c4:=xA hk2 4;have c6:=xA hk2 6;have c7:=xA hk2 7;simp only[gA,gB,gC] at c3 c4 c6 c7;clear hb2 hk2 HU HW H0;go_wp2;go_ret
   exact⟨by rw[HR.o];rfl,HB2.o⟩
  |true=>
   by_cases he0:ep=0
   ·have he:ep=0∨ep=1:=.inl he0;have k0:(ep==0)=true:=by simp[he0]
    clear he0
    by_cases h4:pb.size=32
    ·have i4:((pb.size:Int)==32)=true:=by simp;omega
     have j4:(pb.size:Int)=32:=ω
     by_cases h5:wr.size=48
     ·have i5:((wr.size:Int)==48)=true:=by simp;omega
      have j5:(wr.size:Int)=48:=ω
      by_cases h6:o.size=0
      ·have i6:(o.toList==[])=true:=by rw[Br];simp;exact Ef h6
       have HR:Hid (uL ⟨u,s,r,ep,pb,n,wr,o⟩=true):=ι (by rw[HE.o];simp[h4,h5,h6,he]);clear h4 h5 h6 HE;go_enter func90,ntmps90;go_wp2_with fail
       refine(HU.o _).mono ?_;rintro ex w1 ⟨rfl,rfl⟩;go_wp2_with fail
       refine cM (HW.o _) λw2 hb2=>?_;have HB2:=ι (bT H0.o.1 hb2);have hk2:=xC H0.o.2 hb2 (xH H0.o.2);have c3:=xA hk2 3;have c4:=xA hk2 4;have c6:=xA hk2 6;have c7:=xA hk2 7;simp only[gA,gB,gC] at c3 c4 c6 c7;clear hb2 hk2 HU HW H0
       go_wp2;go_ret;exact⟨by rw[HR.o];rfl,HB2.o⟩
      ·have i6:(o.toList==[])=false:=by
        rw[Br];cases hx:(o.data.toList==[]) with
        |false=>rfl
        |true=>
         simp only[Gz] at hx;exact absurd (show o.data.size=0 by rw[<-Cu,hx];rfl) h6
       by_cases h7:o.size=48
       ·have i7:((o.size:Int)==48)=true:=by simp;omega
        have j7:(o.size:Int)=48:=ω;have HR:Hid (uL ⟨u,s,r,ep,pb,n,wr,o⟩=true):=ι (by rw[HE.o];simp[h4,h5,h7,he]);clear h4 h5 h6 h7 HE;go_enter func90,ntmps90;go_wp2_with fail
        refine(HU.o _).mono ?_;rintro ex w1 ⟨rfl,rfl⟩;go_wp2_with fail
        refine cM (HW.o _) λw2 hb2=>?_;have HB2:=ι (bT H0.o.1 hb2);have hk2:=xC H0.o.2 hb2 (xH H0.o.2);have c3:=xA hk2 3;have c4:=xA hk2 4;have c6:=xA hk2 6;have c7:=xA hk2 7;simp only[gA,gB,gC] at c3 c4 c6 c7;clear hb2 hk2 HU HW H0
        go_wp2;go_ret;exact⟨by rw[HR.o];rfl,HB2.o⟩
       ·have i7:((o.size:Int)==48)=false:=by simp;omega
        have j7:(o.size:Int)≠48:=ω;have HR:Hid (uL ⟨u,s,r,ep,pb,n,wr,o⟩=false):=ι (by rw[HE.o];simp[h6,h7]);clear h4 h5 h6 h7 HE;go_enter func90,ntmps90;go_wp2_with fail
        refine(HU.o _).mono ?_;rintro ex w1 ⟨rfl,rfl⟩;go_wp2_with fail
        refine cM (HW.o _) λw2 hb2=>?_;have HB2:=ι (bT H0.o.1 hb2);have hk2:=xC H0.o.2 hb2 (xH H0.o.2);have c3:=xA hk2 3;have c4:=xA hk2 4;have c6:=xA hk2 6;have c7:=xA hk2 7;simp only[gA,gB,gC] at c3 c4 c6 c7;clear hb2 hk2 HU HW H0
        go_wp2;go_ret;exact⟨by rw[HR.o];rfl,HB2.o⟩
     ·have i5:((wr.size:Int)==48)=false:=by simp;omega
      have j5:(wr.size:Int)≠48:=ω;have HR:Hid (uL ⟨u,s,r,ep,pb,n,wr,o⟩=false):=ι (by rw[HE.o];simp[h5]);clear h4 h5 HE;go_enter func90,ntmps90;go_wp2_with fail
      refine(HU.o _).mono ?_;rintro ex w1 ⟨rfl,rfl⟩;go_wp2_with fail
      refine cM (HW.o _) λw2 hb2=>?_;have HB2:=ι (bT H0.o.1 hb2);have hk2:=xC H0.o.2 hb2 (xH H0.o.2);have c3:=xA hk2 3;have c4:=xA hk2 4;have c6:=xA hk2 6;have c7:=xA hk2 7;simp only[gA,gB,gC] at c3 c4 c6 c7;clear hb2 hk2 HU HW H0;go_wp2
      go_ret;exact⟨by rw[HR.o];rfl,HB2.o⟩
    ·have i4:((pb.size:Int)==32)=false:=by simp;omega
     have j4:(pb.size:Int)≠32:=ω;have HR:Hid (uL ⟨u,s,r,ep,pb,n,wr,o⟩=false):=ι (by rw[HE.o];simp[h4]);clear h4 HE;go_enter func90,ntmps90;go_wp2_with fail
     refine(HU.o _).mono ?_;rintro ex w1 ⟨rfl,rfl⟩;go_wp2_with fail
     refine cM (HW.o _) λw2 hb2=>?_;have HB2:=ι (bT H0.o.1 hb2);have hk2:=xC H0.o.2 hb2 (xH H0.o.2);have c3:=xA hk2 3;have c4:=xA hk2 4;have c6:=xA hk2 6;have c7:=xA hk2 7;simp only[gA,gB,gC] at c3 c4 c6 c7;clear hb2 hk2 HU HW H0;go_wp2
     go_ret;exact⟨by rw[HR.o];rfl,HB2.o⟩
   ·have k0:(ep==0)=false:=by simp[he0]
    by_cases he1:ep=1
    ·have he:ep=0∨ep=1:=.inr he1;have k1:(ep==1)=true:=by simp[he1]
     clear he1
     by_cases h4:pb.size=32
     ·have i4:((pb.size:Int)==32)=true:=by simp;omega
      have j4:(pb.size:Int)=32:=ω
      by_cases h5:wr.size=48
      ·have i5:((wr.size:Int)==48)=true:=by simp;omega
       have j5:(wr.size:Int)=48:=ω
       by_cases h6:o.size=0
       ·have i6:(o.toList==[])=true:=by rw[Br];simp;exact Ef h6
        have HR:Hid (uL ⟨u,s,r,ep,pb,n,wr,o⟩=true):=ι (by rw[HE.o];simp[h4,h5,h6,he]);clear h4 h5 h6 HE;go_enter func90,ntmps90;go_wp2_with fail
        refine(HU.o _).mono ?_;rintro ex w1 ⟨rfl,rfl⟩;go_wp2_with fail
        refine cM (HW.o _) λw2 hb2=>?_;have HB2:=ι (bT H0.o.1 hb2);have hk2:=xC H0.o.2 hb2 (xH H0.o.2);have c3:=xA hk2 3;have c4:=xA hk2 4;have c6:=xA hk2 6;have c7:=xA hk2 7;simp only[gA,gB,gC] at c3 c4 c6 c7;clear hb2 hk2 HU HW H0
        go_wp2;go_ret;exact⟨by rw[HR.o];rfl,HB2.o⟩
       ·have i6:(o.toList==[])=false:=by
         rw[Br];cases hx:(o.data.toList==[]) with
         |false=>rfl
         |true=>
          simp only[Gz] at hx;exact absurd (show o.data.size=0 by rw[<-Cu,hx];rfl) h6
        by_cases h7:o.size=48
        ·have i7:((o.size:Int)==48)=true:=by simp;omega
         have j7:(o.size:Int)=48:=ω;have HR:Hid (uL ⟨u,s,r,ep,pb,n,wr,o⟩=true):=ι (by rw[HE.o];simp[h4,h5,h7,he]);clear h4 h5 h6 h7 HE;go_enter func90,ntmps90;go_wp2_with fail
         refine(HU.o _).mono ?_;rintro ex w1 ⟨rfl,rfl⟩;go_wp2_with fail
         refine cM (HW.o _) λw2 hb2=>?_;have HB2:=ι (bT H0.o.1 hb2);have hk2:=xC H0.o.2 hb2 (xH H0.o.2);have c3:=xA hk2 3;have c4:=xA hk2 4;have c6:=xA hk2 6;have c7:=xA hk2 7;simp only[gA,gB,gC] at c3 c4 c6 c7;clear hb2 hk2 HU HW H0
         go_wp2;go_ret;exact⟨by rw[HR.o];rfl,HB2.o⟩
        ·have i7:((o.size:Int)==48)=false:=by simp;omega
         have j7:(o.size:Int)≠48:=ω;have HR:Hid (uL ⟨u,s,r,ep,pb,n,wr,o⟩=false):=ι (by rw[HE.o];simp[h6,h7]);clear h4 h5 h6 h7 HE;go_enter func90,ntmps90;go_wp2_with fail
         refine(HU.o _).mono ?_;rintro ex w1 ⟨rfl,rfl⟩;go_wp2_with fail
         refine cM (HW.o _) λw2 hb2=>?_;have HB2:=ι (bT H0.o.1 hb2);have hk2:=xC H0.o.2 hb2 (xH H0.o.2);have c3:=xA hk2 3;have c4:=xA hk2 4;have c6:=xA hk2 6;have c7:=xA hk2 7;simp only[gA,gB,gC] at c3 c4 c6 c7;clear hb2 hk2 HU HW H0
         go_wp2;go_ret;exact⟨by rw[HR.o];rfl,HB2.o⟩
      ·have i5:((wr.size:Int)==48)=false:=by simp;omega
       have j5:(wr.size:Int)≠48:=ω;have HR:Hid (uL ⟨u,s,r,ep,pb,n,wr,o⟩=false):=ι (by rw[HE.o];simp[h5]);clear h4 h5 HE;go_enter func90,ntmps90;go_wp2_with fail
       refine(HU.o _).mono ?_;rintro ex w1 ⟨rfl,rfl⟩;go_wp2_with fail
       refine cM (HW.o _) λw2 hb2=>?_;have HB2:=ι (bT H0.o.1 hb2);have hk2:=xC H0.o.2 hb2 (xH H0.o.2);have c3:=xA hk2 3;have c4:=xA hk2 4;have c6:=xA hk2 6;have c7:=xA hk2 7;simp only[gA,gB,gC] at c3 c4 c6 c7;clear hb2 hk2 HU HW H0
       go_wp2;go_ret;exact⟨by rw[HR.o];rfl,HB2.o⟩
     ·have i4:((pb.size:Int)==32)=false:=by simp;omega
      have j4:(pb.size:Int)≠32:=ω;have HR:Hid (uL ⟨u,s,r,ep,pb,n,wr,o⟩=false):=ι (by rw[HE.o];simp[h4]);clear h4 HE;go_enter func90,ntmps90;go_wp2_with fail
      refine(HU.o _).mono ?_;rintro ex w1 ⟨rfl,rfl⟩;go_wp2_with fail
      refine cM (HW.o _) λw2 hb2=>?_;have HB2:=ι (bT H0.o.1 hb2);have hk2:=xC H0.o.2 hb2 (xH H0.o.2);have c3:=xA hk2 3;have c4:=xA hk2 4;have c6:=xA hk2 6;have c7:=xA hk2 7;simp only[gA,gB,gC] at c3 c4 c6 c7;clear hb2 hk2 HU HW H0;go_wp2
      go_ret;exact⟨by rw[HR.o];rfl,HB2.o⟩
    ·have k1:(ep==1)=false:=by simp[he1]
     have HR:Hid (uL ⟨u,s,r,ep,pb,n,wr,o⟩=false):=ι (by rw[HE.o];simp[he0,he1]);clear HE;go_enter func90,ntmps90;go_wp2_with fail
     refine(HU.o _).mono ?_;rintro ex w1 ⟨rfl,rfl⟩;go_wp2_with fail
     refine cM (HW.o _) λw2 hb2=>?_;have HB2:=ι (bT H0.o.1 hb2);have hk2:=xC H0.o.2 hb2 (xH H0.o.2);have c3:=xA hk2 3;have c4:=xA hk2 4;have c6:=xA hk2 6;have c7:=xA hk2 7;simp only[gA,gB,gC] at c3 c4 c6 c7;clear hb2 hk2 HU HW H0;go_wp2
     go_ret;exact⟨by rw[HR.o];rfl,HB2.o⟩
end Go.Proofs.SH
namespace Mailsack
def yQ (r:ByteArray) (n:Nat):ByteArray:=r.extract n r.size
def wD (r:ByteArray) (n:Nat):ByteArray:=r.extract 0 n
theorem kZ (r:ByteArray) (n:Nat):(yQ r n).size=r.size-n:=by simp[yQ,Az]
theorem tQ (r:ByteArray) (n:Nat) (h:n<=r.size):(wD r n).size=n:=by simp[wD,Az];omega
def xN3 (s:ByteArray):Nat:=(yU s 0).toNat
def yI8 (s:ByteArray):ByteArray:=yQ (yQ (yQ s 1) (xN3 s)) 16
def xC5 (s:ByteArray):vY:=
 ⟨wD (yQ s 1) (xN3 s),wD (yQ (yQ s 1) (xN3 s)) 16,yU (wD (yI8 s) 1) 0,yU (wD (yQ (yI8 s) 1) 1) 0,wD (yQ (yQ (yI8 s) 1) 1) 32,
  wD (yQ (yQ (yQ (yI8 s) 1) 1) 32) 12,wD (yQ (yQ (yQ (yQ (yI8 s) 1) 1) 32) 12) 48,yQ (yQ (yQ (yQ (yQ (yI8 s) 1) 1) 32) 12) 48⟩
def xCn (s:ByteArray):Bool:=!decide (s.size=0)&&!decide (s.size<xN3 s+111)&&uL (xC5 s)
def kV (xNe:ByteArray):ByteArray:=bsA (xOk xNe ⟨#[]⟩ ⟨#[111,108,100]⟩ 32)
theorem xPy (p:ByteArray):(kV p).size=32:=by rw[kV,yS,xK7]
end Mailsack
namespace Go.Proofs.SH
open Go.RowKit Mailsack MM BB
theorem yHv (c d:Int) (hc:0<=c) (hc2:c<256) (hd:0<=d) (hd2:d<256) (W:World):(convert 96 9 (.slice (some (θ W.heap.size 0)) 2 2)).run prog (W.alloc (.cells #[.int .u8 c,.int .u8 d] 5))=.ok (.string (bsA [oct c,oct d])) (W.alloc (.cells #[.int .u8 c,.int .u8 d] 5)):=by
 refine Dl (P:=prog) (W.alloc (.cells #[.int .u8 c,.int .u8 d] 5)) _ _ 5 (θ W.heap.size 0) 2 [oct c,oct d] underlying96 underlying5 underlying9 (λj hj=>?_);have hb:=xJ W (.cells #[.int .u8 c,.int .u8 d] 5)
 have hj2:j=0∨j=1:=by simp at hj;omega
 have ha:(⟨W.heap.size,0,none⟩:Addr).add j=⟨W.heap.size,j,none⟩:=by unfold Addr.add;split<;>simp_all
 rw[ha,xA hb];rcases hj2 with rfl|rfl
 ·simp[wW];omega
 ·simp[wW];omega
theorem tZ {a:vY} (h:uL a=true):1<=a.user.size/\a.user.size<=8/\a.xP.size=16/\1<=a.rounds/\a.rounds<=64/\0<=a.jB/\a.jB<=1/\a.pub.size=32/\a.xB.size=12/\a.wrapped.size=48/\(a.old.size=0∨a.old.size=48):=by
 unfold uL zS jN at h;simp only[Au,Bool.or_eq_true,Be] at h;obtain⟨⟨⟨⟨⟨⟨⟨h1,h2⟩,_⟩,⟨⟨h3,h4⟩,h5⟩,h6⟩,h7⟩,h8⟩,h9⟩,h10⟩:=h;exact⟨h1,h2,h3,h5,h6,ω,ω,h8,h4,h9,h10⟩
theorem yK2 (a:vY) (w:World) (hr:uL a=true):
  Calls prog 66 #[xB1 a] w (pv (.tuple #[.string (xAa a),.int .i64 0]) w):=by
 have hl:=tZ hr;have HR:=ι (λW=>xGp a W ω);rw[hr] at HR;have H0:=ι (Ai (φ w (yV a)) (xJ w (yV a)));obtain⟨u,s,r,ep,pb,n,wr,o⟩:=a;simp only[yV,xB1] at H0 HR hl⊢;obtain⟨l1,l2,l3,l4,l5,l6,l7,l8,l9,l10,l11⟩:=hl
 have HP:Hid (xAa ⟨u,s,r,ep,pb,n,wr,o⟩=bsA [oct u.size]++u++s++bsA [oct r,oct ep]++pb++n++wr++o):=ι rfl;have m1:(u.size:Int) % 256=u.size:=ω;have m2:r % 256=r:=ω;have m3:ep % 256=ep:=ω;have hcv1:=yDz (u.size:Int) ω ω;have hcv2:=yHv r ep ω ω ω ω
 have z1:(bsA [oct (u.size:Int)]).size=1:=by rw[yS];rfl
 have z2:(bsA [oct r,oct ep]).size=2:=by rw[yS];rfl
 generalize bsA [oct (u.size:Int)]=b1 at HP hcv1 z1;generalize bsA [oct r,oct ep]=b2 at HP hcv2 z2;have nb1:¬(9223372036854775807<b1.size+u.size):=ω;have nb2:¬(9223372036854775807<(b1++u).size+s.size):=by simp only[Aw];omega
 have nb3:¬(9223372036854775807<(b1++u++s).size+b2.size):=by simp only[Aw];omega
 have nb4:¬(9223372036854775807<(b1++u++s++b2).size+pb.size):=by simp only[Aw];omega
 have nb5:¬(9223372036854775807<(b1++u++s++b2++pb).size+n.size):=by simp only[Aw];omega
 have nb6:¬(9223372036854775807<(b1++u++s++b2++pb++n).size+wr.size):=by simp only[Aw];omega
 have nb7:¬(9223372036854775807<(b1++u++s++b2++pb++n++wr).size+o.size):=by simp only[Aw];omega
 clear hr l1 l2 l3 l4 l5 l6 l7 l8 l9 l10 l11 z1 z2;go_enter func66,ntmps66;go_wp2_with fail
 refine cM (HR.o _) λw1 hb1=>?_;have B1:=ι (bT H0.o.1 hb1);have HK1:=ι (xC H0.o.2 hb1 (xH H0.o.2));clear hb1 HR H0;obtain⟨c0,c1⟩:=uQ HK1.o;have B2:=ι (B1.o.alloc B1.o.size (.cells #[.int .u8 (u.size:Int)] 5))
 have HK2:=ι (xN HK1.o (.cells #[.int .u8 (u.size:Int)] 5));obtain⟨d0,d1⟩:=uQ HK2.o;go_upto_region 4 with fail
 clear c0 c1 d0 d1 B1 HK1 hcv1;generalize w1.alloc (.cells #[.int .u8 (u.size:Int)] 5)=w2 at B2 HK2⊢;have c2:=xA HK2.o 2;have c3:=xA HK2.o 3;simp only[gA,gB,gC] at c2 c3;have B3:=ι (B2.o.alloc B2.o.size (.cells #[.int .u8 r,.int .u8 ep] 5))
 have HK3:=ι (xN HK2.o (.cells #[.int .u8 r,.int .u8 ep] 5));go_upto_region 5 with fail
 clear c2 c3 B2 HK2 hcv2;generalize w2.alloc (.cells #[.int .u8 r,.int .u8 ep] 5)=w3 at B3 HK3⊢;have c4:=xA HK3.o 4;have c5:=xA HK3.o 5;have c6:=xA HK3.o 6;have c7:=xA HK3.o 7;simp only[gA,gB,gC] at c4 c5 c6 c7;go_wp2;go_ret2;exact⟨by rw[HP.o];rfl,B3.o⟩
theorem xXs (p:ByteArray) (w:World) (hp:p.size<=1000000) (hT:jE w):
  Calls prog 94 #[.string p] w (pv (.tuple #[.string (kV p),.int .i64 0]) w):=by
 have HD:Hid (Calls prog 112 #[.string p,.string ⟨#[]⟩,.string ⟨#[111,108,100]⟩,.int .i64 32] w (pv (.tuple #[.string (kV p),.int .i64 0]) w)):=ι (xOj p ⟨#[]⟩ ⟨#[111,108,100]⟩ 32 w ω δ δ δ hT);generalize kV p=r at HD⊢;clear hT
 go_enter func94,ntmps94;go_wp2_with fail
 refine HD.o.mono ?_;rintro e w1 ⟨rfl,hb1⟩;have B1:=ι hb1;go_wp2;go_ret2;exact⟨rfl,B1.o⟩
theorem xCc (g n:Nat) (r:ByteArray) (w:World) (h:w.heap[g]?=some (.cells #[.string r] 9 (0,0))) (hn:n<=r.size):
  Calls prog 104 #[.int .i64 n,.pointer (some (θ g 0))] w λe w'=>e=.returned (.string (wD r n))/\w'=w.setCell (θ g 0) (.string (yQ r n)):=by
 have c0:=xA h 0;have f0:=xG h 0;simp only[gA,gC] at c0;have hP:Hid (wD r n=r.extract 0 n):=ι rfl;have hA:Hid (yQ r n=r.extract n r.size):=ι rfl;have hni:(n:Int)<=(r.size:Int):=ω;have hn0:¬((n:Int)<0):=ω;clear h;go_enter func104,ntmps104;go_wp2;go_ret
 exact⟨by rw[hP.o];rfl,by rw[hA.o]⟩
end Go.Proofs.SH