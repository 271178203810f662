/- Contracts of functions. Conditions: as stated. -/
import Derived.Test.YtnafbinmecekeaaGreatDoorImapSearchesProofB04
open Go.Proofs.Tryz
set_option maxHeartbeats 8000000
set_option maxRecDepth 100000
namespace Mailsack
structure S8 where
 a:Int
 b:Int
 c:Int
 d:Int
 e:Int
 f:Int
 g:Int
 h:Int
def S8.list (s:S8):List Int:=[s.a,s.b,s.c,s.d,s.e,s.f,s.g,s.h]
def S8.ok (s:S8):Prop:=U32 s.a/\U32 s.b/\U32 s.c/\U32 s.d/\U32 s.e/\U32 s.f/\U32 s.g/\U32 s.h
def tK:List Int:=[0x428a2f98,0x71374491,0xb5c0fbcf,0xe9b5dba5,0x3956c25b,0x59f111f1,0x923f82a4,0xab1c5ed5,
 0xd807aa98,0x12835b01,0x243185be,0x550c7dc3,0x72be5d74,0x80deb1fe,0x9bdc06a7,0xc19bf174,
 0xe49b69c1,0xefbe4786,0x0fc19dc6,0x240ca1cc,0x2de92c6f,0x4a7484aa,0x5cb0a9dc,0x76f988da,
 0x983e5152,0xa831c66d,0xb00327c8,0xbf597fc7,0xc6e00bf3,0xd5a79147,0x06ca6351,0x14292967,
 0x27b70a85,0x2e1b2138,0x4d2c6dfc,0x53380d13,0x650a7354,0x766a0abb,0x81c2c92e,0x92722c85,
 0xa2bfe8a1,0xa81a664b,0xc24b8b70,0xc76c51a3,0xd192e819,0xd6990624,0xf40e3585,0x106aa070,
 0x19a4c116,0x1e376c08,0x2748774c,0x34b0bcb5,0x391c0cb3,0x4ed8aa4a,0x5b9cca4f,0x682e6ff3,
 0x748f82ee,0x78a5636f,0x84c87814,0x8cc70208,0x90befffa,0xa4506ceb,0xbef9a3f7,0xc67178f2]
def xQ7:List Int:=[0x6a09e667,0xbb67ae85,0x3c6ef372,0xa54ff53a,0x510e527f,0x9b05688c,0x1f83d9ab,0x5be0cd19]
theorem xX9:wO tK:=by
 intro i
 by_cases h:i<64
 ·have:∀j:Fin 64,0<=tK.getD j 0/\tK.getD j 0<4294967296:=by decide +kernel
  exact this ⟨i,h⟩
 ·rw[List.getD_eq_getElem?_getD,List.getElem?_eq_none (by simp[tK];omega)];exact⟨δ,δ⟩
def sumE (s:S8):Int:=Go.bits .xor .u32 (Go.bits .xor .u32 (xGb s.e 26) (xGb s.e 21)) (xGb s.e 7)
def chE (s:S8):Int:=Go.bits .xor .u32 (Go.bits .and .u32 s.e s.f) (Go.bits .and .u32 (Go.bits .xor .u32 (if Go.IntKind.u32.signed=true then -1 else Go.IntKind.u32.max) s.e) s.g)
def sumA (s:S8):Int:=Go.bits .xor .u32 (Go.bits .xor .u32 (xGb s.a 30) (xGb s.a 19)) (xGb s.a 10)
def majA (s:S8):Int:=Go.bits .xor .u32 (Go.bits .xor .u32 (Go.bits .and .u32 s.a s.b) (Go.bits .and .u32 s.a s.c)) (Go.bits .and .u32 s.b s.c)
def rnd (K W:Int) (s:S8):S8:=
 ⟨((s.h+sumE s+chE s+K+W) % 4294967296+(sumA s+majA s) % 4294967296) % 4294967296,s.a,s.b,s.c,(s.d+(s.h+sumE s+chE s+K+W) % 4294967296) % 4294967296,s.e,s.f,s.g⟩
theorem rnd_ok (K W:Int) {s:S8} (h:s.ok):(rnd K W s).ok:=by
 obtain⟨ha,hb,hc,hd,he,hf,hg,hh⟩:=h;exact⟨vD _,ha,hb,hc,vD _,he,hf,hg⟩
def rounds (ws:List Int) (s:S8):Nat->S8
 |0=>s
 |k+1=>rnd (tK.getD k 0) (ws.getD k 0) (rounds ws s k)
theorem xJf (ws:List Int) {s:S8} (h:s.ok):∀k,(rounds ws s k).ok
 |0=>h
 |k+1=>rnd_ok _ _ (xJf ws h k)
def add8 (s r:S8):S8:=⟨(s.a+r.a) % 4294967296,(s.b+r.b) % 4294967296,(s.c+r.c) % 4294967296,(s.d+r.d) % 4294967296,(s.e+r.e) % 4294967296,(s.f+r.f) % 4294967296,(s.g+r.g) % 4294967296,(s.h+r.h) % 4294967296⟩
def xD9 (s:S8) (b:ByteArray):S8:=add8 s (rounds (kZ b) s 64)
theorem xVm (s:S8) (b:ByteArray):(xD9 s b).ok:=⟨vD _,vD _,vD _,vD _,vD _,vD _,vD _,vD _⟩
end Mailsack
namespace Go.Proofs.SH
open Go.RowKit Mailsack MM
structure xFg (w:World):Prop where
 ini:∃t fr,w.heap[1]?=some (.cells (yG xQ7) t fr)
 rnd:∃t fr,w.heap[4]?=some (.cells (yG tK) t fr)
theorem xFg.below {w w':World} {B:Nat} (h:xFg w) (hb:Below B w w') (hB:w.heap.size<=B):xFg w':=by
 obtain⟨⟨t,fr,h1⟩,t2,fr2,h2⟩:=h;exact⟨⟨t,fr,xC h1 hb (Nat.lt_of_lt_of_le (xJ h1) hB)⟩,t2,fr2,xC h2 hb (Nat.lt_of_lt_of_le (xJ h2) hB)⟩
theorem vW {P:Program} {t e:TypeId} {n:Nat} {k:IntKind} (ht:P.underlying t=some (.array n e)) (he:P.underlying e=some (.int k)) (hs:(P.info? e).map (·.size)=some 1) (cs:Array Value) (v:Value) (i:Nat) (hi:i<n) (hv:cs[i]?=some v) (w:World):
  (Instr.index t (.agg cs) (.int .i64 (i:Int))).run P w=.ok v w:=by
 have hz:∀w,(sizeOf e).run P w=.ok 1 w:=λw=>by
  cases hq:P.info? e with
  |none=>simp[hq] at hs
  |some j=>
   simp[hq] at hs;simp[sizeOf,typeInfo,hq,hs]
 have ha:∀w,(isAgg e).run P w=.ok false w:=λw=>by
  unfold isAgg;rw[Sem.run_bind,run_underlying he]
  rfl
 simp[Instr.index,asIntOf,run_underlying ht,hi,hz,part,ha,hv]
structure xKz (w:World) (s ws:List Int) (g:Nat) (W:World):Prop where
 st:W.heap[w.heap.size]?=some (.cells (yG s) 386 (0,0))
 res:W.heap[w.heap.size+1]?=some (.cells (yG (List.replicate 8 0)) 386 (0,0))
 wd:W.heap[g]?=some (.cells (yG ws) 438 (0,0))
 tab:xFg W
 bel:ψ w W
theorem xFg.drew {w:World} (h:xFg w):xFg w.drew:=⟨h.ini,h.rnd⟩
theorem xKz.drew {w:World} {s ws:List Int} {g:Nat} {W:World} (h:xKz w s ws g W):xKz w s ws g W.drew:=⟨h.st,h.res,h.wd,h.tab.drew,h.bel.drew⟩
theorem qP {w W:World} (h:ψ w W) (i:Nat) (u:Value):ψ w (W.setCell ⟨w.heap.size+1,i,none⟩ u):=h.setCell (p:=⟨w.heap.size+1,i,none⟩) (Nat.le_succ _) u
theorem xVk (S:S8) (b:ByteArray) (w:World) (hS:S.ok) (hb:b.size=64) (hT:xFg w):
  Calls prog 337 #[.agg (yG S.list),.string b] w λe w'=>e=.returned (.agg (yG (xD9 S b).list))/\ψ w w':=by
 have HT:=ι hT;have HSch:=ι (λW=>xJb b W hb);have HWl:(kZ b).length=64:=xBm b 48;have HWu:=ι (show wO (kZ b) from xSr b 48);have HI:Hid ((prog.info? 438).map (·.size)=some (yG (kZ b)).size):=ι (by rw[yH,HWl];kernel_rfl)
 have HO:Hid ((yG (List.replicate 64 0)).size=(yG (kZ b)).size):=ι (by rw[yH,yH,HWl,List.length_replicate]);have H1:=ι (qN (kZ b));clear hT;have HF:Hid (xD9 S b=add8 S (rounds (kZ b) S 64)):=ι rfl;have HS:=ι hS;generalize xD9 S b=R at HF⊢
 generalize kZ b=ws at HSch HWl HWu HI HO H1 HF;obtain⟨s0,s1,s2,s3,s4,s5,s6,s7⟩:=S;obtain⟨⟨l0,m0⟩,⟨l1,m1⟩,⟨l2,m2⟩,⟨l3,m3⟩,⟨l4,m4⟩,⟨l5,m5⟩,⟨l6,m6⟩,⟨l7,m7⟩⟩:=hS;simp only at l0 m0 l1 m1 l2 m2 l3 m3 l4 m4 l5 m5 l6 m6 l7 m7
 show Calls _ _ #[.agg #[.int .u32 s0,.int .u32 s1,.int .u32 s2,.int .u32 s3,.int .u32 s4,.int .u32 s5,.int .u32 s6,.int .u32 s7],.string b] w _;go_enter func337,ntmps337;go_wp2_with fail
 refine(HSch.o _).mono ?_;rintro e w1 ⟨rfl,hb1⟩;have ha1:=(φ w (.cells (yG [s0,s1,s2,s3,s4,s5,s6,s7]) 386)).alloc σ (.cells (yG (List.replicate 8 0)) 386)
 have HB:Hid (xKz w [s0,s1,s2,s3,s4,s5,s6,s7] ws w1.heap.size (w1.alloc (.cells (yG ws) 438))):=ι ⟨
  xM (xC (zK w (.cells (yG [s0,s1,s2,s3,s4,s5,s6,s7]) 386) (.cells (yG (List.replicate 8 0)) 386)) hb1 (by simp;omega)) _,
  xM (xC (zD w (.cells (yG [s0,s1,s2,s3,s4,s5,s6,s7]) 386) (.cells (yG (List.replicate 8 0)) 386)) hb1 σ) _,
  xI _ _,
  HT.o.below ((ha1.trans (hb1.mono ha1.size)).alloc (Nat.le_trans ha1.size hb1.size) _) ν,
  (ha1.trans (hb1.mono ha1.size)).alloc (Nat.le_trans ha1.size hb1.size) _⟩
 clear hb1 ha1 HT HSch
 have hst:(storeCells ⟨w1.heap.size,0,none⟩ (yG ws).toList).run prog (w1.alloc (.cells #[.int .u32 0,.int .u32 0,.int .u32 0,.int .u32 0,.int .u32 0,.int .u32 0,.int .u32 0,.int .u32 0,.int .u32 0,.int .u32 0,.int .u32 0,.int .u32 0,.int .u32 0,.int .u32 0,.int .u32 0,.int .u32 0,.int .u32 0,.int .u32 0,.int .u32 0,.int .u32 0,.int .u32 0,.int .u32 0,.int .u32 0,.int .u32 0,.int .u32 0,.int .u32 0,.int .u32 0,.int .u32 0,.int .u32 0,.int .u32 0,.int .u32 0,.int .u32 0,.int .u32 0,.int .u32 0,.int .u32 0,.int .u32 0,.int .u32 0,.int .u32 0,.int .u32 0,.int .u32 0,.int .u32 0,.int .u32 0,.int .u32 0,.int .u32 0,.int .u32 0,.int .u32 0,.int .u32 0,.int .u32 0,.int .u32 0,.int .u32 0,.int .u32 0,.int .u32 0,.int .u32 0,.int .u32 0,.int .u32 0,.int .u32 0,.int .u32 0,.int .u32 0,.int .u32 0,.int .u32 0,.int .u32 0,.int .u32 0,.int .u32 0,.int .u32 0] 438))=.ok () (w1.alloc (.cells (yG ws) 438)):=run_storeCells_new w1 _ _ _ HI.o HO.o H1.o
 have hsz:(yG ws).size=64:=by rw[yH,HWl]
 go_upto_region 4 with fail
 clear hst hsz;generalize w1.alloc (.cells (yG ws) 438)=w2 at HB⊢;generalize w1.heap.size=g1 at HB⊢;refine RG.xH (λW=>Hid (xKz w [s0,s1,s2,s3,s4,s5,s6,s7] ws g1 W)) κ κ (ι HB.o.drew) ?_
 iterate 12
  apply RG.xG
  ·intro w9 hw9;have q0:w9.cell? ⟨w.heap.size,0,none⟩=some (.int .u32 s0):=xA hw9.o.st 0;have q1:w9.cell? ⟨w.heap.size,1,none⟩=some (.int .u32 s1):=xA hw9.o.st 1;have q2:w9.cell? ⟨w.heap.size,2,none⟩=some (.int .u32 s2):=xA hw9.o.st 2
   have q3:w9.cell? ⟨w.heap.size,3,none⟩=some (.int .u32 s3):=xA hw9.o.st 3;repeat go_step
   exact RG.xB hw9
  ·rfl
 refine RG.xL (λw3 hw3=>?_);clear HB;go_upto_region 5 with fail
 refine RG.xH (λW=>Hid (xKz w [s0,s1,s2,s3,s4,s5,s6,s7] ws g1 W)) κ κ (ι hw3.o.drew) ?_
 iterate 12
  apply RG.xG
  ·intro w9 hw9;have q0:w9.cell? ⟨w.heap.size,4,none⟩=some (.int .u32 s4):=xA hw9.o.st 4;have q1:w9.cell? ⟨w.heap.size,5,none⟩=some (.int .u32 s5):=xA hw9.o.st 5;have q2:w9.cell? ⟨w.heap.size,6,none⟩=some (.int .u32 s6):=xA hw9.o.st 6
   have q3:w9.cell? ⟨w.heap.size,7,none⟩=some (.int .u32 s7):=xA hw9.o.st 7;repeat go_step
   exact RG.xB hw9
  ·rfl
 refine RG.xL (λw4 hw4=>?_);clear hw3;go_wp2_with (refine wpList_load_row rfl _ _ rfl g1 rfl _ _ (0,0) _ hw4.o.wd underlying438 rfl HI.o ?_)
 go_loopw [6,7,8,9,10,11,12,13,45] (λva vb vc vd ve vf vg vh iv wr=>∃(k:Nat) (a b c d e f g h:Int),k<=64/\iv=.int .i64 k/\va=.int .u32 a/\vb=.int .u32 b/\vc=.int .u32 c/\vd=.int .u32 d/\ve=.int .u32 e/\vf=.int .u32 f/\vg=.int .u32 g/\vh=.int .u32 h/\Hid ((⟨a,b,c,d,e,f,g,h⟩:S8)=rounds ws ⟨s0,s1,s2,s3,s4,s5,s6,s7⟩ k/\xKz w [s0,s1,s2,s3,s4,s5,s6,s7] ws g1 wr)) (λ_ _ _ _ _ _ _ _ iv _=>64- (intOf iv).toNat)
 case atStart=>exact⟨0,s0,s1,s2,s3,s4,s5,s6,s7,δ,rfl,rfl,rfl,rfl,rfl,rfl,rfl,rfl,rfl,ι ⟨rfl,hw4.o⟩⟩
 case round=>
  obtain⟨k,xa,xb,xc,xd,xe,xf,xg,xh,hk,rfl,rfl,rfl,rfl,rfl,rfl,rfl,rfl,rfl,hr⟩:=hrel;clear hw4
  by_cases hlt:k<64
  ·have HBK:=ι hr.o.2;have hok:=xJf ws HS.o k;rw[<-hr.o.1] at hok;have HRR:=ι hr.o.1;obtain⟨ua,ub,uc,ud,ue,uf,ug,uh⟩:=hok;clear hr;simp only at ua ub uc ud ue uf ug uh;obtain⟨W,hW⟩:∃W,ws.getD k 0=W:=⟨_,rfl⟩;have uW:=HWu.o k;rw[hW] at uW
   have ix:=λw=>vW (P:=prog) underlying438 underlying228 κ (yG ws) (.int .u32 W) k hlt (by rw[zY ω,hW]) w;obtain⟨K,hK⟩:∃K,tK.getD k 0=K:=⟨_,rfl⟩;have uK:=xX9 k;rw[hK] at uK
   have gK:∀X,Hid (xKz w [s0,s1,s2,s3,s4,s5,s6,s7] ws g1 X)->X.cell? ⟨4,k,none⟩=some (.int .u32 K):=λX h=>by
    obtain⟨t,fr,hh⟩:=h.o.tab.rnd;rw[cell_of_row _ _ _ _ _ _ hh,zY (by simp[tK];omega),hK]
   have GK:=ι gK;have R1:=ι (λX=>jJ xe (-6) 26 X ue δ δ);have R2:=ι (λX=>jJ xe (-11) 21 X ue δ δ);have R3:=ι (λX=>jJ xe (-25) 7 X ue δ δ);have R4:=ι (λX=>jJ xa (-2) 30 X ua δ δ);have R5:=ι (λX=>jJ xa (-13) 19 X ua δ δ);have R6:=ι (λX=>jJ xa (-22) 10 X ua δ δ)
   have HU:Hid (rnd K W ⟨xa,xb,xc,xd,xe,xf,xg,xh⟩=rounds ws ⟨s0,s1,s2,s3,s4,s5,s6,s7⟩ (k+1)):=ι (by rw[HRR.o,<-hK,<-hW];rfl);obtain⟨ua0,ua1⟩:=ua;obtain⟨ub0,ub1⟩:=ub;obtain⟨uc0,uc1⟩:=uc;obtain⟨ud0,ud1⟩:=ud;obtain⟨ue0,ue1⟩:=ue;obtain⟨uf0,uf1⟩:=uf;obtain⟨ug0,ug1⟩:=ug
   obtain⟨uh0,uh1⟩:=uh;obtain⟨uW0,uW1⟩:=uW;obtain⟨uK0,uK1⟩:=uK;clear gK hW hK;go_upto_region 9 with fail
   clear ix;refine RG.yD (λX=>Hid (xKz w [s0,s1,s2,s3,s4,s5,s6,s7] ws g1 X)) HBK ?_;refine RG.dS ?_;apply RG.xG
   ·intro w9 hw9;repeat go_step
    refine(R1.o _).mono ?_;rintro e w10 ⟨rfl,rfl⟩;simp only[];repeat go_step
    exact RG.xB hw9
   ·rfl
   refine RG.dS ?_;apply RG.xG
   ·intro w9 hw9;repeat go_step
    refine(R2.o _).mono ?_;rintro e w10 ⟨rfl,rfl⟩;simp only[];repeat go_step
    exact RG.xB hw9
   ·rfl
   iterate 2 refine RG.dS ?_
   apply RG.xG
   ·intro w9 hw9;repeat go_step
    refine(R3.o _).mono ?_;rintro e w10 ⟨rfl,rfl⟩;simp only[];repeat go_step
    exact RG.xB hw9
   ·rfl
   iterate 2 refine RG.dS ?_
   refine RG.xL (λw5 hw5=>?_);clear HBK;go_upto_region 10 with fail
   refine RG.yD (λX=>Hid (xKz w [s0,s1,s2,s3,s4,s5,s6,s7] ws g1 X)) hw5 ?_;clear hw5;iterate 9 refine RG.dS ?_
   refine RG.xL (λw5 hw5=>?_);go_upto_region 11 with fail
   refine RG.yD (λX=>Hid (xKz w [s0,s1,s2,s3,s4,s5,s6,s7] ws g1 X)) hw5 ?_;clear hw5;iterate 6 refine RG.dS ?_
   iterate 2 refine RG.dF (λw9 hw9=>GK.o _ hw9) ?_
   iterate 4 refine RG.dS ?_
   refine RG.xL (λw5 hw5=>?_);go_upto_region 12 with fail
   refine RG.yD (λX=>Hid (xKz w [s0,s1,s2,s3,s4,s5,s6,s7] ws g1 X)) hw5 ?_;clear hw5;refine RG.dS ?_;apply RG.xG
   ·intro w9 hw9;repeat go_step
    refine(R4.o _).mono ?_;rintro e w10 ⟨rfl,rfl⟩;simp only[];repeat go_step
    exact RG.xB hw9
   ·rfl
   refine RG.dS ?_;apply RG.xG
   ·intro w9 hw9;repeat go_step
    refine(R5.o _).mono ?_;rintro e w10 ⟨rfl,rfl⟩;simp only[];repeat go_step
    exact RG.xB hw9
   ·rfl
   iterate 2 refine RG.dS ?_
   apply RG.xG
   ·intro w9 hw9;repeat go_step
    refine(R6.o _).mono ?_;rintro e w10 ⟨rfl,rfl⟩;simp only[];repeat go_step
    exact RG.xB hw9
   ·rfl
   iterate 2 refine RG.dS ?_
   refine RG.xL (λw5 hw5=>?_);go_upto_region 13 with fail
   refine RG.yD (λX=>Hid (xKz w [s0,s1,s2,s3,s4,s5,s6,s7] ws g1 X)) hw5 ?_;clear hw5;iterate 12 refine RG.dS ?_
   refine RG.xL (λw5 hw5=>?_);go_upto_region 14 with fail
   refine RG.yD (λX=>Hid (xKz w [s0,s1,s2,s3,s4,s5,s6,s7] ws g1 X)) hw5 ?_;clear hw5;iterate 4 refine RG.dS ?_
   refine RG.xL (λw5 hw5=>?_);go_upto_region 15 with fail
   refine RG.yD (λX=>Hid (xKz w [s0,s1,s2,s3,s4,s5,s6,s7] ws g1 X)) hw5 ?_;clear hw5;iterate 10 refine RG.dS ?_
   refine RG.xL (λw5 hw5=>?_);go_upto_region 16 with fail
   refine RG.yD (λX=>Hid (xKz w [s0,s1,s2,s3,s4,s5,s6,s7] ws g1 X)) hw5 ?_;clear hw5;iterate 10 refine RG.dS ?_
   refine RG.xL (λw5 hw5=>?_);go_wp2;exact⟨⟨k+1,_,_,_,_,_,_,_,_,ω,by go_num,rfl,rfl,rfl,rfl,rfl,rfl,rfl,rfl,ι ⟨HU.o,hw5.o⟩⟩,by simp[intOf];omega⟩
  ·obtain rfl:k=64:=ω;rw[<-hr.o.1] at HF;have q0:wr.cell? ⟨w.heap.size,0,none⟩=some (.int .u32 s0):=xA hr.o.2.st 0;have q1:wr.cell? ⟨w.heap.size,1,none⟩=some (.int .u32 s1):=xA hr.o.2.st 1;have q2:wr.cell? ⟨w.heap.size,2,none⟩=some (.int .u32 s2):=xA hr.o.2.st 2
   have q3:wr.cell? ⟨w.heap.size,3,none⟩=some (.int .u32 s3):=xA hr.o.2.st 3;have q4:wr.cell? ⟨w.heap.size,4,none⟩=some (.int .u32 s4):=xA hr.o.2.st 4;have q5:wr.cell? ⟨w.heap.size,5,none⟩=some (.int .u32 s5):=xA hr.o.2.st 5
   have q6:wr.cell? ⟨w.heap.size,6,none⟩=some (.int .u32 s6):=xA hr.o.2.st 6;have q7:wr.cell? ⟨w.heap.size,7,none⟩=some (.int .u32 s7):=xA hr.o.2.st 7;have f0:wr.cell? ⟨w.heap.size+1,0,none⟩=some (.int .u32 0):=xA hr.o.2.res 0;have x0:=xD hr.o.2.res 0
   have f1:wr.cell? ⟨w.heap.size+1,1,none⟩=some (.int .u32 0):=xA hr.o.2.res 1;have x1:=xD hr.o.2.res 1;have f2:wr.cell? ⟨w.heap.size+1,2,none⟩=some (.int .u32 0):=xA hr.o.2.res 2;have x2:=xD hr.o.2.res 2
   have f3:wr.cell? ⟨w.heap.size+1,3,none⟩=some (.int .u32 0):=xA hr.o.2.res 3;have x3:=xD hr.o.2.res 3;have f4:wr.cell? ⟨w.heap.size+1,4,none⟩=some (.int .u32 0):=xA hr.o.2.res 4;have x4:=xD hr.o.2.res 4
   have f5:wr.cell? ⟨w.heap.size+1,5,none⟩=some (.int .u32 0):=xA hr.o.2.res 5;have x5:=xD hr.o.2.res 5;have f6:wr.cell? ⟨w.heap.size+1,6,none⟩=some (.int .u32 0):=xA hr.o.2.res 6;have x6:=xD hr.o.2.res 6
   have f7:wr.cell? ⟨w.heap.size+1,7,none⟩=some (.int .u32 0):=xA hr.o.2.res 7;have x7:=xD hr.o.2.res 7;have HRS:=ι hr.o.2.res;have HBL:=ι hr.o.2.bel;clear hr;go_wp2
   refine bodyPost_ret (v:=.agg (yG (add8 ⟨s0,s1,s2,s3,s4,s5,s6,s7⟩ ⟨xa,xb,xc,xd,xe,xf,xg,xh⟩).list)) (by simp[results,results337,go_sem,f0,f1,f2,f3,f4,f5,f6,f7];rfl) rfl ?_;rw[HF.o];refine⟨rfl,?_⟩;have h:=HBL.o
   clear f0 q0 x0 f1 q1 x1 f2 q2 x2 f3 q3 x3 f4 q4 x4 f5 q5 x5 f6 q6 x6 f7 q7 x7;have k0:=qP h 0 (.int .u32 ((s0+xa) % 4294967296));have k1:=qP k0 1 (.int .u32 ((s1+xb) % 4294967296));have k2:=qP k1 2 (.int .u32 ((s2+xc) % 4294967296))
   have k3:=qP k2 3 (.int .u32 ((s3+xd) % 4294967296));have k4:=qP k3 4 (.int .u32 ((s4+xe) % 4294967296));have k5:=qP k4 5 (.int .u32 ((s5+xf) % 4294967296));have k6:=qP k5 6 (.int .u32 ((s6+xg) % 4294967296));have k7:=qP k6 7 (.int .u32 ((s7+xh) % 4294967296))
   with_reducible exact k7
end Go.Proofs.SH
namespace Mailsack
def xRb (r:Bs):Nat:=if 64<r.length+9 then 128 else 64
def endA (r:Bs):Bs:=(r++(xO (xRb r)).drop r.length).set r.length (oct 128)
def xMi (r:Bs) (count:Int):Nat->Bs
 |0=>endA r
 |k+1=>(xMi r count k).set (xRb r-1-k) (oct (count / 2^(8*k)))
def endP (r:Bs) (count:Int):Bs:=xMi r count 8
theorem yC2 (r:Bs) (h:r.length<64):r.length<xRb r:=by unfold xRb;split<;>omega
theorem xIe (r:Bs) (count:Int) (h:r.length<64):∀k,(xMi r count k).length=xRb r
 |0=>by have:=yC2 r h;simp[xMi,endA,yS];omega
 |k+1=>by simp[xMi,xIe r count h k]
end Mailsack
namespace Go.Proofs.SH
open Go.RowKit Mailsack MM BB
theorem xQj (b:ByteArray) (count:Int) (w:World) (hb:b.size<64):
  Calls prog 338 #[.string b,.int .u64 count] w λe w'=>e=.returned (.string ⟨(endP b.data.toList count).toArray⟩)/\ψ w w':=by
 have hbl:b.data.toList.length=b.size:=σ;have HL:=ι (λk=>xIe b.data.toList count ω k)
 by_cases hn:64<b.size+9
 ·have HN:Hid (xRb b.data.toList=128):=ι (by unfold xRb;rw[if_pos ω]);have hmk:∀W:World,(Instr.makeSlice 125 (.int .i64 128) (.int .i64 128)).run prog W=.ok (.slice (some ⟨W.heap.size,0,none⟩) 128 128) (W.alloc (.cells (xX (xO 128)) 5)):=λW=>made W 128 128 δ δ
  have HB0:Hid (wZ (w.alloc (.cells (xX (xO 128)) 5)) w.heap.size (xO 128)):=ι (xI _ _);have HW0:=ι (φ w (.cells (xX (xO 128)) 5));go_enter func338,ntmps338;go_upto_region 5 with fail
  refine wp_region_lit ?_;iterate 6 go_step
  refine Lib.wpList_copy_run _ rfl _ _ _ _ rfl _ _ rfl rfl (copied HB0.o _ _ _ _ ω (by rw[yS];omega)) ?_;have HB1:=ι (HB0.o.row (b.data.toList++(xO 128).drop b.size));have HW1:=ι (below_setRow HW0.o ν (xX (b.data.toList++(xO 128).drop b.size)));clear hmk HB0 HW0
  generalize (w.alloc (.cells (xX (xO 128)) 5)).setRow w.heap.size (xX (b.data.toList++(xO 128).drop b.size))=w1 at HB1 HW1⊢;have q0:=HB1.o.cell (i:=b.size) (by simp[yS];omega);have q1:=HB1.o.free b.size
  have HB2:Hid (wZ (w1.setCell ⟨w.heap.size,b.size,none⟩ (.int .u8 128)) w.heap.size (xMi b.data.toList count 0)):=ι (by
   have h:=HB1.o.put b.size 128;unfold xMi endA;rw[HN.o,hbl];exact h)
  have HW2:=ι (HW1.o.setCell (p:=⟨w.heap.size,b.size,none⟩) ν (.int .u8 128));clear HB1 HW1;go_wp2_with fail
  clear q0 q1
  go_loopw [21] (λiv wr=>∃k:Nat,k<=8/\iv=.int .i64 k/\Hid (wZ wr w.heap.size (xMi b.data.toList count k)/\ψ w wr)) (λiv _=>8- (intOf iv).toNat)
  case atStart=>exact⟨0,δ,rfl,ι ⟨HB2.o,HW2.o⟩⟩
  case round=>
   obtain⟨k,hk,rfl,hr⟩:=hrel;clear HB2 HW2
   by_cases hlt:k<8
   ·have q0:=hr.o.1.cell (i:=127-k) (by rw[HL.o k,HN.o];omega);have q1:=hr.o.1.free (127-k)
    have HK:Hid (wZ (wr.setCell ⟨w.heap.size,127-k,none⟩ (.int .u8 (count / 2^(8*k) % 256))) w.heap.size (xMi b.data.toList count (k+1))):=ι (by
     have h:=hr.o.1.put (127-k) (count / 2^(8*k));unfold xMi;rw[HN.o];exact h)
    have HKW:=ι (hr.o.2.setCell (p:=⟨w.heap.size,127-k,none⟩) ν (.int .u8 (count / 2^(8*k) % 256)));clear hr;go_wp2;exact⟨⟨k+1,ω,by go_num,ι ⟨HK.o,HKW.o⟩⟩,by simp[intOf];omega⟩
   ·obtain rfl:k=8:=ω;have ht:=xS6 hr.o.1 128 128 (by rw[HL.o 8,HN.o];exact Nat.le_refl _);rw[List.take_of_length_le (by rw[HL.o 8,HN.o];exact Nat.le_refl _)] at ht;have HBW:=ι hr.o.2;clear hr;go_wp2;go_ret;exact⟨rfl,HBW.o⟩
 ·have HN:Hid (xRb b.data.toList=64):=ι (by unfold xRb;rw[if_neg ω]);have hmk:∀W:World,(Instr.makeSlice 125 (.int .i64 64) (.int .i64 64)).run prog W=.ok (.slice (some ⟨W.heap.size,0,none⟩) 64 64) (W.alloc (.cells (xX (xO 64)) 5)):=λW=>made W 64 64 δ δ
  have HB0:Hid (wZ (w.alloc (.cells (xX (xO 64)) 5)) w.heap.size (xO 64)):=ι (xI _ _);have HW0:=ι (φ w (.cells (xX (xO 64)) 5));go_enter func338,ntmps338;go_upto_region 5 with fail
  refine wp_region_lit ?_;iterate 6 go_step
  refine Lib.wpList_copy_run _ rfl _ _ _ _ rfl _ _ rfl rfl (copied HB0.o _ _ _ _ ω (by rw[yS];omega)) ?_;have HB1:=ι (HB0.o.row (b.data.toList++(xO 64).drop b.size));have HW1:=ι (below_setRow HW0.o ν (xX (b.data.toList++(xO 64).drop b.size)));clear hmk HB0 HW0
  generalize (w.alloc (.cells (xX (xO 64)) 5)).setRow w.heap.size (xX (b.data.toList++(xO 64).drop b.size))=w1 at HB1 HW1⊢;have q0:=HB1.o.cell (i:=b.size) (by simp[yS];omega);have q1:=HB1.o.free b.size
  have HB2:Hid (wZ (w1.setCell ⟨w.heap.size,b.size,none⟩ (.int .u8 128)) w.heap.size (xMi b.data.toList count 0)):=ι (by
   have h:=HB1.o.put b.size 128;unfold xMi endA;rw[HN.o,hbl];exact h)
  have HW2:=ι (HW1.o.setCell (p:=⟨w.heap.size,b.size,none⟩) ν (.int .u8 128));clear HB1 HW1;go_wp2_with fail
  clear q0 q1
  go_loopw [21] (λiv wr=>∃k:Nat,k<=8/\iv=.int .i64 k/\Hid (wZ wr w.heap.size (xMi b.data.toList count k)/\ψ w wr)) (λiv _=>8- (intOf iv).toNat)
  case atStart=>exact⟨0,δ,rfl,ι ⟨HB2.o,HW2.o⟩⟩
  case round=>
   obtain⟨k,hk,rfl,hr⟩:=hrel;clear HB2 HW2
   by_cases hlt:k<8
   ·have q0:=hr.o.1.cell (i:=63-k) (by rw[HL.o k,HN.o];omega);have q1:=hr.o.1.free (63-k)
    have HK:Hid (wZ (wr.setCell ⟨w.heap.size,63-k,none⟩ (.int .u8 (count / 2^(8*k) % 256))) w.heap.size (xMi b.data.toList count (k+1))):=ι (by
     have h:=hr.o.1.put (63-k) (count / 2^(8*k));unfold xMi;rw[HN.o];exact h)
    have HKW:=ι (hr.o.2.setCell (p:=⟨w.heap.size,63-k,none⟩) ν (.int .u8 (count / 2^(8*k) % 256)));clear hr;go_wp2;exact⟨⟨k+1,ω,by go_num,ι ⟨HK.o,HKW.o⟩⟩,by simp[intOf];omega⟩
   ·obtain rfl:k=8:=ω;have ht:=xS6 hr.o.1 64 64 (by rw[HL.o 8,HN.o];exact Nat.le_refl _);rw[List.take_of_length_le (by rw[HL.o 8,HN.o];exact Nat.le_refl _)] at ht;have HBW:=ι hr.o.2;clear hr;go_wp2;go_ret;exact⟨rfl,HBW.o⟩
end Go.Proofs.SH
namespace Mailsack
def xI3:S8:=⟨0x6a09e667,0xbb67ae85,0x3c6ef372,0xa54ff53a,0x510e527f,0x9b05688c,0x1f83d9ab,0x5be0cd19⟩
theorem xO1:xI3.ok:=⟨⟨δ,δ⟩,⟨δ,δ⟩,⟨δ,δ⟩,⟨δ,δ⟩,⟨δ,δ⟩,⟨δ,δ⟩,⟨δ,δ⟩,⟨δ,δ⟩⟩
def xKu (s:S8) (b:ByteArray):Nat->S8
 |0=>s
 |k+1=>xD9 (xKu s b k) (b.extract (64*k) (64*k+64))
theorem xHm {s:S8} (h:s.ok) (b:ByteArray):∀k,(xKu s b k).ok
 |0=>h
 |_+1=>xVm _ _
theorem xJd (s:S8) (b:ByteArray) (k:Nat):xKu s b (k+1)=xD9 (xKu s b k) (b.extract (64*k) (64*k+64)):=rfl
def xRt (x:Int):Bs:=[oct (x / 16777216),oct (x / 65536),oct (x / 256),oct x]
def xAk (l:List Int):Nat->Bs
 |0=>[]
 |k+1=>xAk l k++xRt (l.getD k 0)
theorem xCi (l:List Int):∀k,(xAk l k).length=4*k
 |0=>rfl
 |k+1=>by simp[xAk,xCi l k,xRt];omega
theorem xL2 (l:List Int) (k:Nat):xAk l (k+1)=xAk l k++xRt (l.getD k 0):=rfl
def xHr (b:ByteArray):ByteArray:=b.extract (64*(b.size / 64)) b.size
theorem xGc (b:ByteArray):(xHr b).size<64:=by unfold xHr;rw[ByteArray.size_extract];omega
def xFm (b:ByteArray):ByteArray:=⟨(endP (xHr b).data.toList ((b.size:Int)*8)).toArray⟩
def shaS (b:ByteArray):S8:=xKu (xKu xI3 b (b.size / 64)) (xFm b) ((xFm b).size / 64)
def xLj (b:ByteArray):Bs:=xAk (shaS b).list 8
theorem xDj (b:ByteArray):(xLj b).length=32:=xCi _ 8
theorem xSa (b:ByteArray):(xFm b).size=xRb (xHr b).data.toList:=by
 have hz:(xHr b).data.toList.length<64:=by
  have:=xGc b;simpa using this
 have h:(endP (xHr b).data.toList ((b.size:Int)*8)).length=xRb (xHr b).data.toList:=by
  unfold endP;exact xIe _ _ hz 8
 unfold xFm;generalize endP (xHr b).data.toList ((b.size:Int)*8)=l at h;rw[<-h];simp[ByteArray.size]
theorem xP5 (b:ByteArray):(xFm b).size=64∨(xFm b).size=128:=by
 rw[xSa];unfold xRb;split
 ·exact .inr rfl
 ·exact .inl rfl
end Mailsack
namespace Go.Proofs.SH
open Go.RowKit Mailsack MM BB
structure xIm (w:World) (s:S8) (W:World):Prop where
 st:W.heap[w.heap.size]?=some (.cells (yG s.list) 386 (0,0))
 bel:ψ w W
theorem xIm.drew {w:World} {s:S8} {W:World} (h:xIm w s W):xIm w s W.drew:=⟨h.st,h.bel.drew⟩
theorem xIm.below {w:World} {s:S8} {W W':World} (h:xIm w s W) (hb:ψ W W'):xIm w s W':=
 ⟨xC h.st hb (xJ h.st),h.bel.trans (hb.mono h.bel.size)⟩
theorem xIm.put {w:World} {s:S8} {W:World} (h:xIm w s W) (s':S8):xIm w s' (W.setRow w.heap.size (yG s'.list)):=
 ⟨setRow_heap _ _ _ _ _ _ h.st,below_setRow h.bel ν _⟩
theorem xIm.tab {w:World} {s:S8} {W:World} (h:xIm w s W) (ht:xFg w):xFg W:=ht.below h.bel ν
theorem xUw (b:ByteArray):b.extract 0 b.size=b:=σ
theorem list_u {s:S8} (h:s.ok):wO s.list:=by
 obtain⟨h0,h1,h2,h3,h4,h5,h6,h7⟩:=h;intro i
 match i with
 |0=>exact h0
 |1=>exact h1
 |2=>exact h2
 |3=>exact h3
 |4=>exact h4
 |5=>exact h5
 |6=>exact h6
 |7=>exact h7
 |n+8=>
  rw[List.getD_eq_getElem?_getD,List.getElem?_eq_none (by simp[S8.list])];exact⟨δ,δ⟩
def SI (w:World) (s s':S8) (l0 l3 l4:Bool) (W:World):Prop:=(l3=true->l0=true)/\(l4=true->l3=true)/\xIm w (if l4 then s' else s) W
theorem SI.no4 {w:World} {s s':S8} {l0 l3 l4:Bool} {W:World} (h:SI w s s' l0 l3 l4 W) (h4:l4=false):xIm w s W:=by
 have:=h.2.2;rw[h4,if_neg σ] at this;exact this
theorem SI.no3 {w:World} {s s':S8} {l0 l3 l4:Bool} {W:World} (h:SI w s s' l0 l3 l4 W) (h3:l3=false):xIm w s W:=
 h.no4 (by cases l4 with
  |false=>rfl
  |true=>rw[h3] at h;exact absurd (h.2.1 rfl) σ)
theorem SI.no0 {w:World} {s s':S8} {l0 l3 l4:Bool} {W:World} (h:SI w s s' l0 l3 l4 W) (h0:l0=false):xIm w s W:=
 h.no3 (by cases l3 with
  |false=>rfl
  |true=>rw[h0] at h;exact absurd (h.1 rfl) σ)
theorem SI.done0 {w:World} {s s':S8} {l0 l3 l4:Bool} {W:World} (h:SI w s s' l0 l3 l4 W) (_:l0=false):SI w s s' true l3 l4 W:=⟨λ_=>rfl,h.2.1,h.2.2⟩
theorem SI.done3 {w:World} {s s':S8} {l0 l3 l4:Bool} {W W':World} (h:SI w s s' l0 l3 l4 W) (h3:l3=false) (h0:l0=true) (hb:ψ W W'):SI w s s' l0 true l4 W':=by
 refine⟨λ_=>h0,λ_=>rfl,?_⟩
 have h4:l4=false:=by cases l4 with
  |false=>rfl
  |true=>rw[h3] at h;exact absurd (h.2.1 rfl) σ
 rw[h4,if_neg σ];exact(h.no3 h3).below hb
theorem SI.done4 {w:World} {s s':S8} {l0 l3 l4:Bool} {W:World} (h:SI w s s' l0 l3 l4 W) (h4:l4=false) (h3:l3=true):SI w s s' l0 l3 true (W.setRow w.heap.size (yG s'.list)):=by
 refine⟨h.1,λ_=>h3,?_⟩;rw[if_pos rfl];exact(h.no4 h4).put s'
theorem xLb (b:ByteArray) (w:World) (hb:b.size<=1152921504606846976) (hT:xFg w):
  Calls prog 263 #[.string b] w λe w'=>e=.returned (xK (xLj b))/\ψ w w':=by
 have HT:=ι hT;have hi8:Hid (∀s:S8,(prog.info? 386).map (·.size)=some (yG s.list).size):=ι (λs=>by rw[yH];kernel_rfl);have HBk:=ι (λ(S:S8) (c:ByteArray) (W:World) (h1:S.ok) (h2:c.size=64) (h3:xFg W)=>xVk S c W h1 h2 h3);obtain⟨t1,fr1,xY6⟩:=hT.ini
 have i0:w.cell? ⟨1,0,none⟩=some (.int .u32 1779033703):=cell_of_row _ _ _ _ _ _ xY6;have i1:w.cell? ⟨1,1,none⟩=some (.int .u32 3144134277):=cell_of_row _ _ _ _ _ _ xY6;have i2:w.cell? ⟨1,2,none⟩=some (.int .u32 1013904242):=cell_of_row _ _ _ _ _ _ xY6
 have i3:w.cell? ⟨1,3,none⟩=some (.int .u32 2773480762):=cell_of_row _ _ _ _ _ _ xY6;have i4:w.cell? ⟨1,4,none⟩=some (.int .u32 1359893119):=cell_of_row _ _ _ _ _ _ xY6;have i5:w.cell? ⟨1,5,none⟩=some (.int .u32 2600822924):=cell_of_row _ _ _ _ _ _ xY6
 have i6:w.cell? ⟨1,6,none⟩=some (.int .u32 528734635):=cell_of_row _ _ _ _ _ _ xY6;have i7:w.cell? ⟨1,7,none⟩=some (.int .u32 1541459225):=cell_of_row _ _ _ _ _ _ xY6;clear xY6 hT;have HS0:Hid (xIm w (xKu xI3 b 0) (w.alloc (.cells (yG xI3.list) 386))):=ι ⟨xI _ _,φ w _⟩
 go_enter func263,ntmps263;go_wp2_with fail
 clear i0 i1 i2 i3 i4 i5 i6 i7
 go_loopw [4] (λrv wr=>∃k:Nat,64*k<=(b).size/\rv=.string ((b).extract (64*k) (b).size)/\Hid (xIm w (xKu (xI3) (b) k) wr)) (λrv _=>lenOf rv)
 case atStart=>exact⟨0,ω,by rw[Nat.mul_zero,xUw],HS0⟩
 case round=>
  clear HS0;obtain⟨k,hk,rfl,hr⟩:=hrel
  by_cases hlt:64*k+64<=(b).size
  ·obtain⟨c,hc⟩:∃c,(b).extract (64*k) (b).size=c:=⟨_,rfl⟩;have hcs:c.size=(b).size-64*k:=by rw[<-hc,ByteArray.size_extract];omega
   have HC0:Hid ((b).extract (64*k) (64*k+64)=c.extract 0 64):=ι (by rw[<-hc,ByteArray.extract_extract];congr 1;omega);have HC1:Hid ((b).extract (64*(k+1)) (b).size=c.extract 64 ((b).size-64*k)):=ι (by rw[<-hc,ByteArray.extract_extract];congr 1<;>omega);rw[hc];clear hc
   have hok:=xHm xO1 (b) k;have HRS:=ι (xJd (xI3) (b) k);generalize xKu (xI3) (b) k=s at hr hok HRS;have HOK:=ι hok;clear hok;have hc64:64<=c.size:=ω;go_upto_region 4 with fail
   refine RG.yI [0,3,4] (λL W=>Hid (SI w s (xD9 s (c.extract 0 64)) (L 0) (L 3) (L 4) W)) (λL L' W h hI=>by rw[<-h 0 δ,<-h 3 δ,<-h 4 δ];exact hI) κ κ δ (ι ⟨(by intro h;cases h),(by intro h;cases h),hr.o.drew⟩) ?_;apply RG.xV
   ·rfl
   ·intro L w9 h0 _ hw9;have hs:=hw9.o.no0 h0;refine wpList_load_row rfl _ _ rfl w.heap.size rfl _ _ (0,0) _ hs.st underlying386 rfl (hi8.o s) ?_;repeat go_step
    refine RG.xB ?_;exact ι (hw9.o.done0 h0)
   ·rfl
   iterate 2 refine RG.lS ?_
   apply RG.xV
   ·rfl
   ·intro L w9 h0 hd hw9;have hs:=hw9.o.no3 h0;repeat go_step
    refine(HBk.o s _ w9 HOK.o (by rw[ByteArray.size_extract];omega) (hs.tab HT.o)).mono ?_;rintro e w10 ⟨rfl,yP⟩;simp only[];repeat go_step
    refine RG.xB ?_;exact ι (hw9.o.done3 h0 (hd 0 δ) yP)
   ·rfl
   apply RG.xV
   ·rfl
   ·intro L w9 h0 hd hw9;have hs:=hw9.o.no4 h0;refine wpList_store_row rfl _ _ _ rfl w.heap.size _ rfl rfl _ _ hs.st (hi8.o _) (by rw[yH,yH];rfl) (qN _) ?_;repeat go_step
    refine RG.xB ?_;exact ι (hw9.o.done4 h0 (hd 3 δ))
   ·rfl
   refine RG.xY (λw5 hw5=>?_);have hw6:=ι hw5.o.2.2;rw[if_pos rfl,<-HC0.o,<-HRS.o] at hw6;clear hw5 hr;go_wp2;exact⟨⟨k+1,ω,by rw[HC1.o],hw6⟩,by simp[lenOf,ByteArray.size_extract];omega⟩
  ·have hke:b.size / 64=k:=ω;have hs64:(b.size:Int)*8<18446744073709551616:=ω
   have HE:Hid (∀W,Calls prog 338 #[.string (b.extract (64*(b.size / 64)) b.size),.int .u64 ((b.size:Int)*8)] W λe w'=>e=.returned (.string (xFm b))/\ψ W w'):=ι (λW=>xQj (xHr b) ((b.size:Int)*8) W (xGc b));have HT2:=ι (xP5 b)
   have HP:Hid (xLj b=xAk (xKu (xKu xI3 b (b.size / 64)) (xFm b) ((xFm b).size / 64)).list 8):=ι rfl;have HOK1:=ι (xHm xO1 b (b.size / 64));rw[hke] at HE HP HOK1;clear hke;generalize xFm b=tl at HE HT2 HP;generalize xKu xI3 b k=S1 at hr HP HOK1
   have hrs:(b.extract (64*k) b.size).size<64:=by rw[ByteArray.size_extract];omega
   generalize b.extract (64*k) b.size=rs at HE hrs⊢;have HS64:=ι hs64;have hneg:¬(64<=(rs.size:Int)):=ω;clear hlt hk hs64 hrs;go_upto_region 6 with fail
   have hs64:=HS64.o;clear hneg;go_wp2_with fail
   refine(HE.o _).mono ?_;rintro e w4 ⟨rfl,hb4⟩;have HS1:Hid (xIm w (xKu S1 tl 0) w4):=ι (hr.o.below hb4);clear hr hb4 HE hs64 HS64;go_wp2_with fail
   go_loopw [5] (λrv wr=>∃k:Nat,64*k<=(tl).size/\rv=.string ((tl).extract (64*k) (tl).size)/\Hid (xIm w (xKu (S1) (tl) k) wr)) (λrv _=>lenOf rv)
   case atStart=>exact⟨0,ω,by rw[Nat.mul_zero,xUw],HS1⟩
   case round=>
    clear HS1;obtain⟨k,hk,rfl,hr⟩:=hrel
    by_cases hlt:64*k+64<=(tl).size
    ·obtain⟨c,hc⟩:∃c,(tl).extract (64*k) (tl).size=c:=⟨_,rfl⟩;have hcs:c.size=(tl).size-64*k:=by rw[<-hc,ByteArray.size_extract];omega
     have HC0:Hid ((tl).extract (64*k) (64*k+64)=c.extract 0 64):=ι (by rw[<-hc,ByteArray.extract_extract];congr 1;omega);have HC1:Hid ((tl).extract (64*(k+1)) (tl).size=c.extract 64 ((tl).size-64*k)):=ι (by rw[<-hc,ByteArray.extract_extract];congr 1<;>omega);rw[hc];clear hc
     have hok:=xHm HOK1.o (tl) k;have HRS:=ι (xJd (S1) (tl) k);generalize xKu (S1) (tl) k=s at hr hok HRS;have HOK:=ι hok;clear hok;have hc64:64<=c.size:=ω;go_upto_region 8 with fail
     refine RG.yI [0,3,4] (λL W=>Hid (SI w s (xD9 s (c.extract 0 64)) (L 0) (L 3) (L 4) W)) (λL L' W h hI=>by rw[<-h 0 δ,<-h 3 δ,<-h 4 δ];exact hI) κ κ δ (ι ⟨(by intro h;cases h),(by intro h;cases h),hr.o.drew⟩) ?_;apply RG.xV
     ·rfl
     ·intro L w9 h0 _ hw9;have hs:=hw9.o.no0 h0;refine wpList_load_row rfl _ _ rfl w.heap.size rfl _ _ (0,0) _ hs.st underlying386 rfl (hi8.o s) ?_;repeat go_step
      refine RG.xB ?_;exact ι (hw9.o.done0 h0)
     ·rfl
     iterate 2 refine RG.lS ?_
     apply RG.xV
     ·rfl
     ·intro L w9 h0 hd hw9;have hs:=hw9.o.no3 h0;repeat go_step
      refine(HBk.o s _ w9 HOK.o (by rw[ByteArray.size_extract];omega) (hs.tab HT.o)).mono ?_;rintro e w10 ⟨rfl,yP⟩;simp only[];repeat go_step
      refine RG.xB ?_;exact ι (hw9.o.done3 h0 (hd 0 δ) yP)
     ·rfl
     apply RG.xV
     ·rfl
     ·intro L w9 h0 hd hw9;have hs:=hw9.o.no4 h0;refine wpList_store_row rfl _ _ _ rfl w.heap.size _ rfl rfl _ _ hs.st (hi8.o _) (by rw[yH,yH];rfl) (qN _) ?_;repeat go_step
      refine RG.xB ?_;exact ι (hw9.o.done4 h0 (hd 3 δ))
     ·rfl
     refine RG.xY (λw5 hw5=>?_);have hw6:=ι hw5.o.2.2;rw[if_pos rfl,<-HC0.o,<-HRS.o] at hw6;clear hw5 hr;go_wp2;exact⟨⟨k+1,ω,by rw[HC1.o],hw6⟩,by simp[lenOf,ByteArray.size_extract];omega⟩
    ·have hke:tl.size / 64=k:=ω;rw[hke] at HP;clear hke;have hok2:=xHm HOK1.o tl k;generalize xKu S1 tl k=S2 at hr HP hok2;have hneg:¬(64<=((tl.extract (64*k) tl.size).size:Int)):=by rw[ByteArray.size_extract];omega
     generalize tl.extract (64*k) tl.size=rs2 at hneg⊢;have HU:=ι (list_u hok2);obtain⟨s0,s1,s2,s3,s4,s5,s6,s7⟩:=S2;clear hlt hk hok2 HT2 HOK1;have HLst:Hid (xLj b=xAk [s0,s1,s2,s3,s4,s5,s6,s7] 8):=HP;have HUl:Hid (wO [s0,s1,s2,s3,s4,s5,s6,s7]):=HU;clear HP HU
     have hmk:∀W:World,(Instr.makeSlice 125 (.int .i64 0) (.int .i64 32)).run prog W=.ok (.slice (some ⟨W.heap.size,0,none⟩) 0 32) (W.alloc (.cells (xX (xO 32)) 5)):=λW=>made W 0 32 δ δ;have HBW:=ι (hr.o.bel.alloc hr.o.bel.size (.cells (xX (xO 32)) 5))
     have HOW:=ι (zT.room wr 32 w.heap.size hr.o.bel.size δ);have hst:=xM hr.o.st (.cells (xX (xO 32)) 5);have q0:(wr.alloc (.cells (xX (xO 32)) 5)).cell? ⟨w.heap.size,0,none⟩=some (.int .u32 s0):=xA hst 0
     have q1:(wr.alloc (.cells (xX (xO 32)) 5)).cell? ⟨w.heap.size,1,none⟩=some (.int .u32 s1):=xA hst 1;have q2:(wr.alloc (.cells (xX (xO 32)) 5)).cell? ⟨w.heap.size,2,none⟩=some (.int .u32 s2):=xA hst 2
     have q3:(wr.alloc (.cells (xX (xO 32)) 5)).cell? ⟨w.heap.size,3,none⟩=some (.int .u32 s3):=xA hst 3;have q4:(wr.alloc (.cells (xX (xO 32)) 5)).cell? ⟨w.heap.size,4,none⟩=some (.int .u32 s4):=xA hst 4
     have q5:(wr.alloc (.cells (xX (xO 32)) 5)).cell? ⟨w.heap.size,5,none⟩=some (.int .u32 s5):=xA hst 5;have q6:(wr.alloc (.cells (xX (xO 32)) 5)).cell? ⟨w.heap.size,6,none⟩=some (.int .u32 s6):=xA hst 6
     have q7:(wr.alloc (.cells (xX (xO 32)) 5)).cell? ⟨w.heap.size,7,none⟩=some (.int .u32 s7):=xA hst 7;clear hst hr;go_wp2_with fail
     clear q0 q1 q2 q3 q4 q5 q6 q7 hneg hmk;obtain⟨i0,hi,hz0,hz1,hz2⟩:=kP xQ8
     go_loopw [6,37] (λov iv wr=>∃k:Nat,k<=8/\iv=.int .i64 k/\Hid (zT wr w.heap.size ov (xAk [s0,s1,s2,s3,s4,s5,s6,s7] k))/\Hid (ψ w wr)) (λ_ iv _=>8- (intOf iv).toNat)
     case atStart=>exact⟨0,δ,rfl,HOW,HBW⟩
     case round=>
      obtain⟨k,hk,rfl,ho,hb⟩:=hrel;clear HOW HBW
      by_cases hlt:k<8
      ·have HWS:=ι (xL2 [s0,s1,s2,s3,s4,s5,s6,s7] k);have HWL:=ι (xCi [s0,s1,s2,s3,s4,s5,s6,s7] k);obtain⟨x,hx⟩:∃x,[s0,s1,s2,s3,s4,s5,s6,s7].getD k 0=x:=⟨_,rfl⟩;have ux:=HUl.o k;rw[hx] at ux HWS
       have ix:∀W:World,(Instr.index 386 (.agg #[.int .u32 s0,.int .u32 s1,.int .u32 s2,.int .u32 s3,.int .u32 s4,.int .u32 s5,.int .u32 s6,.int .u32 s7]) (.int .i64 k)).run prog W=.ok (.int .u32 x) W:=λW=>vW (P:=prog) underlying386 underlying228 κ (yG [s0,s1,s2,s3,s4,s5,s6,s7]) (.int .u32 x) k hlt (by rw[zY (by simpa using hlt),hx]) W
       obtain⟨u0,u1⟩:=ux;clear hx;generalize xAk [s0,s1,s2,s3,s4,s5,s6,s7] k=acc at ho HWS HWL;obtain⟨A,c,rfl,hc⟩:=ho.o.form;go_upto_region 14 with fail
       clear ix
       have hv:[Value.int .u8 (x / 16777216),.int .u8 (x / 65536 % 256),.int .u8 (x / 256 % 256),.int .u8 (x % 256)]=(xRt x).map λc=>Value.int .u8 (c.toNat:Int):=by
        have e0:x / 16777216 % 256=x / 16777216:=ω;simp[xRt,xAy,e0]
       have HV:=ι hv;have HBH:=ι (show w.heap.size<=wr.heap.size from hb.o.size);have HK:=ι hlt;clear hv
       go_wp2_with (at_builtin;refine wpList_append_lies _ rfl _ _ 125 rfl w.heap.size 5 i0 (.int .u8 0) 1 1 underlying125 hi hz0 hz1 hz2 rfl δ _ _ _ rfl (ho.o.alloc _) ⟨wr.heap.size,0,none⟩ 4 4 [.int .u8 (x / 16777216),.int .u8 (x / 65536 % 256),.int .u8 (x / 256 % 256),.int .u8 (x % 256)] rfl rfl (xVf _ _ _) (by intro u hu;simp at hu;rcases hu with rfl|rfl|rfl|rfl<;>rfl) δ (by have:=HWL.o;have:=HK.o;unfold maxLen;omega) (by have:=HWL.o;have:=HK.o;omega) (by have:=HBH.o;simp;omega) _ rfl ?_;intro g cap w3 hown1 hgrow1 hloc1 _;have h9:=ι (xPi ho.o.row hgrow1 hb.o HBH.o);have h8:=ι hown1;clear hown1 hgrow1 hloc1)
       exact⟨⟨k+1,ω,by go_num,ι (by rw[HWS.o];refine zT.of ?_;rw[<-HV.o];exact h8.o),ι h9.o⟩,by simp[intOf];omega⟩
      ·obtain rfl:k=8:=ω;have ht:=ho.o.text;rw[<-HLst.o] at ht;obtain⟨A,c,rfl,hc⟩:=ho.o.form;clear hc;go_wp2;go_ret;exact⟨rfl,hb.o⟩
end Go.Proofs.SH
namespace Mailsack
theorem xD0 (op:Go.BinOp) (x y:Int):0<=Go.bits op .u8 x y/\Go.bits op .u8 x y<256:=by
 have h:=Go.wf_bits op .u8 x y;simp[Go.Lit.wf] at h;have e1:Go.IntKind.u8.min=0:=δ;have e2:Go.IntKind.u8.max=255:=δ;omega
def xIx (l:Bs) (b:Int):Nat->Bs
 |0=>l
 |k+1=>(xIx l b k).set k (oct (Go.bits .xor .u8 (((xIx l b k).getD k 0).toNat:Int) b))
theorem xH8 (l:Bs) (b:Int):∀k,(xIx l b k).length=l.length
 |0=>rfl
 |k+1=>by simp[xIx,xH8 l b k]
def xI1 (key s:Bs):Bs:=key++(xO (64+s.length)).drop key.length
def xAg (key:Bs) (b:Int) (s:Bs):Bs:=(xIx (xI1 key s) b 64).take 64++s
theorem xJt (key:Bs) (b:Int) (s:Bs) (h:key.length<=64):(xAg key b s).length=64+s.length:=by
 unfold xAg xI1;rw[List.length_append,List.length_take,xH8,List.length_append,List.length_drop,yS];omega
end Mailsack
namespace Go.Proofs.SH
open Go.RowKit Mailsack MM BB
theorem wZ.putV {W:World} {g:Nat} {l:Bs} (h:wZ W g l) (i:Nat) {z:Int} (h0:0<=z) (h1:z<256):wZ (W.setCell ⟨g,i,none⟩ (.int .u8 z)) g (l.set i (oct z)):=by
 have:=h.put i z
 rwa [show z % 256=z by omega] at this
theorem xNp (key s:ByteArray) (b:Int) (w:World) (hk:key.size<=64) (hs:s.size<=1099511627776):
  Calls prog 328 #[.string key,.int .u8 b,.string s] w λe w'=>e=.returned (.string ⟨(xAg key.data.toList b s.data.toList).toArray⟩)/\ψ w w':=by
 have hkl:key.data.toList.length=key.size:=σ;have hsl:s.data.toList.length=s.size:=σ
 have hmk:∀W:World,(Instr.makeSlice 125 (.int .i64 64) (.int .i64 (64+(s.size:Int)))).run prog W=.ok (.slice (some ⟨W.heap.size,0,none⟩) 64 (64+s.size)) (W.alloc (.cells (xX (xO (64+s.size))) 5)):=λW=>made W 64 (64+s.size) ω ω
 have HB0:Hid (wZ (w.alloc (.cells (xX (xO (64+s.size))) 5)) w.heap.size (xO (64+s.size))):=ι (xI _ _);have HW0:=ι (φ w (.cells (xX (xO (64+s.size))) 5));go_enter func328,ntmps328;go_upto_region 2 with fail
 refine wp_region_lit ?_;iterate 6 go_step
 refine Lib.wpList_copy_run _ rfl _ _ _ _ rfl _ _ rfl rfl (copied HB0.o _ _ _ _ ω (by rw[yS];omega)) ?_
 have HB1:Hid (wZ ((w.alloc (.cells (xX (xO (64+s.size))) 5)).setRow w.heap.size (xX (key.data.toList++(xO (64+s.size)).drop key.size))) w.heap.size (xIx (xI1 key.data.toList s.data.toList) b 0)):=ι (by
  have h:=HB0.o.row (key.data.toList++(xO (64+s.size)).drop key.size);unfold xIx xI1;rw[hkl,hsl];exact h)
 have HW1:=ι (below_setRow HW0.o ν (xX (key.data.toList++(xO (64+s.size)).drop key.size)));clear hmk HB0 HW0;generalize (w.alloc (.cells (xX (xO (64+s.size))) 5)).setRow w.heap.size (xX (key.data.toList++(xO (64+s.size)).drop key.size))=w1 at HB1 HW1⊢
 have HL:Hid ((xI1 key.data.toList s.data.toList).length=64+s.size):=ι (by unfold xI1;rw[List.length_append,List.length_drop,yS];omega);have HXL:=ι (λk=>xH8 (xI1 key.data.toList s.data.toList) b k)
 have HP:Hid (∀n,n=64->xAg key.data.toList b s.data.toList=(xIx (xI1 key.data.toList s.data.toList) b n).take n++s.data.toList):=ι (λn hn=>by subst hn;rfl);generalize xI1 key.data.toList s.data.toList=l at HB1 HL HXL HP;clear hkl;go_wp2_with fail
 go_loopw [18] (λiv wr=>∃k:Nat,k<=64/\iv=.int .i64 k/\Hid (wZ wr w.heap.size (xIx l b k)/\ψ w wr)) (λiv _=>64- (intOf iv).toNat)
 case atStart=>exact⟨0,δ,rfl,ι ⟨HB1.o,HW1.o⟩⟩
 case round=>
  obtain⟨k,hk,rfl,hr⟩:=hrel;clear HB1 HW1
  by_cases hlt:k<64
  ·have q0:=hr.o.1.cell (i:=k) (by rw[HXL.o k,HL.o];omega);have q1:=hr.o.1.free k;have hu:=xD0 .xor (((xIx l b k).getD k 0).toNat:Int) b
   have HK:Hid (wZ (wr.setCell ⟨w.heap.size,k,none⟩ (.int .u8 (bits .xor .u8 (((xIx l b k).getD k 0).toNat:Int) b))) w.heap.size (xIx l b (k+1))):=ι (wZ.putV hr.o.1 k hu.1 hu.2)
   have HKW:=ι (hr.o.2.setCell (p:=⟨w.heap.size,k,none⟩) ν (.int .u8 (bits .xor .u8 (((xIx l b k).getD k 0).toNat:Int) b)));clear hr hu;generalize (((xIx l b k).getD k 0).toNat:Int)=x at q0 HK HKW;go_wp2;exact⟨⟨k+1,ω,by go_num,ι ⟨HK.o,HKW.o⟩⟩,by simp[intOf];omega⟩
  ·have hke:k=64:=ω;have HPk:=ι (HP.o k hke);clear HP;obtain⟨i0,hi,hz0,hz1,hz2⟩:=kP xQ8
   have HO:Hid (zT wr w.heap.size (.slice (some ⟨w.heap.size,0,none⟩) k (64+s.size)) ((xIx l b k).take k)):=ι (by
    have h:=zT.head hr.o.1 k w.heap.size ν (by rw[HXL.o,HL.o];omega) (by rw[HXL.o,HL.o];omega);rw[HXL.o,HL.o] at h;exact h)
   have HTL:Hid (((xIx l b k).take k).length=k):=ι (by rw[List.length_take,HXL.o,HL.o];omega);have HBW:=ι hr.o.2;clear hr;generalize (xIx l b k).take k=hd at HO HTL HPk;subst hke;clear hk hlt
   have HO2:Hid (wr.ownsRow w.heap.size 5 1 (.slice (some ⟨w.heap.size,0,none⟩) 64 (64+s.size)) 64 (hd.map λc=>Value.int .u8 (c.toNat:Int))):=ι (by have h:=HO.o.row;rw[HTL.o] at h;exact h);have HS:=ι hs
   go_wp2_with (at_builtin;refine xE5 rfl _ _ 125 9 rfl w.heap.size 5 i0 underlying125 underlying9 hi hz0 hz1 hz2 w.heap.size 64 (64+s.size) _ rfl HO2.o s rfl (by have:=HS.o;unfold maxLen;omega) (by have:=HS.o;omega) HBW.o.size ?_;intro v3 w3 hown hgrow hloc;have h7:=zT.text (l:=hd++s.data.toList) (zT.of (by rw[HTL.o,hsl];exact hown));have h8:=ι (HBW.o.grown hgrow HBW.o.size (λk hk=>by injection hk with hk;omega));clear hown hgrow hloc)
   rw[<-HPk.o];go_ret;exact⟨rfl,h8.o⟩
end Go.Proofs.SH
namespace Mailsack
def bsA (l:Bs):ByteArray:=⟨l.toArray⟩
def xEr (key:ByteArray):ByteArray:=if 64<key.size then bsA (xLj key) else key
def xW8 (key s:ByteArray):Bs:=xLj (bsA (xAg (xEr key).data.toList 92 (xLj (bsA (xAg (xEr key).data.toList 54 s.data.toList)))))
theorem uS (l:Bs):(bsA l).size=l.length:=by simp[bsA,ByteArray.size]
theorem xC3 (key:ByteArray):(xEr key).size<=64:=by
 unfold xEr;split
 ·rw[uS,xDj];decide
 ·omega
theorem xNq (key s:ByteArray):(xW8 key s).length=32:=xDj _
end Mailsack
namespace Go.Proofs.SH
open Go.RowKit Mailsack MM BB
theorem xNk (key s:ByteArray) (w:World) (hk:key.size<=1099511627776) (hs:s.size<=1099511627776) (hT:xFg w):
  Calls prog 254 #[.string key,.string s] w λe w'=>e=.returned (xK (xW8 key s))/\ψ w w':=by
 have HT:=ι hT;have HM:Hid (∀W,Calls prog 328 #[.string (xEr key),.int .u8 54,.string s] W λe w'=>e=.returned (.string (bsA (xAg (xEr key).data.toList 54 s.data.toList)))/\ψ W w'):=ι (λW=>xNp (xEr key) s 54 W (xC3 key) hs)
 have HS:Hid (∀W,xFg W->Calls prog 263 #[.string (bsA (xAg (xEr key).data.toList 54 s.data.toList))] W λe w'=>e=.returned (.string (bsA (xLj (bsA (xAg (xEr key).data.toList 54 s.data.toList)))))/\ψ W w'):=ι (λW hW=>xLb _ W (by
  rw[uS,xJt _ _ _ (by have:=xC3 key;simpa using this)];have:s.data.toList.length=s.size:=σ;omega) hW)
 have HM2:Hid (∀W,Calls prog 328 #[.string (xEr key),.int .u8 92,.string (bsA (xLj (bsA (xAg (xEr key).data.toList 54 s.data.toList))))] W λe w'=>e=.returned (.string (bsA (xAg (xEr key).data.toList 92 (xLj (bsA (xAg (xEr key).data.toList 54 s.data.toList))))))/\ψ W w'):=ι (λW=>xNp (xEr key) _ 92 W (xC3 key) (by rw[uS,xDj];decide))
 have HS2:Hid (∀W,xFg W->Calls prog 263 #[.string (bsA (xAg (xEr key).data.toList 92 (xLj (bsA (xAg (xEr key).data.toList 54 s.data.toList)))))] W λe w'=>e=.returned (xK (xW8 key s))/\ψ W w'):=ι (λW hW=>xLb _ W (by
  rw[uS,xJt _ _ _ (by have:=xC3 key;simpa using this),xDj]
  decide) hW)
 have HK:Hid (∀W,xFg W->Calls prog 263 #[.string key] W λe w'=>e=.returned (.string (bsA (xLj key)))/\ψ W w'):=ι (λW hW=>xLb key W ω hW);generalize bsA (xAg (xEr key).data.toList 54 s.data.toList)=x1 at HM HS HM2 HS2;generalize bsA (xLj x1)=x2 at HS HM2 HS2
 generalize bsA (xAg (xEr key).data.toList 92 (xLj x1))=x3 at HM2 HS2;clear hT hs
 by_cases h:64<key.size
 ·have hkey:Hid (xEr key=bsA (xLj key)):=ι (by unfold xEr;rw[if_pos h]);rw[<-hkey.o] at HK;generalize xEr key=k1 at HM HM2 HK;go_enter func254,ntmps254;go_wp2_with fail
  refine(HK.o _ HT.o).mono ?_;rintro e w1 ⟨rfl,hb1⟩;have B1:=ι hb1;clear hb1 h hk;go_wp2_with fail
  refine(HM.o _).mono ?_;rintro e w2 ⟨rfl,hb2⟩;have B2:=ι (B1.o.trans (hb2.mono B1.o.size));clear hb2 B1;go_wp2_with fail
  refine(HS.o _ (HT.o.below B2.o ν)).mono ?_;rintro e w3 ⟨rfl,hb3⟩;have B3:=ι (B2.o.trans (hb3.mono B2.o.size));clear hb3 B2;go_wp2_with fail
  refine(HM2.o _).mono ?_;rintro e w4 ⟨rfl,hb4⟩;have B4:=ι (B3.o.trans (hb4.mono B3.o.size));clear hb4 B3;go_wp2_with fail
  refine(HS2.o _ (HT.o.below B4.o ν)).mono ?_;rintro e w5 ⟨rfl,hb5⟩;go_wp2;go_ret;exact⟨rfl,B4.o.trans (hb5.mono B4.o.size)⟩
 ·have hkey:xEr key=key:=by unfold xEr;rw[if_neg h]
  rw[hkey] at HM HM2;have B1:=ι (Below.refl w.heap.size w);clear hkey HK;go_enter func254,ntmps254;go_wp2_with fail
  refine(HM.o _).mono ?_;rintro e w2 ⟨rfl,hb2⟩;have B2:=ι (B1.o.trans (hb2.mono B1.o.size));clear hb2 B1 h hk;go_wp2_with fail
  refine(HS.o _ (HT.o.below B2.o ν)).mono ?_;rintro e w3 ⟨rfl,hb3⟩;have B3:=ι (B2.o.trans (hb3.mono B2.o.size));clear hb3 B2;go_wp2_with fail
  refine(HM2.o _).mono ?_;rintro e w4 ⟨rfl,hb4⟩;have B4:=ι (B3.o.trans (hb4.mono B3.o.size));clear hb4 B3;go_wp2_with fail
  refine(HS2.o _ (HT.o.below B4.o ν)).mono ?_;rintro e w5 ⟨rfl,hb5⟩;go_wp2;go_ret;exact⟨rfl,B4.o.trans (hb5.mono B4.o.size)⟩
def xF2 (a b:ByteArray):Nat->Int
 |0=>0
 |k+1=>bits .or .u8 (xF2 a b k) (bits .xor .u8 (yO a k) (yO b k))
def xHk (a b:ByteArray):Bool:=decide (a.size=b.size)&&(xF2 a b a.size==0)
theorem xMp (a b:ByteArray):∀k,0<=xF2 a b k/\xF2 a b k<256
 |0=>by unfold xF2;exact⟨δ,δ⟩
 |_+1=>xD0 _ _ _
theorem xNa (a b:ByteArray) (w:World) (ha:a.size<=1099511627776):
  Calls prog 165 #[.string a,.string b] w λe w'=>e=.returned (.bool (xHk a b))/\ψ w w':=by
 by_cases h:a.size=b.size
 ·have HP:Hid (∀n,n=a.size->xHk a b=(xF2 a b n==0)):=ι (λn hn=>by unfold xHk;rw[hn];simp[h]);have h2:((a.size:Int)!=(b.size:Int))=false:=by simp[h]
  have hbs:b.size=a.size:=h.symm;have HBS:=ι hbs;clear h hbs;go_enter func165,ntmps165;go_wp2_with fail
  clear h2
  go_loopw [5,14] (λdv iv wr=>∃k:Nat,k<=a.size/\iv=.int .i64 k/\dv=.int .u8 (xF2 a b k)/\Hid (ψ w wr)) (λ_ iv _=>a.size- (intOf iv).toNat)
  case atStart=>exact⟨0,Nat.zero_le _,rfl,rfl,ι (Below.refl _ _)⟩
  case round=>
   obtain⟨k,hk,rfl,rfl,hb⟩:=hrel
   by_cases hlt:k<a.size
   ·have i0:=λw=>zG (P:=prog) underlying9 a (k:Int) k rfl hlt w;have i1:=λw=>zG (P:=prog) underlying9 b (k:Int) k rfl (by rw[HBS.o];exact hlt) w;have r0:=yZ a k;have r1:=yZ b k;have rd:=xMp a b k
    have HK:Hid (bits .or .u8 (xF2 a b k) (bits .xor .u8 (yO a k) (yO b k))=xF2 a b (k+1)):=ι rfl;generalize yO a k=x at i0 r0 HK;generalize yO b k=y at i1 r1 HK;generalize xF2 a b k=d at rd HK⊢;obtain⟨r00,r01⟩:=r0;obtain⟨r10,r11⟩:=r1;obtain⟨rd0,rd1⟩:=rd
    go_upto_region 7 with fail
    go_quiet (fail)
    clear i0 i1;rw[HK.o];have HB:=ι (below_drewN hb.o nq);go_wp2;exact⟨⟨k+1,ω,by go_num,rfl,HB⟩,by simp[intOf];omega⟩
   ·have hke:k=a.size:=ω;have HPk:=ι (HP.o k hke);clear HP;generalize xF2 a b k=d at HPk⊢;subst hke;clear hk hlt;go_wp2;go_ret;exact⟨by rw[HPk.o];rfl,hb.o⟩
 ·have HP:Hid (xHk a b=false):=ι (by unfold xHk;simp[h]);have h2:((a.size:Int)!=(b.size:Int))=true:=by simp;omega
  have h3:((a.size:Int)≠(b.size:Int)):=ω;clear h;go_enter func165,ntmps165;go_wp2;go_ret;exact⟨by rw[HP.o];rfl,Below.refl _ _⟩
end Go.Proofs.SH
namespace Mailsack
def rZ (ex info:ByteArray):Nat->ByteArray
 |0=>⟨#[]⟩
 |k+1=>bsA (xW8 ex (rZ ex info k++info++bsA [oct (k+1)]))
def xEy (ex info:ByteArray):Nat->Bs
 |0=>[]
 |k+1=>xEy ex info k++(rZ ex info (k+1)).data.toList
def xMk (secret vN info:ByteArray) (n:Nat):Bs:=(xEy (bsA (xW8 vN secret)) info ((n+31) / 32)).take n
theorem xCx (ex info:ByteArray) (k:Nat):(rZ ex info (k+1)).size=32:=by
 unfold rZ;rw[uS,xNq]
theorem xYk (ex info:ByteArray):∀k,(rZ ex info k).size<=32
 |0=>by unfold rZ;decide
 |k+1=>by rw[xCx];exact Nat.le_refl _
theorem xCc (ex info:ByteArray):∀k,(xEy ex info k).length=32*k
 |0=>rfl
 |k+1=>by
  have h:(rZ ex info (k+1)).data.toList.length=32:=by
   have:=xCx ex info k;simpa using this
  unfold xEy;rw[List.length_append,xCc ex info k,h];omega
theorem xV1 (secret vN info:ByteArray) (n:Nat):(xMk secret vN info n).length=n:=by
 unfold xMk;rw[List.length_take,xCc];omega
end Mailsack
namespace Go.Proofs.SH
open Go.RowKit Mailsack MM BB
theorem zT.at {w:World} {base:Nat} {v:Value} {l:Bs} (h:zT w base v l) (h0:0<l.length):∃g cap,v=.slice (some ⟨g,0,none⟩) l.length cap/\l.length<=cap:=by
 rcases h.2 with ⟨_,h2⟩|⟨g,cap,cur,h1,_,_,h2,_⟩
 ·omega
 ·exact⟨g,cap,h1,h2⟩
theorem zT.part {w:World} {base g n cap:Nat} {l:Bs} (h:zT w base (.slice (some ⟨g,0,none⟩) l.length cap) l) (hn:n<=l.length):(convert 125 9 (.slice (some ⟨g,0,none⟩) n cap)).run prog w=.ok (xK (l.take n)) w:=by
 have h1:=run_convert_bytes_back (P:=prog) w 125 9 5 ⟨g,0,none⟩ cap (l.take n) underlying125 underlying5 underlying9 (λj hj=>by
  have hj':j<l.length:=by rw[List.length_take] at hj;omega
  have:=World.ownsRow.cells h (g:=g) rfl j _ (by simp[hj'];rfl);rw[this,List.getElem_take])
 rw[List.length_take,Nat.min_eq_left hn] at h1;exact h1
theorem yC6 (c:Int) (hc:0<=c) (hc2:c<256) (W:World):(convert 125 9 (.slice (some ⟨W.heap.size,0,none⟩) 1 1)).run prog (W.alloc (.cells #[.int .u8 c] 5))=.ok (.string (bsA [oct c])) (W.alloc (.cells #[.int .u8 c] 5)):=by
 refine run_convert_bytes_back (P:=prog) (W.alloc (.cells #[.int .u8 c] 5)) _ _ 5 ⟨W.heap.size,0,none⟩ 1 [oct c] underlying125 underlying5 underlying9 (λj hj=>?_);have hj0:j=0:=by simpa using hj
 subst hj0;have:=cell_one_new W (.int .u8 c) 5 0 _ rfl;rw[this];simp[xAy];omega
theorem xYj (secret vN info:ByteArray) (n:Nat) (w:World) (h1:secret.size<=1099511627776) (h2:vN.size<=1099511627776) (h3:info.size<=1000000) (hn:n<=8160) (hT:xFg w):
  Calls prog 163 #[.string secret,.string vN,.string info,.int .i64 n] w λe w'=>e=.returned (.tuple #[xK (xMk secret vN info n),.int .i64 0])/\ψ w w':=by
 have HT:=ι hT;have HE:Hid (∀W,xFg W->Calls prog 254 #[.string vN,.string secret] W λe w'=>e=.returned (.string (bsA (xW8 vN secret)))/\ψ W w'):=ι (λW hW=>xNk vN secret W h2 h1 hW)
 have HP:Hid (xMk secret vN info n=(xEy (bsA (xW8 vN secret)) info ((n+31) / 32)).take n):=ι rfl;have hex:(bsA (xW8 vN secret)).size=32:=by rw[uS,xNq]
 have HX:=ι hex;generalize bsA (xW8 vN secret)=ex at HE HP hex HX;have HMK:=ι (λW:World=>made W 0 (n+32) ω ω);obtain⟨i0,hi,hz0,hz1,hz2⟩:=kP xQ8;have HN:=ι hn;clear hex h1 h2;go_enter func163,ntmps163;go_wp2_with fail
 refine(HE.o _ HT.o).mono ?_;rintro e w1 ⟨rfl,hb1⟩;have B1:=ι hb1;clear hb1 HE;have hmk:∀W:World,(Instr.makeSlice 125 (.int .i64 0) (.int .i64 ((n:Int)+32))).run prog W=.ok (.slice (some ⟨W.heap.size,0,none⟩) 0 (n+32)) (W.alloc (.cells (xX (xO (n+32))) 5)):=HMK.o
 have HO0:=ι (zT.room w1 (n+32) w.heap.size B1.o.size ω);have B2:=ι (B1.o.alloc B1.o.size (.cells (xX (xO (n+32))) 5));go_wp2_with fail
 clear hmk HMK
 go_loopw [11,12,13] (λov lv cv wr=>∃(k g cap:Nat),32*k<n+32/\ov=.slice (some ⟨g,0,none⟩) (32*k) cap/\32*k<=cap/\lv=.string (rZ ex info k)/\cv=.int .u8 (((k:Int)+1) % 256)/\Hid (zT wr w.heap.size (.slice (some ⟨g,0,none⟩) (32*k) cap) (xEy ex info k))/\Hid (ψ w wr)) (λov _ _ _=>match ov with|.slice _ m _=>n+32-m|_=>0)
 case atStart=>exact⟨0,w1.heap.size,n+32,ω,rfl,ω,rfl,rfl,HO0,B2⟩
 case round=>
  obtain⟨k,g,cap,hk,rfl,hcap,rfl,rfl,ho,hb⟩:=hrel;clear HO0 B2
  by_cases hlt:32*k<n
  ·have HKS:Hid (rZ ex info (k+1)=bsA (xW8 ex (rZ ex info k++info++bsA [oct ((k:Int)+1)]))):=ι rfl;have HOS:Hid (xEy ex info (k+1)=xEy ex info k++(rZ ex info (k+1)).data.toList):=ι rfl;have HKZ:=ι (xCx ex info k);have hKl:=xYk ex info k;have HOL:=ι (xCc ex info k)
   have hc:((k:Int)+1) % 256=(k:Int)+1:=ω;rw[hc];have hcv:=yC6 ((k:Int)+1) ω ω;have hcb:(bsA [oct ((k:Int)+1)]).size=1:=by rw[uS];rfl
   generalize bsA [oct ((k:Int)+1)]=cb at hcv HKS hcb;have nb1:¬(9223372036854775807<(rZ ex info k).size+info.size):=ω;have nb2:¬(9223372036854775807<(rZ ex info k++info).size+cb.size):=by rw[ByteArray.size_append];omega
   have HS:Hid (∀W,xFg W->Calls prog 254 #[.string ex,.string (rZ ex info k++info++cb)] W λe w'=>e=.returned (.string (rZ ex info (k+1)))/\ψ W w'):=ι (λW hW=>by
    rw[HKS.o];exact xNk ex _ W (by rw[HX.o];decide) (by rw[ByteArray.size_append,ByteArray.size_append];omega) hW)
   have HKW:=ι hlt;generalize rZ ex info k=l0 at nb1 nb2 HS HKS⊢;obtain⟨l1,hl1⟩:∃l1,rZ ex info (k+1)=l1:=⟨_,rfl⟩;rw[hl1] at HS HKS HKZ HOS;have HL1:=ι hl1;clear hl1;generalize xEy ex info k=acc at ho HOS HOL;clear hKl hcb h3 hn;go_wp2_with fail
   refine(HS.o _ ((HT.o.below (hb.o.alloc hb.o.size (.cells #[.int .u8 ((k:Int)+1)] 5)) ν))).mono ?_;rintro e w3 ⟨rfl,hb3⟩;have HO3:=ι ((ho.o.alloc (.cells #[.int .u8 ((k:Int)+1)] 5)).below hb3)
   have HB3:=ι ((hb.o.alloc hb.o.size (.cells #[.int .u8 ((k:Int)+1)] 5)).trans (hb3.mono (hb.o.alloc hb.o.size (.cells #[.int .u8 ((k:Int)+1)] 5)).size));clear hb3 nb1 nb2 hcv HS hb ho
   have HO2:Hid (w3.ownsRow w.heap.size 5 1 (.slice (some ⟨g,0,none⟩) (32*k) cap) (32*k) (acc.map λc=>Value.int .u8 (c.toNat:Int))):=ι (by have h:=HO3.o.row;rw[HOL.o] at h;exact h)
   go_wp2_with (at_builtin;refine xE5 rfl _ _ 125 9 rfl w.heap.size 5 i0 underlying125 underlying9 hi hz0 hz1 hz2 g (32*k) cap _ rfl HO2.o l1 rfl (by have:=HKZ.o;have:=HN.o;have:=HKW.o;unfold maxLen;omega) (by have:=HKZ.o;have:=HN.o;have:=HKW.o;omega) HB3.o.size ?_;intro v4 w4 hown hgrow hloc;have h7:=ι (zT.of (l:=acc) (m:=l1.data.toList) (by rw[HOL.o,show l1.data.toList.length=l1.size by simp];exact hown));have h8:=ι (HB3.o.grown hgrow HB3.o.size (λq hq=>World.ownsRow.lt HO2.o q hq |>.1));clear hown hgrow hloc)
   have hlen:(acc++l1.data.toList).length=32*(k+1):=by
    rw[List.length_append,HOL.o,show l1.data.toList.length=l1.size by simp,HKZ.o];omega
   obtain⟨g4,cap4,hv4,hcap4⟩:=zT.at h7.o (by rw[hlen];omega);rw[hlen] at hv4 hcap4;subst hv4;exact⟨⟨k+1,g4,cap4,ω,rfl,hcap4,by rw[HL1.o],by rw[show((k:Int)+1+1)=(((k+1:Nat):Int)+1) by omega],ι (by rw[HOS.o];exact h7.o),h8⟩,by show n+32-32*(k+1)<n+32-32*k;omega⟩
  ·have HOL:=ι (xCc ex info k)
   have HPk:Hid (xMk secret vN info n=(xEy ex info k).take n):=ι (by
    have hke:(n+31) / 32=k:=ω;rw[HP.o,hke])
   clear HP;generalize xEy ex info k=acc at ho HOL HPk
   have ht:(convert 125 9 (.slice (some ⟨g,0,none⟩) n cap)).run prog wr=.ok (xK (xMk secret vN info n)) wr:=by
    rw[HPk.o];have h:=ho.o;rw[<-HOL.o] at h;exact zT.part h (by rw[HOL.o];omega)
   go_wp2;go_ret2;exact⟨rfl,hb.o⟩
end Go.Proofs.SH
namespace Mailsack
structure Op where
 flush:Bool
 w:Wr
structure Slot where
 used:Bool
 cls:Nat
 blk:Nat
 size:Nat
 name:Bs
deriving DecidableEq
def noSlot:Slot:=⟨false,0,0,0,[]⟩
def kL (c:Nat):Nat:=if c=0 then 24 else 12
def xRc (c:Nat):Nat:=if c=0 then 256 else 1024
def xZc (s:Bs) (n:Nat):Bs:=s++xO (n-s.length)
def xX3 (t:Slot):Bs:=[1,oct t.cls,oct t.blk,oct t.size,oct (t.size / 256:Nat),oct t.name.length]++t.name
def xUz (t:Slot):Bs:=if t.used=true then xZc (xX3 t) 64 else xZc [] 64
def bN (s:Bs) (i:Nat):Nat:=(s.getD i 0).toNat
theorem xQz (s:Bs) (i:Nat):bN s i<256:=UInt8.toNat_lt _
def jY (s:Bs):Slot:=⟨true,bN s 1,bN s 2,bN s 3+256*bN s 4,(s.drop 6).take (bN s 5)⟩
def xNg (s:Bs):Bool:=decide (bN s 0=1)&&decide (bN s 1<=1)&&decide (bN s 2<kL (bN s 1))&&decide (bN s 3+256*bN s 4<=xRc (bN s 1))&&decide (1<=bN s 5)&&decide (bN s 5<=24)
def xOg (s:Bs):Slot:=if xNg s=true then(if s=xUz (jY s) then jY s else noSlot) else noSlot
def xF8 (d:Dk):Bool:=decide (d.secs.length=381)&&zM d
def zV (S:List Bs):List Slot:=((S.drop 61).take 32).map xOg
def kQ {α:Type} (p:α->Bool):List α->Int
 |[]=>-1
 |x::l=>if p x=true then 0 else if kQ p l<0 then -1 else kQ p l+1
def xD3 (n:Bs) (t:Slot):Bool:=t.used&&t.name==n
def xEw (l:List Slot) (n:Bs):Int:=kQ (xD3 n) l
def tQ (c b:Nat):Nat:=if c=0 then 93+b*4 else 189+b*16
def countP (c:Nat):Nat:=if c=0 then 4 else 16
def xGa (l:List Slot) (i:Int):Slot:=l.getD i.toNat noSlot
def yAt (S:List Bs) (t:Slot):Bs:=(((S.drop (tQ t.cls t.blk)).take (countP t.cls)).flatten).take t.size
def xZr (d:Dk) (n:Bs):Int:=if xF8 d=true then(if xEw (zV (zH d).secs) n<0 then 6 else 0) else 1
def yBw (d:Dk) (n:Bs):Bs:=if xZr d n=0 then yAt (zH d).secs (xGa (zV (zH d).secs) (xEw (zV (zH d).secs) n)) else[]
structure Ch where
 name:Bs
 data:Bs
 gone:Bool
structure StS where
 slots:List Slot
 free0:List Nat
 free1:List Nat
 writes:List Wr
structure Q4 where
 a:Int
 b:Int
 c:Int
 d:Int
def wU (q:Q4):Q4:=
 let a1:=(q.a+q.b) % 4294967296
 let d1:=xGb (Go.bits .xor .u32 q.d a1) 16
 let c1:=(q.c+d1) % 4294967296
 let b1:=xGb (Go.bits .xor .u32 q.b c1) 12
 let a2:=(a1+b1) % 4294967296
 let d2:=xGb (Go.bits .xor .u32 d1 a2) 8
 let c2:=(c1+d2) % 4294967296
 let b2:=xGb (Go.bits .xor .u32 b1 c2) 7
 ⟨a2,b2,c2,d2⟩
theorem xGe (q:Q4):U32 (wU q).a/\U32 (wU q).b/\U32 (wU q).c/\U32 (wU q).d:=⟨vD _,xBn _ _,vD _,xBn _ _⟩
end Mailsack
namespace Go.Proofs.SH
open Go.RowKit Mailsack MM BB
theorem xLr (a b c d:Int) (w:World) (ha:U32 a) (hb:U32 b) (hc:U32 c) (hd:U32 d):
  Calls prog 393 #[.int .u32 a,.int .u32 b,.int .u32 c,.int .u32 d] w λe w'=>
   e=.returned (.tuple #[.int .u32 (wU ⟨a,b,c,d⟩).a,.int .u32 (wU ⟨a,b,c,d⟩).b,.int .u32 (wU ⟨a,b,c,d⟩).c,.int .u32 (wU ⟨a,b,c,d⟩).d])/\w'=w:=by
 obtain⟨a1,ha1⟩:∃x,(a+b) % 4294967296=x:=⟨_,rfl⟩;have ua1:U32 a1:=ha1▸vD _;obtain⟨d1,hd1⟩:∃x,xGb (bits .xor .u32 d a1) 16=x:=⟨_,rfl⟩;have ud1:U32 d1:=hd1▸xBn _ _;obtain⟨c1,hc1⟩:∃x,(c+d1) % 4294967296=x:=⟨_,rfl⟩;have uc1:U32 c1:=hc1▸vD _
 obtain⟨b1,hb1⟩:∃x,xGb (bits .xor .u32 b c1) 12=x:=⟨_,rfl⟩;have ub1:U32 b1:=hb1▸xBn _ _;obtain⟨a2,ha2⟩:∃x,(a1+b1) % 4294967296=x:=⟨_,rfl⟩;have ua2:U32 a2:=ha2▸vD _;obtain⟨d2,hd2⟩:∃x,xGb (bits .xor .u32 d1 a2) 8=x:=⟨_,rfl⟩;have ud2:U32 d2:=hd2▸xBn _ _
 obtain⟨c2,hc2⟩:∃x,(c1+d2) % 4294967296=x:=⟨_,rfl⟩;have uc2:U32 c2:=hc2▸vD _;obtain⟨b2,hb2⟩:∃x,xGb (bits .xor .u32 b1 c2) 7=x:=⟨_,rfl⟩
 have hq:wU ⟨a,b,c,d⟩=⟨a2,b2,c2,d2⟩:=by
  subst hb2;subst hc2;subst hd2;subst ha2;subst hb1;subst hc1;subst hd1;subst ha1
  rfl
 rw[hq];have H:=ι (⟨ha1,hd1,hc1,hb1,ha2,hd2,hc2,hb2⟩:_/\_/\_/\_/\_/\_/\_/\_);have R1:=ι (λW=>jJ (bits .xor .u32 d a1) 16 16 W (pY _ _ _) δ δ);have R2:=ι (λW=>jJ (bits .xor .u32 b c1) 12 12 W (pY _ _ _) δ δ);have R3:=ι (λW=>jJ (bits .xor .u32 d1 a2) 8 8 W (pY _ _ _) δ δ)
 have R4:=ι (λW=>jJ (bits .xor .u32 b1 c2) 7 7 W (pY _ _ _) δ δ);rw[hd1] at R1;rw[hb1] at R2;rw[hd2] at R3;rw[hb2] at R4;obtain⟨ha,ha'⟩:=ha;obtain⟨hb,hb'⟩:=hb;obtain⟨hc,hc'⟩:=hc;obtain⟨hd,hd'⟩:=hd;obtain⟨ua1,ua1'⟩:=ua1;obtain⟨ud1,ud1'⟩:=ud1;obtain⟨uc1,uc1'⟩:=uc1
 obtain⟨ub1,ub1'⟩:=ub1;obtain⟨ua2,ua2'⟩:=ua2;obtain⟨ud2,ud2'⟩:=ud2;obtain⟨uc2,uc2'⟩:=uc2;clear ha1 hd1 hc1 hb1 ha2 hd2 hc2 hb2 hq;go_enter func393,ntmps393;go_upto_region 2 with fail
 rw[H.o.1];refine RG.yD (λX=>Hid (X=w)) (ι rfl) ?_;iterate 3 refine RG.dS ?_
 apply RG.xG
 ·intro w9 hw9;repeat go_step
  refine(R1.o _).mono ?_;rintro e w10 ⟨rfl,rfl⟩;simp only[];repeat go_step
  exact RG.xB hw9
 ·rfl
 refine RG.dS ?_;refine RG.xL (λw5 hw5=>?_);have ehw5:=hw5.o;subst ehw5;clear hw5;go_upto_region 4 with fail
 rw[H.o.2.2.1];refine RG.yD (λX=>Hid (X=w5)) (ι rfl) ?_;iterate 3 refine RG.dS ?_
 apply RG.xG
 ·intro w9 hw9;repeat go_step
  refine(R2.o _).mono ?_;rintro e w10 ⟨rfl,rfl⟩;simp only[];repeat go_step
  exact RG.xB hw9
 ·rfl
 refine RG.dS ?_;refine RG.xL (λw6 hw6=>?_);have ehw6:=hw6.o;subst ehw6;clear hw6;go_upto_region 6 with fail
 rw[H.o.2.2.2.2.1];refine RG.yD (λX=>Hid (X=w6)) (ι rfl) ?_;iterate 3 refine RG.dS ?_
 apply RG.xG
 ·intro w9 hw9;repeat go_step
  refine(R3.o _).mono ?_;rintro e w10 ⟨rfl,rfl⟩;simp only[];repeat go_step
  exact RG.xB hw9
 ·rfl
 refine RG.dS ?_;refine RG.xL (λw7 hw7=>?_);have ehw7:=hw7.o;subst ehw7;clear hw7;go_upto_region 8 with fail
 rw[H.o.2.2.2.2.2.2.1];refine RG.yD (λX=>Hid (X=w7)) (ι rfl) ?_;iterate 3 refine RG.dS ?_
 apply RG.xG
 ·intro w9 hw9;repeat go_step
  refine(R4.o _).mono ?_;rintro e w10 ⟨rfl,rfl⟩;simp only[];repeat go_step
  exact RG.xB hw9
 ·rfl
 refine RG.dS ?_;refine RG.xL (λw8 hw8=>?_);have ehw8:=hw8.o;subst ehw8;clear hw8;go_wp2;refine bodyPost_ret (xJi rfl _ _ _) rfl ?_;exact⟨rfl,rfl⟩
end Go.Proofs.SH
namespace Mailsack
def xNn (ws:List Int) (a b c d:Nat) (q:Q4) (f1 f2 f3 f4:Bool):List Int:=
 (List.range 16).map λi=>if f1&&i==a then q.a else if f2&&i==b then q.b else if f3&&i==c then q.c else if f4&&i==d then q.d else ws.getD i 0
def tF (ws:List Int) (a b c d:Nat):List Int:=xNn ws a b c d (wU ⟨ws.getD a 0,ws.getD b 0,ws.getD c 0,ws.getD d 0⟩) true true true true
theorem jM (ws:List Int) (a b c d:Nat) (q:Q4) (f1 f2 f3 f4:Bool):(xNn ws a b c d q f1 f2 f3 f4).length=16:=by simp[xNn]
theorem xDn (ws:List Int) (a b c d:Nat) (q:Q4) (f1 f2 f3 f4:Bool) {i:Nat} (h:i<16):(xNn ws a b c d q f1 f2 f3 f4)[i]?=some (if f1&&i==a then q.a else if f2&&i==b then q.b else if f3&&i==c then q.c else if f4&&i==d then q.d else ws.getD i 0):=by
 unfold xNn;rw[List.getElem?_map,List.getElem?_range h]
 rfl
theorem xJs (ws:List Int) (a b c d:Nat) (q:Q4) (h:ws.length=16):xNn ws a b c d q false false false false=ws:=by
 apply List.ext_getElem?;intro i
 by_cases hi:i<16
 ·rw[xDn _ _ _ _ _ _ _ _ _ _ hi];simp[List.getD_eq_getElem?_getD,List.getElem?_eq_getElem (show i<ws.length by omega)]
 ·rw[List.getElem?_eq_none (by rw[jM];omega),List.getElem?_eq_none ω]
theorem mixW_u {ws:List Int} (hw:wO ws) (a b c d:Nat) {q:Q4} (ha:U32 q.a) (hb:U32 q.b) (hc:U32 q.c) (hd:U32 q.d) (f1 f2 f3 f4:Bool):wO (xNn ws a b c d q f1 f2 f3 f4):=by
 intro i
 by_cases hi:i<16
 ·rw[List.getD_eq_getElem?_getD,xDn _ _ _ _ _ _ _ _ _ _ hi];simp only[Option.getD_some];split
  ·exact ha
  ·split
   ·exact hb
   ·split
    ·exact hc
    ·split
     ·exact hd
     ·exact hw i
 ·rw[List.getD_eq_getElem?_getD,List.getElem?_eq_none (by rw[jM];omega)];exact⟨δ,δ⟩
theorem wL {ws:List Int} (hw:wO ws) (a b c d:Nat):wO (tF ws a b c d):=by
 have h:=xGe ⟨ws.getD a 0,ws.getD b 0,ws.getD c 0,ws.getD d 0⟩;exact mixW_u hw a b c d h.1 h.2.1 h.2.2.1 h.2.2.2 _ _ _ _
theorem jG (ws:List Int) (a b c d:Nat):(tF ws a b c d).length=16:=jM _ _ _ _ _ _ _ _ _ _
theorem xHh {ws:List Int} {a b c d:Nat} {q:Q4} {f1 f2 f3 f4 g1 g2 g3 g4:Bool} (p:Nat) (x:Int) (h:∀i,i<16->(if f1&&i==a then q.a else if f2&&i==b then q.b else if f3&&i==c then q.c else if f4&&i==d then q.d else ws.getD i 0)=if i=p then x else(if g1&&i==a then q.a else if g2&&i==b then q.b else if g3&&i==c then q.c else if g4&&i==d then q.d else ws.getD i 0)):(xNn ws a b c d q g1 g2 g3 g4).set p x=xNn ws a b c d q f1 f2 f3 f4:=by
 apply List.ext_getElem?;intro i;rw[List.getElem?_set]
 by_cases hi:i<16
 ·rw[xDn ws a b c d q f1 f2 f3 f4 hi,h i hi]
  by_cases e:p=i
  ·subst e;simp[jM,hi]
  ·rw[if_neg e,if_neg (Ne.symm e),xDn _ _ _ _ _ _ _ _ _ _ hi]
 ·rw[List.getElem?_eq_none (l:=xNn ws a b c d q f1 f2 f3 f4) (by rw[jM];omega)];split
  ·rw[if_neg (by rw[jM];omega)]
  ·rw[List.getElem?_eq_none (by rw[jM];omega)]
end Mailsack
namespace Go.Proofs.SH
open Go.RowKit Mailsack MM BB
structure xRe (w:World) (g:Nat) (ws:List Int) (a b c d:Nat) (q:Q4) (f1 f2 f3 f4:Bool) (W:World):Prop where
 st:W.heap[g]?=some (.cells (yG (xNn ws a b c d q f1 f2 f3 f4)) 311 (0,0))
 grn:w.grownBy W (some g)
theorem xO5 {w W:World} {r:Option Nat} (h:w.grownBy W r):w.grownBy W.drew r:=⟨h.os,h.tape,h.output,h.size,h.block⟩
theorem xUf {w W:World} {g:Nat} (h:w.grownBy W (some g)) (i:Nat) (u:Value):w.grownBy (W.setCell ⟨g,i,none⟩ u) (some g):=
 ⟨h.os,h.tape,h.output,by simpa[World.setCell] using h.size,λk hk hne=>(Below.heap_setCell W ⟨g,i,none⟩ u k (λe=>hne (by rw[e]))).trans (h.block k hk hne)⟩
theorem xRe.cell {w:World} {g:Nat} {ws:List Int} {a b c d:Nat} {q:Q4} {W:World} (hl:ws.length=16) (h:xRe w g ws a b c d q false false false false W) {i:Nat} (hi:i<16):W.cell? ⟨g,i,none⟩=some (.int .u32 (ws.getD i 0)):=by
 have:=h.st;rw[xJs _ _ _ _ _ _ hl] at this;rw[xA this,zY ω]
theorem xRe.put {w:World} {g:Nat} {ws:List Int} {a b c d:Nat} {q:Q4} {f1 f2 f3 f4:Bool} {W:World} (h:xRe w g ws a b c d q f1 f2 f3 f4 W) (p:Nat) (x:Int) {g1 g2 g3 g4:Bool} (he:(xNn ws a b c d q f1 f2 f3 f4).set p x=xNn ws a b c d q g1 g2 g3 g4):xRe w g ws a b c d q g1 g2 g3 g4 (W.setCell ⟨g,p,none⟩ (.int .u32 x)):=by
 refine⟨?_,xUf h.grn _ _⟩;have:=yC h.st p (.int .u32 x);rw[xCa,he] at this;exact this
theorem qJ (ws:List Int) (g a b c d:Nat) (w:World) (hg:w.heap[g]?=some (.cells (yG ws) 311 (0,0))) (hl:ws.length=16) (hu:wO ws) (ha:a<16) (hb:b<16) (hc:c<16) (hd:d<16) (hne:a≠b/\a≠c/\a≠d/\b≠c/\b≠d/\c≠d):
  Calls prog 336 #[.pointer (some ⟨g,0,none⟩),.int .i64 a,.int .i64 b,.int .i64 c,.int .i64 d] w λe w'=>e=.returned (.tuple #[])/\w'.heap[g]?=some (.cells (yG (tF ws a b c d)) 311 (0,0))/\w.grownBy w' (some g):=by
 have HQ:=ι (λW=>xLr (ws.getD a 0) (ws.getD b 0) (ws.getD c 0) (ws.getD d 0) W (hu a) (hu b) (hu c) (hu d));have HU:=ι (xGe ⟨ws.getD a 0,ws.getD b 0,ws.getD c 0,ws.getD d 0⟩)
 have HT:Hid (tF ws a b c d=xNn ws a b c d (wU ⟨ws.getD a 0,ws.getD b 0,ws.getD c 0,ws.getD d 0⟩) true true true true):=ι rfl;generalize wU ⟨ws.getD a 0,ws.getD b 0,ws.getD c 0,ws.getD d 0⟩=q at HQ HU HT;obtain⟨qa,qb,qc,qd⟩:=q
 have H0:Hid (xRe w g ws a b c d ⟨qa,qb,qc,qd⟩ false false false false w):=ι ⟨by rw[xJs _ _ _ _ _ _ hl];exact hg,⟨rfl,rfl,rfl,Nat.le_refl _,λ_ _ _=>rfl⟩⟩
 have HC:Hid (∀W,xRe w g ws a b c d ⟨qa,qb,qc,qd⟩ false false false false W->∀i,i<16->W.cell? ⟨g,i,none⟩=some (.int .u32 (ws.getD i 0))):=ι (λW h i hi=>h.cell hl hi);obtain⟨n1,n2,n3,n4,n5,n6⟩:=hne
 have HN:=ι (And.intro n1 (And.intro n2 (And.intro n3 (And.intro n4 (And.intro n5 n6)))));clear hg hl hu n1 n2 n3 n4 n5 n6;go_enter func336,ntmps336;go_upto_region 0 with fail
 refine RG.yM 46 (λL W=>Hid (xRe w g ws a b c d ⟨qa,qb,qc,qd⟩ (L 36) (L 39) (L 42) (L 45) W)) (λL L' W h hI=>by rw[<-h 36 δ,<-h 39 δ,<-h 42 δ,<-h 45 δ];exact hI) κ κ rfl (ι ⟨H0.o.st,xO5 H0.o.grn⟩) ?_;iterate 12 refine RG.cS ?_
 apply RG.xN
 ·rfl
 ·rfl
 ·intro L w9 h0 hcl xP hw9;have e1:=hcl.not 6 (i:=36) h0 κ;have e2:=hcl.not 6 (i:=39) h0 κ;have e3:=hcl.not 6 (i:=42) h0 κ;have e4:=hcl.not 6 (i:=45) h0 κ;have hs:=hw9.o;rw[e1,e2,e3,e4] at hs;have q:=HC.o w9 hs a ha;clear e1 e2 e3 e4 hs;repeat go_step
  refine RG.xB ?_;exact⟨xP,hw9⟩
 ·rfl
 iterate 4 refine RG.cS ?_
 apply RG.xN
 ·rfl
 ·rfl
 ·intro L w9 h0 hcl xP hw9;have e1:=hcl.not 6 (i:=36) h0 κ;have e2:=hcl.not 6 (i:=39) h0 κ;have e3:=hcl.not 6 (i:=42) h0 κ;have e4:=hcl.not 6 (i:=45) h0 κ;have hs:=hw9.o;rw[e1,e2,e3,e4] at hs;have q:=HC.o w9 hs b hb;clear e1 e2 e3 e4 hs;repeat go_step
  refine RG.xB ?_;exact⟨xP,hw9⟩
 ·rfl
 iterate 4 refine RG.cS ?_
 apply RG.xN
 ·rfl
 ·rfl
 ·intro L w9 h0 hcl xP hw9;have e1:=hcl.not 6 (i:=36) h0 κ;have e2:=hcl.not 6 (i:=39) h0 κ;have e3:=hcl.not 6 (i:=42) h0 κ;have e4:=hcl.not 6 (i:=45) h0 κ;have hs:=hw9.o;rw[e1,e2,e3,e4] at hs;have q:=HC.o w9 hs c hc;clear e1 e2 e3 e4 hs;repeat go_step
  refine RG.xB ?_;exact⟨xP,hw9⟩
 ·rfl
 iterate 4 refine RG.cS ?_
 apply RG.xN
 ·rfl
 ·rfl
 ·intro L w9 h0 hcl xP hw9;have e1:=hcl.not 6 (i:=36) h0 κ;have e2:=hcl.not 6 (i:=39) h0 κ;have e3:=hcl.not 6 (i:=42) h0 κ;have e4:=hcl.not 6 (i:=45) h0 κ;have hs:=hw9.o;rw[e1,e2,e3,e4] at hs;have q:=HC.o w9 hs d hd;clear e1 e2 e3 e4 hs;repeat go_step
  refine RG.xB ?_;exact⟨xP,hw9⟩
 ·rfl
 apply RG.xN
 ·rfl
 ·rfl
 ·intro L w9 h0 hcl xP hw9;repeat go_step
  refine(HQ.o _).mono ?_;rintro e w10 ⟨rfl,rfl⟩;simp only[];repeat go_step
  refine RG.xB ?_;exact⟨xP,hw9⟩
 ·rfl
 iterate 7 refine RG.cS ?_
 apply RG.xN
 ·rfl
 ·rfl
 ·intro L w9 h0 hcl xP hw9;have q1:=xA hw9.o.st a;rw[zY (by rw[jM];exact ha)] at q1;have q2:=xD hw9.o.st a
  have hp:=ι (hw9.o.put a qa (xHh a qa (f1:=true) (f2:=(L 39)) (f3:=(L 42)) (f4:=(L 45)) (λi _=>by
   by_cases e:i=a
   ·subst e;simp
   ·simp[e])))
  generalize List.getD _ a 0=old at q1;repeat go_step
  refine RG.xB ?_;refine⟨xP,?_⟩;show Hid (xRe w g ws a b c d ⟨qa,qb,qc,qd⟩ true (L 39) (L 42) (L 45) _);with_reducible exact hp
 ·rfl
 iterate 2 refine RG.cS ?_
 apply RG.xN
 ·rfl
 ·rfl
 ·intro L w9 h0 hcl xP hw9;have q1:=xA hw9.o.st b;rw[zY (by rw[jM];exact hb)] at q1;have q2:=xD hw9.o.st b
  have hp:=ι (hw9.o.put b qb (xHh b qb (f1:=(L 36)) (f2:=true) (f3:=(L 42)) (f4:=(L 45)) (λi _=>by
   obtain⟨n1,_⟩:=HN.o
   by_cases e:i=b
   ·subst e;simp[Ne.symm n1]
   ·simp[e])))
  generalize List.getD _ b 0=old at q1;repeat go_step
  refine RG.xB ?_;refine⟨xP,?_⟩;show Hid (xRe w g ws a b c d ⟨qa,qb,qc,qd⟩ (L 36) true (L 42) (L 45) _);with_reducible exact hp
 ·rfl
 iterate 2 refine RG.cS ?_
 apply RG.xN
 ·rfl
 ·rfl
 ·intro L w9 h0 hcl xP hw9;have q1:=xA hw9.o.st c;rw[zY (by rw[jM];exact hc)] at q1;have q2:=xD hw9.o.st c
  have hp:=ι (hw9.o.put c qc (xHh c qc (f1:=(L 36)) (f2:=(L 39)) (f3:=true) (f4:=(L 45)) (λi _=>by
   obtain⟨_,n2,_,n4,_⟩:=HN.o
   by_cases e:i=c
   ·subst e;simp[Ne.symm n2,Ne.symm n4]
   ·simp[e])))
  generalize List.getD _ c 0=old at q1;repeat go_step
  refine RG.xB ?_;refine⟨xP,?_⟩;show Hid (xRe w g ws a b c d ⟨qa,qb,qc,qd⟩ (L 36) (L 39) true (L 45) _);with_reducible exact hp
 ·rfl
 iterate 2 refine RG.cS ?_
 apply RG.xN
 ·rfl
 ·rfl
 ·intro L w9 h0 hcl xP hw9;have q1:=xA hw9.o.st d;rw[zY (by rw[jM];exact hd)] at q1;have q2:=xD hw9.o.st d
  have hp:=ι (hw9.o.put d qd (xHh d qd (f1:=(L 36)) (f2:=(L 39)) (f3:=(L 42)) (f4:=true) (λi _=>by
   obtain⟨_,_,n3,_,n5,n6⟩:=HN.o
   by_cases e:i=d
   ·subst e;simp[Ne.symm n3,Ne.symm n5,Ne.symm n6]
   ·simp[e])))
  generalize List.getD _ d 0=old at q1;repeat go_step
  refine RG.xB ?_;refine⟨xP,?_⟩;show Hid (xRe w g ws a b c d ⟨qa,qb,qc,qd⟩ (L 36) (L 39) (L 42) true _);with_reducible exact hp
 ·rfl
 refine RG.xY (λw9 hw9=>?_)
 go_end0
 rw[HT.o];exact⟨rfl,hw9.o.st,hw9.o.grn⟩
end Go.Proofs.SH
namespace Mailsack
def xRv (c0 c1 c2 c3:Int):Int:=Go.bits .or .u32 (Go.bits .or .u32 (Go.bits .or .u32 c0 (c1*256)) (c2*65536)) (c3*16777216)
def xOy (b:ByteArray) (k:Nat):Int:=xRv (yO (b.extract (4*k) (4*k+4)) 0) (yO (b.extract (4*k) (4*k+4)) 1) (yO (b.extract (4*k) (4*k+4)) 2) (yO (b.extract (4*k) (4*k+4)) 3)
theorem xRs (b:ByteArray) (k:Nat):U32 (xOy b k):=by unfold xOy xRv;exact pY _ _ _
def rX (ws:List Int) (off:Nat) (b:ByteArray):Nat->List Int
 |0=>ws
 |k+1=>(rX ws off b k).set (off+k) (xOy b k)
theorem kD (ws:List Int) (off:Nat) (b:ByteArray):∀k,(rX ws off b k).length=ws.length
 |0=>rfl
 |k+1=>by simp[rX,kD ws off b k]
theorem xIb {ws:List Int} (h:wO ws) (off:Nat) (b:ByteArray):∀k,wO (rX ws off b k)
 |0=>h
 |k+1=>(xIb h off b k).set (off+k) (xRs b k)
end Mailsack
namespace Go.Proofs.SH
open Go.RowKit Mailsack MM BB
structure xWe (w:World) (g:Nat) (xs:List Int) (W:World):Prop where
 st:W.heap[g]?=some (.cells (yG xs) 311 (0,0))
 grn:w.grownBy W (some g)
theorem xWe.drew {w:World} {g:Nat} {xs:List Int} {W:World} (h:xWe w g xs W):xWe w g xs W.drew:=⟨h.st,xO5 h.grn⟩
theorem xWe.put {w:World} {g:Nat} {xs:List Int} {W:World} (h:xWe w g xs W) (p:Nat) (x:Int):xWe w g (xs.set p x) (W.setCell ⟨g,p,none⟩ (.int .u32 x)):=by
 refine⟨?_,xUf h.grn _ _⟩;have:=yC h.st p (.int .u32 x);rw[xCa] at this;exact this
theorem xIa (ws:List Int) (g off n cap:Nat) (b:ByteArray) (w:World) (hg:w.heap[g]?=some (.cells (yG ws) 311 (0,0))) (hn:off+n<=ws.length) (hb:4*n<=b.size) (hn2:n<=16):
  Calls prog 335 #[.slice (some ⟨g,off,none⟩) n cap,.string b] w λe w'=>e=.returned (.tuple #[])/\w'.heap[g]?=some (.cells (yG (rX ws off b n)) 311 (0,0))/\w.grownBy w' (some g):=by
 have H0:Hid (xWe w g (rX ws off b 0) w):=ι ⟨hg,⟨rfl,rfl,rfl,Nat.le_refl _,λ_ _ _=>rfl⟩⟩;have HL:=ι (λk=>kD ws off b k);clear hg;go_enter func335,ntmps335;go_wp2_with fail
 go_loopw [8] (λiv wr=>∃k:Nat,k<=n/\iv=.int .i64 k/\Hid (xWe w g (rX ws off b k) wr)) (λiv _=>n- (intOf iv).toNat)
 case atStart=>exact⟨0,Nat.zero_le _,rfl,H0⟩
 case round=>
  obtain⟨k,hk,rfl,hr⟩:=hrel;clear H0
  by_cases hlt:k<n
  ·have hl:=HL.o k;have HW:Hid (rX ws off b (k+1)=(rX ws off b k).set (off+k) (xOy b k)):=ι rfl;obtain⟨z,hz⟩:∃z,xOy b k=z:=⟨_,rfl⟩;rw[hz] at HW;generalize rX ws off b k=xs at hr hl HW;go_upto_region 4 with fail
   refine RG.yI [21] (λL W=>Hid (xWe w g (if L 21 then xs.set (off+k) z else xs) W)) (λL L' W h hI=>by rw[<-h 21 δ];exact hI) κ κ δ (ι hr.o.drew) ?_;iterate 3 refine RG.lS ?_
   unfold xOy at hz;obtain⟨x,hx⟩:∃x,b.extract (4*k) (4*k+4)=x:=⟨_,rfl⟩;rw[hx] at hz⊢;have hxs:x.size=4:=by rw[<-hx,ByteArray.size_extract];omega
   have i0:=λw=>zG (P:=prog) underlying9 x 0 0 rfl ω w;have i1:=λw=>zG (P:=prog) underlying9 x 1 1 rfl ω w;have i2:=λw=>zG (P:=prog) underlying9 x 2 2 rfl ω w;have i3:=λw=>zG (P:=prog) underlying9 x 3 3 rfl ω w;obtain⟨r00,r01⟩:=yZ x 0
   obtain⟨r10,r11⟩:=yZ x 1;obtain⟨r20,r21⟩:=yZ x 2;obtain⟨r30,r31⟩:=yZ x 3;generalize yO x 0=c0 at i0 r00 r01 hz;generalize yO x 1=c1 at i1 r10 r11 hz;generalize yO x 2=c2 at i2 r20 r21 hz;generalize yO x 3=c3 at i3 r30 r31 hz;unfold xRv at hz;have HZ:=ι hz;clear hx hz
   iterate 17 refine RG.lS ?_
   rw[HZ.o];refine RG.lS ?_;apply RG.xV
   ·rfl
   ·intro L w9 h0 _ hw9;rw[h0,if_neg σ] at hw9;have q1:=xA hw9.o.st (off+k);rw[zY ω] at q1;have q2:=xD hw9.o.st (off+k);repeat go_step
    refine RG.xB ?_;have hp:=ι (hw9.o.put (off+k) z);rw[if_pos σ];with_reducible exact hp
   ·rfl
   refine RG.xY (λw9 hw9=>?_);rw[if_pos rfl,<-HW.o] at hw9;clear i0 i1 i2 i3;go_wp2;exact⟨⟨k+1,ω,by go_num,hw9⟩,by simp[intOf];omega⟩
  ·have hke:k=n:=ω;have hneg:¬((k:Int)<(n:Int)):=ω;have HR:Hid (xWe w g (rX ws off b n) wr):=by rw[<-hke];exact hr
   clear hr hke hlt hk;go_wp2
   go_end0
   exact⟨rfl,HR.o.st,HR.o.grn⟩
end Go.Proofs.SH