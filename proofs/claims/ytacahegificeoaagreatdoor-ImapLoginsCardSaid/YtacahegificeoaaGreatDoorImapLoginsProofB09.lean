/- Contracts of functions. Conditions: as stated. -/
import Derived.Test.YtacahegificeoaaGreatDoorImapLoginsProofB08
set_option maxHeartbeats 8000000
set_option maxRecDepth 100000
namespace Mailsack
structure S8 where
 a:Int
 b:Int
 c:Int
 d:Int
 e:Int
 f:Int
 g:Int
 h:Int
def S8.list (s:S8):List Int:=[s.a,s.b,s.c,s.d,s.e,s.f,s.g,s.h]
def S8.ok (s:S8):Prop:=U32 s.a/\U32 s.b/\U32 s.c/\U32 s.d/\U32 s.e/\U32 s.f/\U32 s.g/\U32 s.h
def pY:List Int:=[0x428a2f98,0x71374491,0xb5c0fbcf,0xe9b5dba5,0x3956c25b,0x59f111f1,0x923f82a4,0xab1c5ed5,
 0xd807aa98,0x12835b01,0x243185be,0x550c7dc3,0x72be5d74,0x80deb1fe,0x9bdc06a7,0xc19bf174,
 0xe49b69c1,0xefbe4786,0x0fc19dc6,0x240ca1cc,0x2de92c6f,0x4a7484aa,0x5cb0a9dc,0x76f988da,
 0x983e5152,0xa831c66d,0xb00327c8,0xbf597fc7,0xc6e00bf3,0xd5a79147,0x06ca6351,0x14292967,
 0x27b70a85,0x2e1b2138,0x4d2c6dfc,0x53380d13,0x650a7354,0x766a0abb,0x81c2c92e,0x92722c85,
 0xa2bfe8a1,0xa81a664b,0xc24b8b70,0xc76c51a3,0xd192e819,0xd6990624,0xf40e3585,0x106aa070,
 0x19a4c116,0x1e376c08,0x2748774c,0x34b0bcb5,0x391c0cb3,0x4ed8aa4a,0x5b9cca4f,0x682e6ff3,
 0x748f82ee,0x78a5636f,0x84c87814,0x8cc70208,0x90befffa,0xa4506ceb,0xbef9a3f7,0xc67178f2]
def xSt:List Int:=[0x6a09e667,0xbb67ae85,0x3c6ef372,0xa54ff53a,0x510e527f,0x9b05688c,0x1f83d9ab,0x5be0cd19]
theorem xZv:jG pY:=by
 intro i
 by_cases h:i<64
 ·have:∀j:Fin 64,0<=pY.getD j 0/\pY.getD j 0<4294967296:=by decide +kernel
  exact this ⟨i,h⟩
 ·rw[List.getD_eq_getElem?_getD,List.getElem?_eq_none (by simp[pY];omega)];exact⟨δ,δ⟩
def sumE (s:S8):Int:=Go.bits .xor .u32 (Go.bits .xor .u32 (xHt s.e 26) (xHt s.e 21)) (xHt s.e 7)
def chE (s:S8):Int:=Go.bits .xor .u32 (Go.bits .and .u32 s.e s.f) (Go.bits .and .u32 (Go.bits .xor .u32 (if Go.IntKind.u32.signed=true then -1 else Go.IntKind.u32.max) s.e) s.g)
def sumA (s:S8):Int:=Go.bits .xor .u32 (Go.bits .xor .u32 (xHt s.a 30) (xHt s.a 19)) (xHt s.a 10)
def majA (s:S8):Int:=Go.bits .xor .u32 (Go.bits .xor .u32 (Go.bits .and .u32 s.a s.b) (Go.bits .and .u32 s.a s.c)) (Go.bits .and .u32 s.b s.c)
def rnd (K W:Int) (s:S8):S8:=
 ⟨((s.h+sumE s+chE s+K+W) % 4294967296+(sumA s+majA s) % 4294967296) % 4294967296,s.a,s.b,s.c,(s.d+(s.h+sumE s+chE s+K+W) % 4294967296) % 4294967296,s.e,s.f,s.g⟩
theorem rnd_ok (K W:Int) {s:S8} (h:s.ok):(rnd K W s).ok:=by
 obtain⟨ha,hb,hc,hd,he,hf,hg,hh⟩:=h;exact⟨wC _,ha,hb,hc,wC _,he,hf,hg⟩
def rounds (ws:List Int) (s:S8):Nat->S8
 |0=>s
 |k+1=>rnd (pY.getD k 0) (ws.getD k 0) (rounds ws s k)
theorem xL6 (ws:List Int) {s:S8} (h:s.ok):∀k,(rounds ws s k).ok
 |0=>h
 |k+1=>rnd_ok _ _ (xL6 ws h k)
def add8 (s r:S8):S8:=⟨(s.a+r.a) % 4294967296,(s.b+r.b) % 4294967296,(s.c+r.c) % 4294967296,(s.d+r.d) % 4294967296,(s.e+r.e) % 4294967296,(s.f+r.f) % 4294967296,(s.g+r.g) % 4294967296,(s.h+r.h) % 4294967296⟩
def xEs (s:S8) (b:ByteArray):S8:=add8 s (rounds (qU b) s 64)
theorem xYe (s:S8) (b:ByteArray):(xEs s b).ok:=⟨wC _,wC _,wC _,wC _,wC _,wC _,wC _,wC _⟩
end Mailsack
namespace Go.Proofs.SH
open Go.RowKit Mailsack MM
structure wL (w:World):Prop where
 ini:∃t fr,w.heap[0]?=some (.cells (yY xSt) t fr)
 rnd:∃t fr,w.heap[1]?=some (.cells (yY pY) t fr)
theorem wL.below {w w':World} {B:Nat} (h:wL w) (hb:Below B w w') (hB:w.heap.size<=B):wL w':=by
 obtain⟨⟨t,fr,h1⟩,t2,fr2,h2⟩:=h;exact⟨⟨t,fr,xB h1 hb (Nat.lt_of_lt_of_le (xG h1) hB)⟩,t2,fr2,xB h2 hb (Nat.lt_of_lt_of_le (xG h2) hB)⟩
theorem wQ {P:Program} {t e:TypeId} {n:Nat} {k:IntKind} (ht:P.underlying t=some (.array n e)) (he:P.underlying e=some (.int k)) (hs:(P.info? e).map (·.size)=some 1) (cs:Array Value) (v:Value) (i:Nat) (hi:i<n) (hv:cs[i]?=some v) (w:World):
  (Instr.index t (.agg cs) (.int .i64 (i:Int))).run P w=.ok v w:=by
 have hz:∀w,(sizeOf e).run P w=.ok 1 w:=λw=>by
  cases hq:P.info? e with
  |none=>simp[hq] at hs
  |some j=>
   simp[hq] at hs;simp[sizeOf,typeInfo,hq,hs]
 have ha:∀w,(isAgg e).run P w=.ok false w:=λw=>by
  unfold isAgg;rw[Sem.run_bind,run_underlying he]
  rfl
 simp[Instr.index,asIntOf,run_underlying ht,hi,hz,part,ha,hv]
structure xN0 (w:World) (s ws:List Int) (g:Nat) (W:World):Prop where
 st:W.heap[w.heap.size]?=some (.cells (yY s) 225 (0,0))
 res:W.heap[w.heap.size+1]?=some (.cells (yY (List.replicate 8 0)) 225 (0,0))
 wd:W.heap[g]?=some (.cells (yY ws) 307 (0,0))
 tab:wL W
 bel:Below w.heap.size w W
theorem wL.drew {w:World} (h:wL w):wL w.drew:=⟨h.ini,h.rnd⟩
theorem xN0.drew {w:World} {s ws:List Int} {g:Nat} {W:World} (h:xN0 w s ws g W):xN0 w s ws g W.drew:=⟨h.st,h.res,h.wd,h.tab.drew,h.bel.drew⟩
theorem tY {w W:World} (h:Below w.heap.size w W) (i:Nat) (u:Value):Below w.heap.size w (W.setCell ⟨w.heap.size+1,i,none⟩ u):=h.setCell (p:=⟨w.heap.size+1,i,none⟩) (Nat.le_succ _) u
theorem xYd (S:S8) (b:ByteArray) (w:World) (hS:S.ok) (hb:b.size=64) (hT:wL w):
  Calls Tryz.prog 160 #[.agg (yY S.list),.string b] w λe w'=>e=.returned (.agg (yY (xEs S b).list))/\Below w.heap.size w w':=by
 have HT:=ι hT;have HSch:=ι (λW=>xL0 b W hb);have HWl:(qU b).length=64:=xCp b 48;have HWu:=ι (show jG (qU b) from xVg b 48);have HI:Hid ((Tryz.prog.info? 307).map (·.size)=some (yY (qU b)).size):=ι (by rw[zA,HWl];kernel_rfl)
 have HO:Hid ((yY (List.replicate 64 0)).size=(yY (qU b)).size):=ι (by rw[zA,zA,HWl,List.length_replicate]);have H1:=ι (tT (qU b));clear hT;have HF:Hid (xEs S b=add8 S (rounds (qU b) S 64)):=ι rfl;have HS:=ι hS;generalize xEs S b=R at HF⊢
 generalize qU b=ws at HSch HWl HWu HI HO H1 HF;obtain⟨s0,s1,s2,s3,s4,s5,s6,s7⟩:=S;obtain⟨⟨l0,m0⟩,⟨l1,m1⟩,⟨l2,m2⟩,⟨l3,m3⟩,⟨l4,m4⟩,⟨l5,m5⟩,⟨l6,m6⟩,⟨l7,m7⟩⟩:=hS;simp only at l0 m0 l1 m1 l2 m2 l3 m3 l4 m4 l5 m5 l6 m6 l7 m7
 show Calls _ _ #[.agg #[.int .u32 s0,.int .u32 s1,.int .u32 s2,.int .u32 s3,.int .u32 s4,.int .u32 s5,.int .u32 s6,.int .u32 s7],.string b] w _;go_enter Tryz.func160,Tryz.ntmps160;go_wp2_with fail
 refine(HSch.o _).mono ?_;rintro e w1 ⟨rfl,hb1⟩;have ha1:=((Below.refl w.heap.size w).alloc ν (.cells (yY [s0,s1,s2,s3,s4,s5,s6,s7]) 225)).alloc σ (.cells (yY (List.replicate 8 0)) 225)
 have HB:Hid (xN0 w [s0,s1,s2,s3,s4,s5,s6,s7] ws w1.heap.size (w1.alloc (.cells (yY ws) 307))):=ι ⟨
  xK (xB (zG w (.cells (yY [s0,s1,s2,s3,s4,s5,s6,s7]) 225) (.cells (yY (List.replicate 8 0)) 225)) hb1 (by simp;omega)) _,
  xK (xB (yX w (.cells (yY [s0,s1,s2,s3,s4,s5,s6,s7]) 225) (.cells (yY (List.replicate 8 0)) 225)) hb1 σ) _,
  xL _ _,
  HT.o.below ((ha1.trans (hb1.mono ha1.size)).alloc (Nat.le_trans ha1.size hb1.size) _) ν,
  (ha1.trans (hb1.mono ha1.size)).alloc (Nat.le_trans ha1.size hb1.size) _⟩
 clear hb1 ha1 HT HSch
 have hst:(storeCells ⟨w1.heap.size,0,none⟩ (yY ws).toList).run Tryz.prog (w1.alloc (.cells #[.int .u32 0,.int .u32 0,.int .u32 0,.int .u32 0,.int .u32 0,.int .u32 0,.int .u32 0,.int .u32 0,.int .u32 0,.int .u32 0,.int .u32 0,.int .u32 0,.int .u32 0,.int .u32 0,.int .u32 0,.int .u32 0,.int .u32 0,.int .u32 0,.int .u32 0,.int .u32 0,.int .u32 0,.int .u32 0,.int .u32 0,.int .u32 0,.int .u32 0,.int .u32 0,.int .u32 0,.int .u32 0,.int .u32 0,.int .u32 0,.int .u32 0,.int .u32 0,.int .u32 0,.int .u32 0,.int .u32 0,.int .u32 0,.int .u32 0,.int .u32 0,.int .u32 0,.int .u32 0,.int .u32 0,.int .u32 0,.int .u32 0,.int .u32 0,.int .u32 0,.int .u32 0,.int .u32 0,.int .u32 0,.int .u32 0,.int .u32 0,.int .u32 0,.int .u32 0,.int .u32 0,.int .u32 0,.int .u32 0,.int .u32 0,.int .u32 0,.int .u32 0,.int .u32 0,.int .u32 0,.int .u32 0,.int .u32 0,.int .u32 0,.int .u32 0] 307))=.ok () (w1.alloc (.cells (yY ws) 307)):=run_storeCells_new w1 _ _ _ HI.o HO.o H1.o
 have hsz:(yY ws).size=64:=by rw[zA,HWl]
 go_upto_region 4 with fail
 clear hst hsz;generalize w1.alloc (.cells (yY ws) 307)=w2 at HB⊢;generalize w1.heap.size=g1 at HB⊢;refine RG.xP (λW=>Hid (xN0 w [s0,s1,s2,s3,s4,s5,s6,s7] ws g1 W)) κ κ (ι HB.o.drew) ?_
 iterate 12
  apply RG.xJ
  ·intro w9 hw9;have q0:w9.cell? ⟨w.heap.size,0,none⟩=some (.int .u32 s0):=xA hw9.o.st 0;have q1:w9.cell? ⟨w.heap.size,1,none⟩=some (.int .u32 s1):=xA hw9.o.st 1;have q2:w9.cell? ⟨w.heap.size,2,none⟩=some (.int .u32 s2):=xA hw9.o.st 2
   have q3:w9.cell? ⟨w.heap.size,3,none⟩=some (.int .u32 s3):=xA hw9.o.st 3;repeat go_step
   with_reducible exact RG.xD hw9
  ·rfl
 refine RG.xS (λw3 hw3=>?_);clear HB;go_upto_region 5 with fail
 refine RG.xP (λW=>Hid (xN0 w [s0,s1,s2,s3,s4,s5,s6,s7] ws g1 W)) κ κ (ι hw3.o.drew) ?_
 iterate 12
  apply RG.xJ
  ·intro w9 hw9;have q0:w9.cell? ⟨w.heap.size,4,none⟩=some (.int .u32 s4):=xA hw9.o.st 4;have q1:w9.cell? ⟨w.heap.size,5,none⟩=some (.int .u32 s5):=xA hw9.o.st 5;have q2:w9.cell? ⟨w.heap.size,6,none⟩=some (.int .u32 s6):=xA hw9.o.st 6
   have q3:w9.cell? ⟨w.heap.size,7,none⟩=some (.int .u32 s7):=xA hw9.o.st 7;repeat go_step
   with_reducible exact RG.xD hw9
  ·rfl
 refine RG.xS (λw4 hw4=>?_);clear hw3;go_wp2_with (refine wpList_load_row rfl _ _ rfl g1 rfl _ _ (0,0) _ hw4.o.wd Tryz.underlying307 rfl HI.o ?_)
 go_loopw [6,7,8,9,10,11,12,13,45] (λva vb vc vd ve vf vg vh iv wr=>∃(k:Nat) (a b c d e f g h:Int),k<=64/\iv=.int .i64 k/\va=.int .u32 a/\vb=.int .u32 b/\vc=.int .u32 c/\vd=.int .u32 d/\ve=.int .u32 e/\vf=.int .u32 f/\vg=.int .u32 g/\vh=.int .u32 h/\Hid ((⟨a,b,c,d,e,f,g,h⟩:S8)=rounds ws ⟨s0,s1,s2,s3,s4,s5,s6,s7⟩ k/\xN0 w [s0,s1,s2,s3,s4,s5,s6,s7] ws g1 wr)) (λ_ _ _ _ _ _ _ _ iv _=>64- (intOf iv).toNat)
 case atStart=>exact⟨0,s0,s1,s2,s3,s4,s5,s6,s7,δ,rfl,rfl,rfl,rfl,rfl,rfl,rfl,rfl,rfl,ι ⟨rfl,hw4.o⟩⟩
 case round=>
  obtain⟨k,xa,xb,xc,xd,xe,xf,xg,xh,hk,rfl,rfl,rfl,rfl,rfl,rfl,rfl,rfl,rfl,hr⟩:=hrel;clear hw4
  by_cases hlt:k<64
  ·have HBK:=ι hr.o.2;have hok:=xL6 ws HS.o k;rw[<-hr.o.1] at hok;have HRR:=ι hr.o.1;obtain⟨ua,ub,uc,ud,ue,uf,ug,uh⟩:=hok;clear hr;simp only at ua ub uc ud ue uf ug uh;obtain⟨W,hW⟩:∃W,ws.getD k 0=W:=⟨_,rfl⟩;have uW:=HWu.o k;rw[hW] at uW
   have ix:=λw=>wQ (P:=Tryz.prog) Tryz.underlying307 Tryz.underlying143 κ (yY ws) (.int .u32 W) k hlt (by rw[uO ω,hW]) w;obtain⟨K,hK⟩:∃K,pY.getD k 0=K:=⟨_,rfl⟩;have uK:=xZv k;rw[hK] at uK
   have gK:∀X,Hid (xN0 w [s0,s1,s2,s3,s4,s5,s6,s7] ws g1 X)->X.cell? ⟨1,k,none⟩=some (.int .u32 K):=λX h=>by
    obtain⟨t,fr,hh⟩:=h.o.tab.rnd;rw[cell_of_row _ _ _ _ _ _ hh,uO (by simp[pY];omega),hK]
   have GK:=ι gK;have R1:=ι (λX=>kD xe (-6) 26 X ue δ δ);have R2:=ι (λX=>kD xe (-11) 21 X ue δ δ);have R3:=ι (λX=>kD xe (-25) 7 X ue δ δ);have R4:=ι (λX=>kD xa (-2) 30 X ua δ δ);have R5:=ι (λX=>kD xa (-13) 19 X ua δ δ);have R6:=ι (λX=>kD xa (-22) 10 X ua δ δ)
   have HU:Hid (rnd K W ⟨xa,xb,xc,xd,xe,xf,xg,xh⟩=rounds ws ⟨s0,s1,s2,s3,s4,s5,s6,s7⟩ (k+1)):=ι (by rw[HRR.o,<-hK,<-hW];rfl);obtain⟨ua0,ua1⟩:=ua;obtain⟨ub0,ub1⟩:=ub;obtain⟨uc0,uc1⟩:=uc;obtain⟨ud0,ud1⟩:=ud;obtain⟨ue0,ue1⟩:=ue;obtain⟨uf0,uf1⟩:=uf;obtain⟨ug0,ug1⟩:=ug
   obtain⟨uh0,uh1⟩:=uh;obtain⟨uW0,uW1⟩:=uW;obtain⟨uK0,uK1⟩:=uK;clear gK hW hK;go_upto_region 9 with fail
   clear ix;refine RG.yP (λX=>Hid (xN0 w [s0,s1,s2,s3,s4,s5,s6,s7] ws g1 X)) HBK ?_;refine RG.dS ?_;apply RG.xJ
   ·intro w9 hw9;repeat go_step
    refine(R1.o _).mono ?_;rintro e w10 ⟨rfl,rfl⟩;simp only[];repeat go_step
    with_reducible exact RG.xD hw9
   ·rfl
   refine RG.dS ?_;apply RG.xJ
   ·intro w9 hw9;repeat go_step
    refine(R2.o _).mono ?_;rintro e w10 ⟨rfl,rfl⟩;simp only[];repeat go_step
    with_reducible exact RG.xD hw9
   ·rfl
   iterate 2 refine RG.dS ?_
   apply RG.xJ
   ·intro w9 hw9;repeat go_step
    refine(R3.o _).mono ?_;rintro e w10 ⟨rfl,rfl⟩;simp only[];repeat go_step
    with_reducible exact RG.xD hw9
   ·rfl
   iterate 2 refine RG.dS ?_
   refine RG.xS (λw5 hw5=>?_);clear HBK;go_upto_region 10 with fail
   refine RG.yP (λX=>Hid (xN0 w [s0,s1,s2,s3,s4,s5,s6,s7] ws g1 X)) hw5 ?_;clear hw5;iterate 9 refine RG.dS ?_
   refine RG.xS (λw5 hw5=>?_);go_upto_region 11 with fail
   refine RG.yP (λX=>Hid (xN0 w [s0,s1,s2,s3,s4,s5,s6,s7] ws g1 X)) hw5 ?_;clear hw5;iterate 6 refine RG.dS ?_
   iterate 2 refine RG.dF (λw9 hw9=>GK.o _ hw9) ?_
   iterate 4 refine RG.dS ?_
   refine RG.xS (λw5 hw5=>?_);go_upto_region 12 with fail
   refine RG.yP (λX=>Hid (xN0 w [s0,s1,s2,s3,s4,s5,s6,s7] ws g1 X)) hw5 ?_;clear hw5;refine RG.dS ?_;apply RG.xJ
   ·intro w9 hw9;repeat go_step
    refine(R4.o _).mono ?_;rintro e w10 ⟨rfl,rfl⟩;simp only[];repeat go_step
    with_reducible exact RG.xD hw9
   ·rfl
   refine RG.dS ?_;apply RG.xJ
   ·intro w9 hw9;repeat go_step
    refine(R5.o _).mono ?_;rintro e w10 ⟨rfl,rfl⟩;simp only[];repeat go_step
    with_reducible exact RG.xD hw9
   ·rfl
   iterate 2 refine RG.dS ?_
   apply RG.xJ
   ·intro w9 hw9;repeat go_step
    refine(R6.o _).mono ?_;rintro e w10 ⟨rfl,rfl⟩;simp only[];repeat go_step
    with_reducible exact RG.xD hw9
   ·rfl
   iterate 2 refine RG.dS ?_
   refine RG.xS (λw5 hw5=>?_);go_upto_region 13 with fail
   refine RG.yP (λX=>Hid (xN0 w [s0,s1,s2,s3,s4,s5,s6,s7] ws g1 X)) hw5 ?_;clear hw5;iterate 12 refine RG.dS ?_
   refine RG.xS (λw5 hw5=>?_);go_upto_region 14 with fail
   refine RG.yP (λX=>Hid (xN0 w [s0,s1,s2,s3,s4,s5,s6,s7] ws g1 X)) hw5 ?_;clear hw5;iterate 4 refine RG.dS ?_
   refine RG.xS (λw5 hw5=>?_);go_upto_region 15 with fail
   refine RG.yP (λX=>Hid (xN0 w [s0,s1,s2,s3,s4,s5,s6,s7] ws g1 X)) hw5 ?_;clear hw5;iterate 10 refine RG.dS ?_
   refine RG.xS (λw5 hw5=>?_);go_upto_region 16 with fail
   refine RG.yP (λX=>Hid (xN0 w [s0,s1,s2,s3,s4,s5,s6,s7] ws g1 X)) hw5 ?_;clear hw5;iterate 10 refine RG.dS ?_
   refine RG.xS (λw5 hw5=>?_);go_wp2;exact⟨⟨k+1,_,_,_,_,_,_,_,_,ω,by go_num,rfl,rfl,rfl,rfl,rfl,rfl,rfl,rfl,ι ⟨HU.o,hw5.o⟩⟩,by simp[intOf];omega⟩
  ·obtain rfl:k=64:=by omega
   rw[<-hr.o.1] at HF;have q0:wr.cell? ⟨w.heap.size,0,none⟩=some (.int .u32 s0):=xA hr.o.2.st 0;have q1:wr.cell? ⟨w.heap.size,1,none⟩=some (.int .u32 s1):=xA hr.o.2.st 1;have q2:wr.cell? ⟨w.heap.size,2,none⟩=some (.int .u32 s2):=xA hr.o.2.st 2
   have q3:wr.cell? ⟨w.heap.size,3,none⟩=some (.int .u32 s3):=xA hr.o.2.st 3;have q4:wr.cell? ⟨w.heap.size,4,none⟩=some (.int .u32 s4):=xA hr.o.2.st 4;have q5:wr.cell? ⟨w.heap.size,5,none⟩=some (.int .u32 s5):=xA hr.o.2.st 5
   have q6:wr.cell? ⟨w.heap.size,6,none⟩=some (.int .u32 s6):=xA hr.o.2.st 6;have q7:wr.cell? ⟨w.heap.size,7,none⟩=some (.int .u32 s7):=xA hr.o.2.st 7;have f0:wr.cell? ⟨w.heap.size+1,0,none⟩=some (.int .u32 0):=xA hr.o.2.res 0;have x0:=xC hr.o.2.res 0
   have f1:wr.cell? ⟨w.heap.size+1,1,none⟩=some (.int .u32 0):=xA hr.o.2.res 1;have x1:=xC hr.o.2.res 1;have f2:wr.cell? ⟨w.heap.size+1,2,none⟩=some (.int .u32 0):=xA hr.o.2.res 2;have x2:=xC hr.o.2.res 2
   have f3:wr.cell? ⟨w.heap.size+1,3,none⟩=some (.int .u32 0):=xA hr.o.2.res 3;have x3:=xC hr.o.2.res 3;have f4:wr.cell? ⟨w.heap.size+1,4,none⟩=some (.int .u32 0):=xA hr.o.2.res 4;have x4:=xC hr.o.2.res 4
   have f5:wr.cell? ⟨w.heap.size+1,5,none⟩=some (.int .u32 0):=xA hr.o.2.res 5;have x5:=xC hr.o.2.res 5;have f6:wr.cell? ⟨w.heap.size+1,6,none⟩=some (.int .u32 0):=xA hr.o.2.res 6;have x6:=xC hr.o.2.res 6
   have f7:wr.cell? ⟨w.heap.size+1,7,none⟩=some (.int .u32 0):=xA hr.o.2.res 7;have x7:=xC hr.o.2.res 7;have HRS:=ι hr.o.2.res;have HBL:=ι hr.o.2.bel;clear hr;go_wp2
   refine bodyPost_ret (v:=.agg (yY (add8 ⟨s0,s1,s2,s3,s4,s5,s6,s7⟩ ⟨xa,xb,xc,xd,xe,xf,xg,xh⟩).list)) (by simp[results,Tryz.results160,go_sem,f0,f1,f2,f3,f4,f5,f6,f7];rfl) rfl ?_;rw[HF.o];refine⟨rfl,?_⟩;have h:=HBL.o
   clear f0 q0 x0 f1 q1 x1 f2 q2 x2 f3 q3 x3 f4 q4 x4 f5 q5 x5 f6 q6 x6 f7 q7 x7;have k0:=tY h 0 (.int .u32 ((s0+xa) % 4294967296));have k1:=tY k0 1 (.int .u32 ((s1+xb) % 4294967296));have k2:=tY k1 2 (.int .u32 ((s2+xc) % 4294967296))
   have k3:=tY k2 3 (.int .u32 ((s3+xd) % 4294967296));have k4:=tY k3 4 (.int .u32 ((s4+xe) % 4294967296));have k5:=tY k4 5 (.int .u32 ((s5+xf) % 4294967296));have k6:=tY k5 6 (.int .u32 ((s6+xg) % 4294967296));have k7:=tY k6 7 (.int .u32 ((s7+xh) % 4294967296))
   with_reducible exact k7
end Go.Proofs.SH
namespace Go.Proofs.BB
open Go.RowKit Mailsack MM
theorem xZt {P:Program} (w:World) (base:Nat) (t u ty e:TypeId) (i:TypeInfo) (ht:P.underlying t=some (.slice e)) (hu:P.underlying u=some .string) (hi:P.info? e=some i) (hz:i.zero=some (.int .u8 0))
  (hsize:i.size=1) (hby:i.bytes=1) (g n cap:Nat) (xs:List Value) (hown:w.ownsRow base e 1 (.slice (some ⟨g,0,none⟩) n cap) n xs) (s:ByteArray)
  (h63:n+s.size<=maxLen) (hbytes:n+s.size<=140737488355328) (hbase:base<=w.heap.size):
  ∃v' w',(Builtin.append_ #[t,u] ty #[.slice (some ⟨g,0,none⟩) n cap,.string s]).run P w=.ok v' w'/\w'.ownsRow base e 1 v' (n+s.size) (xs++Lib.strCells s)/\w.grownBy w' (some g)/\
   (v'.ownBlock=some g∨v'.ownBlock=some w.heap.size):=by
 obtain⟨v',w',hr,h2,h3,_⟩:=Lib.run_append_own_string (P:=P) w base t u ty e i ht hu hi hz hsize hby _ n xs hown s h63 hbytes hbase;refine⟨v',w',hr,h2,h3,?_⟩;have hsmall:n+s.size<=9223372036854775807:=by simp only[maxLen] at h63;omega
 have hxl:xs.length=n:=by simpa using hown.1
 rcases hown.2 with ⟨h,_⟩|⟨g',cap',cur,h,hbg,hg,hnc,hcm,hcs,htake⟩
 ·cases h
 ·injection h with h h' h'';injection h with h;injection h with h;subst h h''
  by_cases hroom:n+s.size<=cap
  ·have hcs':cur.size=cap:=by simpa using hcs
   have hq:=Lib.run_append_room_string (P:=P) w t u ty e i ht hu hi hsize g n cap cur hg s hroom ω;rw[hq] at hr;injection hr with hv hw;exact .inl (by rw[<-hv];rfl)
  ·have holds:∀j u,xs[j]?=some u->w.cell? ((⟨g,0,none⟩:Addr).add j)=some u:=hown.cells (g:=g) rfl
   have hq:=Lib.run_append_grow_string (P:=P) w t u ty e i (.int .u8 0) ht hu hi hz ⟨g,0,none⟩ n cap xs (by rw[hsize];simpa using hxl) holds s ω ω (by rw[hby];exact growslice_fits ω ω);rw[hq] at hr;injection hr with hv hw;exact .inr (by rw[<-hv];rfl)
theorem xFm {P:Program} {w:World} {ops:Array Oper} {rest:List Oper} {o:Oper} {a:Act} {Q:Exit->Act->World->Prop} (hgd:o.guard=none) (sl x:Operand) (t u:TypeId)
  (ho:o.op=.call {callee:=.builtin .append,args:=#[sl,x],argTypes:=#[t,u]})
  (base:Nat) (e:TypeId) (i:TypeInfo) (ht:P.underlying t=some (.slice e)) (hu:P.underlying u=some .string) (hi:P.info? e=some i) (hz:i.zero=some (.int .u8 0))
  (hsize:i.size=1) (hby:i.bytes=1)
  (g n cap:Nat) (xs:List Value) (hs:a.eval sl=.slice (some ⟨g,0,none⟩) n cap) (hown:w.ownsRow base e 1 (.slice (some ⟨g,0,none⟩) n cap) n xs) (s:ByteArray) (hx:a.eval x=.string s)
  (h63:n+s.size<=maxLen) (hbytes:n+s.size<=140737488355328) (hbase:base<=w.heap.size)
  (h:∀v' w',w'.ownsRow base e 1 v' (n+s.size) (xs++Lib.strCells s)->w.grownBy w' (some g)->(v'.ownBlock=some g∨v'.ownBlock=some w.heap.size)->wpList P ops Q rest (a.put o.dst v') w'):wpList P ops Q (o::rest) a w:=by
 refine wpList_plain hgd λK hK=>?_;obtain⟨v',w',hr,h2,h3,h4⟩:=xZt (P:=P) w base t u o.type e i ht hu hi hz hsize hby g n cap xs hown s h63 hbytes hbase;unfold Oper.wp execOp
 simp only[ho,resolve,invoke,builtin,Sem.run_bind,Sem.run_pure,Result.andThen_ok,List.map_toArray,List.map_cons,List.map_nil,hs,hx,hr];exact hK _ _ (h v' w' h2 h3 h4)
theorem xSu:(Tryz.prog.info? 5).map (λi=>(i.zero,i.size,i.bytes))=some (some (.int .u8 0),1,1):=by kernel_rfl
theorem vM {P:Program} {t:TypeId} {z:Value} {n b:Nat} (h:(P.info? t).map (λi=>(i.zero,i.size,i.bytes))=some (some z,n,b)):∃i,P.info? t=some i/\i.zero=some z/\i.size=n/\i.bytes=b:=by
 cases hq:P.info? t with
 |none=>rw[hq] at h;cases h
 |some i=>
  rw[hq] at h;simp only[Option.map_some,Option.some.injEq,Prod.mk.injEq] at h;exact⟨i,rfl,h.1,h.2.1,h.2.2⟩
def uG (w:World) (base:Nat) (v:Value) (l:Bs):Prop:=w.ownsRow base 5 1 v l.length (l.map λc=>Value.int .u8 (c.toNat:Int))
theorem uG.row {w:World} {base:Nat} {v:Value} {l:Bs} (h:uG w base v l):w.ownsRow base 5 1 v l.length (l.map λc=>Value.int .u8 (c.toNat:Int)):=h
theorem uG.of {w:World} {base:Nat} {v:Value} {l m:Bs} (h:w.ownsRow base 5 1 v (l.length+m.length) (l.map (λc=>Value.int .u8 (c.toNat:Int))++m.map (λc=>Value.int .u8 (c.toNat:Int)))):uG w base v (l++m):=by
 unfold uG;rw[List.length_append,List.map_append];exact h
theorem uG.alloc {w:World} {base:Nat} {v:Value} {l:Bs} (h:uG w base v l) (o:Obj):uG (w.alloc o) base v l:=World.ownsRow.alloc h o
theorem uG.grown {w w':World} {base:Nat} {v:Value} {l:Bs} {row:Option Nat} (h:uG w base v l) (hg:w.grownBy w' row) (hne:v.ownBlock=none∨v.ownBlock≠row):uG w' base v l:=h.row.kept hg hne
theorem uG.below {w w':World} {base:Nat} {v:Value} {l:Bs} (h:uG w base v l) (hb:Below w.heap.size w w'):uG w' base v l:=
 h.grown (pK hb none) (by cases v.ownBlock<;>simp)
theorem uG.drew {w:World} {base:Nat} {v:Value} {l:Bs} (h:uG w base v l):uG w.drew base v l:=h
theorem uG.form {w:World} {base:Nat} {v:Value} {l:Bs} (h:uG w base v l):∃A c,v=.slice A l.length c/\l.length<=c:=by
 rcases h.2 with ⟨h1,h2⟩|⟨g,cap,cur,h1,_,_,h2,_⟩
 ·exact⟨none,0,by rw[h1,h2],ω⟩
 ·exact⟨_,_,h1,h2⟩
theorem uG.room (w:World) (c:Nat) (base:Nat) (hb:base<=w.heap.size) (hc:c<=9223372036854775807):uG (w.alloc (.cells (yJ (xQ c)) 5)) base (.slice (some ⟨w.heap.size,0,none⟩) 0 c) []:=
 ⟨rfl,.inr ⟨w.heap.size,c,_,rfl,hb,xL _ _,Nat.zero_le _,by unfold maxLen;exact hc,by rw[uZ,zC,Nat.mul_one],σ⟩⟩
theorem uG.head {w:World} {g:Nat} {l:Bs} (h:jF w g l) (n:Nat) (base:Nat) (hb:base<=g) (hn:n<=l.length) (hc:l.length<=9223372036854775807):uG w base (.slice (some ⟨g,0,none⟩) n l.length) (l.take n):=by
 have hl:(l.take n).length=n:=by rw[List.length_take];omega
 unfold uG;rw[hl];refine⟨by simp;omega,.inr ⟨g,l.length,_,rfl,hb,h.blk,hn,by unfold maxLen;exact hc,by rw[uZ,Nat.mul_one],?_⟩⟩;rw[Nat.mul_one,List.map_take]
 rfl
theorem uG.text {w:World} {base:Nat} {v:Value} {l:Bs} (h:uG w base v l):(convert 79 9 v).run Tryz.prog w=.ok (xO l) w:=by
 rcases h.2 with ⟨h1,h2⟩|⟨g,cap,cur,h1,_,_,h2,_⟩
 ·have:l=[]:=List.eq_nil_of_length_eq_zero h2;subst this;have h0:∀W:World,(convert 79 9 (.slice none 0 0)).run Tryz.prog W=.ok (.string ⟨#[]⟩) W:=λ_=>by kernel_rfl
  rw[h1];exact h0 w
 ·rw[h1];refine run_convert_bytes_back w _ _ 5 ⟨g,0,none⟩ cap l Tryz.underlying79 Tryz.underlying5 Tryz.underlying9 (λj hj=>?_);exact World.ownsRow.cells h (g:=g) (by rw[h1];rfl) j _ (by simp[hj])
theorem xRz {w w2 w1:World} {B n:Nat} {tv:Value} {xs:List Value} {E:TypeId} {o:Obj} (hT:w2.ownsRow B E 1 tv n xs) (hg:(w2.alloc o).grownBy w1 tv.ownBlock) (hb:Below B w w2) (hB:B<=w2.heap.size):Below B w w1:=
 (hb.alloc hB o).grown hg (by simp;omega) (λk hk=>(World.ownsRow.lt hT k hk).1)
theorem xY9 (w:World) (xs:List Value) (t:TypeId):∀j u,xs[j]?=some u->(w.alloc (.cells xs.toArray t)).cell? ((⟨w.heap.size,0,none⟩:Addr).add j)=some u:=by
 intro j u hj;have hadd:(⟨w.heap.size,0,none⟩:Addr).add j=⟨w.heap.size,j,none⟩:=by unfold Addr.add;split<;>simp_all
 rw[hadd,xA (xL w (.cells xs.toArray t)) j];simpa using hj
end Go.Proofs.BB
namespace Mailsack
def xU1 (r:Bs):Nat:=if 64<r.length+9 then 128 else 64
def endA (r:Bs):Bs:=(r++(xQ (xU1 r)).drop r.length).set r.length (oct 128)
def xOj (r:Bs) (count:Int):Nat->Bs
 |0=>endA r
 |k+1=>(xOj r count k).set (xU1 r-1-k) (oct (count / 2^(8*k)))
def endP (r:Bs) (count:Int):Bs:=xOj r count 8
theorem yF1 (r:Bs) (h:r.length<64):r.length<xU1 r:=by unfold xU1;split<;>omega
theorem xJu (r:Bs) (count:Int) (h:r.length<64):∀k,(xOj r count k).length=xU1 r
 |0=>by have:=yF1 r h;simp[xOj,endA,zC];omega
 |k+1=>by simp[xOj,xJu r count h k]
end Mailsack
namespace Go.Proofs.SH
open Go.RowKit Mailsack MM BB
theorem xT2 (b:ByteArray) (count:Int) (w:World) (hb:b.size<64):
  Calls Tryz.prog 161 #[.string b,.int .u64 count] w λe w'=>e=.returned (.string ⟨(endP b.data.toList count).toArray⟩)/\Below w.heap.size w w':=by
 have hbl:b.data.toList.length=b.size:=by simp
 have HL:=ι (λk=>xJu b.data.toList count ω k)
 by_cases hn:64<b.size+9
 ·have HN:Hid (xU1 b.data.toList=128):=ι (by unfold xU1;rw[if_pos ω]);have hmk:∀W:World,(Instr.makeSlice 79 (.int .i64 128) (.int .i64 128)).run Tryz.prog W=.ok (.slice (some ⟨W.heap.size,0,none⟩) 128 128) (W.alloc (.cells (yJ (xQ 128)) 5)):=λW=>made W 128 128 δ δ
  have HB0:Hid (jF (w.alloc (.cells (yJ (xQ 128)) 5)) w.heap.size (xQ 128)):=ι (xL _ _);have HW0:=ι ((Below.refl w.heap.size w).alloc ν (.cells (yJ (xQ 128)) 5));go_enter Tryz.func161,Tryz.ntmps161;go_upto_region 5 with fail
  refine wp_region_lit ?_;iterate 6 go_step
  refine Lib.wpList_copy_run _ rfl _ _ _ _ rfl _ _ rfl rfl (copied HB0.o _ _ _ _ ω (by rw[zC];omega)) ?_;have HB1:=ι (HB0.o.row (b.data.toList++(xQ 128).drop b.size));have HW1:=ι (below_setRow HW0.o ν (yJ (b.data.toList++(xQ 128).drop b.size)));clear hmk HB0 HW0
  generalize (w.alloc (.cells (yJ (xQ 128)) 5)).setRow w.heap.size (yJ (b.data.toList++(xQ 128).drop b.size))=w1 at HB1 HW1⊢;have q0:=HB1.o.cell (i:=b.size) (by simp[zC];omega);have q1:=HB1.o.free b.size
  have HB2:Hid (jF (w1.setCell ⟨w.heap.size,b.size,none⟩ (.int .u8 128)) w.heap.size (xOj b.data.toList count 0)):=ι (by
   have h:=HB1.o.put b.size 128;unfold xOj endA;rw[HN.o,hbl];exact h)
  have HW2:=ι (HW1.o.setCell (p:=⟨w.heap.size,b.size,none⟩) ν (.int .u8 128));clear HB1 HW1;go_wp2_with fail
  clear q0 q1
  go_loopw [21] (λiv wr=>∃k:Nat,k<=8/\iv=.int .i64 k/\Hid (jF wr w.heap.size (xOj b.data.toList count k)/\Below w.heap.size w wr)) (λiv _=>8- (intOf iv).toNat)
  case atStart=>exact⟨0,δ,rfl,ι ⟨HB2.o,HW2.o⟩⟩
  case round=>
   obtain⟨k,hk,rfl,hr⟩:=hrel;clear HB2 HW2
   by_cases hlt:k<8
   ·have q0:=hr.o.1.cell (i:=127-k) (by rw[HL.o k,HN.o];omega);have q1:=hr.o.1.free (127-k)
    have HK:Hid (jF (wr.setCell ⟨w.heap.size,127-k,none⟩ (.int .u8 (count / 2^(8*k) % 256))) w.heap.size (xOj b.data.toList count (k+1))):=ι (by
     have h:=hr.o.1.put (127-k) (count / 2^(8*k));unfold xOj;rw[HN.o];exact h)
    have HKW:=ι (hr.o.2.setCell (p:=⟨w.heap.size,127-k,none⟩) ν (.int .u8 (count / 2^(8*k) % 256)));clear hr;go_wp2;exact⟨⟨k+1,ω,by go_num,ι ⟨HK.o,HKW.o⟩⟩,by simp[intOf];omega⟩
   ·obtain rfl:k=8:=by omega
    have ht:=xNa hr.o.1 128 128 (by rw[HL.o 8,HN.o];exact Nat.le_refl _);rw[List.take_of_length_le (by rw[HL.o 8,HN.o];exact Nat.le_refl _)] at ht;have HBW:=ι hr.o.2;clear hr;go_wp2;go_ret;exact⟨rfl,HBW.o⟩
 ·have HN:Hid (xU1 b.data.toList=64):=ι (by unfold xU1;rw[if_neg ω]);have hmk:∀W:World,(Instr.makeSlice 79 (.int .i64 64) (.int .i64 64)).run Tryz.prog W=.ok (.slice (some ⟨W.heap.size,0,none⟩) 64 64) (W.alloc (.cells (yJ (xQ 64)) 5)):=λW=>made W 64 64 δ δ
  have HB0:Hid (jF (w.alloc (.cells (yJ (xQ 64)) 5)) w.heap.size (xQ 64)):=ι (xL _ _);have HW0:=ι ((Below.refl w.heap.size w).alloc ν (.cells (yJ (xQ 64)) 5));go_enter Tryz.func161,Tryz.ntmps161;go_upto_region 5 with fail
  refine wp_region_lit ?_;iterate 6 go_step
  refine Lib.wpList_copy_run _ rfl _ _ _ _ rfl _ _ rfl rfl (copied HB0.o _ _ _ _ ω (by rw[zC];omega)) ?_;have HB1:=ι (HB0.o.row (b.data.toList++(xQ 64).drop b.size));have HW1:=ι (below_setRow HW0.o ν (yJ (b.data.toList++(xQ 64).drop b.size)));clear hmk HB0 HW0
  generalize (w.alloc (.cells (yJ (xQ 64)) 5)).setRow w.heap.size (yJ (b.data.toList++(xQ 64).drop b.size))=w1 at HB1 HW1⊢;have q0:=HB1.o.cell (i:=b.size) (by simp[zC];omega);have q1:=HB1.o.free b.size
  have HB2:Hid (jF (w1.setCell ⟨w.heap.size,b.size,none⟩ (.int .u8 128)) w.heap.size (xOj b.data.toList count 0)):=ι (by
   have h:=HB1.o.put b.size 128;unfold xOj endA;rw[HN.o,hbl];exact h)
  have HW2:=ι (HW1.o.setCell (p:=⟨w.heap.size,b.size,none⟩) ν (.int .u8 128));clear HB1 HW1;go_wp2_with fail
  clear q0 q1
  go_loopw [21] (λiv wr=>∃k:Nat,k<=8/\iv=.int .i64 k/\Hid (jF wr w.heap.size (xOj b.data.toList count k)/\Below w.heap.size w wr)) (λiv _=>8- (intOf iv).toNat)
  case atStart=>exact⟨0,δ,rfl,ι ⟨HB2.o,HW2.o⟩⟩
  case round=>
   obtain⟨k,hk,rfl,hr⟩:=hrel;clear HB2 HW2
   by_cases hlt:k<8
   ·have q0:=hr.o.1.cell (i:=63-k) (by rw[HL.o k,HN.o];omega);have q1:=hr.o.1.free (63-k)
    have HK:Hid (jF (wr.setCell ⟨w.heap.size,63-k,none⟩ (.int .u8 (count / 2^(8*k) % 256))) w.heap.size (xOj b.data.toList count (k+1))):=ι (by
     have h:=hr.o.1.put (63-k) (count / 2^(8*k));unfold xOj;rw[HN.o];exact h)
    have HKW:=ι (hr.o.2.setCell (p:=⟨w.heap.size,63-k,none⟩) ν (.int .u8 (count / 2^(8*k) % 256)));clear hr;go_wp2;exact⟨⟨k+1,ω,by go_num,ι ⟨HK.o,HKW.o⟩⟩,by simp[intOf];omega⟩
   ·obtain rfl:k=8:=by omega
    have ht:=xNa hr.o.1 64 64 (by rw[HL.o 8,HN.o];exact Nat.le_refl _);rw[List.take_of_length_le (by rw[HL.o 8,HN.o];exact Nat.le_refl _)] at ht;have HBW:=ι hr.o.2;clear hr;go_wp2;go_ret;exact⟨rfl,HBW.o⟩
end Go.Proofs.SH