/- Contracts of functions. Conditions: as stated. -/
import Derived.Test.YtjdkeibcoiiliaaGreatDoorVaultWholeProofB13
import Derived.Lib.AppendIntMem
import Derived.Lib.ItoaLen
open Go.Proofs.Tryz
set_option maxHeartbeats 8000000
set_option maxRecDepth 100000
namespace Mailsack
open Lean.Grind
theorem yAa {x:Int} (h0:0<=x) (h1:x<pI):(DH.xIn (DH.toF x):Int)=x:=by
 obtain⟨n,rfl⟩:=Ct h0;rw[xS9];show((n % DH.PP:Nat):Int)=_
 have:n<DH.PP:=by
  unfold pI at h1;unfold DH.PP;omega
 rw[Dx this]
theorem Can.nn {l:List Int} (h:Can l):0<=Vl l:=by
 have g0:=h.ge 0;have g1:=h.ge 1;have g2:=h.ge 2;have g3:=h.ge 3;have g4:=h.ge 4;unfold Vl;omega
theorem Can.same {a b:List Int} (ha:Can a) (hb:Can b) (h:vF a=vF b):a=b:=by
 have hv:Vl a=Vl b:=by
  rw[<-yAa ha.nn ha.v,<-yAa hb.nn hb.v];unfold vF at h;rw[h]
 obtain⟨x0,x1,x2,x3,x4,rfl⟩:=jX ha.len;obtain⟨y0,y1,y2,y3,y4,rfl⟩:=jX hb.len;have a0:0<=x0/\x0<2251799813685248:=⟨ha.ge 0,ha.lt 0⟩;have a1:0<=x1/\x1<2251799813685248:=⟨ha.ge 1,ha.lt 1⟩;have a2:0<=x2/\x2<2251799813685248:=⟨ha.ge 2,ha.lt 2⟩
 have a3:0<=x3/\x3<2251799813685248:=⟨ha.ge 3,ha.lt 3⟩;have b0:0<=y0/\y0<2251799813685248:=⟨hb.ge 0,hb.lt 0⟩;have b1:0<=y1/\y1<2251799813685248:=⟨hb.ge 1,hb.lt 1⟩;have b2:0<=y2/\y2<2251799813685248:=⟨hb.ge 2,hb.lt 2⟩;have b3:0<=y3/\y3<2251799813685248:=⟨hb.ge 3,hb.lt 3⟩
 simp only[Vl,Cj,Cr] at hv;clear h ha hb;obtain⟨e0,r0⟩:x0=y0/\x1+2251799813685248*(x2+2251799813685248*(x3+2251799813685248*x4))=y1+2251799813685248*(y2+2251799813685248*(y3+2251799813685248*y4)):=ω
 obtain⟨e1,r1⟩:x1=y1/\x2+2251799813685248*(x3+2251799813685248*x4)=y2+2251799813685248*(y3+2251799813685248*y4):=ω;obtain⟨e2,r2⟩:x2=y2/\x3+2251799813685248*x4=y3+2251799813685248*y4:=ω;obtain⟨e3,r3⟩:x3=y3/\x4=y4:=ω;rw[e0,e1,e2,e3,r3]
theorem xYt {a b:List Int} (ha:a.length=5) (hb:b.length=5) (h:yT a) (h':yT b) (e:vF a=vF b):jY a=jY b:=by
 obtain⟨c1,e1⟩:=xFx ha h;obtain⟨c2,e2⟩:=xFx hb h';unfold jY;rw[c1.same c2 (by rw[e1,e2,e])]
theorem xWs {a b c d e:Int} (h:Can [a,b,c,d,e]):xAt [a,b,c,d,e]=[a+b % 8192*2251799813685248,b / 8192+c % 67108864*274877906944,c / 67108864+d % 549755813888*33554432,d / 549755813888+e*4096]:=by
 have g0:0<=a/\a<2251799813685248:=⟨h.ge 0,h.lt 0⟩;have g1:0<=b/\b<2251799813685248:=⟨h.ge 1,h.lt 1⟩;have g2:0<=c/\c<2251799813685248:=⟨h.ge 2,h.lt 2⟩;have g3:0<=d/\d<2251799813685248:=⟨h.ge 3,h.lt 3⟩;have g4:0<=e/\e<2251799813685248:=⟨h.ge 4,h.lt 4⟩
 have w:∀x:Int,Go.IntKind.u64.wrap x=x % 18446744073709551616:=λx=>by simp[Go.IntKind.wrap,Go.IntKind.signed,Go.IntKind.bits]
 have o0:=xAw 51 (a:=a) (b:=b % 8192) ω (by rw[show((2^51:Nat):Int)=2251799813685248 by rfl];omega) ω (by rw[show((2^51:Nat):Int)=2251799813685248 by rfl];omega) ω
 have o1:=xAw 38 (a:=b / 8192) (b:=c % 67108864) ω (by rw[show((2^38:Nat):Int)=274877906944 by rfl];omega) ω (by rw[show((2^38:Nat):Int)=274877906944 by rfl];omega) ω
 have o2:=xAw 25 (a:=c / 67108864) (b:=d % 549755813888) ω (by rw[show((2^25:Nat):Int)=33554432 by rfl];omega) ω (by rw[show((2^25:Nat):Int)=33554432 by rfl];omega) ω
 have o3:=xAw 12 (a:=d / 549755813888) (b:=e) ω (by rw[show((2^12:Nat):Int)=4096 by rfl];omega) ω (by rw[show((2^12:Nat):Int)=4096 by rfl];omega) ω;rw[show((2^51:Nat):Int)=2251799813685248 by rfl] at o0;rw[show((2^38:Nat):Int)=274877906944 by rfl] at o1
 rw[show((2^25:Nat):Int)=33554432 by rfl] at o2;rw[show((2^12:Nat):Int)=4096 by rfl] at o3
 show[Go.bits .or .u64 a (Go.IntKind.u64.wrap (b*2251799813685248)),Go.bits .or .u64 (b / 8192) (Go.IntKind.u64.wrap (c*274877906944)),Go.bits .or .u64 (c / 67108864) (Go.IntKind.u64.wrap (d*33554432)),Go.bits .or .u64 (d / 549755813888) (Go.IntKind.u64.wrap (e*4096))]=_
 rw[w,w,w,w,show b*2251799813685248 % 18446744073709551616=b % 8192*2251799813685248 by omega,show c*274877906944 % 18446744073709551616=c % 67108864*274877906944 by omega,show d*33554432 % 18446744073709551616=d % 549755813888*33554432 by omega,show e*4096 % 18446744073709551616=e*4096 by omega,o0,o1,o2,o3]
theorem xXx {a b c d e:Int} (h:Can [a,b,c,d,e]):xV9 (xAt [a,b,c,d,e])=[a,b,c,d,e]:=by
 rw[xWs h];have g0:0<=a/\a<2251799813685248:=⟨h.ge 0,h.lt 0⟩;have g1:0<=b/\b<2251799813685248:=⟨h.ge 1,h.lt 1⟩;have g2:0<=c/\c<2251799813685248:=⟨h.ge 2,h.lt 2⟩;have g3:0<=d/\d<2251799813685248:=⟨h.ge 3,h.lt 3⟩;have g4:0<=e/\e<2251799813685248:=⟨h.ge 4,h.lt 4⟩
 have w:∀x:Int,Go.IntKind.u64.wrap x=x % 18446744073709551616:=λx=>by simp[Go.IntKind.wrap,Go.IntKind.signed,Go.IntKind.bits]
 obtain⟨w0,e0⟩:∃x,x=a+b % 8192*2251799813685248:=⟨_,rfl⟩;obtain⟨w1,e1⟩:∃x,x=b / 8192+c % 67108864*274877906944:=⟨_,rfl⟩;obtain⟨w2,e2⟩:∃x,x=c / 67108864+d % 549755813888*33554432:=⟨_,rfl⟩;obtain⟨w3,e3⟩:∃x,x=d / 549755813888+e*4096:=⟨_,rfl⟩;rw[<-e0,<-e1,<-e2,<-e3]
 have u0:U64 w0:=by unfold U64;omega
 have u1:U64 w1:=by unfold U64;omega
 have u2:U64 w2:=by unfold U64;omega
 have u3:U64 w3:=by unfold U64;omega
 unfold U64 at u0 u1 u2 u3;have o1:=xAw 13 (a:=w0 / 2251799813685248) (b:=w1 % 2251799813685248) ω (by rw[show((2^13:Nat):Int)=8192 by rfl];omega) ω (by rw[show((2^13:Nat):Int)=8192 by rfl];omega) ω
 have o2:=xAw 26 (a:=w1 / 274877906944) (b:=w2 % 274877906944) ω (by rw[show((2^26:Nat):Int)=67108864 by rfl];omega) ω (by rw[show((2^26:Nat):Int)=67108864 by rfl];omega) ω
 have o3:=xAw 39 (a:=w2 / 33554432) (b:=w3 % 33554432) ω (by rw[show((2^39:Nat):Int)=549755813888 by rfl];omega) ω (by rw[show((2^39:Nat):Int)=549755813888 by rfl];omega) ω;rw[show((2^13:Nat):Int)=8192 by rfl] at o1;rw[show((2^26:Nat):Int)=67108864 by rfl] at o2
 rw[show((2^39:Nat):Int)=549755813888 by rfl] at o3
 show[Go.bits .and .u64 w0 2251799813685247,Go.bits .and .u64 (Go.bits .or .u64 (w0 / 2251799813685248) (Go.IntKind.u64.wrap (w1*8192))) 2251799813685247,Go.bits .and .u64 (Go.bits .or .u64 (w1 / 274877906944) (Go.IntKind.u64.wrap (w2*67108864))) 2251799813685247,Go.bits .and .u64 (Go.bits .or .u64 (w2 / 33554432) (Go.IntKind.u64.wrap (w3*549755813888))) 2251799813685247,Go.bits .and .u64 (w3 / 4096) 2251799813685247]=_
 rw[w,w,w,show w1*8192 % 18446744073709551616=w1 % 2251799813685248*8192 by omega,show w2*67108864 % 18446744073709551616=w2 % 274877906944*67108864 by omega,show w3*549755813888 % 18446744073709551616=w3 % 33554432*549755813888 by omega,o1,o2,o3,xHc u0,xHc (a:=w0 / 2251799813685248+w1 % 2251799813685248*8192) ⟨ω,ω⟩,xHc (a:=w1 / 274877906944+w2 % 274877906944*67108864) ⟨ω,ω⟩,xHc (a:=w2 / 33554432+w3 % 33554432*549755813888) ⟨ω,ω⟩,xHc (a:=w3 / 4096) ⟨ω,ω⟩]
 have f0:w0 % 2251799813685248=a:=ω;have f1:(w0 / 2251799813685248+w1 % 2251799813685248*8192) % 2251799813685248=b:=ω;have f2:(w1 / 274877906944+w2 % 274877906944*67108864) % 2251799813685248=c:=ω;have f3:(w2 / 33554432+w3 % 33554432*549755813888) % 2251799813685248=d:=ω
 have f4:w3 / 4096 % 2251799813685248=e:=ω;rw[f0,f1,f2,f3,f4]
theorem yEa {w:Int} (hw:U64 w) {r:Nat} (hr:r<8):Go.bits .or .u64 (w % ((2^(8*r):Nat):Int)) (Go.IntKind.u64.wrap (w / ((2^(8*r):Nat):Int) % 256*((2^(8*r):Nat):Int)))=w % ((2^(8*(r+1)):Nat):Int):=by
 obtain⟨w0,w1⟩:=hw
 match r,hr with
 |0,_=>
  have h:=xAw 0 (a:=w % 1) (b:=w % 256) ω (by show w % 1<1;omega) ω (by show w % 256*1<_;omega) ω;show Go.bits .or .u64 (w % 1) (Go.IntKind.u64.wrap (w / 1 % 256*1))=w % 256;rw[Int.ediv_one,uU ω ω];exact h.trans (by show w % 1+w % 256*1=w % 256;omega)
 |1,_=>
  have h:=xAw 8 (a:=w % 256) (b:=w / 256 % 256) ω (by show w % 256<256;omega) ω (by show w / 256 % 256*256<_;omega) ω;show Go.bits .or .u64 (w % 256) (Go.IntKind.u64.wrap (w / 256 % 256*256))=w % 65536;rw[uU ω ω];exact h.trans (by show w % 256+w / 256 % 256*256=w % 65536;omega)
 |2,_=>
  have h:=xAw 16 (a:=w % 65536) (b:=w / 65536 % 256) ω (by show w % 65536<65536;omega) ω (by show w / 65536 % 256*65536<_;omega) ω;show Go.bits .or .u64 (w % 65536) (Go.IntKind.u64.wrap (w / 65536 % 256*65536))=w % 16777216;rw[uU ω ω]
  exact h.trans (by show w % 65536+w / 65536 % 256*65536=w % 16777216;omega)
 |3,_=>
  have h:=xAw 24 (a:=w % 16777216) (b:=w / 16777216 % 256) ω (by show w % 16777216<16777216;omega) ω (by show w / 16777216 % 256*16777216<_;omega) ω;show Go.bits .or .u64 (w % 16777216) (Go.IntKind.u64.wrap (w / 16777216 % 256*16777216))=w % 4294967296;rw[uU ω ω]
  exact h.trans (by show w % 16777216+w / 16777216 % 256*16777216=w % 4294967296;omega)
 |4,_=>
  have h:=xAw 32 (a:=w % 4294967296) (b:=w / 4294967296 % 256) ω (by show w % 4294967296<4294967296;omega) ω (by show w / 4294967296 % 256*4294967296<_;omega) ω;show Go.bits .or .u64 (w % 4294967296) (Go.IntKind.u64.wrap (w / 4294967296 % 256*4294967296))=w % 1099511627776
  rw[uU ω ω];exact h.trans (by show w % 4294967296+w / 4294967296 % 256*4294967296=w % 1099511627776;omega)
 |5,_=>
  have h:=xAw 40 (a:=w % 1099511627776) (b:=w / 1099511627776 % 256) ω (by show w % 1099511627776<1099511627776;omega) ω (by show w / 1099511627776 % 256*1099511627776<_;omega) ω
  show Go.bits .or .u64 (w % 1099511627776) (Go.IntKind.u64.wrap (w / 1099511627776 % 256*1099511627776))=w % 281474976710656;rw[uU ω ω];exact h.trans (by show w % 1099511627776+w / 1099511627776 % 256*1099511627776=w % 281474976710656;omega)
 |6,_=>
  have h:=xAw 48 (a:=w % 281474976710656) (b:=w / 281474976710656 % 256) ω (by show w % 281474976710656<281474976710656;omega) ω (by show w / 281474976710656 % 256*281474976710656<_;omega) ω
  show Go.bits .or .u64 (w % 281474976710656) (Go.IntKind.u64.wrap (w / 281474976710656 % 256*281474976710656))=w % 72057594037927936;rw[uU ω ω];exact h.trans (by show w % 281474976710656+w / 281474976710656 % 256*281474976710656=w % 72057594037927936;omega)
 |7,_=>
  have h:=xAw 56 (a:=w % 72057594037927936) (b:=w / 72057594037927936 % 256) ω (by show w % 72057594037927936<72057594037927936;omega) ω (by show w / 72057594037927936 % 256*72057594037927936<_;omega) ω
  show Go.bits .or .u64 (w % 72057594037927936) (Go.IntKind.u64.wrap (w / 72057594037927936 % 256*72057594037927936))=w % 18446744073709551616;rw[uU ω ω];exact h.trans (by show w % 72057594037927936+w / 72057594037927936 % 256*72057594037927936=w % 18446744073709551616;omega)
theorem xQp {α:Type} (l:List α) (k:Nat) (x:α) (j:Nat) (d:α) (hk:k<l.length):(l.set k x).getD j d=if k=j then x else l.getD j d:=by
 rw[Aa,Co];split
 ·rfl
 ·rw[Aa]
theorem xUr (ws:List Int):∀n i,n<=32->i<n->(xL3 ws n).getD i 0=oct (ws.getD (i / 8) 0 / 2^(8*(i % 8)))
 |0,_,_,h=>by omega
 |n+1,i,hn,hi=>by
  rw[xL3,xQp _ _ _ _ _ (by rw[xI4];omega)]
  by_cases e:n=i
  ·rw[Ah e,e]
  ·rw[Ag e];exact xUr ws n i ω ω
theorem yEb {ws:List Int} {i:Nat} (hi:i<32):yU (bsA (xL3 ws 32)) i=ws.getD (i / 8) 0 / ((2^(8*(i % 8)):Nat):Int) % 256:=by
 unfold yU;rw[show(bsA (xL3 ws 32)).data.toList=xL3 ws 32 by simp[bsA],xUr ws 32 i ω hi,wW];rw[Int.natCast_pow]
 rfl
theorem yA1 {ws:List Int} (hw:∀q,U64 (ws.getD q 0)):∀n,n<=32->∀q,q<4->(wI (bsA (xL3 ws 32)) n).getD q 0=ws.getD q 0 % ((2^(8*min (n-8*q) 8):Nat):Int)
 |0,_,q,hq=>by
  have e:(wI (bsA (xL3 ws 32)) 0).getD q 0=0:=by
   match q,hq with
   |0,_=>rfl
   |1,_=>rfl
   |2,_=>rfl
   |3,_=>rfl
  rw[e,show min (0-8*q) 8=0 by omega];show 0=_ % 1;omega
 |n+1,hn,q,hq=>by
  have ih:=yA1 hw n ω;rw[wI,xQp _ _ _ _ _ (by rw[xUa];omega)]
  by_cases e:n / 8=q
  ·rw[Ah e,ih (n / 8) ω,yEb ω,e,show min (n-8*q) 8=n % 8 by omega,show min (n+1-8*q) 8=n % 8+1 by omega];have:=yEa (hw q) (r:=n % 8) ω;rw[Int.natCast_pow] at this;rw[Int.natCast_pow];exact this
  ·rw[Ag e,ih q hq]
   congr 4
   omega
theorem xWr {ws:List Int} (hl:ws.length=4) (hw:∀q,U64 (ws.getD q 0)):wI (bsA (xL3 ws 32)) 32=ws:=by
 have h:=yA1 hw 32 ω;have hl2:=xUa (bsA (xL3 ws 32)) 32;obtain⟨a,b,c,d,e⟩:=xTb hl2;obtain⟨a',b',c',d',e'⟩:=xTb hl;rw[e] at h⊢
 have k:∀q,q<4->ws.getD q 0 % ((2^(8*min (32-8*q) 8):Nat):Int)=ws.getD q 0:=by
  intro q hq;have:=hw q;rw[show min (32-8*q) 8=8 by omega];show _ % 18446744073709551616=_;unfold U64 at this;omega
 have h0:=(h 0 ω).trans (k 0 ω);have h1:=(h 1 ω).trans (k 1 ω);have h2:=(h 2 ω).trans (k 2 ω);have h3:=(h 3 ω).trans (k 3 ω);subst e';simp only[Cj,Cr] at h0 h1 h2 h3;rw[h0,h1,h2,h3]
theorem yGe {a:List Int} (ha:a.length=5) (h:yT a):xTh (jY a)=rQ a:=by
 obtain⟨c,_⟩:=xFx ha h;unfold xTh jY;obtain⟨x0,x1,x2,x3,x4,e⟩:=jX c.len;rw[e] at c⊢;rw[xWr rfl (xU9 _),xXx c]
theorem xM1 {a:List Int} (ha:a.length=5) (h:yT a):vF (xTh (jY a))=vF a:=by
 rw[yGe ha h,(xFx ha h).2]
theorem xIx (n:Nat) (hn:n<18446744073709551616):vF [(n:Int),0,0,0,0]=DH.mkF n/\yT [(n:Int),0,0,0,0]:=by
 refine⟨?_,xDs ⟨ω,ω⟩ ⟨δ,δ⟩ ⟨δ,δ⟩ ⟨δ,δ⟩ ⟨δ,δ⟩⟩;unfold vF;rw[show Vl [(n:Int),0,0,0,0]=(n:Int) by simp[Vl],xS9]
def vS (s:LdS):DH.LF DH.FP:=⟨vF s.x2,vF s.z2,vF s.x3,vF s.z3,s.sw⟩
theorem yJk (s:LdS) (b:Bool):vS (qZ s b)=DH.xSa (vS s) b:=by
 unfold vS qZ DH.xSa;simp only;cases s.sw<;>cases b<;>rfl
theorem yJm {u:List Int} (hu:u.length=5) (hu':yT u) {s:LdS} (h:LdOk s):vS (xQa u s)=DH.xX5 (DH.mkF 121665) (vF u) (vS s):=by
 obtain⟨l1,u1,l2,u2,l3,u3,l4,u4⟩:=h;have e9:vF [121665,0,0,0,0]=DH.mkF 121665:=(xIx 121665 δ).1;have u9:yT [121665,0,0,0,0]:=(xIx 121665 δ).2;have eS:vF (xX6 s.x2 s.z2)=vF s.x2+vF s.z2:=yI7 l1 l2 u1 u2;have eD:vF (xX7 s.x2 s.z2)=vF s.x2-vF s.z2:=yFs l1 l2 u1 u2
 have lS:(xX6 s.x2 s.z2).length=5:=xDk _ _;have uS:yT (xX6 s.x2 s.z2):=xK5 _ _;have lD:(xX7 s.x2 s.z2).length=5:=xDj _ _;have uD:yT (xX7 s.x2 s.z2):=xK4 _ _
 have eS2:vF (yK0 s.x2 s.z2)=(vF s.x2+vF s.z2)*(vF s.x2+vF s.z2):=by
  unfold yK0;rw[xHs lS lS uS uS,eS]
 have eD2:vF (stD2 s.x2 s.z2)=(vF s.x2-vF s.z2)*(vF s.x2-vF s.z2):=by
  unfold stD2;rw[xHs lD lD uD uD,eD]
 have lS2:(yK0 s.x2 s.z2).length=5:=zY _ _;have uS2:yT (yK0 s.x2 s.z2):=jP _ _;have lD2:(stD2 s.x2 s.z2).length=5:=zY _ _;have uD2:yT (stD2 s.x2 s.z2):=jP _ _
 have eE:vF (stE s.x2 s.z2)=(vF s.x2+vF s.z2)*(vF s.x2+vF s.z2)- (vF s.x2-vF s.z2)*(vF s.x2-vF s.z2):=by
  unfold stE;rw[yFs lS2 lD2 uS2 uD2,eS2,eD2]
 have lE:(stE s.x2 s.z2).length=5:=xDj _ _;have uE:yT (stE s.x2 s.z2):=xK4 _ _
 have eDA:vF (stDA s.x2 s.z2 s.x3 s.z3)=(vF s.x3-vF s.z3)*(vF s.x2+vF s.z2):=by
  unfold stDA;rw[xHs (xDj _ _) lS (xK4 _ _) uS,yFs l3 l4 u3 u4,eS]
 have eCB:vF (stCB s.x2 s.z2 s.x3 s.z3)=(vF s.x3+vF s.z3)*(vF s.x2-vF s.z2):=by
  unfold stCB;rw[xHs (xDk _ _) lD (xK5 _ _) uD,yI7 l3 l4 u3 u4,eD]
 have lA:(stDA s.x2 s.z2 s.x3 s.z3).length=5:=zY _ _;have uA:yT (stDA s.x2 s.z2 s.x3 s.z3):=jP _ _;have lC:(stCB s.x2 s.z2 s.x3 s.z3).length=5:=zY _ _;have uC:yT (stCB s.x2 s.z2 s.x3 s.z3):=jP _ _
 have eP:vF (stP s.x2 s.z2 s.x3 s.z3)=(vF s.x3-vF s.z3)*(vF s.x2+vF s.z2)+(vF s.x3+vF s.z3)*(vF s.x2-vF s.z2):=by
  unfold stP;rw[yI7 lA lC uA uC,eDA,eCB]
 have eM:vF (stM s.x2 s.z2 s.x3 s.z3)=(vF s.x3-vF s.z3)*(vF s.x2+vF s.z2)- (vF s.x3+vF s.z3)*(vF s.x2-vF s.z2):=by
  unfold stM;rw[yFs lA lC uA uC,eDA,eCB]
 have lP:(stP s.x2 s.z2 s.x3 s.z3).length=5:=xDk _ _;have uP:yT (stP s.x2 s.z2 s.x3 s.z3):=xK5 _ _;have lM:(stM s.x2 s.z2 s.x3 s.z3).length=5:=xDj _ _;have uM:yT (stM s.x2 s.z2 s.x3 s.z3):=xK4 _ _
 have f1:vF (stX2 s.x2 s.z2)=((vF s.x2+vF s.z2)*(vF s.x2+vF s.z2))*((vF s.x2-vF s.z2)*(vF s.x2-vF s.z2)):=by
  unfold stX2;rw[xHs lS2 lD2 uS2 uD2,eS2,eD2]
 have f2:vF (stZ2 s.x2 s.z2)=((vF s.x2+vF s.z2)*(vF s.x2+vF s.z2)- (vF s.x2-vF s.z2)*(vF s.x2-vF s.z2))*((vF s.x2+vF s.z2)*(vF s.x2+vF s.z2)+((vF s.x2+vF s.z2)*(vF s.x2+vF s.z2)- (vF s.x2-vF s.z2)*(vF s.x2-vF s.z2))*DH.mkF 121665):=by
  unfold stZ2 xF5;rw[xHs lE (xDk _ _) uE (xK5 _ _),yI7 lS2 (zY _ _) uS2 (jP _ _),xHs lE rfl uE u9,eE,eS2,e9]
 have f3:vF (stX3 s.x2 s.z2 s.x3 s.z3)=((vF s.x3-vF s.z3)*(vF s.x2+vF s.z2)+(vF s.x3+vF s.z3)*(vF s.x2-vF s.z2))*((vF s.x3-vF s.z3)*(vF s.x2+vF s.z2)+(vF s.x3+vF s.z3)*(vF s.x2-vF s.z2)):=by
  unfold stX3;rw[xHs lP lP uP uP,eP]
 have f4:vF (stZ3 u s.x2 s.z2 s.x3 s.z3)=vF u*(((vF s.x3-vF s.z3)*(vF s.x2+vF s.z2)- (vF s.x3+vF s.z3)*(vF s.x2-vF s.z2))*((vF s.x3-vF s.z3)*(vF s.x2+vF s.z2)- (vF s.x3+vF s.z3)*(vF s.x2-vF s.z2))):=by
  unfold stZ3;rw[xHs hu (zY _ _) hu' (jP _ _),xHs lM lM uM uM,eM]
 unfold vS xQa DH.xX5;rw[f1,f2,f3,f4]
theorem vS_ld (k:ByteArray) {u:List Int} (hu:u.length=5) (hu':yT u):∀n,vS (ldI k u n)=DH.ldF (DH.mkF 121665) (yF2 k) (vF u) n
 |0=>by
  have h1:=(xIx 1 δ).1;have h0:=(xIx 0 δ).1;show(⟨vF [1,0,0,0,0],vF (List.replicate 5 0),vF u,vF [1,0,0,0,0],false⟩:DH.LF DH.FP)=⟨1,0,vF u,1,false⟩
  rw[show vF [1,0,0,0,0]=1 from h1.trans (DH.xAm (by decide +kernel)),show vF (List.replicate 5 0)=0 from h0.trans (DH.xAm (by decide +kernel))]
 |n+1=>by
  have ok:=xQ9 (yCd k hu hu' n) (yF2 k (254-n));rw[ldI,DH.ldF,yJm hu hu' ok,yJk,vS_ld k hu hu' n]
theorem quo_F {x z:List Int} (l1:x.length=5) (l2:z.length=5) (u1:yT x) (u2:yT z):vF (vP x (xF7 z))=vF x / vF z:=by
 rw[xHs l1 (xQs _) u1 (yDm _),Field.div_eq_mul_inv,inv_F l2 u2]
theorem yLw {F:Type} [Field F] (a b c d:F):DH.xVz ⟨a,b,c,d,false⟩=a / b:=rfl
theorem yHn {F:Type} [Field F] (a b c d:F):DH.xVz ⟨a,b,c,d,true⟩=c / d:=rfl
theorem end_F {s:LdS} (ok:LdOk s):∃l:List Int,l.length=5/\yT l/\yCe s=jY l/\vF l=DH.xVz (vS s):=by
 obtain⟨l1,u1,l2,u2,l3,u3,l4,u4⟩:=ok;obtain⟨x2,z2,x3,z3,sw⟩:=s;cases sw
 ·exact⟨vP x2 (xF7 z2),zY _ _,jP _ _,rfl,(quo_F l1 l2 u1 u2).trans (yLw _ _ _ _).symm⟩
 ·exact⟨vP x3 (xF7 z3),zY _ _,jP _ _,rfl,(quo_F l3 l4 u3 u4).trans (yHn _ _ _ _).symm⟩
theorem yKc (k u:ByteArray) (n:Nat):∃l:List Int,l.length=5/\yT l/\yCe (ldI (xAh k) (xTh u) n)=jY l/\vF l=DH.xVz (DH.ldF (DH.mkF 121665) (yF2 (xAh k)) (vF (xTh u)) n):=by
 obtain⟨l,h1,h2,h3,h4⟩:=end_F (yCd (xAh k) (xOf u) (yDi u) n);exact⟨l,h1,h2,h3,by rw[h4,vS_ld (xAh k) (xOf u) (yDi u) n]⟩
theorem yBg (k u:ByteArray):∃l:List Int,l.length=5/\yT l/\uI k u=jY l/\vF l=DH.xF (yF2 (xAh k)) (vF (xTh u)):=by
 unfold uI DH.xF;exact yKc k u 255
theorem base_F:vF (xTh xHw)=DH.mkF 9:=by
 have h9:=xIx 9 δ;rw[<-h9.1];have:xHw=jY [9,0,0,0,0]:=by decide +kernel
 rw[this];exact xM1 rfl h9.2
theorem xPv (a b:ByteArray):∃l:List Int,l.length=5/\yT l/\uI a (xV b)=jY l/\vF l=DH.xF (yF2 (xAh a)) (DH.xF (yF2 (xAh b)) (DH.mkF 9)):=by
 obtain⟨l,h1,h2,h3,h4⟩:=yBg b xHw;obtain⟨l',k1,k2,k3,k4⟩:=yBg a (xV b);refine⟨l',k1,k2,k3,?_⟩;rw[k4,show xV b=jY l from h3,xM1 h1 h2,h4,base_F]
theorem xXi (a b:ByteArray):uI a (xV b)=uI b (xV a):=by
 obtain⟨l,h1,h2,h3,h4⟩:=xPv a b;obtain⟨l',k1,k2,k3,k4⟩:=xPv b a;rw[h3,k3];exact xYt h1 k1 h2 k2 (by rw[h4,k4];exact DH.yJe _ _)
end Mailsack
namespace Mailsack
open Go.Proofs.SH
theorem xRh (key xB ad s:ByteArray):aOk key xB ad (wP key xB ad s)=true/\aTx key xB ad (wP key xB ad s)=s:=by
 have h16:16<=(wP key xB ad s).size:=by rw[kH];omega
 have ht:xH9 (wP key xB ad s)=bsA (wS key xB 1 s)/\xEr (wP key xB ad s)=kF key xB ad (bsA (wS key xB 1 s)):=by
  have hn:(wP key xB ad s).size-16=(bsA (wS key xB 1 s)).size:=by rw[kH,yS,kP];omega
  have hk:=xOm (a:=bsA (wS key xB 1 s)) (b:=kF key xB ad (bsA (wS key xB 1 s))) hn.symm;unfold xH9 xEr;exact hk
 have hok:aOk key xB ad (wP key xB ad s)=true:=by
  unfold aOk;rw[ht.1,ht.2,xGm,Bq h16]
  rfl
 exact⟨hok,by unfold aTx;rw[Ah hok,ht.1,xMm]⟩
theorem yAu {xD once s:ByteArray}:sopA xD (xTw (xV xD) once s)=true/\yAv xD (xTw (xV xD) once s)=xBg s:=by
 have h32:(xV once).size=32:=wC _ _;have hk:=xOm (a:=xV once) (b:=wP (xR2 (uI once (xV xD)) (xV once++xV xD)) (xR0 (uI once (xV xD)) (xV once++xV xD)) ⟨#[]⟩ (xBg s)) h32;unfold sopA yAv xTw;rw[hk.1,hk.2,xXi once xD];exact xRh _ _ _ _
theorem yGf {n:Nat} (h:n<=700):(oct (n:Int)).toNat+256*(oct ((n:Int) / 256)).toNat=n:=by
 have h1:=wW (n:Int);have h2:=wW ((n:Int) / 256);omega
theorem xXm {s:ByteArray} (h:s.size<=700):∃c:Nat,xAq (s.size:Int)=(c:Int)/\2+s.size<=c/\(xBg s).size=c/\(xBg s).data.toList=oct (s.size:Int)::oct ((s.size:Int) / 256)::(s.data.toList++xO (c-2-s.size)):=by
 obtain⟨c,hc,h1,_⟩:=xDq h;have hl:s.data.toList.length=s.size:=σ;refine⟨c,hc,h1,by rw[xBt h,hc];rfl,?_⟩;unfold xBg yIm;rw[hc,hl];simp[bsA]
theorem xZg (r:ByteArray) (h:∀i,yU r i=0):∀k,zB r k=true
 |0=>rfl
 |k+1=>by rw[zB,xZg r h k,h k];rfl
theorem yA5 {s:ByteArray} (h:s.size<=700):unE (xBg s)=0/\unT (xBg s)=s:=by
 obtain⟨c,hc,h1,h2,h3⟩:=xXm h;have hl:s.data.toList.length=s.size:=σ
 have hn:unN (xBg s)=s.size:=by
  unfold unN;rw[h3];exact yGf h
 have hr:∀i,yU (unR (xBg s)) i=0:=by
  intro i;unfold yU unR;rw[hn,Dh,He,List.extract_eq_take_drop,h3,h2]
  have:(oct (s.size:Int)::oct ((s.size:Int) / 256)::(s.data.toList++xO (c-2-s.size))).drop (2+s.size)=xO (c-2-s.size):=by
   rw[Nat.add_comm,Fh,Fh,<-hl,List.drop_left]
  rw[this,Ce (by rw[yR];omega)];unfold xO;rw[Aa,Fa];split<;>rfl
 have hok:xZ7 (xBg s)=true:=by
  unfold xZ7;rw[hn,h2,hc,xZg _ hr];simp;omega
 refine⟨by unfold unE;rw[Ah hok],?_⟩;unfold unT;rw[Ah hok,hn];refine Ee (Array.toList_inj.1 ?_)
 rw[Dh,He,List.extract_eq_take_drop,h3,Fh,Fh,List.drop_zero,show 2+s.size-2=s.data.toList.length by omega,List.take_left]
theorem yBk {xD once s:ByteArray} (hp:xD.size=32) (h:s.size<=700):xRq xD (xTw (xV xD) once s)=0/\xZ8 xD (xTw (xV xD) once s)=s:=by
 obtain⟨k1,k2⟩:=yAu (xD:=xD) (once:=once) (s:=s);obtain⟨u1,u2⟩:=yA5 h;have h32:(xV once).size=32:=wC _ _
 have hsz:¬((xTw (xV xD) once s).size<32):=by
  unfold xTw;rw[Aw,h32];omega
 have he:xRq xD (xTw (xV xD) once s)=0:=by
  unfold xRq;rw[Ag (by simp[hp]),Ag hsz,k1,Ag σ,k2,u1]
 refine⟨he,?_⟩;unfold xZ8;rw[Ah he,k2,u2]
end Mailsack
namespace Mailsack
def xJk (kind user:Bs) (n:Int):Bs:=xHm kind user++Go.Lib.itoa n
end Mailsack
namespace Go.Proofs.VA
open Go.RowKit Mailsack MM BB SH SV RK DS Go.Proofs.ST Go.Proofs.SE
structure VaT (w:World):Prop where
 se:SeT w
 tab : ∀ w',ψ w w' → Lib.TabIs prog w' "internal/strconv.uint64pow10" .u64 Lib.pow10Tab
theorem VaT.below {w w':World} (h:VaT w) (hb:ψ w w'):VaT w':=
 ⟨h.se.below hb ν,λw2 h2=>h.tab w2 (bT hb h2)⟩
theorem xD3 (k u:ByteArray) (n:Int) (w:World) (hk:k.size<=100) (hu:u.size<=1000000) (hn:-9223372036854775808<=n/\n<=9223372036854775807) (hT:VaT w):
  Calls prog 27 #[.string k,.string u,.int .i64 n] w (pv (xR (xJk k.data.toList u.data.toList n)) w):=by
 have HE:Hid (xR (xJk k.data.toList u.data.toList n)=.string (k++⟨#[47]⟩++u++⟨#[47]⟩++⟨(Lib.itoa n).toArray⟩)):=ι (by
  show Value.string _=Value.string _
  congr 1)
 have HI:=ι (Tryz.strconv_Itoa n hn.1 hn.2 w (hT.tab w (Aq _ _)))
 have hd:(⟨(Lib.itoa n).toArray⟩:ByteArray).size<=100:=by
  have:=Lib.itoa_length_le n hn.1 hn.2;show(Lib.itoa n).length<=100;omega
 generalize (⟨(Lib.itoa n).toArray⟩:ByteArray)=ds at HE HI hd;have n1:¬(9223372036854775807<k.size+1):=ω;have s1:(k++⟨#[47]⟩:ByteArray).size=k.size+1:=Aw;have s2:(k++⟨#[47]⟩++u:ByteArray).size=k.size+1+u.size:=by rw[Aw,s1]
 have s3:(k++⟨#[47]⟩++u++⟨#[47]⟩:ByteArray).size=k.size+1+u.size+1:=by rw[Aw,s2];rfl
 have n2:¬(9223372036854775807<(k++⟨#[47]⟩).size+u.size):=by rw[s1];omega
 have n3:¬(9223372036854775807<(k++⟨#[47]⟩++u).size+1):=by rw[s2];omega
 have n4:¬(9223372036854775807<(k++⟨#[47]⟩++u++⟨#[47]⟩).size+ds.size):=by rw[s3];omega
 have n5:¬(9223372036854775807<k.size+1+u.size+1):=ω;have n6:¬(9223372036854775807<k.size+1+u.size):=ω;have n7:¬(9223372036854775807<k.size+1+u.size+1+ds.size):=ω;clear hk hu hT s1 s2 s3 hd hn;go_enter func27,ntmps27;go_wp2_with fail
 refine HI.o.mono ?_;rintro e w1 ⟨rfl,k1,os1,hw1⟩;have B1:=ι (show ψ w w1 by subst hw1;exact Lib.below_grow _ _ ν _ _);clear hw1 HI;go_wp2;go_ret;exact⟨by rw[HE.o];rfl,B1.o⟩
theorem xQu (n:Int) (w:World):Calls prog 28 #[.int .i64 n] w (pv (xR [oct n]) w):=by
 have HB0:=ι (Ai (show kG (w.alloc (.cells #[.int .u8 (n % 256)] 5)) w.heap.size [oct n] from by
  have e:yO [oct n]=#[.int .u8 (n % 256)]:=by unfold yO;simp[wW]
  unfold kG;rw[e];exact xJ w (.cells #[.int .u8 (n % 256)] 5)) (φ w (.cells #[.int .u8 (n % 256)] 5)))
 have hcv:=xIt HB0.o.1 1 1 (Bd 1);rw[show([oct n]:Bs).take 1=[oct n] from rfl] at hcv;go_enter func28,ntmps28;go_wp2;go_ret;exact⟨rfl,HB0.o.2⟩
end Go.Proofs.VA
namespace Mailsack
def pG (d:Dk) (u:ByteArray) (n:Int):ByteArray:=bsA (xOa d (xJk [109] u.data.toList n))
def yGt (g xD old:ByteArray) (ep:Int):ByteArray:=if yU g 0=ep % 256 then xD else old
def yIs (d:Dk) (u xD old:ByteArray) (ep n:Int):Int:=
 if xAe d (xJk [109] u.data.toList n)≠0 then 6 else if (pG d u n).size=0 then 3
 else if xRq (yGt (pG d u n) xD old ep) ((pG d u n).extract 1 (pG d u n).size)≠0 then 3 else 0
def xV0 (d:Dk) (u xD old:ByteArray) (ep n:Int):ByteArray:=
 if yIs d u xD old ep n=0 then xZ8 (yGt (pG d u n) xD old ep) ((pG d u n).extract 1 (pG d u n).size) else⟨#[]⟩
end Mailsack
namespace Go.Proofs.VA
open Go.RowKit Mailsack MM BB SH SV RK DS Go.Proofs.ST Go.Proofs.SE
theorem xFh (va vb:Value) (d:Dk) (u xD old:ByteArray) (ep gv n:Int) (A3 A4:Option Addr) (n3 k3 n4 k4:Nat) (w:World) (h:RdD w w.heap.size va vb d) (hu:u.size<=1000000) (hn:-9223372036854775808<=n/\n<=9223372036854775807) (hT:VaT w):
  Calls prog 15 #[.agg #[va,vb],xXa u xD old ep (.slice A3 n3 k3) (.slice A4 n4 k4) gv,.int .i64 n] w (pv (.tuple #[.string (xV0 d u xD old ep n),.int .i64 (yIs d u xD old ep n)]) w):=by
 obtain⟨A1,c1,A2,c2,rfl,rfl⟩:=yC h;have hba:=(φ w (yI (.slice A1 d.secs.length c1) (.slice A2 d.cache.length c2))).alloc σ (qE u xD old ep (.slice A3 n3 k3) (.slice A4 n4 k4) gv)
 have H0:=ι (Ai (zM w (yI (.slice A1 d.secs.length c1) (.slice A2 d.cache.length c2)) (qE u xD old ep (.slice A3 n3 k3) (.slice A4 n4 k4) gv)) (Ai (zI w (yI (.slice A1 d.secs.length c1) (.slice A2 d.cache.length c2)) (qE u xD old ep (.slice A3 n3 k3) (.slice A4 n4 k4) gv)) hba))
 have HNU:=ι (λW (hb:ψ w W)=>xD3 ⟨#[109]⟩ u n W δ hu hn (hT.below hb));rw[show(⟨#[109]⟩:ByteArray).data.toList=[109] from rfl] at HNU
 have HGE:=ι (λW (hb:ψ w W)=>xO8 (.slice A1 d.secs.length c1) (.slice A2 d.cache.length c2) d (xJk [109] u.data.toList n) W ((h.below hb ν).more hb.size));have HG:Hid (xR (xOa d (xJk [109] u.data.toList n))=.string (pG d u n)):=ι rfl;rw[HG.o] at HGE
 have hgl:(pG d u n).size<=100000:=by
  unfold pG;rw[yS];have:=xO9 d (xJk [109] u.data.toList n);omega
 have HSO:=ι (λW (hb:ψ w W)=>yAt (yGt (pG d u n) xD old ep) ((pG d u n).extract 1 (pG d u n).size) W (by rw[Az];omega) (hT.below hb).se)
 have HE:Hid (yIs d u xD old ep n=if xAe d (xJk [109] u.data.toList n)≠0 then 6 else if (pG d u n).size=0 then 3 else if xRq (yGt (pG d u n) xD old ep) ((pG d u n).extract 1 (pG d u n).size)≠0 then 3 else 0):=ι rfl
 have HX:Hid (xV0 d u xD old ep n=if yIs d u xD old ep n=0 then xZ8 (yGt (pG d u n) xD old ep) ((pG d u n).extract 1 (pG d u n).size) else⟨#[]⟩):=ι rfl;have HK:Hid (yGt (pG d u n) xD old ep=if yU (pG d u n) 0=ep % 256 then xD else old):=ι rfl;clear HG hba h hT
 generalize yIs d u xD old ep n=me at HE HX⊢;generalize xV0 d u xD old ep n=mt at HX⊢;generalize yGt (pG d u n) xD old ep=mk at HE HX HK HSO;generalize xRq mk ((pG d u n).extract 1 (pG d u n).size)=se at HE HSO;generalize xZ8 mk ((pG d u n).extract 1 (pG d u n).size)=st at HX HSO
 generalize pG d u n=g at HE HX HK HSO HGE hgl;generalize xAe d (xJk [109] u.data.toList n)=ge at HE HGE;generalize xJk [109] u.data.toList n=nb at HGE HNU;go_enter func15,ntmps15;go_upto_region 1 with fail
 obtain⟨w1,hw1⟩:=eX ((w.alloc (yI (.slice A1 d.secs.length c1) (.slice A2 d.cache.length c2))).alloc (qE u xD old ep (.slice A3 n3 k3) (.slice A4 n4 k4) gv));rw[hw1] at H0;rw[hw1];clear hw1;refine RG.xU (λW=>Hid (ψ w1 W)) κ κ (ι (Aq w1.heap.size w1).drew) ?_
 iterate 4 refine RG.dF (λw9 hw9=>have hd:=xC H0.o.1 hw9.o (xH H0.o.1);have hs:=xC H0.o.2.1 hw9.o (xH H0.o.2.1);have s0:=xR9 hs;Ai (uQ hd) s0) ?_
 apply RG.xL
 ·intro w9 hw9;repeat go_step
  refine(HNU.o _ (H0.o.2.2.trans (hw9.o.mono H0.o.2.2.size))).mono ?_;rintro e w10 ⟨rfl,zO⟩;simp only[];repeat go_step
  refine RG.xE ?_;exact ι (bT hw9.o zO)
 ·rfl
 apply RG.xL
 ·intro w9 hw9;repeat go_step
  refine(HGE.o _ (H0.o.2.2.trans (hw9.o.mono H0.o.2.2.size))).mono ?_;rintro e w10 ⟨rfl,zO⟩;simp only[];repeat go_step
  refine RG.xE ?_;exact ι (bT hw9.o zO)
 ·rfl
 iterate 5 refine RG.dS ?_
 refine RG.xX (λw2 hw2=>?_);have H2:=ι (Ai (xC H0.o.2.1 hw2.o (xH H0.o.2.1)) (H0.o.2.2.trans (hw2.o.mono H0.o.2.2.size)));clear hw2 H0 HNU HGE
 by_cases hge:ge=0
 rotate_left
 ·have g0:(ge==0)=false:=by simpa using hge
  have g1:(ge !=0)=true:=by simpa using hge
  rw[Ah hge] at HE;have HX2:Hid (mt=⟨#[]⟩):=ι (by rw[HX.o,HE.o,Ag δ]);have HB:=ι H2.o.2;clear hge HX HSO HK H2;go_wp2;go_ret2;exact⟨by rw[HX2.o,HE.o];rfl,HB.o⟩
 ·rw[Ag (by simpa using hge)] at HE;subst hge
  by_cases hz:g.size=0
  ·rw[Ah hz] at HE
   obtain rfl:g=⟨#[]⟩:=by
    apply Ee;exact Ef hz
   have HX2:Hid (mt=⟨#[]⟩):=ι (by rw[HX.o,HE.o,Ag δ]);have HB:=ι H2.o.2;clear HX HSO HK H2 hgl hz;go_wp2;go_ret2;exact⟨by rw[HX2.o,HE.o];rfl,HB.o⟩
  ·have hgz:(g.toList==[])=false:=by
    rw[beq_eq_false_iff_ne,Br];intro e;exact hz (by have:=Ap List.length e;simpa using this)
   rw[Ag hz] at HE;have hlt:0<g.size:=ω;have i0:=λw=>zN (P:=prog) underlying9 g 0 0 rfl hlt w;have hl1:¬(g.size<1):=ω;have hs:=H2.o.1;have s1:=xA hs 1;have s2:=xA hs 2;simp only[gA,gB,gC] at s1 s2;clear hs hz;generalize yU g 0=c0 at i0 HK
   go_upto_region 7 with fail
   clear s1 s2;refine RG.xU (λW=>Hid (ψ w2 W)) κ κ (ι (Aq w2.heap.size w2).drew) ?_
   iterate 6
    apply RG.xL
    ·intro w9 hw9;have hs:=xC H2.o.1 hw9.o (xH H2.o.1);have s3:=xA hs 3;simp only[gA,gB,gC] at s3;clear hs;repeat go_step
     exact RG.xE hw9
    ·rfl
   refine RG.xX (λw3 hw3=>?_);have H3:=ι (Ai (xC H2.o.1 hw3.o (xH H2.o.1)) (H2.o.2.trans (hw3.o.mono H2.o.2.size)));clear hw3 H2 i0;have hs:=H3.o.1;have s1:=xA hs 1;simp only[gA,gB,gC] at s1;clear hs
   have HFIN:Hid (se≠0->me=3/\mt=⟨#[]⟩):=ι (λh=>by rw[Ah h] at HE;exact⟨HE.o,by rw[HX.o,HE.o,Ag δ]⟩);have xZ5:Hid (se=0->me=0/\mt=st):=ι (λh=>by rw[Ag (by simpa using h)] at HE;exact⟨HE.o,by rw[HX.o,HE.o,Ah rfl]⟩)
   have HOP:Hid (Calls prog 53 #[.string mk,.string (g.extract 1 g.size)] w3 (pv (.tuple #[.string st,.int .i64 se]) w3)):=ι (HSO.o w3 H3.o.2);have B3:=ι H3.o.2;clear HE HX HSO H3
   by_cases hk:c0=ep % 256
   ·have hk1:(c0==ep % 256)=true:=by simpa using hk
    rw[Ah hk] at HK;rw[HK.o] at HOP;clear HK hk;go_wp2_with fail
    refine HOP.o.mono ?_;rintro e w4 ⟨rfl,hb4⟩;have B4:=ι (bT B3.o hb4);clear hb4 HOP B3 s1
    by_cases hse:se=0
    ·subst hse;have hq:=xZ5.o rfl;have Q1:=ι hq.1;have Q2:=ι hq.2;clear hq HFIN xZ5;go_wp2;go_ret2;exact⟨by rw[Q1.o,Q2.o];rfl,B4.o⟩
    ·have g0:(se==0)=false:=by simpa using hse
     have g1:(se !=0)=true:=by simpa using hse
     have hq:=HFIN.o hse;have Q1:=ι hq.1;have Q2:=ι hq.2;clear hq HFIN xZ5 hse;go_wp2;go_ret2;exact⟨by rw[Q1.o,Q2.o];rfl,B4.o⟩
   ·have hk1:(c0==ep % 256)=false:=by simpa using hk
    rw[Ag hk] at HK;rw[HK.o] at HOP;clear HK hk;go_wp2_with fail
    refine HOP.o.mono ?_;rintro e w4 ⟨rfl,hb4⟩;have B4:=ι (bT B3.o hb4);clear hb4 HOP B3 s1
    by_cases hse:se=0
    ·subst hse;have hq:=xZ5.o rfl;have Q1:=ι hq.1;have Q2:=ι hq.2;clear hq HFIN xZ5;go_wp2;go_ret2;exact⟨by rw[Q1.o,Q2.o];rfl,B4.o⟩
    ·have g0:(se==0)=false:=by simpa using hse
     have g1:(se !=0)=true:=by simpa using hse
     have hq:=HFIN.o hse;have Q1:=ι hq.1;have Q2:=ι hq.2;clear hq HFIN xZ5 hse;go_wp2;go_ret2;exact⟨by rw[Q1.o,Q2.o];rfl,B4.o⟩
end Go.Proofs.VA
namespace Go.Proofs.IX
open Go.RowKit Mailsack MM BB SH SV RK DS
theorem rD.rows {w:World} {B:Nat} {v:Value} {L:List pJ} (h:rD w B v L):∃bl:List qB,L=bl.map (·.b)/\RdR 4 bxF w B v bl/\∀p∈bl,jF w B p.mv p.b.yL:=by
 obtain⟨A,c,rfl,hc,h3⟩:=h
 by_cases h0:L.length=0
 ·have:L=[]:=Cs h0;subst this;exact⟨[],rfl,⟨A,c,rfl,hc,λh=>absurd h δ⟩,λp hp=>by cases hp⟩
 ·obtain⟨b,off,rfl,hb,h6⟩:=h3 ω
  have key:∀(M:List pJ) (k:Nat),(∀(j:Nat) x,M[j]?=some x->L[k+j]?=some x)->∃bl:List qB,M=bl.map (·.b)/\∀(j:Nat) p,bl[j]?=some p->(∀(i:Nat) u,(bxF p)[i]?=some u->w.cell? (θ b (off+(k+j)*4+i))=some u)/\jF w B p.mv p.b.yL:=by
   intro M
   induction M with
   |nil=>exact λk _=>⟨[],rfl,λj p hp=>by simp at hp⟩
   |cons x M ih=>
    intro k hM
    obtain⟨bl,e,hbl⟩:=ih (k+1) (λj y hy=>by
     have:=hM (j+1) y (by simpa using hy);rw[show k+1+j=k+(j+1) by omega];exact this)
    have hx:=hM 0 x rfl;rw[Db] at hx;obtain⟨mv,k1,k2,k3,k4,k5⟩:=h6 k x hx;obtain⟨A',c',rfl,hc',_⟩:=id k5;refine⟨⟨x,A',c'⟩::bl,by rw[Du,<-e],λj p hp=>?_⟩;cases j with
    |zero=>
     simp at hp;subst hp;refine⟨λi u hu=>?_,k5⟩;rw[Db]
     match i,hu with
     |0,hu=>simp at hu;subst hu;exact k1
     |1,hu=>simp at hu;subst hu;exact k2
     |2,hu=>simp at hu;subst hu;exact k3
     |3,hu=>simp at hu;subst hu;exact k4
     |n+4,hu=>simp at hu
    |succ j=>
     have:=hbl j p (by simpa using hp);rw[show k+1+j=k+(j+1) by omega] at this;exact this
  obtain⟨bl,e,hbl⟩:=key L 0 (λj x hx=>by rw[Ay];exact hx);refine⟨bl,e,⟨_,c,by rw[e,Bw],by rw[e,Bw] at hc;exact hc,λ_=>⟨b,off,rfl,hb,λj p hp i u hu=>?_⟩⟩,λp hp=>?_⟩
  ·have:=(hbl j p hp).1 i u hu;rw[Ay] at this;exact this
  ·obtain⟨j,hj⟩:=Hd hp;exact(hbl j p hj).2
theorem xYn (v:Value) (ml:List vM) (w:World) (B:Nat) (hB:B<=w.heap.size) (h:RdR 4 maF w B v ml) (hl:ml.length<=1000000):
  Calls prog 141 #[v] w λe w'=>∃v',e=.returned v'/\xW 57 4 maF w' w.heap.size v' ml/\ψ w w':=by
 have h':=ι h;obtain⟨A,c,rfl,hc,h3⟩:=h;cases A with
 |none=>
  have h0:ml=[]:=by
   apply Bo;intro hn;obtain⟨b,off,e,_⟩:=h3 (List.length_pos_iff.2 hn);cases e
  subst h0;clear h3 hc;have hq:=λW=>Gx (P:=prog) W 53 57 none 0 c 0 0 underlying53;go_enter func141,ntmps141;go_wp2;go_ret;exact⟨_,rfl,xW.nil _ _,Aq _ _⟩
 |some ad=>
  clear h3;have hq:=λW=>Gx (P:=prog) W 53 57 (some ad) ml.length c 0 0 underlying53;go_enter func141,ntmps141;have HA:=ι (h'.o.below (φ w (.cells #[] 57)) hB);have HO:=ι (xW.room (e:=57) (k:=4) (f:=maF) (base:=w.heap.size) #[] w 0 ν δ rfl)
  have HBL:=ι (φ w (.cells #[] 57));have hsz:w.heap.size<=(w.alloc (.cells #[] 57)).heap.size:=σ;go_wp2_with (at_builtin;refine uG tyMa rfl _ _ rfl rfl rfl HO.o HA.o (by simp;omega) hsz ?_;intro v8 w8 h8;have HR:=ι (Ai h8.own (h8.bel HO.o ν HBL.o hsz));clear h8)
  go_ret;exact⟨_,rfl,HR.o.1,HR.o.2⟩
theorem xYp (v:Value) (ml:List qB) (w:World) (B:Nat) (hB:B<=w.heap.size) (h:RdR 4 bxF w B v ml) (hl:ml.length<=1000000):
  Calls prog 181 #[v] w λe w'=>∃v',e=.returned v'/\xW 55 4 bxF w' w.heap.size v' ml/\ψ w w':=by
 have h':=ι h;obtain⟨A,c,rfl,hc,h3⟩:=h;cases A with
 |none=>
  have h0:ml=[]:=by
   apply Bo;intro hn;obtain⟨b,off,e,_⟩:=h3 (List.length_pos_iff.2 hn);cases e
  subst h0;clear h3 hc;have hq:=λW=>Gx (P:=prog) W 46 55 none 0 c 0 0 underlying46;go_enter func181,ntmps181;go_wp2;go_ret;exact⟨_,rfl,xW.nil _ _,Aq _ _⟩
 |some ad=>
  clear h3;have hq:=λW=>Gx (P:=prog) W 46 55 (some ad) ml.length c 0 0 underlying46;go_enter func181,ntmps181;have HA:=ι (h'.o.below (φ w (.cells #[] 55)) hB);have HO:=ι (xW.room (e:=55) (k:=4) (f:=bxF) (base:=w.heap.size) #[] w 0 ν δ rfl)
  have HBL:=ι (φ w (.cells #[] 55));have hsz:w.heap.size<=(w.alloc (.cells #[] 55)).heap.size:=σ;go_wp2_with (at_builtin;refine uG tyBx rfl _ _ rfl rfl rfl HO.o HA.o (by simp;omega) hsz ?_;intro v8 w8 h8;have HR:=ι (Ai h8.own (h8.bel HO.o ν HBL.o hsz));clear h8)
  go_ret;exact⟨_,rfl,HR.o.1,HR.o.2⟩
end Go.Proofs.IX
namespace Mailsack
def xEi (x:yN) (n:Bs):Int:=qH (λb:pJ=>b.name==n) x.boxes
theorem yHd {α β:Type} (f:α->β) (p:β->Bool) (l:List α):qH p (l.map f)=qH (λa=>p (f a)) l:=by
 induction l with
 |nil=>rfl
 |cons x l ih=>rw[Du,qH,qH,ih]
end Mailsack
namespace Go.Proofs.IX
open Go.RowKit Mailsack MM BB SH SV RK DS Go.Proofs.ST
theorem yCu (fid:FuncId) (fr:Array Value) (p:qB->Bool) (v:Value) (l:List qB) (w:World) (h:RdR 4 bxF w w.heap.size v l) (hl:l.length<=9223372036854775807) (hE:∀args W,(callFunc fid args).run prog W=.ok (.enter fid args) W)
  (hp:∀(t:qB) (W:World),ψ w W->Calls prog fid (#[bxV t]++fr) W (pv (.bool (p t)) W)):
  Calls prog 179 #[v,.func (.func fid) #[] fr] w (pv (.int .i64 (qH p l)) w):=by
 obtain⟨A,c,rfl,hc,hcell⟩:=h;have HL:=ι hcell;have HP:=ι hp;obtain⟨r,hr⟩:=eX (qH p l);rw[hr];have HR:=ι hr;clear hcell hc hp hr;go_enter func179,ntmps179;go_wp2_with fail
 go_loopw [8] (λiv wr=>∃k:Nat,k<=l.length/\iv=.int .i64 k/\Hid (ψ w wr)/\Hid (∀y∈l.take k,p y=false)) (λiv _=>l.length- (intOf iv).toNat)
 case atStart=>exact⟨0,Bc _,rfl,ι (Aq _ _),ι σ⟩
 case round=>
  obtain⟨k,hk,rfl,HI,HN⟩:=hrel
  by_cases hlt:k<l.length
  ·obtain⟨x,hx⟩:∃x,l[k]?=some x:=⟨_,Af hlt⟩;obtain⟨b,off,rfl,hb,hcell⟩:=HL.o ω;have q:=λi u hu=>(HI.o.cell (p:=(θ b (off+k*4+i))) hb).trans (hcell k x hx i u hu);have q0:wr.cell? (θ b (off+k*4))=some (xR x.b.name):=q 0 _ rfl
   have q1:wr.cell? (θ b (off+k*4+1))=some (.int .i64 x.b.validity):=q 1 _ rfl;have q2:wr.cell? (θ b (off+k*4+2))=some (.int .i64 x.b.next):=q 2 _ rfl;have q3:wr.cell? (θ b (off+k*4+3))=some x.mv:=q 3 _ rfl;have HC:=ι (HP.o x wr HI.o);have HX:=ι hx;clear hcell q hx
   cases hpx:p x with
   |true=>
    rw[hpx] at HC;have HRK:Hid (r=(k:Int)):=ι (by rw[<-HR.o];exact xQj HX.o hpx HN.o);clear hpx HR;go_wp2_with (go_at_fn fid;refine HC.o.mono ?_;rintro e w' ⟨rfl,hb'⟩)
    go_ret;exact⟨by rw[HRK.o];rfl,HI.o.trans (hb'.mono HI.o.size)⟩
   |false=>
    rw[hpx] at HC
    have HN2:Hid (∀y∈l.take (k+1),p y=false):=ι (by
     intro y hy;rw[Cc,HX.o] at hy;rcases Em.1 hy with hy|hy
     ·exact HN.o y hy
     ·simp at hy;subst hy;exact hpx)
    clear hpx HN;go_wp2_with (go_at_fn fid;refine HC.o.mono ?_;rintro e w' ⟨rfl,hb'⟩;have HB':=ι (HI.o.trans (hb'.mono HI.o.size));clear hb')
    exact⟨⟨k+1,ω,by go_num,HB',HN2⟩,by simp[intOf];omega⟩
  ·obtain rfl:k=l.length:=ω;rw[Cf] at HN;have HRK:Hid (r=-1):=ι (by rw[<-HR.o];exact xQm HN.o);clear HR;go_wp2;go_ret;exact⟨by rw[HRK.o];rfl,HI.o⟩
theorem yDf (t:qB) (n:Bs) (nb:Nat) (w:World) (h:w.heap[nb]?=some (.cells #[xR n] 9 (0,0))):
  Calls prog 180 #[bxV t,.pointer (some (θ nb 0))] w (pv (.bool (t.b.name==n)) w):=by
 obtain⟨⟨m,va,nx,ml⟩,A,c⟩:=t;have HB:=ι (φ w (.cells #[xR m,.int .i64 va,.int .i64 nx,.slice A ml.length c] 55));have hb:=xJ w (.cells #[xR m,.int .i64 va,.int .i64 nx,.slice A ml.length c] 55);have c0:=xR9 hb
 have n0:=xR9 (xN h (.cells #[xR m,.int .i64 va,.int .i64 nx,.slice A ml.length c] 55));clear hb h;show Calls _ _ _ _ λe w'=>e=.returned (.bool (m==n))/\_;go_enter func180,ntmps180;go_wp2;go_ret;exact⟨rfl,HB.o⟩
theorem xIg (bv sv:Value) (x:yN) (n:Bs) (w:World) (h:xRk w w.heap.size bv sv x) (hl:x.boxes.length<=9223372036854775807):
  Calls prog 139 #[.agg #[bv,sv,.int .i64 x.given],xR n] w (pv (.int .i64 (xEi x n)) w):=by
 obtain⟨bl,hbl,hrd,_⟩:=h.boxes.rows;obtain⟨A1,c1,rfl,hc1,_⟩:=id hrd;obtain⟨A2,c2,rfl,hc2,_⟩:=h.subs;have hba:=(φ w (ixO (.slice A1 bl.length c1) (.slice A2 x.subs.length c2) x.given)).alloc σ (.cells #[xR n] 9)
 have H0:=ι (Ai (zM w (ixO (.slice A1 bl.length c1) (.slice A2 x.subs.length c2) x.given) (.cells #[xR n] 9)) (Ai (zI w (ixO (.slice A1 bl.length c1) (.slice A2 x.subs.length c2) x.given) (.cells #[xR n] 9)) hba))
 have HF:Hid (xEi x n=qH (λt:qB=>t.b.name==n) bl):=ι (by unfold xEi;rw[hbl,yHd]);have hbl2:bl.length<=9223372036854775807:=by rw[hbl,Bw] at hl;exact hl
 have HR:=ι ((hrd.below hba ν).more hba.size)
 have HI:=ι (λW (e:W=(w.alloc (ixO (.slice A1 bl.length c1) (.slice A2 x.subs.length c2) x.given)).alloc (.cells #[xR n] 9))=>yCu 180 #[.pointer (some (θ (w.heap.size+1) 0))] (λt=>t.b.name==n) (.slice A1 bl.length c1) bl W (by rw[e];exact HR.o) hbl2 (λargs W=>enters_of func180 κ rfl args W) (λt W2 hW=>yDf t n (w.heap.size+1) W2 (by rw[e] at hW;exact xC H0.o.2.1 hW (xH H0.o.2.1))))
 rw[HF.o];obtain⟨r,hr⟩:∃r,qH (λt:qB=>t.b.name==n) bl=r:=⟨_,rfl⟩;rw[hr] at HI⊢;have hs:=H0.o.1;have s0:=xR9 hs;clear hr h HF hba hs hrd hbl hl hbl2;go_enter func139,ntmps139;go_wp2_with fail
 refine cM (HI.o _ rfl) λw1 hb=>?_;have HB:=ι (bT H0.o.2.2 hb);clear hb HI H0 HR s0;go_wp2;go_ret;exact⟨rfl,HB.o⟩
end Go.Proofs.IX
namespace Mailsack
def xTx (x:yN) (n:Bs):pJ:=x.boxes.getD (xEi x n).toNat ⟨[],0,0,[]⟩
def xMu (x:yN) (n:Bs) (ob sz fl:Int):Int:=
 if (zV x&&pW ob sz fl)=false then 1 else if xEi x n<0 then 6 else if 30<=vU x.boxes then 9 else if 4294967295<=(xTx x n).next then 5 else 0
def xLa (x:yN) (n:Bs) (ob sz fl:Int):yN:=
 if xMu x n ob sz fl=0 then⟨x.boxes.set (xEi x n).toNat ⟨(xTx x n).name,(xTx x n).validity,(xTx x n).next+1,(xTx x n).yL++[⟨(xTx x n).next,fl,ob,sz⟩]⟩,x.subs,x.given⟩ else⟨[],[],0⟩
def yF3 (x:yN) (n:Bs) (ob sz fl:Int):Int:=if xMu x n ob sz fl=0 then(xTx x n).next else 0
end Mailsack
namespace Go.Proofs.RK
open Go.RowKit MM
section
variable {α:Type} {e:TypeId} {k:Nat} {f:α->List Value} {w:World} {base:Nat} {v:Value} {l:List α}
theorem xVr (hk:∀x,(f x).length=k) {x':α} {i:Nat} {u:Value} (hi:i<k):∀(l:List α) (j:Nat) (x:α),l[j]?=some x->f x'=(f x).set i u->(l.flatMap f).set (j*k+i) u=(l.set j x').flatMap f
 |[],_,_,h,_=>by simp at h
 |y::l,0,x,h,hf=>by
  simp at h;subst h;rw[Cz,Bh,Cz,Nat.zero_mul,Ay,List.set_append_left _ _ (by rw[hk];exact hi),hf]
 |y::l,j+1,x,h,hf=>by
  have ih:=xVr hk hi l j x (by simpa using h) hf;rw[Cz,Cm,Cz,<-ih,List.set_append_right _ _ (by rw[hk,Fj];omega),hk,show(j+1)*k+i-k=j*k+i by rw[Fj];omega]
theorem xW.put (hk:∀x,(f x).length=k) (h:xW e k f w base v l) {g:Nat} (hv:v.ownBlock=some g) {j i:Nat} {x x':α} {u:Value} (hx:l[j]?=some x) (hi:i<k) (hf:f x'=(f x).set i u):xW e k f (w.setCell ⟨g,j*k+i,none⟩ u) base v (l.set j x'):=by
 rcases h.2 with ⟨rfl,_⟩|⟨g',cap,cur,rfl,h2,h3,h4,h5,h6,h7⟩
 ·cases hv
 ·have:g'=g:=by simpa[Value.ownBlock] using hv
  subst this;refine⟨by rw[xIe hk,Bf],.inr ⟨g',cap,cur.setIfInBounds (j*k+i) u,by rw[Bf],h2,yD h3 _ _,by rw[Bf];exact h4,h5,by rw[Array.size_setIfInBounds,h6],?_⟩⟩;rw[Bf,Ha,List.take_set,h7]
  exact xVr hk hi l j x hx hf
theorem xW.cellAt (hk:∀x,(f x).length=k) (h:xW e k f w base v l) {g:Nat} (hv:v.ownBlock=some g) {j i:Nat} {x:α} {u:Value} (hx:l[j]?=some x) (hu:(f x)[i]?=some u):w.cell? ⟨g,j*k+i,none⟩=some u/\(∀q,w.frozen? (θ g q)=false)/\base<=g/\g<w.heap.size:=by
 rcases h.2 with ⟨rfl,_⟩|⟨g',cap,cur,rfl,h2,h3,h4⟩
 ·cases hv
 ·have:g'=g:=by simpa[Value.ownBlock] using hv
  subst this;have:=Eh h.row (g:=g') rfl (j*k+i) u (flat_get hk l j i x u hx hu);have hadd:(⟨g',0,none⟩:Addr).add (j*k+i)=⟨g',j*k+i,none⟩:=by unfold Addr.add;split<;>simp_all
  rw[hadd] at this;exact⟨this,λq=>xG h3 q,h2,xH h3⟩
end
end Go.Proofs.RK
namespace Go.Proofs.IX
open Go.RowKit Mailsack MM BB SH SV RK DS Go.Proofs.ST
theorem yF8 (bv sv:Value) (bl:List qB) (gv:Int) (at_:Nat) (p:qB) (ml:List vM) (A':Option Addr) (c':Nat) (w:World) (h:RdR 4 bxF w w.heap.size bv bl) (hl:bl.length<=100000) (A2:Option Addr) (n2 c2:Nat) (hsv:sv=.slice A2 n2 c2) (hp:bl[at_]?=some p):
  Calls prog 140 #[.agg #[bv,sv,.int .i64 gv],.int .i64 (at_:Int),.slice A' ml.length c'] w λe w'=>∃g k,e=.returned (.agg #[.slice (some (θ g 0)) bl.length k,sv,.int .i64 gv])/\xW 55 4 bxF w' w.heap.size (.slice (some (θ g 0)) bl.length k) (bl.set at_ ⟨⟨p.b.name,p.b.validity,p.b.next,ml⟩,A',c'⟩)/\ψ w w':=by
 obtain⟨A1,c1,rfl,hc1,_⟩:=id h;subst hsv;have hat:=(Ar.1 hp).1;have hba:=(φ w (ixO (.slice A1 bl.length c1) (.slice A2 n2 c2) gv)).alloc σ (ixO (.slice none 0 0) (.slice none 0 0) 0)
 have H0:=ι (Ai (zM w (ixO (.slice A1 bl.length c1) (.slice A2 n2 c2) gv) (ixO (.slice none 0 0) (.slice none 0 0) 0)) (Ai (zI w (ixO (.slice A1 bl.length c1) (.slice A2 n2 c2) gv) (ixO (.slice none 0 0) (.slice none 0 0) 0)) hba))
 have HR:=ι ((h.below hba ν).more hba.size);have HP:=ι hp;clear hba h hp;go_enter func140,ntmps140;go_upto_region 1 with fail
 obtain⟨w1,hw1⟩:=eX ((w.alloc (ixO (.slice A1 bl.length c1) (.slice A2 n2 c2) gv)).alloc (ixO (.slice none 0 0) (.slice none 0 0) 0));rw[hw1] at H0 HR;simp only[ixO] at hw1;rw[hw1];clear hw1;have hs:=H0.o.1;obtain⟨s0,s1,s2⟩:=xAs hs;clear hs;go_wp2_with fail
 refine(xYp _ bl w1 _ ν HR.o ω).mono ?_;rintro e w2 ⟨v2,rfl,ho2,hb2⟩;obtain⟨A3,c3,rfl,_⟩:=ho2.form
 have hn3:∃g,A3=some (θ g 0)/\w1.heap.size<=g:=by
  rcases ho2.2 with ⟨_,h0⟩|⟨g,cap,cur,e,hg,_⟩
  ·omega
  ·injection e with e _ _;exact⟨g,e,hg⟩
 obtain⟨g,rfl,hg⟩:=hn3;have H2:=ι (Ai ho2 (Ai (xC H0.o.1 hb2 (xH H0.o.1)) (Ai (xC H0.o.2.1 hb2 (xH H0.o.2.1)) (bT H0.o.2.2 hb2))));have hsz:w.heap.size+2<=w1.heap.size:=by have:=xH H0.o.2.1;omega
 have HSZ:=ι hsz;clear ho2 hb2 H0 HR s0 s1 s2;have hs:=H2.o.2.1;have s0:=xA hs 0;have y0:=xG hs 0;simp only[gA,gC] at s0;clear hs
 have H3:=ι (Ai (xW.xCz H2.o.1 (p:=θ w.heap.size 0) (.slice (some (θ g 0)) bl.length c3) (by show some g≠some w.heap.size;intro e;injection e;omega)) (Ai (yD H2.o.2.1 0 (.slice (some (θ g 0)) bl.length c3)) (Ai (yA H2.o.2.2.1 (p:=θ w.heap.size 0) (by show w.heap.size+1≠w.heap.size;omega) (.slice (some (θ g 0)) bl.length c3)) (H2.o.2.2.2.setCell (p:=θ w.heap.size 0) ν (.slice (some (θ g 0)) bl.length c3)))))
 go_upto_region 2 with fail
 obtain⟨w3,hw3⟩:=eX (w2.setCell (θ w.heap.size 0) (.slice (some (θ g 0)) bl.length c3));rw[hw3] at H3⊢;clear hw3 H2 s0 y0;have hs:=H3.o.2.1;have s0:=xA hs 0;simp only[Ba,Bh,gA,gC] at s0;clear hs
 obtain⟨m0,m1,m2,m3⟩:=xW.cellAt xBk H3.o.1 (g:=g) rfl (j:=at_) (i:=3) HP.o rfl;have m1:=m1 (at_*4+3);generalize p.mv=pmv at m0
 have H4:=ι (Ai (xW.put xBk H3.o.1 (g:=g) rfl (j:=at_) (i:=3) (x':=(⟨⟨p.b.name,p.b.validity,p.b.next,ml⟩,A',c'⟩:qB)) (u:=.slice A' ml.length c') HP.o ω rfl) (Ai (yA H3.o.2.1 (p:=(θ g (at_*4+3))) (by show w.heap.size≠g;omega) (.slice A' ml.length c')) (Ai (yA H3.o.2.2.1 (p:=(θ g (at_*4+3))) (by show w.heap.size+1≠g;omega) (.slice A' ml.length c')) (H3.o.2.2.2.setCell (p:=(θ g (at_*4+3))) (by show w.heap.size<=g;omega) (.slice A' ml.length c')))))
 have hat2:¬(bl.length<=at_):=ω;go_upto_region 3 with fail
 obtain⟨w4,hw4⟩:=eX (w3.setCell (θ g (at_*4+3)) (.slice A' ml.length c'));rw[hw4] at H4⊢;clear hw4 H3 s0 m0 m1 hat2 HP;have hs:=H4.o.2.1;simp only[Ba,Bh] at hs;obtain⟨s0,s1,s2⟩:=xAs hs;clear hs
 have HO:=xW.xD9 (w':=yE (w.heap.size+1) 0 [.slice (some (θ g 0)) bl.length c3,.slice A2 n2 c2,.int .i64 gv] w4) H4.o.1 (λq cs hq=>yH (λe=>by
  subst e;have:=H4.o.2.2.1;rw[hq] at this;injection this with this;injection this with _ this;exact absurd this δ) _ _ _ hq)
 simp only[yE,Nat.reduceAdd] at HO;have HOO:=ι HO;clear HO;have hob:=H4.o.2.2.1;have hbb:=H4.o.2.2.2;obtain⟨o0,y0,f0,o1,y1,f1,o2,y2,f2,HB⟩:=xP2 hob hbb ω (.slice (some (θ g 0)) bl.length c3) (.slice A2 n2 c2) (.int .i64 gv) _ rfl;clear hob hbb H4 hg hsz hat m2;go_wp2
 refine Ak (v:=.agg #[.slice (some (θ g 0)) bl.length c3,.slice A2 n2 c2,.int .i64 gv]) (by simp[results,results140,go_sem,f0,f1,f2]) rfl ?_;exact⟨g,c3,rfl,HOO.o.less (Bg (Nat.le_add_right _ 2) HSZ.o),HB.o⟩
structure ApM (w:World) (bv sv:Value) (gv:Int) (W:World):Prop where
 x:W.heap[w.heap.size]?=some (ixO bv sv gv)
 o:W.heap[w.heap.size+1]?=some (ixO (.slice none 0 0) (.slice none 0 0) 0)
 bel:ψ w W
theorem ApM.below {w W W':World} {bv sv:Value} {gv:Int} (h:ApM w bv sv gv W) (hb:ψ W W'):ApM w bv sv gv W':=
 ⟨xC h.x hb (xH h.x),xC h.o hb (xH h.o),bT h.bel hb⟩
theorem xWh (w:World) (bv sv:Value) (gv:Int):ApM w bv sv gv ((w.alloc (ixO bv sv gv)).alloc (ixO (.slice none 0 0) (.slice none 0 0) 0)):=
 ⟨zM _ _ _,zI _ _ _,(φ w _).alloc σ _⟩
theorem xZ0 (bv sv:Value) (x:yN) (n:Bs) (ob sz fl:Int) (w:World) (h:xRk w w.heap.size bv sv x) (hl:x.boxes.length<=100000) (hm:∀b∈x.boxes,b.yL.length<=100000) (hs:x.subs.length<=100000) (hr:(zV x&&pW ob sz fl)=false):
  Calls prog 96 #[.agg #[bv,sv,.int .i64 x.given],xR n,.int .i64 ob,.int .i64 sz,.int .i64 fl] w (pv (.tuple #[.agg #[.slice none 0 0,.slice none 0 0,.int .i64 0],.int .i64 0,.int .i64 1]) w):=by
 have HM:=ι (xWh w bv sv x.given);have HRT:=ι (λW (hb:ψ w W)=>qX bv sv x W ((h.below hb ν).more hb.size) (λb hb=>by have:=hm b hb;omega) ω ω);have HML:=ι (λW=>xC9 ob sz fl W);obtain⟨A1,c1,rfl,hc1,_⟩:=h.boxes;obtain⟨A2,c2,rfl,hc2,_⟩:=h.subs;generalize pW ob sz fl=mo at HML hr
 clear h hl hm hs;go_enter func96,ntmps96;go_upto_region 1 with fail
 obtain⟨w1,hw1⟩:=eX ((w.alloc (ixO (.slice A1 x.boxes.length c1) (.slice A2 x.subs.length c2) x.given)).alloc (ixO (.slice none 0 0) (.slice none 0 0) 0));rw[hw1] at HM;simp only[ixO] at hw1;rw[hw1];clear hw1;have hx:=HM.o.x;obtain⟨s0,s1,s2⟩:=xAs hx;clear hx
 generalize zV x=ir at HRT hr;go_wp2_with fail
 refine cM (HRT.o _ HM.o.bel) λw2 hb2=>?_;have HM:=ι (HM.o.below hb2);clear hb2 HRT s0 s1 s2;cases ir with
 |false=>
  clear HML hr;go_upto_region 2 with fail
  have hob:=HM.o.o;have hbb:=HM.o.bel;obtain⟨o0,y0,f0,o1,y1,f1,o2,y2,f2,HB⟩:=xP2 hob hbb ω (.slice none 0 0) (.slice none 0 0) (.int .i64 0) _ rfl;clear hob hbb HM;go_wp2
  refine Ak (v:=.tuple #[.agg #[.slice none 0 0,.slice none 0 0,.int .i64 0],.int .i64 0,.int .i64 1]) (by simp[results,results96,go_sem,f0,f1,f2]) rfl ?_;exact⟨rfl,HB.o⟩
 |true=>
  rw[Ed] at hr;subst hr;go_wp2_with fail
  refine cM (HML.o _) λw3 hw3=>?_;rw[hw3];clear hw3 w3 HML;go_upto_region 2 with fail
  have hob:=HM.o.o;have hbb:=HM.o.bel;obtain⟨o0,y0,f0,o1,y1,f1,o2,y2,f2,HB⟩:=xP2 hob hbb ω (.slice none 0 0) (.slice none 0 0) (.int .i64 0) _ rfl;clear hob hbb HM;go_wp2
  refine Ak (v:=.tuple #[.agg #[.slice none 0 0,.slice none 0 0,.int .i64 0],.int .i64 0,.int .i64 1]) (by simp[results,results96,go_sem,f0,f1,f2]) rfl ?_;exact⟨rfl,HB.o⟩
end Go.Proofs.IX
namespace Mailsack
theorem yCv {α:Type} (p:α->Bool):∀l:List α,-1<=qH p l
 |[]=>by rw[qH];omega
 |x::l=>by
  have:=yCv p l;rw[qH];split
  ·omega
  ·split<;>omega
theorem xQk {α:Type} (p:α->Bool):∀(l:List α),0<=qH p l->∃x,l[(qH p l).toNat]?=some x/\p x=true
 |[],h=>by rw[qH] at h;omega
 |x::l,h=>by
  rw[qH] at h⊢
  by_cases hx:p x=true
  ·rw[Ah hx];exact⟨x,rfl,hx⟩
  ·rw[Ag hx] at h⊢
   by_cases hn:qH p l<0
   ·rw[Ah hn] at h;omega
   ·rw[Ag hn];obtain⟨y,h1,h2⟩:=xQk p l ω;exact⟨y,by rw[show(qH p l+1).toNat=(qH p l).toNat+1 by omega];simpa using h1,h2⟩
theorem xXc {x:yN} (h:zV x=true):∀b∈x.boxes,1<=b.next/\b.next<=4294967295:=by
 unfold zV at h;simp only[Au,Be] at h;intro b hb;have:=xH8 h.1.1.2 b hb;unfold xAy xL1 at this;simp only[Au,Be] at this;exact this.1.1.2
theorem yA9 (l:List pJ) (k:Nat):vU (l.take k)<=vU l:=by
 have e:=List.take_append_drop k l;have:vU (l.take k++l.drop k)=vU (l.take k)+vU (l.drop k):=by unfold vU;rw[Da,List.sum_append]
 rw[e] at this;omega
theorem yB4 {x:yN} (h:zV x=true):vU x.boxes<=30:=by
 unfold zV at h;simp only[Au,Be] at h;exact h.2
end Mailsack
namespace Go.Proofs.IX
open Go.RowKit Mailsack MM BB SH SV RK DS Go.Proofs.ST
theorem jF.rows {w:World} {B:Nat} {v:Value} {L:List vM} (h:jF w B v L):RdR 4 maF w B v L:=by
 obtain⟨A,c,h1,h2,h3⟩:=h;refine⟨A,c,h1,h2,λhn=>?_⟩;obtain⟨b,off,h4,h5,h6⟩:=h3 hn;refine⟨b,off,h4,h5,λj x hx i u hu=>?_⟩;obtain⟨k0,k1,k2,k3⟩:=h6 j x hx
 match i,hu with
 |0,hu=>simp at hu;subst hu;exact k0
 |1,hu=>simp at hu;subst hu;exact k1
 |2,hu=>simp at hu;subst hu;exact k2
 |3,hu=>simp at hu;subst hu;exact k3
 |n+4,hu=>simp at hu
theorem xW.typ {α:Type} {e:TypeId} {k:Nat} {f:α->List Value} {w:World} {base:Nat} {v:Value} {l:List α} (h:xW e k f w base v l) {g:Nat} (hv:v.ownBlock=some g):∃cs,w.heap[g]?=some (.cells cs e (0,0)):=by
 rcases h.2 with ⟨rfl,_⟩|⟨g',cap,cur,rfl,h2,h3,h4⟩
 ·cases hv
 ·have:g'=g:=by simpa[Value.ownBlock] using hv
  subst this;exact⟨_,h3⟩
structure ApJ (w w5:World) (sv:Value) (gv:Int) (mo:vM) (bl:List qB) (at_:Nat) (p:qB) (L:Nat->Bool) (α:Nat->Value) (W:World):Prop where
 bel:ψ w W
 st:L 13=false->ψ w5 W
 o:W.heap[w.heap.size+1]?=some (ixO (.slice none 0 0) (.slice none 0 0) 0)
 c:L 8=true->∃A k,α 8=.slice A p.b.yL.length k/\(L 11=false->xW 57 4 maF W w5.heap.size (.slice A p.b.yL.length k) p.b.yL)
 s:L 10=true->∃g,α 10=.slice (some (θ g 0)) 1 1/\(L 11=false->RdR 4 maF W W.heap.size (.slice (some (θ g 0)) 1 1) [mo])
 p:L 11=true->∃A k,α 11=.slice A (p.b.yL.length+1) k/\xW 57 4 maF W w5.heap.size (.slice A (p.b.yL.length+1) k) (p.b.yL++[mo])/\(L 12=true->∃g j,α 12=.agg #[.slice (some (θ g 0)) bl.length j,sv,.int .i64 gv]/\xW 55 4 bxF W w5.heap.size (.slice (some (θ g 0)) bl.length j) (bl.set at_ ⟨⟨p.b.name,p.b.validity,p.b.next,p.b.yL++[mo]⟩,A,k⟩)/\(L 13=true->W.heap[w.heap.size]?=some (ixO (.slice (some (θ g 0)) bl.length j) sv gv)))
theorem ApJ.congr {w w5:World} {sv:Value} {gv:Int} {mo:vM} {bl:List qB} {at_:Nat} {p:qB} {L L':Nat->Bool} {α α':Nat->Value} {W:World} (h:ApJ w w5 sv gv mo bl at_ p L α W) (hl:∀i,i=13∨i=8∨i=10∨i=11∨i=12->L i=L' i) (ha:∀i,i=8∨i=10∨i=11∨i=12->L i=true->α i=α' i):ApJ w w5 sv gv mo bl at_ p L' α' W:=by
 have l8:=hl 8 σ;have l10:=hl 10 σ;have l11:=hl 11 σ;have l12:=hl 12 σ;have l13:=hl 13 σ;refine⟨h.bel,λe=>h.st (l13.trans e),h.o,λe=>?_,λe=>?_,λe=>?_⟩
 ·rw[<-ha 8 σ (l8.trans e),<-l11];exact h.c (l8.trans e)
 ·rw[<-ha 10 σ (l10.trans e),<-l11];exact h.s (l10.trans e)
 ·obtain⟨A,k,h1,h2,h3⟩:=h.p (l11.trans e);refine⟨A,k,by rw[<-ha 11 σ (l11.trans e)];exact h1,h2,λe12=>?_⟩;obtain⟨g,j,h4,h5,h6⟩:=h3 (l12.trans e12);exact⟨g,j,by rw[<-ha 12 σ (l12.trans e12)];exact h4,h5,λe13=>h6 (l13.trans e13)⟩
def xWp (x:yN) (n:Bs) (ob sz fl:Int) (w:World) (bl:List qB) (sv:Value) (e:Ending) (w':World):Prop:=
 ∃bv' sv',e=.returned (.tuple #[.agg #[bv',sv',.int .i64 (xLa x n ob sz fl).given],.int .i64 (yF3 x n ob sz fl),.int .i64 (xMu x n ob sz fl)])/\xRk w' w'.heap.size bv' sv' (xLa x n ob sz fl)/\ψ w w'/\∀base,base<=w.heap.size->(∀p∈bl,xW 57 4 maF w base p.mv p.b.yL)->xW 9 1 txF w base sv x.subs->wZ base w' bv' sv' (xLa x n ob sz fl)
theorem yB8 (w:World):xRk w w.heap.size (.slice none 0 0) (.slice none 0 0) ⟨[],[],0⟩:=
 ⟨⟨none,0,rfl,Bd _,λh=>absurd h δ⟩,⟨none,0,rfl,Bd _,λh=>absurd h δ⟩⟩
theorem xWp.bad {x:yN} {n:Bs} {ob sz fl:Int} {w w':World} {er:Int} {bl:List qB} {sv:Value} (he:xMu x n ob sz fl=er) (hn:er≠0) (hb:ψ w w'):xWp x n ob sz fl w bl sv (.returned (.tuple #[.agg #[.slice none 0 0,.slice none 0 0,.int .i64 0],.int .i64 0,.int .i64 er])) w':=by
 have h1:xLa x n ob sz fl=⟨[],[],0⟩:=by unfold xLa;rw[he,Ag hn]
 have h2:yF3 x n ob sz fl=0:=by unfold yF3;rw[he,Ag hn]
 exact⟨_,_,by rw[h1,h2,he],by rw[h1];exact yB8 _,hb,λbase _ _ _=>by rw[h1];exact⟨⟨[],rfl,xW.nil _ _,λ_ h=>nomatch h⟩,xW.nil _ _⟩⟩
theorem xU0 (bv sv:Value) (x:yN) (n:Bs) (ob sz fl:Int) (w:World) (h:xRk w w.heap.size bv sv x) (bl:List qB) (hbl:x.boxes=bl.map (·.b)) (hrd:RdR 4 bxF w w.heap.size bv bl) (hms:∀p∈bl,jF w w.heap.size p.mv p.b.yL) (hr:zV x=true) (hk:pW ob sz fl=true):
  Calls prog 96 #[.agg #[bv,sv,.int .i64 x.given],xR n,.int .i64 ob,.int .i64 sz,.int .i64 fl] w (xWp x n ob sz fl w bl sv):=by
 obtain⟨l1,l2,l3,_⟩:=xD0 hr;have HTO:=ι (yB4 hr);have HL3:=ι l3;have HNX:=ι (xXc hr);have HM:=ι (xWh w bv sv x.given);have HRT:=ι (λW (hb:ψ w W)=>qX bv sv x W ((h.below hb ν).more hb.size) (λb hb=>by have:=(l3 b hb).2;omega) ω ω);have HML:=ι (λW=>xC9 ob sz fl W)
 have HFD:=ι (λW (hb:ψ w W)=>xIg bv sv x n W ((h.below hb ν).more hb.size) ω);rw[hr] at HRT;rw[hk] at HML;have HE:Hid (xMu x n ob sz fl=if xEi x n<0 then 6 else if 30<=vU x.boxes then 9 else if 4294967295<=(xTx x n).next then 5 else 0):=ι (by unfold xMu;rw[hr,hk,Ag δ])
 have HBAD:=ι (λer (he:xMu x n ob sz fl=er) hn w' hb=>xWp.bad (w:=w) (w':=w') (bl:=bl) (sv:=sv) he hn hb);have HGE:Hid (-1<=xEi x n):=ι (yCv _ _)
 have HSM:Hid (0<=xEi x n->∃b,x.boxes[(xEi x n).toNat]?=some b/\xTx x n=b):=ι (λh0=>by
  obtain⟨b,h1,h2⟩:=xQk (λb:pJ=>b.name==n) x.boxes h0
  exact⟨b,h1,by
   unfold xTx;rw[Aa];show(x.boxes[(xEi x n).toNat]?).getD _=b;rw[show x.boxes[(xEi x n).toNat]?=some b from h1]
   rfl⟩)
 have HX:=ι h;have HBL:=ι hbl;have HMS:=ι hms;have HRD:=ι hrd;obtain⟨A1,c1,rfl,hc1,_⟩:=id hrd;obtain⟨A2,c2,rfl,hc2,_⟩:=h.subs;have hlen:bl.length=x.boxes.length:=by rw[hbl,Bw]
 have hl6:bl.length<=6:=ω;generalize hfi:xEi x n=fi at HFD HE HGE HSM;have HFI:=ι hfi;clear h hr hk l1 l2 l3 hbl hms hrd hfi hlen;go_enter func96,ntmps96;go_upto_region 1 with fail
 obtain⟨w1,hw1⟩:=eX ((w.alloc (ixO (.slice A1 bl.length c1) (.slice A2 x.subs.length c2) x.given)).alloc (ixO (.slice none 0 0) (.slice none 0 0) 0));rw[hw1] at HM;simp only[ixO] at hw1;rw[hw1];clear hw1;have hx:=HM.o.x;obtain⟨s0,s1,s2⟩:=xAs hx;clear hx;go_wp2_with fail
 refine cM (HRT.o _ HM.o.bel) λw2 hb2=>?_;have HM:=ι (HM.o.below hb2);clear hb2 HRT s0 s1 s2;go_wp2_with fail
 refine cM (HML.o _) λw3 hw3=>?_;rw[hw3];clear hw3 w3 HML;have hx:=HM.o.x;obtain⟨s0,s1,s2⟩:=xAs hx;clear hx;go_wp2_with fail
 refine cM (HFD.o _ HM.o.bel) λw3 hb3=>?_;have HM:=ι (HM.o.below hb3);clear hb3 HFD s0 s1 s2
 by_cases hneg:fi<0
 ·rw[Ah hneg] at HE;have HQ:=ι (HBAD.o 6 HE.o δ);clear HBAD HSM HGE HX HBL HMS HRD HE HFI;go_upto_region 5 with fail
  have hob:=HM.o.o;have hbb:=HM.o.bel;obtain⟨o0,y0,f0,o1,y1,f1,o2,y2,f2,HB⟩:=xP2 hob hbb ω (.slice none 0 0) (.slice none 0 0) (.int .i64 0) _ rfl;clear hob hbb HM;go_wp2
  refine Ak (v:=.tuple #[.agg #[.slice none 0 0,.slice none 0 0,.int .i64 0],.int .i64 0,.int .i64 6]) (by simp[results,results96,go_sem,f0,f1,f2]) rfl ?_;exact HQ.o _ HB.o
 ·rw[Ag hneg] at HE;obtain⟨at_,rfl⟩:∃a:Nat,fi=(a:Int):=⟨fi.toNat,ω⟩;obtain⟨b,hb1,hb2⟩:=HSM.o ω;rw[Cn] at hb1;rw[hb2] at HE;have HBX:=ι hb2;have HB1:=ι hb1;clear HSM HGE hb1 hb2;have hx:=HM.o.x;obtain⟨s0,s1,s2⟩:=xAs hx;clear hx;go_wp2_with fail
  clear s0 s1 s2;have HTT:Hid (∀k q,bl[k]?=some q->vU (x.boxes.take (k+1))=vU (x.boxes.take k)+q.b.yL.length):=ι (λk q hq=>xIs (by rw[HBL.o,Cg,hq];rfl))
  have HT6:Hid (∀k,vU (x.boxes.take k)<=100000):=ι (λk=>by
   have:=yA9 x.boxes k;have:=HTO.o;omega)
  go_loopw [14,39] (λtv iv wr=>∃k:Nat,k<=bl.length/\iv=.int .i64 k/\tv=.int .i64 (vU (x.boxes.take k):Nat)/\Hid (ApM w (.slice A1 bl.length c1) (.slice A2 x.subs.length c2) x.given wr)) (λ_ iv _=>bl.length- (intOf iv).toNat)
  case atStart=>exact⟨0,Bc _,rfl,rfl,HM⟩
  case round=>
   obtain⟨k,hk,rfl,rfl,HM⟩:=hrel
   by_cases hlt:k<bl.length
   ·obtain⟨q,hq⟩:∃q,bl[k]?=some q:=⟨_,Af hlt⟩;obtain⟨A,c,e,_,h3⟩:=HRD.o;injection e with e _ e2;subst e e2;obtain⟨g,off,rfl,hg,h6⟩:=h3 ω;have qq:=λi u hu=>(HM.o.bel.cell (p:=(θ g (off+k*4+i))) hg).trans (h6 k q hq i u hu)
    have q0:wr.cell? (θ g (off+k*4))=some (xR q.b.name):=qq 0 _ rfl;have q1:wr.cell? (θ g (off+k*4+1))=some (.int .i64 q.b.validity):=qq 1 _ rfl;have q2:wr.cell? (θ g (off+k*4+2))=some (.int .i64 q.b.next):=qq 2 _ rfl
    have q3:wr.cell? (θ g (off+k*4+3))=some (.slice q.A q.b.yL.length q.c):=qq 3 _ rfl;have hB:=xJ wr (.cells #[xR q.b.name,.int .i64 q.b.validity,.int .i64 q.b.next,.slice q.A q.b.yL.length q.c] 55);have r3:=xA hB 3;simp only[gA,gB,gC] at r3
    have HM2:=ι (HM.o.below (φ wr (.cells #[xR q.b.name,.int .i64 q.b.validity,.int .i64 q.b.next,.slice q.A q.b.yL.length q.c] 55)));have HTK:=ι (HTT.o k q hq);have htk:=HT6.o (k+1);rw[HTK.o] at htk;clear hB qq h6 hq;generalize vU (x.boxes.take k)=tk at HTK htk
    generalize q.b.yL.length=qm at q3 r3 HM2 HTK htk;go_wp2;exact⟨⟨k+1,ω,by go_num,by rw[HTK.o];go_num,HM2⟩,by simp[intOf];omega⟩
   ·obtain rfl:k=bl.length:=ω;rw[show x.boxes.take bl.length=x.boxes by rw[HBL.o,<-Bw (f:=λq:qB=>q.b)];exact Cf];have hto:=HTO.o;clear HTT HT6
    by_cases h30:30<=vU x.boxes
    ·rw[Ah h30] at HE;have HQ:=ι (HBAD.o 9 HE.o δ);have yLk:(30:Int)<=((vU x.boxes:Nat):Int):=ω;generalize vU x.boxes=tot at yLk hto⊢;clear HBAD HX HBL HMS HRD HE HFI h30 HB1 HBX hlt;go_upto_region 13 with fail
     have hob:=HM.o.o;have hbb:=HM.o.bel;obtain⟨o0,y0,f0,o1,y1,f1,o2,y2,f2,HB⟩:=xP2 hob hbb ω (.slice none 0 0) (.slice none 0 0) (.int .i64 0) _ rfl;clear hob hbb HM;go_wp2
     refine Ak (v:=.tuple #[.agg #[.slice none 0 0,.slice none 0 0,.int .i64 0],.int .i64 0,.int .i64 9]) (by simp[results,results96,go_sem,f0,f1,f2]) rfl ?_;exact HQ.o _ HB.o
    ·rw[Ag h30] at HE;have yLk:¬(30:Int)<=((vU x.boxes:Nat):Int):=ω;generalize vU x.boxes=tot at yLk hto⊢
     obtain⟨p,hp,rfl⟩:∃p,bl[at_]?=some p/\p.b=b:=by
      have:=HB1.o;rw[HBL.o,Cg] at this;obtain⟨p,h1,h2⟩:=Df.1 this;exact⟨p,h1,h2⟩
     have hat:=(Ar.1 hp).1;obtain⟨A,c,e,_,h3⟩:=HRD.o;injection e with e _ e2;subst e e2;obtain⟨g,off,rfl,hg,h6⟩:=h3 ω
     have q2:wr.cell? (θ g (off+at_*4+2))=some (.int .i64 p.b.next):=by
      exact(HM.o.bel.cell (p:=(θ g (off+at_*4+2))) hg).trans (h6 at_ p hp 2 _ rfl)
     have Q3:Hid (wr.cell? (θ g (off+at_*4+3))=some (.slice p.A p.b.yL.length p.c)):=ι ((HM.o.bel.cell (p:=(θ g (off+at_*4+3))) hg).trans (h6 at_ p hp 3 _ rfl))
     have HML30:Hid (p.b.yL.length<=30):=ι (HL3.o p.b (by rw[HBL.o];exact List.mem_map_of_mem (Bb hp))).2;have hnx1:1<=p.b.next:=(HNX.o p.b (by rw[HBL.o];exact List.mem_map_of_mem (Bb hp))).1;have HP:=ι hp
     have HPM:=ι (HMS.o p (Bb hp)).rows;have hx:=HM.o.x;obtain⟨s0,s1,s2⟩:=xAs hx;clear hx h6 hp h30 hlt
     by_cases hnx:4294967295<=p.b.next
     ·rw[Ah hnx] at HE;have HQ:=ι (HBAD.o 5 HE.o δ);clear HBAD HX HBL HMS HRD HE HFI HB1 HBX HPM HP;generalize p.b.next=pn at hnx q2;go_upto_region 16 with fail
      have hob:=HM.o.o;have hbb:=HM.o.bel;obtain⟨o0,y0,f0,o1,y1,f1,o2,y2,f2,HB⟩:=xP2 hob hbb ω (.slice none 0 0) (.slice none 0 0) (.int .i64 0) _ rfl;clear hob hbb HM;go_wp2
      refine Ak (v:=.tuple #[.agg #[.slice none 0 0,.slice none 0 0,.int .i64 0],.int .i64 0,.int .i64 5]) (by simp[results,results96,go_sem,f0,f1,f2]) rfl ?_;exact HQ.o _ HB.o
     ·rw[Ag hnx] at HE;clear HBAD
      have q3:(wr.alloc (.cells #[.int .i64 p.b.next,.int .i64 fl,.int .i64 ob,.int .i64 sz] 57)).cell? (θ g (off+at_*4+3))=some (.slice p.A p.b.yL.length p.c):=((φ wr _).cell (p:=(θ g (off+at_*4+3))) (Bt hg HM.o.bel.size)).trans Q3.o
      have HM5:=ι (Ai (HM.o.below (φ wr (.cells #[.int .i64 p.b.next,.int .i64 fl,.int .i64 ob,.int .i64 sz] 57))) (xJ wr (.cells #[.int .i64 p.b.next,.int .i64 fl,.int .i64 ob,.int .i64 sz] 57)));go_upto_region 18 with fail
      obtain⟨w5,hw5⟩:=eX (wr.alloc (.cells #[.int .i64 p.b.next,.int .i64 fl,.int .i64 ob,.int .i64 sz] 57));rw[hw5] at HM5 q3;rw[hw5];clear hw5 s0 s1 s2 q2;have hg5:g<w5.heap.size:=Bt hg HM5.o.1.bel.size;have HG5:=ι (Ai hg5 q3)
      clear hg5 q3 Q3;generalize wr.heap.size=mb at HM5⊢
      refine RG.vE [13] [8,10,11,12] (λL α W=>Hid (ApJ w w5 (.slice A2 x.subs.length c2) x.given ⟨p.b.next,fl,ob,sz⟩ bl at_ p L α W)) (λL L' α α' W hl ha h=>ι (h.o.congr (λi hi=>hl i (by simp;omega)) (λi hi=>ha i (by simp;omega)))) κ κ κ (ι ⟨HM5.o.1.bel.drew,λ_=>(Aq _ _).drew,HM5.o.1.o,λe=>(by cases e),λe=>(by cases e),λe=>(by cases e)⟩) ?_
      iterate 8
       apply RG.zR
       ·rfl
       ·rfl
       ·intro α L w9 h0 hcl xQ hw9;have hb5:=hw9.o.st (hcl.not 14 (i:=13) h0 κ);have hx:=xC HM5.o.1.x hb5 (xH HM5.o.1.x);have s0:=xA hx 0;have s1:=xA hx 1;have s2:=xA hx 2;have hm:=xC HM5.o.2 hb5 (xH HM5.o.2);have m0:=xA hm 0;have m1:=xA hm 1;have m2:=xA hm 2
        have m3:=xA hm 3;simp only[gA,gB,gC] at s0 s1 s2 m0 m1 m2 m3;have q3:=(hb5.cell (p:=(θ g (off+at_*4+3))) HG5.o.1).trans HG5.o.2;clear hx hm hb5;repeat go_step
        exact RG.xE hw9
       ·intro α;rfl
      apply RG.rT
      ·rfl
      ·intro α L w9 h0 hcl xQ hw9;have e13:L 13=false:=hcl.not 14 (i:=13) h0 κ;have e11:L 11=false:=hcl.not 14 (i:=11) h0 κ;have hb5:=hw9.o.st e13;have HRM:=ι (HPM.o.below (bT HM5.o.1.bel hb5) ν);repeat go_step
       refine(xYn _ p.b.yL w9 _ (Bg HM5.o.1.bel.size hb5.size) HRM.o (by have:=HML30.o;omega)).mono ?_;rintro e w10 ⟨v',rfl,hov,hbv⟩;obtain⟨A',k',rfl,_⟩:=hov.form;simp only[];repeat go_step
       refine⟨rfl,_,rfl,?_⟩;refine ι ⟨bT hw9.o.bel hbv,λ_=>bT hb5 hbv,xC hw9.o.o hbv (xH hw9.o.o),λ_=>⟨A',k',RG.zL _ _ _,λ_=>hov.less hb5.size⟩,λe=>?_,λe=>absurd (show L 11=true by simpa using e) (by rw[e11];simp)⟩
       obtain⟨gs,n1,n2⟩:=hw9.o.s (by simpa using e);exact⟨gs,n1,λ_=>((n2 e11).below hbv ν).more hbv.size⟩
      ·intro b α;rfl
      apply RG.zR
      ·rfl
      ·rfl
      ·intro α L w9 h0 hcl xQ hw9;have hb5:=hw9.o.st (hcl.not 14 (i:=13) h0 κ);have hx:=xC HM5.o.1.x hb5 (xH HM5.o.1.x);have s0:=xA hx 0;have s1:=xA hx 1;have s2:=xA hx 2;have hm:=xC HM5.o.2 hb5 (xH HM5.o.2);have m0:=xA hm 0;have m1:=xA hm 1;have m2:=xA hm 2
       have m3:=xA hm 3;simp only[gA,gB,gC] at s0 s1 s2 m0 m1 m2 m3;clear hx hm hb5;repeat go_step
       exact RG.xE hw9
      ·intro α;rfl
      apply RG.qP
      ·rfl
      ·intro α L w9 h0 hcl xQ hw9;have e13:L 13=false:=hcl.not 14 (i:=13) h0 κ;have e11:L 11=false:=hcl.not 14 (i:=11) h0 κ;have hb5:=hw9.o.st e13;have hal:=φ w9 (.cells #[.int .i64 p.b.next,.int .i64 fl,.int .i64 ob,.int .i64 sz] 57);have HAL:=ι hal
       have HRL:=ι (RdR.lit (m:=[(⟨p.b.next,fl,ob,sz⟩:vM)]) (e:=57) xEz w9 #[.int .i64 p.b.next,.int .i64 fl,.int .i64 ob,.int .i64 sz] rfl);clear hal;refine⟨.slice (some (θ w9.heap.size 0)) 1 1,λbv hbv=>?_⟩;repeat go_step
       rw[<-hbv];refine RG.xE ?_
       refine ι ⟨hw9.o.bel.trans (HAL.o.mono hw9.o.bel.size),λ_=>hb5.trans (HAL.o.mono hb5.size),xC hw9.o.o HAL.o (xH hw9.o.o),λe=>?_,λ_=>⟨w9.heap.size,(RG.zL _ _ _).trans hbv,λ_=>HRL.o.more σ⟩,λe=>absurd (show L 11=true by simpa using e) (by rw[e11];simp)⟩
       obtain⟨A,k,n1,n2⟩:=hw9.o.c (by simpa using e);exact⟨A,k,n1,λ_=>(n2 e11).below HAL.o⟩
      ·intro b α;rfl
      apply RG.rT
      ·rfl
      ·intro α L w9 h0 hcl xQ hw9
       have f8:L 8=true:=by
        have:=xQ.yes 14 (i:=11) (j:=8) σ κ;simpa using this
       have f10:L 10=true:=by
        have:=xQ.yes 14 (i:=11) (j:=10) σ κ;simpa using this
       have e13:L 13=false:=hcl.not 14 (i:=13) h0 κ;have e12:L 12=false:=hcl.not 14 (i:=12) h0 κ;have hb5:=hw9.o.st e13;obtain⟨A,k,q1,q2⟩:=hw9.o.c f8;obtain⟨gs,n1,n2⟩:=hw9.o.s f10;have HO:=ι (q2 h0);have HRS:=ι (n2 h0);have Q1:=ι q1;have N1:=ι n1;clear q1 q2 n1 n2
       refine uG tyMa rfl _ _ rfl Q1.o N1.o HO.o HRS.o (by have:=HML30.o;simp;omega) hb5.size ?_;intro v' w10 h8;obtain⟨A',k',hv',_⟩:=h8.own.form;rw[show(p.b.yL++[(⟨p.b.next,fl,ob,sz⟩:vM)]).length=p.b.yL.length+1 by simp] at hv';subst hv';refine⟨rfl,_,rfl,?_⟩
       have hnw:∀o:Nat,o<w5.heap.size->∀ob',w9.heap[o]?=some ob'->w10.heap[o]?=some ob':=λo ho ob' h=>h8.keep h (HO.o.far ho)
       exact ι ⟨h8.bel HO.o (Gt (Bt (xH HM5.o.1.x) ν)) hw9.o.bel hw9.o.bel.size,λ_=>h8.bel HO.o ν hb5 hb5.size,hnw _ (xH HM5.o.1.o) _ hw9.o.o,λe=>⟨A,k,Q1.o,λe=>by simp at e⟩,λe=>⟨gs,N1.o,λe=>by simp at e⟩,λ_=>⟨A',k',RG.zL _ _ _,h8.own,λe=>absurd (show L 12=true by simpa using e) (by rw[e12];simp)⟩⟩
      ·intro b α;rfl
      apply RG.rT
      ·rfl
      ·intro α L w9 h0 hcl xQ hw9
       have f11:L 11=true:=by
        have:=xQ.yes 14 (i:=12) (j:=11) σ κ;simpa using this
       have e13:L 13=false:=hcl.not 14 (i:=13) h0 κ;have hb5:=hw9.o.st e13;obtain⟨A,k,q1,q2,_⟩:=hw9.o.p f11;have HO:=ι q2;have Q1:=ι q1;have HRB:=ι ((HRD.o.below (bT HM5.o.1.bel hb5) ν).more (Bg HM5.o.1.bel.size hb5.size))
       have hwi:=yF8 (.slice (some (θ g off)) bl.length c1) (.slice A2 x.subs.length c2) bl x.given at_ p (p.b.yL++[⟨p.b.next,fl,ob,sz⟩]) A k w9 HRB.o ω A2 x.subs.length c2 rfl HP.o;rw[show(p.b.yL++[(⟨p.b.next,fl,ob,sz⟩:vM)]).length=p.b.yL.length+1 by simp] at hwi
       have HWI:=ι hwi;clear q1 q2 hwi;rw[show α (0+1+1+1+1+1+1+1+1+1+1+1)=_ from Q1.o];repeat go_step
       refine HWI.o.mono ?_;rintro e w10 ⟨gg,j,rfl,hbo,hbw⟩;have HBO:=ι hbo;clear hbo;simp only[];repeat go_step
       refine⟨rfl,_,rfl,?_⟩
       refine ι ⟨bT hw9.o.bel hbw,λ_=>bT hb5 hbw,xC hw9.o.o hbw (xH hw9.o.o),λe=>?_,λe=>?_,λ_=>⟨A,k,(RG.xGq _ _ _ δ).trans Q1.o,HO.o.below hbw,λ_=>⟨gg,j,RG.zL _ _ _,HBO.o.less hb5.size,λe=>absurd (show L 13=true by simpa using e) (by rw[e13];simp)⟩⟩⟩
       ·obtain⟨A',k',n1,_⟩:=hw9.o.c (by simpa using e);exact⟨A',k',n1,λe=>absurd (show L 11=false by simpa using e) (by rw[f11];simp)⟩
       ·obtain⟨gs,n1,_⟩:=hw9.o.s (by simpa using e);exact⟨gs,n1,λe=>absurd (show L 11=false by simpa using e) (by rw[f11];simp)⟩
      ·intro b α;rfl
      apply RG.xDu (v:=undef)
      ·rfl
      ·rfl
      ·intro α L w9 h0 hcl xQ hw9
       have f11:L 11=true:=by
        have:=xQ.yes 14 (i:=13) (j:=11) σ κ;simpa using this
       have f12:L 12=true:=by
        have:=xQ.yes 14 (i:=13) (j:=12) σ κ;simpa using this
       have hb5:=hw9.o.st h0;obtain⟨A,k,q1,q2,q3⟩:=hw9.o.p f11;obtain⟨gg,j,r1,r2,_⟩:=q3 f12;have hx:=xC HM5.o.1.x hb5 (xH HM5.o.1.x)
       have hne:∀(ty:TypeId) (q:Nat) cs,ty≠48->w9.heap[q]?=some (.cells cs ty (0,0))->q≠w.heap.size:=λty q cs hty hq e=>by
        subst e;rw[hx] at hq;injection hq with hq;injection hq with _ hq;exact hty hq.symm
       have hs:=vC (b:=w.heap.size) (l:=[.slice (some (θ gg 0)) bl.length j,.slice A2 x.subs.length c2,.int .i64 x.given]) hx rfl
       have hB:=zG (b:=w.heap.size) (B:=w.heap.size) ν [.slice (some (θ gg 0)) bl.length j,.slice A2 x.subs.length c2,.int .i64 x.given] 0 _ hw9.o.bel
       have ho:=yH (b:=w.heap.size) (show w.heap.size+1≠w.heap.size by omega) [.slice (some (θ gg 0)) bl.length j,.slice A2 x.subs.length c2,.int .i64 x.given] 0 _ hw9.o.o
       have HOM:=xW.xD9 q2 (λq cs hq=>yH (b:=w.heap.size) (hne _ q cs δ hq) [.slice (some (θ gg 0)) bl.length j,.slice A2 x.subs.length c2,.int .i64 x.given] 0 _ hq)
       have HOB:=xW.xD9 r2 (λq cs hq=>yH (b:=w.heap.size) (hne _ q cs δ hq) [.slice (some (θ gg 0)) bl.length j,.slice A2 x.subs.length c2,.int .i64 x.given] 0 _ hq);simp only[yE,Nat.reduceAdd] at hs hB ho HOM HOB;have o0:=xA hx 0;have y0:=xG hx 0;have o1:=xA hx 1
       have y1:=xG hx 1;have o2:=xA hx 2;have y2:=xG hx 2;simp only[gA,gB,gC] at o0 o1 o2;have HS:=ι hs;have HB:=ι hB;have HO:=ι ho;have HM7:=ι HOM;have HB7:=ι HOB;have Q1:=ι q1;have R1:=ι r1;clear hs hB ho HOM HOB q1 q2 q3 r1 r2 hx hne
       rw[show α (0+1+1+1+1+1+1+1+1+1+1+1+1)=_ from R1.o];repeat go_step
       rw[<-show α (0+1+1+1+1+1+1+1+1+1+1+1+1)=_ from R1.o];refine RG.xE ?_;refine ι ⟨HB.o,λe=>by simp at e,HO.o,λe=>?_,λe=>?_,λ_=>⟨A,k,Q1.o,HM7.o,λ_=>⟨gg,j,R1.o,HB7.o,λ_=>HS.o⟩⟩⟩
       ·obtain⟨A',k',n1,_⟩:=hw9.o.c (by simpa using e);exact⟨A',k',n1,λe=>absurd (show L 11=false by simpa using e) (by rw[f11];simp)⟩
       ·obtain⟨gs,n1,_⟩:=hw9.o.s (by simpa using e);exact⟨gs,n1,λe=>absurd (show L 11=false by simpa using e) (by rw[f11];simp)⟩
      ·intro α;rfl
      refine RG.xA6 (λα w6 hw6=>?_);obtain⟨Ac,kc,c1',_⟩:=hw6.o.c rfl;obtain⟨gs,c2',_⟩:=hw6.o.s rfl;obtain⟨A,k,q1,q2,q3⟩:=hw6.o.p rfl;obtain⟨gg,j,r1,r2,r3⟩:=q3 rfl;simp only[Ay,Nat.reduceAdd]
      rw[show α 8=_ from c1',show α 10=_ from c2',show α 11=_ from q1,show α 12=_ from r1];have H6:=ι (Ai q2 (Ai r2 (Ai (r3 rfl) (Ai hw6.o.o hw6.o.bel))));clear hw6 q1 q2 q3 r1 r2 r3 c1' c2'
      have hpn:(bl.set at_ (⟨⟨p.b.name,p.b.validity,p.b.next,p.b.yL++[⟨p.b.next,fl,ob,sz⟩]⟩,A,k⟩:qB))[at_]?=some ⟨⟨p.b.name,p.b.validity,p.b.next,p.b.yL++[⟨p.b.next,fl,ob,sz⟩]⟩,A,k⟩:=Cw (by have:=(Ar.1 HP.o).1;exact this)
      obtain⟨z2,zf,zg,_⟩:=xW.cellAt xBk H6.o.2.1 (g:=gg) rfl (j:=at_) (i:=2) hpn rfl;have zf:=zf (at_*4+2)
      have HPUT:=ι (xW.put xBk H6.o.2.1 (g:=gg) rfl (j:=at_) (i:=2) (x':=(⟨⟨p.b.name,p.b.validity,p.b.next+1,p.b.yL++[⟨p.b.next,fl,ob,sz⟩]⟩,A,k⟩:qB)) (u:=.int .i64 (p.b.next+1)) hpn ω rfl);rw[List.set_set] at HPUT;have hx:=H6.o.2.2.1;have s0:=xR9 hx;have hsz:=HM5.o.1.o
      have hsz2:=xH hsz;have HFX:=ι (yA H6.o.2.2.1 (p:=(θ gg (at_*4+2))) (by show w.heap.size≠gg;omega) (.int .i64 (p.b.next+1)));have HFO:=ι (yA H6.o.2.2.2.1 (p:=(θ gg (at_*4+2))) (by show w.heap.size+1≠gg;omega) (.int .i64 (p.b.next+1)))
      have HFB:=ι (H6.o.2.2.2.2.setCell (p:=(θ gg (at_*4+2))) (by show w.heap.size<=gg;omega) (.int .i64 (p.b.next+1)));obtain⟨csb,hcb⟩:=xW.typ H6.o.2.1 (g:=gg) rfl
      have HFM:=ι (xW.xD9 H6.o.1 (λq cs hq=>yA hq (p:=(θ gg (at_*4+2))) (λe=>by
       have e:q=gg:=e;subst e;rw[hcb] at hq;injection hq with hq;injection hq with _ hq;exact absurd hq δ) (.int .i64 (p.b.next+1))))
      have hat2:¬(bl.length<=at_):=ω;clear hsz hsz2 hx hpn zg hcb;go_upto_region 20 with fail
      obtain⟨w7,hw7⟩:=eX (w6.setCell (θ gg (at_*4+2)) (.int .i64 (p.b.next+1)));rw[hw7] at HPUT HFX HFO HFB HFM⊢;clear hw7 s0 z2 zf H6;have hx:=HFX.o;obtain⟨s0,s1,s2⟩:=xAs hx;have hob:=HFO.o;have hbb:=HFB.o
      have hne:∀(ty:TypeId) (q:Nat) cs,ty≠48->w7.heap[q]?=some (.cells cs ty (0,0))->q≠w.heap.size+1:=λty q cs hty hq e=>by
       subst e;rw[hob] at hq;injection hq with hq;injection hq with _ hq;exact hty hq.symm
      have HOM:=xW.xD9 HFM.o (λq cs hq=>yH (b:=w.heap.size+1) (hne _ q cs δ hq) [.slice (some (θ gg 0)) bl.length j,.slice A2 x.subs.length c2,.int .i64 x.given] 0 _ hq)
      have HOB:=xW.xD9 HPUT.o (λq cs hq=>yH (b:=w.heap.size+1) (hne _ q cs δ hq) [.slice (some (θ gg 0)) bl.length j,.slice A2 x.subs.length c2,.int .i64 x.given] 0 _ hq);simp only[yE,Nat.reduceAdd] at HOM HOB;have HM8:=ι HOM;have HB8:=ι HOB;clear HOM HOB hne hx
      obtain⟨o0,y0,f0,o1,y1,f1,o2,y2,f2,HB⟩:=xP2 hob hbb ω (.slice (some (θ gg 0)) bl.length j) (.slice A2 x.subs.length c2) (.int .i64 x.given) _ rfl;have HZ5:Hid (w.heap.size<=w5.heap.size):=ι HM5.o.1.bel.size;clear hob hbb HPUT HFX HFO HFB HFM HM HM5
      have HAI:Hid (xLa x n ob sz fl=⟨x.boxes.set at_ ⟨p.b.name,p.b.validity,p.b.next+1,p.b.yL++[⟨p.b.next,fl,ob,sz⟩]⟩,x.subs,x.given⟩):=ι (by unfold xLa;rw[HE.o,Ah rfl,HFI.o,HBX.o];rfl)
      have HAU:Hid (yF3 x n ob sz fl=p.b.next):=ι (by unfold yF3;rw[HE.o,Ah rfl,HBX.o]);go_wp2
      refine Ak (v:=.tuple #[.agg #[.slice (some (θ gg 0)) bl.length j,.slice A2 x.subs.length c2,.int .i64 x.given],.int .i64 p.b.next,.int .i64 0]) (by simp[results,results96,go_sem,f0,f1,f2]) rfl ?_
      have hbe:x.boxes.set at_ ⟨p.b.name,p.b.validity,p.b.next+1,p.b.yL++[⟨p.b.next,fl,ob,sz⟩]⟩=(bl.set at_ (⟨⟨p.b.name,p.b.validity,p.b.next+1,p.b.yL++[⟨p.b.next,fl,ob,sz⟩]⟩,A,k⟩:qB)).map (·.b):=by rw[Gb,<-HBL.o]
      refine⟨_,_,by rw[HAI.o,HAU.o,HE.o],?_,HB.o,λbase hbase hom hos=>?_⟩
      ·rw[HAI.o];refine⟨?_,?_⟩
       ·have hbx:=xOs (HB8.o.rd xBk) (λq hq=>by
         rcases Dz hq with hq|rfl
         ·exact((HMS.o q hq).below HB.o ν).more HB.o.size
         ·have:=xIb (HM8.o.rd xEz);show jF _ _ (.slice A (p.b.yL++[(⟨p.b.next,fl,ob,sz⟩:vM)]).length k) _;rw[show(p.b.yL++[(⟨p.b.next,fl,ob,sz⟩:vM)]).length=p.b.yL.length+1 by simp];exact this)
        rw[<-hbe] at hbx;exact hbx
       ·exact(HX.o.subs.below HB.o ν).more HB.o.size
      ·rw[HAI.o];refine⟨⟨_,hbe,by rw[show(Value.slice (some (θ gg 0)) bl.length j)=Value.slice (some (θ gg 0)) bl.length j from rfl];exact HB8.o.less (Bg hbase HZ5.o),λq hq=>?_⟩,hos.below HB.o⟩;rcases Dz hq with hq|rfl
       ·exact(hom q hq).below HB.o
       ·show xW _ _ _ _ _ (.slice A (p.b.yL++[(⟨p.b.next,fl,ob,sz⟩:vM)]).length k) _;rw[show(p.b.yL++[(⟨p.b.next,fl,ob,sz⟩:vM)]).length=p.b.yL.length+1 by simp];exact HM8.o.less (Bg hbase HZ5.o)
theorem xYz (bv sv:Value) (x:yN) (n:Bs) (ob sz fl:Int) (w:World) (base:Nat) (hbase:base<=w.heap.size) (h:wZ base w bv sv x) (hr:zV x=true) (hk:pW ob sz fl=true):
  Calls prog 96 #[.agg #[bv,sv,.int .i64 x.given],xR n,.int .i64 ob,.int .i64 sz,.int .i64 fl] w λe w'=>∃bv' sv',e=.returned (.tuple #[.agg #[bv',sv',.int .i64 (xLa x n ob sz fl).given],.int .i64 (yF3 x n ob sz fl),.int .i64 (xMu x n ob sz fl)])/\wZ base w' bv' sv' (xLa x n ob sz fl)/\ψ w w':=by
 obtain⟨bl,e,h1,h2⟩:=h.bo;refine(xU0 bv sv x n ob sz fl w h.rd bl e (h1.rd xBk) (λp hp=>xIb ((h2 p hp).rd xEz)) hr hk).mono ?_;rintro e w' ⟨bv',sv',h3,_,h5,h6⟩;exact⟨bv',sv',h3,h6 base hbase h2 h.su,h5⟩
end Go.Proofs.IX
namespace Mailsack
def xNy (u xD xB:ByteArray) (x:yN) (oth:List Ch):List Ch:=xJ5 u xD xB (bsA (kC x))::oth
def xL5 (d:Dk) (u xD xB:ByteArray) (x:yN) (oth:List Ch):Int:=if zV x=true then xAj d (xNy u xD xB x oth) else 1
def keepD (d:Dk) (u xD xB:ByteArray) (x:yN) (oth:List Ch):Dk:=if zV x=true then vO d (xNy u xD xB x oth) else⟨[],[]⟩
theorem yK8 (x:yN):(kC x).length<=100000:=by
 unfold kC;split
 ·rename_i h
  obtain⟨h1,h2,h3,h4⟩:=xD0 h;unfold yEy;have a:=tV (L:=x.boxes) yHz (c:=400) (λb hb=>xKj (h3 b hb)) x.boxes.length;have b:=tV (L:=x.subs) xC4 (c:=17) (λb hb=>by rw[xB4];have:=h4 b hb;omega) x.subs.length;rw[Cf] at a b;simp only[Aj,vV];omega
 ·simp
end Mailsack
namespace Go.Proofs.VA
open Go.RowKit Mailsack MM BB SH SV RK DS IX Go.Proofs.ST Go.Proofs.SE
theorem xH5 (c:Ch):(chF c).length=3:=rfl
theorem yM5 (x:Ch):∀u∈chF x,u.oneCell'=true:=by
 intro u hu;simp only[chF,De,Dp,Gn] at hu;rcases hu with rfl|rfl|rfl<;>rfl
theorem infoCh:(prog.info? 63).map (λi=>(i.zero,i.size,i.bytes))=some (some (.agg #[.string ⟨#[]⟩,.string ⟨#[]⟩,.bool false]),3,40):=κ
theorem tyCh:yEr prog 34 63 3 40 chF:=by
 obtain⟨i,hi,hz,hs,hb⟩:=jL infoCh;exact⟨underlying34,⟨i,_,hi,hz,hs,hb,rfl⟩,ω,ω,xH5,yM5⟩
theorem chLit (c:Ch) (w:World) {base:Nat} (hb:base<=w.heap.size):xW 63 3 chF (w.alloc (.cells #[xR c.name,xR c.data,.bool c.gone] 63)) base (.slice (some (θ w.heap.size 0)) 1 1) [c]:=
 ⟨rfl,.inr ⟨w.heap.size,1,_,rfl,hb,xJ _ _,Bd _,by unfold maxLen;omega,rfl,rfl⟩⟩
structure KpM (w:World) (va vb:Value) (so:Obj) (bv sv:Value) (gv:Int) (W:World):Prop where
 d:W.heap[w.heap.size]?=some (yI va vb)
 s:W.heap[w.heap.size+1]?=some so
 x:W.heap[w.heap.size+2]?=some (ixO bv sv gv)
 o:W.heap[w.heap.size+3]?=some wO
 bel:ψ w W
theorem KpM.below {w W W':World} {va vb:Value} {so:Obj} {bv sv:Value} {gv:Int} (h:KpM w va vb so bv sv gv W) (hb:ψ W W'):KpM w va vb so bv sv gv W':=
 ⟨xC h.d hb (xH h.d),xC h.s hb (xH h.s),xC h.x hb (xH h.x),xC h.o hb (xH h.o),bT h.bel hb⟩
theorem yH5 (w:World) (va vb:Value) (so:Obj) (bv sv:Value) (gv:Int):KpM w va vb so bv sv gv ((((w.alloc (yI va vb)).alloc so).alloc (ixO bv sv gv)).alloc wO):=by
 have hb:=(((φ w (yI va vb)).alloc σ so).alloc (by simp;omega) (ixO bv sv gv)).alloc (by simp;omega) wO;have h1:=xJ ((w.alloc (yI va vb)).alloc so) (ixO bv sv gv);have h2:=xJ (((w.alloc (yI va vb)).alloc so).alloc (ixO bv sv gv)) wO;simp only[Ec] at h1 h2
 exact⟨xN (xN (zM _ _ _) _) _,xN (xN (zI _ _ _) _) _,xN h1 _,h2,hb⟩
structure KpJ (w w5:World) (D:Dk) (er:Int) (c:Ch) (oth:List Ch) (L:Nat->Bool) (α:Nat->Value) (W:World):Prop where
 bel:ψ w W
 st:L 8=false->ψ w5 W
 s:L 2=true->∃g,α 2=.slice (some (θ g 0)) 1 1/\(L 4=false->xW 63 3 chF W w5.heap.size (.slice (some (θ g 0)) 1 1) [c])
 p:L 4=true->∃v,α 4=v/\(L 5=false->RdR 3 chF W W.heap.size v (c::oth))
 q:L 5=true->∃va vb,α 5=.tuple #[.agg #[va,vb],.int .i64 er]/\RdD W W.heap.size va vb D/\(L 6=true->α 6=.agg #[va,vb])/\(L 8=true->W.heap[w.heap.size+3]?=some (yI va vb))
theorem KpJ.congr {w w5:World} {D:Dk} {er:Int} {c:Ch} {oth:List Ch} {L L':Nat->Bool} {α α':Nat->Value} {W:World} (h:KpJ w w5 D er c oth L α W) (hl:∀i,i=8∨i=2∨i=4∨i=5∨i=6->L i=L' i) (ha:∀i,i=2∨i=4∨i=5∨i=6->L i=true->α i=α' i):KpJ w w5 D er c oth L' α' W:=by
 have l2:=hl 2 σ;have l4:=hl 4 σ;have l5:=hl 5 σ;have l6:=hl 6 σ;have l8:=hl 8 σ;refine⟨h.bel,λe=>h.st (l8.trans e),λe=>?_,λe=>?_,λe=>?_⟩
 ·rw[<-ha 2 σ (l2.trans e),<-l4];exact h.s (l2.trans e)
 ·rw[<-ha 4 σ (l4.trans e),<-l5];exact h.p (l4.trans e)
 ·obtain⟨va,vb,h1,h2,h3,h4⟩:=h.q (l5.trans e);exact⟨va,vb,by rw[<-ha 5 σ (l5.trans e)];exact h1,h2,λe6=>by rw[<-ha 6 σ (l6.trans e6)];exact h3 (l6.trans e6),λe8=>h4 (l8.trans e8)⟩
theorem yH6 (va vb:Value) (d:Dk) (u xD old xB:ByteArray) (ep gv:Int) (A3 A4:Option Addr) (n3 k3 n4 k4:Nat) (bv sv lv:Value) (x:yN) (oth:List Ch) (w:World) (h:RdD w w.heap.size va vb d) (hx:xRk w w.heap.size bv sv x) (hl:RdR 3 chF w w.heap.size lv oth)
  (hxl:x.boxes.length<=100000) (hxm:∀b∈x.boxes,b.yL.length<=100000) (hxs:x.subs.length<=100000) (ho:oth.length<=400) (hc:d.cache.length<=10000) (hu:u.size<=1000) (hp:xD.size<=1000000) (hn:xB.size=12) (hT:jE w):
  Calls prog 97 #[.agg #[va,vb],xXa u xD old ep (.slice A3 n3 k3) (.slice A4 n4 k4) gv,.agg #[bv,sv,.int .i64 x.given],.string xB,lv] w λe w'=>∃va' vb',e=.returned (.tuple #[.agg #[va',vb'],.int .i64 (xL5 d u xD xB x oth)])/\RdD w' w'.heap.size va' vb' (keepD d u xD xB x oth)/\ψ w w':=by
 obtain⟨A1,c1,A2,c2,rfl,rfl⟩:=yC h;obtain⟨Ab,cb,rfl,hcb,_⟩:=hx.boxes;obtain⟨As,cs,rfl,hcs,_⟩:=hx.subs;obtain⟨Al,cl,rfl,hcl,_⟩:=id hl
 have H0:=ι (yH5 w (.slice A1 d.secs.length c1) (.slice A2 d.cache.length c2) (qE u xD old ep (.slice A3 n3 k3) (.slice A4 n4 k4) gv) (.slice Ab x.boxes.length cb) (.slice As x.subs.length cs) x.given)
 have HPU:=ι (λW (hb:ψ w W)=>xNd _ _ x W ((hx.below hb ν).more hb.size) (λb hb=>by have:=hxm b hb;omega) ω ω);rw[show xR (kC x)=.string (bsA (kC x)) from rfl] at HPU;have hbz:(bsA (kC x)).size<=1000000:=by rw[yS];have:=yK8 x;omega
 have HSE:=ι (λW (hb:ψ w W)=>xLm u xD xB (bsA (kC x)) W hu hp hn hbz (hT.below hb ν))
 have HAP:=ι (λW v (hb:ψ w W) (hv:RdR 3 chF W W.heap.size v (xNy u xD xB x oth))=>xGf (.slice A1 d.secs.length c1) (.slice A2 d.cache.length c2) v d (xNy u xD xB x oth) W ((h.below hb ν).more hb.size) hv (by show oth.length+1<=500;omega) hc (hT.below hb ν))
 have HL:Hid (xNy u xD xB x oth=xJ5 u xD xB (bsA (kC x))::oth):=ι rfl;have HOT:=ι hl;have HE:Hid (xL5 d u xD xB x oth=if zV x=true then xAj d (xNy u xD xB x oth) else 1):=ι rfl;have HD:Hid (keepD d u xD xB x oth=if zV x=true then vO d (xNy u xD xB x oth) else⟨[],[]⟩):=ι rfl
 have HPE:Hid (putE x=if zV x=true then 0 else 1):=ι rfl;generalize xL5 d u xD xB x oth=ke at HE⊢;generalize keepD d u xD xB x oth=kd at HD⊢;generalize hkl:xNy u xD xB x oth=kl at HAP HL HE HD;clear hkl;generalize xAj d kl=ae at HAP HE;generalize vO d kl=pd at HAP HD
 generalize xJ5 u xD xB (bsA (kC x))=cs' at HSE HL;obtain⟨cn,cd,cg⟩:=cs';simp only[chV] at HSE;generalize bsA (kC x)=pn at HSE HPU hbz;generalize putE x=pe at HPU HPE;clear h hx hl hxl hxm hxs hc hu hp hn hT hbz;go_enter func97,ntmps97;go_upto_region 1 with fail
 obtain⟨w1,hw1⟩:=eX ((((w.alloc (yI (.slice A1 d.secs.length c1) (.slice A2 d.cache.length c2))).alloc (qE u xD old ep (.slice A3 n3 k3) (.slice A4 n4 k4) gv)).alloc (ixO (.slice Ab x.boxes.length cb) (.slice As x.subs.length cs) x.given)).alloc wO);rw[hw1] at H0
 simp only[qE,yI,ixO,wO] at hw1;rw[hw1];clear hw1;have hb:=H0.o.x;obtain⟨e0,e1,e2⟩:=xAs hb;clear hb;go_wp2_with fail
 refine cM (HPU.o _ H0.o.bel) λw2 hb2=>?_;have H2:=ι (H0.o.below hb2);clear H0 HPU hb2 e0 e1 e2;cases hir:zV x with
 |false=>
  rw[hir,Ag σ] at HE HD HPE;rw[HPE.o];have hob:=H2.o.o;have hbb:=H2.o.bel;simp only[wO] at hob;obtain⟨o0,y0,f0,o1,y1,f1,HB⟩:=xMk hob hbb ω (.slice none 0 0) (.slice none 0 0) _ rfl;clear hob hbb H2 HAP HSE hir;go_wp2
  refine Ak (v:=.tuple #[.agg #[.slice none 0 0,.slice none 0 0],.int .i64 1]) (by simp[results,results97,go_sem,f0,f1]) rfl ?_
  exact⟨_,_,by rw[HE.o],by rw[HD.o];exact⟨⟨none,0,rfl,Bd _,λh=>absurd h δ⟩,⟨none,0,rfl,Bd _,λh=>absurd h δ⟩,Bc _,Bc _⟩,HB.o⟩
 |true=>
  rw[hir,Ah rfl] at HE HD HPE;rw[HPE.o];clear hir HPE;have hb:=H2.o.s;simp only[qE] at hb;obtain⟨e0,e1⟩:=uQ hb;clear hb;go_wp2_with fail
  refine cM (HSE.o _ H2.o.bel) λw3 hb3=>?_;have H3:=ι (H2.o.below hb3);clear H2 HSE hb3 e0 e1;go_upto_region 7 with fail
  have H5:=ι (Ai (H3.o.below (φ w3 (.cells #[xR cn,xR cd,.bool cg] 63))) (xJ w3 (.cells #[xR cn,xR cd,.bool cg] 63)));clear H3;obtain⟨w5,hw5⟩:=eX (w3.alloc (.cells #[xR cn,xR cd,.bool cg] 63));rw[hw5] at H5;simp only[xR] at hw5;rw[hw5];clear hw5
  generalize w3.heap.size=mb at H5⊢
  refine RG.vE [8] [2,4,5,6] (λL α W=>Hid (KpJ w w5 pd ae ⟨cn,cd,cg⟩ oth L α W)) (λL L' α α' W hl ha h=>ι (h.o.congr (λi hi=>hl i (by simp;omega)) (λi hi=>ha i (by simp;omega)))) κ κ κ (ι ⟨H5.o.1.bel.drew,λ_=>(Aq _ _).drew,λe=>(by cases e),λe=>(by cases e),λe=>(by cases e)⟩) ?_
  apply RG.zR
  ·rfl
  ·rfl
  ·intro α L w9 h0 hcl xQ hw9;have hx:=xC H5.o.1.d (hw9.o.st (hcl.not 10 (i:=8) h0 κ)) (xH H5.o.1.d);simp only[yI] at hx;obtain⟨s0,s1⟩:=uQ hx;clear hx;repeat go_step
   exact RG.xE hw9
  ·intro α;rfl
  apply RG.zR
  ·rfl
  ·rfl
  ·intro α L w9 h0 hcl xQ hw9;have hx:=xC H5.o.2 (hw9.o.st (hcl.not 10 (i:=8) h0 κ)) (xH H5.o.2);have s0:=xA hx 0;have s1:=xA hx 1;have s2:=xA hx 2;simp only[gA,gB,gC,xR] at s0 s1 s2;clear hx;repeat go_step
   exact RG.xE hw9
  ·intro α;rfl
  apply RG.qP
  ·rfl
  ·intro α L w9 h0 hcl xQ hw9;have e4:L 4=false:=hcl.not 10 (i:=4) h0 κ;have e5:L 5=false:=hcl.not 10 (i:=5) h0 κ;have e8:L 8=false:=hcl.not 10 (i:=8) h0 κ;have hb5:=hw9.o.st e8;have HAL:=ι (φ w9 (.cells #[xR cn,xR cd,.bool cg] 63))
   refine⟨.slice (some (θ w9.heap.size 0)) 1 1,λbv hbv=>?_⟩;repeat go_step
   rw[<-hbv];refine RG.xE ?_
   refine ι ⟨hw9.o.bel.trans (HAL.o.mono hw9.o.bel.size),λ_=>hb5.trans (HAL.o.mono hb5.size),λ_=>⟨w9.heap.size,(RG.zL _ _ _).trans hbv,λ_=>chLit ⟨cn,cd,cg⟩ w9 hb5.size⟩,λe=>absurd (show L 4=true by simpa using e) (by rw[e4];simp),λe=>absurd (show L 5=true by simpa using e) (by rw[e5];simp)⟩
  ·intro b α;rfl
  refine RG.vS ?_;apply RG.rT
  ·rfl
  ·intro α L w9 h0 hcl xQ hw9
   have f2:L 2=true:=by
    have:=xQ.yes 10 (i:=4) (j:=2) σ κ;simpa using this
   have e5:L 5=false:=hcl.not 10 (i:=5) h0 κ;have e8:L 8=false:=hcl.not 10 (i:=8) h0 κ;have hb5:=hw9.o.st e8;obtain⟨gs,n1,n2⟩:=hw9.o.s f2;have HO:=ι (n2 h0);have N1:=ι n1;clear n1 n2;have HRS:=ι (HOT.o.below (bT H5.o.1.bel hb5) ν)
   refine uG tyCh rfl _ _ rfl N1.o rfl HO.o HRS.o (by simp;omega) hb5.size ?_;intro v' w10 h8;refine⟨rfl,_,rfl,?_⟩
   exact ι ⟨h8.bel HO.o H5.o.1.bel.size hw9.o.bel hw9.o.bel.size,λ_=>h8.bel HO.o ν hb5 hb5.size,λ_=>⟨gs,N1.o,λe=>by simp at e⟩,λ_=>⟨v',RG.zL _ _ _,λ_=>h8.own.rd xH5⟩,λe=>absurd (show L 5=true by simpa using e) (by rw[e5];simp)⟩
  ·intro b α;rfl
  apply RG.rT
  ·rfl
  ·intro α L w9 h0 hcl xQ hw9
   have f4:L 4=true:=by
    have:=xQ.yes 10 (i:=5) (j:=4) σ κ;simpa using this
   have e6:L 6=false:=hcl.not 10 (i:=6) h0 κ;have e8:L 8=false:=hcl.not 10 (i:=8) h0 κ;have hb5:=hw9.o.st e8;obtain⟨v,q1,q2⟩:=hw9.o.p f4;have Q1:=ι q1;have Q2:=ι (q2 h0);rw[HL.o.symm] at Q2;clear q2;rw[show α (0+1+1+1+1)=_ from q1];clear q1;repeat go_step
   refine(HAP.o w9 v hw9.o.bel Q2.o).mono ?_;rintro e w10 ⟨va',vb',rfl,hr,hb⟩;have HR:=ι hr;clear hr;simp only[];repeat go_step
   refine⟨rfl,_,rfl,?_⟩
   refine ι ⟨bT hw9.o.bel hb,λ_=>bT hb5 hb,λe=>?_,λe=>⟨v,(RG.xGq _ _ _ δ).trans Q1.o,λe=>by simp at e⟩,λ_=>⟨va',vb',RG.zL _ _ _,HR.o,λe=>absurd (show L 6=true by simpa using e) (by rw[e6];simp),λe=>absurd (show L 8=true by simpa using e) (by rw[e8];simp)⟩⟩
   obtain⟨g,n1,n2⟩:=hw9.o.s (by simpa using e);exact⟨g,n1,λe=>absurd (show L 4=false by simpa using e) (by rw[f4];simp)⟩
  ·intro b α;rfl
  apply RG.rT
  ·rfl
  ·intro α L w9 h0 hcl xQ hw9
   have f5:L 5=true:=by
    have:=xQ.yes 10 (i:=6) (j:=5) σ κ;simpa using this
   have e8:L 8=false:=hcl.not 10 (i:=8) h0 κ;obtain⟨va',vb',q1,q2,_,_⟩:=hw9.o.q f5;have Q1:=ι q1;rw[show α (0+1+1+1+1+1)=_ from q1];clear q1;repeat go_step
   refine⟨rfl,_,rfl,?_⟩;exact ι ⟨hw9.o.bel,λ_=>hw9.o.st e8,λe=>hw9.o.s (by simpa using e),λe=>hw9.o.p (by simpa using e),λ_=>⟨va',vb',Q1.o,q2,λ_=>RG.zL _ _ _,λe=>absurd (show L 8=true by simpa using e) (by rw[e8];simp)⟩⟩
  ·intro b α;rfl
  apply RG.zR (v:=.int .i64 ae)
  ·rfl
  ·rfl
  ·intro α L w9 h0 hcl xQ hw9
   have f5:L 5=true:=by
    have:=xQ.yes 10 (i:=7) (j:=5) σ κ;simpa using this
   obtain⟨va',vb',q1,q2,_,_⟩:=hw9.o.q f5;have Q1:=ι q1;rw[show α (0+1+1+1+1+1)=_ from Q1.o];clear q1 q2;repeat go_step
   rw[<-show α (0+1+1+1+1+1)=_ from Q1.o];exact RG.xE hw9
  ·intro α;rfl
  apply RG.xDu (v:=undef)
  ·rfl
  ·rfl
  ·intro α L w9 h0 hcl xQ hw9
   have f5:L 5=true:=by
    have:=xQ.yes 10 (i:=8) (j:=5) σ κ;simpa using this
   have f6:L 6=true:=by
    have:=xQ.yes 10 (i:=8) (j:=6) σ κ;simpa using this
   have f4:L 4=true:=by
    have:=xQ.yes 10 (i:=8) (j:=4) σ κ;simpa using this
   obtain⟨va',vb',q1,q2,q3,_⟩:=hw9.o.q f5;obtain⟨A5,k5,A6,k6,rfl,rfl⟩:=yC q2;have hx:=xC H5.o.1.o (hw9.o.st h0) (xH H5.o.1.o);have HS:=ι (xG8 hx q2);have Q1:=ι q1;have Q6:=ι (q3 f6)
   have hx2:=vC (b:=w.heap.size+3) (l:=[.slice A5 pd.secs.length k5,.slice A6 pd.cache.length k6]) hx rfl;simp only[yE,Nat.reduceAdd] at hx2;have HX:=ι hx2;have hbb:=hw9.o.bel;simp only[wO] at hx
   obtain⟨o0,y0,f0,o1,y1,f1,HB⟩:=xMk hx hbb ω (.slice A5 pd.secs.length k5) (.slice A6 pd.cache.length k6) _ rfl;rw[show α (0+1+1+1+1+1+1)=_ from Q6.o];clear hx hx2 hbb q1 q2 q3;repeat go_step
   rw[<-show α (0+1+1+1+1+1+1)=_ from Q6.o];refine RG.xE ?_;refine ι ⟨HB.o,λe=>by simp at e,λe=>?_,λe=>?_,λ_=>⟨_,_,Q1.o,HS.o,λ_=>Q6.o,λ_=>HX.o⟩⟩
   ·obtain⟨g,n1,n2⟩:=hw9.o.s (by simpa using e);exact⟨g,n1,λe=>absurd (show L 4=false by simpa using e) (by rw[f4];simp)⟩
   ·obtain⟨v,n1,n2⟩:=hw9.o.p (by simpa using e);exact⟨v,n1,λe=>absurd (show L 5=false by simpa using e) (by rw[f5];simp)⟩
  ·intro α;rfl
  refine RG.vS ?_;refine RG.xA6 (λα w6 hw6=>?_);obtain⟨va',vb',q1,q2,q6,q8⟩:=hw6.o.q rfl;obtain⟨A5,k5,A6,k6,rfl,rfl⟩:=yC q2;have H6:=ι (Ai q2 hw6.o.bel);have hx:=q8 rfl;simp only[yI] at hx;obtain⟨f0,f1⟩:=uQ hx;simp only[Ay,Nat.reduceAdd];clear hw6 q1 q2 q6 q8 hx
  go_wp2;refine Ak (v:=.tuple #[.agg #[.slice A5 pd.secs.length k5,.slice A6 pd.cache.length k6],.int .i64 ae]) (by simp[results,results97,go_sem,f0,f1]) rfl ?_;exact⟨_,_,by rw[HE.o],by rw[HD.o];exact H6.o.1,H6.o.2⟩
end Go.Proofs.VA