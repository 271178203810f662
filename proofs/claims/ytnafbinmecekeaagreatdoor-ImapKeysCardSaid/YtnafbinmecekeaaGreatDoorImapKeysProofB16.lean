/- Contracts of functions. Conditions: as stated. -/
import Derived.Test.YtnafbinmecekeaaGreatDoorImapKeysProofB15
import Derived.HandedShaped
import Derived.Deep.DeepHandedRow
import Derived.Lib.SmallJoins
open Go.Proofs.Tryz
set_option maxHeartbeats 8000000
set_option maxRecDepth 100000
namespace Go.Proofs.VA
open Go.RowKit Mailsack MM BB SH SV RK DS IX Go.Proofs.ST
def rdG (d:Dk) (i:Nat):Bs:=if zD d=true then xJc d i else[]
def rdE (d:Dk):Int:=if zD d=true then 0 else 1
theorem xLj (va vb:Value) (d:Dk) (i:Nat) (w:World) (h:RdD w w.heap.size va vb d) (hi:i<d.secs.length):
  Calls prog 28 #[.agg #[va,vb],.int .i64 i] w λe w'=>e=.returned (.tuple #[xR (rdG d i),.int .i64 (rdE d)])/\ψ w w':=by
 cases hr:zD d with
 |true=>
  have:=xZ5 va vb d i w h hr hi;unfold rdG rdE;rw[hr];exact this
 |false=>
  unfold rdG rdE;rw[hr];obtain⟨A1,c1,A2,c2,rfl,rfl⟩:=xX h;have HR:=ι (λW (hb:ψ w W)=>kD (.slice A1 d.secs.length c1) (.slice A2 d.cache.length c2) d W ((h.below hb ν).more hb.size));rw[hr] at HR;clear h hr;go_enter func28,ntmps28;go_upto_region 1 with fail
  have H1:=ι (And.intro (xM w (xW (.slice A1 d.secs.length c1) (.slice A2 d.cache.length c2))) (φ w (xW (.slice A1 d.secs.length c1) (.slice A2 d.cache.length c2))));obtain⟨w1,hw1⟩:∃w1,w.alloc (xW (.slice A1 d.secs.length c1) (.slice A2 d.cache.length c2))=w1:=⟨_,rfl⟩
  rw[hw1] at H1;rw[hw1];clear hw1;have hb:=H1.o.1;obtain⟨e0,e1⟩:=zG hb;clear hb;go_wp2_with fail
  refine(HR.o _ H1.o.2).mono ?_;rintro e w2 ⟨rfl,hb2⟩;have HB:=ι (H1.o.2.trans (hb2.mono H1.o.2.size));clear H1 HR hb2 e0 e1;go_wp2;go_ret2;exact⟨rfl,HB.o⟩
theorem xDm (va vb ua ub:Value) (d:Dk) (w:World) (h:RdD w w.heap.size va vb d) (h2:RdD w w.heap.size ua ub d):
  Calls prog 13 #[.agg #[va,vb],.agg #[ua,ub]] w λe w'=>e=.returned (.bool true)/\ψ w w':=by
 obtain⟨A1,c1,A2,c2,rfl,rfl⟩:=xX h;obtain⟨A3,c3,A4,c4,rfl,rfl⟩:=xX h2;have HR:=ι (λ(i:Nat) W (hb:ψ w W) (hi:i<d.secs.length)=>xLj (.slice A1 d.secs.length c1) (.slice A2 d.cache.length c2) d i W ((h.below hb ν).more hb.size) hi)
 have HS:=ι (λ(i:Nat) W (hb:ψ w W) (hi:i<d.secs.length)=>xLj (.slice A3 d.secs.length c3) (.slice A4 d.cache.length c4) d i W ((h2.below hb ν).more hb.size) hi);have hls:d.secs.length<=1000000:=h.ls
 have hb0:=(φ w (xW (.slice A1 d.secs.length c1) (.slice A2 d.cache.length c2))).alloc σ (xW (.slice A3 d.secs.length c3) (.slice A4 d.cache.length c4))
 have H1:Hid (((w.alloc (xW (.slice A1 d.secs.length c1) (.slice A2 d.cache.length c2))).alloc (xW (.slice A3 d.secs.length c3) (.slice A4 d.cache.length c4))).heap[w.heap.size]?=some (xW (.slice A1 d.secs.length c1) (.slice A2 d.cache.length c2))/\((w.alloc (xW (.slice A1 d.secs.length c1) (.slice A2 d.cache.length c2))).alloc (xW (.slice A3 d.secs.length c3) (.slice A4 d.cache.length c4))).heap[w.heap.size+1]?=some (xW (.slice A3 d.secs.length c3) (.slice A4 d.cache.length c4))/\ψ w ((w.alloc (xW (.slice A1 d.secs.length c1) (.slice A2 d.cache.length c2))).alloc (xW (.slice A3 d.secs.length c3) (.slice A4 d.cache.length c4)))):=ι ⟨zV _ _ _,zK _ _ _,hb0⟩
 clear h h2 hb0;go_enter func13,ntmps13;go_upto_region 1 with fail
 obtain⟨w1,hw1⟩:∃w1,(w.alloc (xW (.slice A1 d.secs.length c1) (.slice A2 d.cache.length c2))).alloc (xW (.slice A3 d.secs.length c3) (.slice A4 d.cache.length c4))=w1:=⟨_,rfl⟩;rw[hw1] at H1;rw[hw1];clear hw1;have hb:=H1.o.1;have hd:=H1.o.2.1;obtain⟨e0,e1⟩:=zG hb
 obtain⟨o0,o1⟩:=zG hd;clear hb hd;go_upto_region 3 with fail
 go_wp2_with fail
 clear e0 e1 o0 o1
 go_loopw [20] (λiv wr=>∃k:Nat,k<=d.secs.length/\iv=.int .i64 k/\Hid (wr.heap[w.heap.size]?=some (xW (.slice A1 d.secs.length c1) (.slice A2 d.cache.length c2))/\wr.heap[w.heap.size+1]?=some (xW (.slice A3 d.secs.length c3) (.slice A4 d.cache.length c4))/\ψ w wr)) (λiv _=>d.secs.length- (intOf iv).toNat)
 case atStart=>exact⟨0,Nat.zero_le _,rfl,H1⟩
 case round=>
  obtain⟨k,hk,rfl,HI⟩:=hrel
  by_cases hlt:k<d.secs.length
  ·have hb:=HI.o.1;obtain⟨e0,e1⟩:=zG hb;clear hb;have hlt2:((k:Int)<(d.secs.length:Int)):=ω;go_wp2_with fail
   refine(HR.o k _ HI.o.2.2 hlt).mono ?_;rintro e w2 ⟨rfl,hb2⟩;have H2:=ι (And.intro (xD HI.o.1 hb2 (xH HI.o.1)) (And.intro (xD HI.o.2.1 hb2 (xH HI.o.2.1)) (HI.o.2.2.trans (hb2.mono HI.o.2.2.size))));clear HI hb2 e0 e1;have hb:=H2.o.2.1;obtain⟨e0,e1⟩:=zG hb;clear hb
   go_wp2_with fail
   refine(HS.o k _ H2.o.2.2 hlt).mono ?_;rintro e w3 ⟨rfl,hb3⟩;have H3:=ι (And.intro (xD H2.o.1 hb3 (xH H2.o.1)) (And.intro (xD H2.o.2.1 hb3 (xH H2.o.2.1)) (H2.o.2.2.trans (hb3.mono H2.o.2.2.size))));clear H2 hb3 e0 e1;generalize rdG d k=rk;generalize rdE d=re;go_wp2
   exact⟨⟨k+1,ω,σ,H3⟩,by simp only[intOf];omega⟩
  ·have hlt2:¬((k:Int)<(d.secs.length:Int)):=ω;have HB:=ι HI.o.2.2;clear HI;go_wp2;go_ret;exact⟨rfl,HB.o⟩
end Go.Proofs.VA
namespace Go.Proofs.IX
open Go.RowKit Mailsack MM BU VB
theorem xGb (a b c bx:ByteArray) (ep:Int) (bv sv bv2 sv2:Value) (x:uQ) (o1 o2:Bool) (w:World) (h:xKp w w.heap.size bv sv x) (h2:xKp w w.heap.size bv2 sv2 x) (hm:∀b∈x.boxes,b.zA.length<=9223372036854775807) (hl:x.boxes.length<=9223372036854775807) (hl2:x.subs.length<=9223372036854775807):
  Calls prog 14 #[.agg #[.string a,.string b,.string c,.int .i64 ep,bv,sv,.int .i64 x.given,.string bx,.bool o1,.bool o2],.agg #[.string a,.string b,.string c,.int .i64 ep,bv2,sv2,.int .i64 x.given,.string bx,.bool o1,.bool o2]] w λe w'=>e=.returned (.bool true)/\ψ w w':=by
 have HP:Hid (∀W,ψ w W->Calls prog 29 #[.agg #[bv,sv,.int .i64 x.given]] W λe w'=>e=.returned (.tuple #[xR (xJd x),.int .i64 (yBf x)])/\ψ W w'):=
  ι (λW hb=>xFz bv sv x W ((h.below hb ν).more hb.size) hm hl hl2)
 have HP2:Hid (∀W,ψ w W->Calls prog 29 #[.agg #[bv2,sv2,.int .i64 x.given]] W λe w'=>e=.returned (.tuple #[xR (xJd x),.int .i64 (yBf x)])/\ψ W w'):=
  ι (λW hb=>xFz bv2 sv2 x W ((h2.below hb ν).more hb.size) hm hl hl2)
 have hb1:bv.oneCell'=true:=by obtain⟨A,c,rfl,_⟩:=h.boxes;rfl
 have hb2:sv.oneCell'=true:=by obtain⟨A,c,rfl,_⟩:=h.subs;rfl
 have hb3:bv2.oneCell'=true:=by obtain⟨A,c,rfl,_⟩:=h2.boxes;rfl
 have hb4:sv2.oneCell'=true:=by obtain⟨A,c,rfl,_⟩:=h2.subs;rfl
 clear h h2 hm hl hl2;obtain⟨T,hT⟩:∃T:ByteArray,(⟨(xJd x).toArray⟩:ByteArray)=T:=⟨_,rfl⟩;rw[show xR (xJd x)=.string T by rw[<-hT]] at HP HP2;clear hT;generalize yBf x=E at HP HP2
 have HW:=ι (qH (qH (Below.refl w.heap.size w) ν (.cells #[.string a,.string b,.string c,.int .i64 ep,bv,sv,.int .i64 x.given,.string bx,.bool o1,.bool o2] 32)) ν (.cells #[.string a,.string b,.string c,.int .i64 ep,bv2,sv2,.int .i64 x.given,.string bx,.bool o1,.bool o2] 32))
 have P1:=ι (zV w (.cells #[.string a,.string b,.string c,.int .i64 ep,bv,sv,.int .i64 x.given,.string bx,.bool o1,.bool o2] 32) (.cells #[.string a,.string b,.string c,.int .i64 ep,bv2,sv2,.int .i64 x.given,.string bx,.bool o1,.bool o2] 32))
 have P2:=ι (zK w (.cells #[.string a,.string b,.string c,.int .i64 ep,bv,sv,.int .i64 x.given,.string bx,.bool o1,.bool o2] 32) (.cells #[.string a,.string b,.string c,.int .i64 ep,bv2,sv2,.int .i64 x.given,.string bx,.bool o1,.bool o2] 32));go_enter func14,ntmps14
 go_wp2_with fail
 refine(HP.o _ HW.o).mono ?_;rintro e w2 ⟨rfl,hb⟩;have q1:=xD P1.o hb (by simp;omega);have q2:=xD P2.o hb σ;have HB2:=ι (HW.o.trans (hb.mono HW.o.size));have y4:w2.cell? ⟨w.heap.size+1,4,none⟩=some (bv2):=xA q2 4;have y5:w2.cell? ⟨w.heap.size+1,5,none⟩=some (sv2):=xA q2 5
 have y6:w2.cell? ⟨w.heap.size+1,6,none⟩=some (.int .i64 x.given):=xA q2 6;have Q1:=ι q1;have Q2:=ι q2;clear hb q1 q2;go_wp2_with fail
 refine(HP2.o _ HB2.o).mono ?_;rintro e w3 ⟨rfl,hb⟩;have hsz:=xH Q2.o;have q1:=xD Q1.o hb ω;have q2:=xD Q2.o hb hsz;have HB3:=ι (HB2.o.trans (hb.mono HB2.o.size));have z0:w3.cell? ⟨w.heap.size,0,none⟩=some (.string a):=xA q1 0
 have z1:w3.cell? ⟨w.heap.size,1,none⟩=some (.string b):=xA q1 1;have z2:w3.cell? ⟨w.heap.size,2,none⟩=some (.string c):=xA q1 2;have z3:w3.cell? ⟨w.heap.size,3,none⟩=some (.int .i64 ep):=xA q1 3;have z7:w3.cell? ⟨w.heap.size,7,none⟩=some (.string bx):=xA q1 7
 have z8:w3.cell? ⟨w.heap.size,8,none⟩=some (.bool o1):=xA q1 8;have z9:w3.cell? ⟨w.heap.size,9,none⟩=some (.bool o2):=xA q1 9;have v0:w3.cell? ⟨w.heap.size+1,0,none⟩=some (.string a):=xA q2 0;have v1:w3.cell? ⟨w.heap.size+1,1,none⟩=some (.string b):=xA q2 1
 have v2:w3.cell? ⟨w.heap.size+1,2,none⟩=some (.string c):=xA q2 2;have v3:w3.cell? ⟨w.heap.size+1,3,none⟩=some (.int .i64 ep):=xA q2 3;have v7:w3.cell? ⟨w.heap.size+1,7,none⟩=some (.string bx):=xA q2 7;have v8:w3.cell? ⟨w.heap.size+1,8,none⟩=some (.bool o1):=xA q2 8
 have v9:w3.cell? ⟨w.heap.size+1,9,none⟩=some (.bool o2):=xA q2 9;clear hb q1 q2 y4 y5 y6;go_wp2_with fail
 go_ret;exact⟨rfl,HB3.o⟩
def SmC (n1 n2 k:Nat) (p:Prop) (e:Ending):Prop:=∃r,e=.returned (.bool r)/\(r=true->n1<=400/\n2<=100/\k<=100/\p)
theorem xNe (A1 A2:Option Addr) (n1 c1 n2 c2:Nat) (a b c bx f1 f2 f3 f4 f5:ByteArray) (ep rd:Int) (bv sv:Value) (x:uQ) (o1 o2:Bool) (w:World) (h:xKp w w.heap.size bv sv x) (hm:∀b∈x.boxes,b.zA.length<=9223372036854775807) (hl:x.boxes.length<=9223372036854775807) (hl2:x.subs.length<=9223372036854775807):
  Calls prog 6 #[.agg #[.slice A1 n1 c1,.slice A2 n2 c2],.agg #[.string a,.string b,.string c,.int .i64 ep,bv,sv,.int .i64 x.given,.string bx,.bool o1,.bool o2],.agg #[.string f1,.string f2,.string f3,.string f4,.string f5,.int .i64 rd]] w λe w'=>SmC n1 n2 a.size ((a.toList==[])=false->wP x=true) e/\ψ w w':=by
 have HP:Hid (∀W,ψ w W->Calls prog 23 #[.agg #[bv,sv,.int .i64 x.given]] W λe w'=>e=.returned (.bool (wP x))/\ψ W w'):=
  ι (λW hb=>kD bv sv x W ((h.below hb ν).more hb.size) hm hl hl2)
 have hb1:bv.oneCell'=true:=by obtain⟨A,c,rfl,_⟩:=h.boxes;rfl
 have hb2:sv.oneCell'=true:=by obtain⟨A,c,rfl,_⟩:=h.subs;rfl
 clear h hm hl hl2;generalize hR:wP x=R at HP⊢;have HRX:Hid (R=wP x):=ι hR.symm;clear hR
 have HW:=ι (qH (qH (qH (qH (Below.refl w.heap.size w) ν (.cells #[.slice A1 n1 c1,.slice A2 n2 c2] 25)) ν (.cells #[.string a,.string b,.string c,.int .i64 ep,bv,sv,.int .i64 x.given,.string bx,.bool o1,.bool o2] 32)) ν (.cells #[.string f1,.string f2,.string f3,.string f4,.string f5,.int .i64 rd] 36)) ν (.cells #[.string f3,.string f4,.string f5,.int .i64 rd] 34))
 have P3:Hid (((((w.alloc (.cells #[.slice A1 n1 c1,.slice A2 n2 c2] 25)).alloc (.cells #[.string a,.string b,.string c,.int .i64 ep,bv,sv,.int .i64 x.given,.string bx,.bool o1,.bool o2] 32)).alloc (.cells #[.string f1,.string f2,.string f3,.string f4,.string f5,.int .i64 rd] 36)).alloc (.cells #[.string f3,.string f4,.string f5,.int .i64 rd] 34)).heap[w.heap.size+1+1]?=some (.cells #[.string f1,.string f2,.string f3,.string f4,.string f5,.int .i64 rd] 36)):=ι (by have:=xO (xM ((w.alloc (.cells #[.slice A1 n1 c1,.slice A2 n2 c2] 25)).alloc (.cells #[.string a,.string b,.string c,.int .i64 ep,bv,sv,.int .i64 x.given,.string bx,.bool o1,.bool o2] 32)) (.cells #[.string f1,.string f2,.string f3,.string f4,.string f5,.int .i64 rd] 36)) (.cells #[.string f3,.string f4,.string f5,.int .i64 rd] 34);simpa only[vD] using this)
 have P4:Hid (((((w.alloc (.cells #[.slice A1 n1 c1,.slice A2 n2 c2] 25)).alloc (.cells #[.string a,.string b,.string c,.int .i64 ep,bv,sv,.int .i64 x.given,.string bx,.bool o1,.bool o2] 32)).alloc (.cells #[.string f1,.string f2,.string f3,.string f4,.string f5,.int .i64 rd] 36)).alloc (.cells #[.string f3,.string f4,.string f5,.int .i64 rd] 34)).heap[w.heap.size+1+1+1]?=some (.cells #[.string f3,.string f4,.string f5,.int .i64 rd] 34)):=ι (by have:=xM (((w.alloc (.cells #[.slice A1 n1 c1,.slice A2 n2 c2] 25)).alloc (.cells #[.string a,.string b,.string c,.int .i64 ep,bv,sv,.int .i64 x.given,.string bx,.bool o1,.bool o2] 32)).alloc (.cells #[.string f1,.string f2,.string f3,.string f4,.string f5,.int .i64 rd] 36)) (.cells #[.string f3,.string f4,.string f5,.int .i64 rd] 34);simpa only[vD] using this)
 obtain⟨r0,hr0⟩:∃r0,(a.toList==[])=r0:=⟨_,rfl⟩;have HR0:=ι hr0;rw[hr0]
 by_cases hn1:(n1:Int)<=400
 case neg=>
  go_enter func6,ntmps6;go_upto_region 2 with fail
  refine RG.yP (λW=>W=_) rfl ?_
  iterate 70
   apply RG.xJ
   ·rintro _ rfl
    first
     |(repeat go_step
       with_reducible exact RG.xC rfl
       done)
     |exact RG.xAn (by rfl) rfl rfl
   ·rfl
  refine RG.xS (λw4 hb4=>?_);subst hb4;go_wp2;go_ret;refine⟨⟨_,rfl,?_⟩,HW.o⟩
  first|exact True.intro|(intro h;first|(simp at h;done)|exact⟨HN.o.1,HN.o.2,ω,σ⟩)
 by_cases hn2:(n2:Int)<=100
 case neg=>
  go_enter func6,ntmps6;go_upto_region 2 with fail
  refine RG.yP (λW=>W=_) rfl ?_
  iterate 70
   apply RG.xJ
   ·rintro _ rfl
    first
     |(repeat go_step
       with_reducible exact RG.xC rfl
       done)
     |exact RG.xAn (by rfl) rfl rfl
   ·rfl
  refine RG.xS (λw4 hb4=>?_);subst hb4;go_wp2;go_ret;refine⟨⟨_,rfl,?_⟩,HW.o⟩
  first|exact True.intro|(intro h;first|(simp at h;done)|exact⟨HN.o.1,HN.o.2,ω,σ⟩)
 have HN:Hid (n1<=400/\n2<=100):=ι ⟨ω,ω⟩;have hq:(¬(a.size:Int)<=100)∨((a.size:Int)<=100/\¬(b.size:Int)<=100)∨((a.size:Int)<=100/\(b.size:Int)<=100/\¬(c.size:Int)<=100)∨((a.size:Int)<=100/\(b.size:Int)<=100/\(c.size:Int)<=100):=ω
 have h1q:(¬(f1.size:Int)<=100)∨((f1.size:Int)<=100/\¬(f2.size:Int)<=100)∨((f1.size:Int)<=100/\(f2.size:Int)<=100):=ω;rcases hq with ha|⟨ha,hb⟩|⟨ha,hb,hc⟩|⟨ha,hb,hc⟩
 rotate_right
 ·cases r0 with
  |true=>
   rcases h1q with h1|⟨h1,h2⟩|⟨h1,h2⟩
   all_goals
    go_enter func6,ntmps6;go_upto_region 2 with fail
    refine RG.yP (λW=>W=_) rfl ?_
    iterate 70
     apply RG.xJ
     ·rintro _ rfl
      first
       |(repeat go_step
         with_reducible exact RG.xC rfl
         done)
       |exact RG.xAn (by rfl) rfl rfl
     ·rfl
    refine RG.xS (λw4 hb4=>?_);subst hb4;go_wp2;go_ret;refine⟨⟨_,rfl,?_⟩,HW.o⟩
    first|exact True.intro|(intro h;first|(simp at h;done)|exact⟨HN.o.1,HN.o.2,ω,σ⟩)
  |false=>
   cases R
   ·go_enter func6,ntmps6;go_upto_region 2 with fail
    repeat (first|go_big_skip|go_step)
    refine(HP.o _ HW.o).mono ?_;rintro e w2 ⟨rfl,hb⟩;have HB2:=ι (HW.o.trans (hb.mono HW.o.size));clear hb;repeat (first|go_big_skip|go_step)
    go_wp2;go_ret;refine⟨⟨_,rfl,?_⟩,HB2.o⟩
    first|exact True.intro|(intro h;first|(simp at h;done)|exact⟨HN.o.1,HN.o.2,ω,σ⟩)
   ·rcases h1q with h1|⟨h1,h2⟩|⟨h1,h2⟩
    all_goals
     go_enter func6,ntmps6;go_upto_region 2 with fail
     repeat (first|go_big_skip|go_step)
     refine(HP.o _ HW.o).mono ?_;rintro e w2 ⟨rfl,hb⟩;have p3:=xD P3.o hb σ;have p4:=xD P4.o hb σ;have y0:w2.cell? ⟨w.heap.size+1+1,0,none⟩=some (.string f1):=xA p3 0;have y1:w2.cell? ⟨w.heap.size+1+1,1,none⟩=some (.string f2):=xA p3 1
     have z0:w2.cell? ⟨w.heap.size+1+1+1,0,none⟩=some (.string f3):=xA p4 0;have z1:w2.cell? ⟨w.heap.size+1+1+1,1,none⟩=some (.string f4):=xA p4 1;have z2:w2.cell? ⟨w.heap.size+1+1+1,2,none⟩=some (.string f5):=xA p4 2;have HB2:=ι (HW.o.trans (hb.mono HW.o.size))
     clear hb p3 p4;repeat (first|go_big_skip|go_step)
     go_wp2;go_ret;refine⟨⟨_,rfl,?_⟩,HB2.o⟩
     first|exact True.intro|(intro h;first|(simp at h;done)|exact⟨HN.o.1,HN.o.2,ω,σ⟩)
 all_goals
  go_enter func6,ntmps6;go_upto_region 2 with fail
  refine RG.yP (λW=>W=_) rfl ?_
  iterate 70
   apply RG.xJ
   ·rintro _ rfl
    first
     |(repeat go_step
       with_reducible exact RG.xC rfl
       done)
     |exact RG.xAn (by rfl) rfl rfl
   ·rfl
  refine RG.xS (λw4 hb4=>?_);subst hb4;go_wp2;go_ret;refine⟨⟨_,rfl,?_⟩,HW.o⟩
  first|exact True.intro|(intro h;first|(simp at h;done)|exact⟨HN.o.1,HN.o.2,ω,σ⟩)
end Go.Proofs.IX
namespace Go.Proofs.IM
open Go.RowKit MM BU Mailsack SV
theorem lawz (K:List Value->Bs->World->Prop) (N1 N2:Prop) (line tag nm NM:Bs) (rest:List Tok) (nd:Int) (fid:FuncId) (mt:Bool) (w:World) (hK:∀vs l,Stb (K vs l)) (hl:line.length<=1000) (hT:rV [line] []=some ((0,tag)::(0,nm)::rest)) (htag:tag≠[42]) (hnm:upP nm=NM) (hid:NM≠[85,73,68]) (htl:tag.length<=1000000) (hnl:nm.length<=1000000)
  (hin:(NM,Value.agg #[.int .i64 nd,.func (.func fid) #[] #[]])∈uX) (huq:∀u,(NM,u)∈uX->u=Value.agg #[.int .i64 nd,.func (.func fid) #[] #[]]) (hE:∀args W,(callFunc fid args).run prog W=.ok (.enter fid args) W)
  (hme:∀b sl W,W.heap[b]?=some (.cells #[.slice none 0 0,.slice none 0 0,.string ⟨#[]⟩,.string ⟨#[]⟩,.string ⟨#[]⟩,.int .i64 0,.slice none 0 0,.slice none 0 0,.int .i64 0,.string ⟨#[]⟩,.bool false,.bool false,.string ⟨#[]⟩,.string ⟨#[]⟩,.string ⟨#[]⟩,.string ⟨#[]⟩,.string ⟨#[]⟩,.int .i64 0,sl,.bool false,.pointer none,.slice none 0 0] 129 (0,0))->Calls prog 52 #[xQj b,.int .i64 nd] W λe w'=>e=.returned (.bool mt)/\w'=W) (hmf:mt=false->N2)
  (hrun:mt=true->∀b sl W,Cmd b #[.slice none 0 0,.slice none 0 0,.string ⟨#[]⟩,.string ⟨#[]⟩,.string ⟨#[]⟩,.int .i64 0,.slice none 0 0,.slice none 0 0,.int .i64 0,.string ⟨#[]⟩,.bool false,.bool false,.string ⟨#[]⟩,.string ⟨#[]⟩,.string ⟨#[]⟩,.string ⟨#[]⟩,.string ⟨#[]⟩,.int .i64 0,sl,.bool false,.pointer none,.slice none 0 0] [] W->RK.RdR 2 tkF W W.heap.size sl rest->Calls prog fid #[xQj b] W (xGy K N1 N2 b (.string ⟨#[]⟩) (.string ⟨#[]⟩) (.string ⟨#[]⟩) (.string ⟨#[]⟩) (.string ⟨#[]⟩) (.int .i64 0) sl W)):
  Calls prog 9 #[.agg #[.slice none 0 0,.slice none 0 0],.agg #[.string ⟨#[]⟩,.string ⟨#[]⟩,.string ⟨#[]⟩,.int .i64 0,.slice none 0 0,.slice none 0 0,.int .i64 0,.string ⟨#[]⟩,.bool false,.bool false],xR line,.agg #[.string ⟨#[]⟩,.string ⟨#[]⟩,.string ⟨#[]⟩,.string ⟨#[]⟩,.string ⟨#[]⟩,.int .i64 0]] w (xBt K N1 N2 (.slice none 0 0) (.slice none 0 0) (.string ⟨#[]⟩) (.string ⟨#[]⟩) (.string ⟨#[]⟩) (.int .i64 0) (.slice none 0 0) (.slice none 0 0) (.int .i64 0) (.string ⟨#[]⟩) (.bool false) (.bool false) tag w):=
 xCt K N1 N2 (.slice none 0 0) (.slice none 0 0) (.string ⟨#[]⟩) (.string ⟨#[]⟩) (.string ⟨#[]⟩) (.int .i64 0) (.slice none 0 0) (.slice none 0 0) (.int .i64 0) (.string ⟨#[]⟩) (.bool false) (.bool false) (.string ⟨#[]⟩) (.string ⟨#[]⟩) (.string ⟨#[]⟩) (.string ⟨#[]⟩) (.string ⟨#[]⟩) (.int .i64 0) tag line w hK δ (λW xv hb hx=>xQg K N1 N2 (.slice none 0 0) (.slice none 0 0) (.string ⟨#[]⟩) (.string ⟨#[]⟩) (.string ⟨#[]⟩) (.int .i64 0) (.slice none 0 0) (.slice none 0 0) (.int .i64 0) (.string ⟨#[]⟩) (.bool false) (.bool false) (.string ⟨#[]⟩) (.string ⟨#[]⟩) (.string ⟨#[]⟩) (.string ⟨#[]⟩) (.string ⟨#[]⟩) (.int .i64 0) xv (.slice none 0 0) [line] [] tag nm NM rest nd fid mt W hK hx (VB.xEy W _) (λx hx=>by rw[List.mem_singleton.1 hx];omega) σ σ δ hT htag hnm hid htl hnl hin huq hE hme hmf (λhm b sl W2 _ _ hc ha=>hrun hm b sl W2 hc ha))
theorem stbP {P:Prop}:Stb (λ_=>P):=⟨λh _=>h,λ_ h _ _=>h⟩
theorem yDm (w:World):Calls prog 9 #[.agg #[.slice none 0 0,.slice none 0 0],.agg #[.string ⟨#[]⟩,.string ⟨#[]⟩,.string ⟨#[]⟩,.int .i64 0,.slice none 0 0,.slice none 0 0,.int .i64 0,.string ⟨#[]⟩,.bool false,.bool false],.string ⟨#[97,32,99,97,112,97,98,105,108,105,116,121]⟩,.agg #[.string ⟨#[]⟩,.string ⟨#[]⟩,.string ⟨#[]⟩,.string ⟨#[]⟩,.string ⟨#[]⟩,.int .i64 0]] w λe w'=>
   e=.returned (.tuple #[.agg #[.slice none 0 0,.slice none 0 0],.agg #[.string ⟨#[]⟩,.string ⟨#[]⟩,.string ⟨#[]⟩,.int .i64 0,.slice none 0 0,.slice none 0 0,.int .i64 0,.string ⟨#[]⟩,.bool false,.bool false],.string ⟨#[42,32,67,65,80,65,66,73,76,73,84,89,32,73,77,65,80,52,114,101,118,49,13,10,97,32,79,75,13,10]⟩])/\ψ w w':=by
 refine(lawz (λvs l _=>vs=[.slice none 0 0,.slice none 0 0,.string ⟨#[]⟩,.string ⟨#[]⟩,.string ⟨#[]⟩,.int .i64 0,.slice none 0 0,.slice none 0 0,.int .i64 0,.string ⟨#[]⟩,.bool false,.bool false]/\l=[42,32]++wCap++[13,10]) False False [97,32,99,97,112,97,98,105,108,105,116,121] [97] [99,97,112,97,98,105,108,105,116,121] [67,65,80,65,66,73,76,73,84,89] [] 0 107 true w (λ_ _=>stbP) δ δ δ δ δ δ δ
  (List.mem_of_getElem? (i:=0) rfl) (λv hv=>by simpa[uX] using hv) (λargs W=>enters_of func107 κ rfl args W) (λb sl W h=>xIa b W) (λh=>by cases h) (λ_ b sl W hc ha=>by
   obtain⟨A,c,rfl,_⟩:=ha;refine(xHj b _ A c W hc rfl).mono ?_;rintro e w' ⟨rfl,v,hc2,hb2⟩;exact .inl ⟨_,_,_,_,_,_,_,_,_,_,_,_,_,_,_,rfl,hc2,⟨rfl,rfl⟩,δ,δ,hb2⟩)).mono ?_
 rintro e w' ⟨hb,h⟩;rcases h with ⟨v0,v1,v2,v3,v4,v5,v6,v7,v8,v9,v10,v11,l,rfl,⟨hv,hl⟩,_⟩|⟨_,h⟩|⟨_,h⟩
 ·simp only[List.cons.injEq] at hv;obtain⟨rfl,rfl,rfl,rfl,rfl,rfl,rfl,rfl,rfl,rfl,rfl,rfl,_⟩:=hv;subst hl;exact⟨rfl,hb⟩
 ·exact h.elim
 ·exact h.elim
theorem yDk (w:World):Calls prog 9 #[.agg #[.slice none 0 0,.slice none 0 0],.agg #[.string ⟨#[]⟩,.string ⟨#[]⟩,.string ⟨#[]⟩,.int .i64 0,.slice none 0 0,.slice none 0 0,.int .i64 0,.string ⟨#[]⟩,.bool false,.bool false],.string ⟨#[98,32,76,79,71,79,85,84]⟩,.agg #[.string ⟨#[]⟩,.string ⟨#[]⟩,.string ⟨#[]⟩,.string ⟨#[]⟩,.string ⟨#[]⟩,.int .i64 0]] w λe w'=>
   e=.returned (.tuple #[.agg #[.slice none 0 0,.slice none 0 0],.agg #[.string ⟨#[]⟩,.string ⟨#[]⟩,.string ⟨#[]⟩,.int .i64 0,.slice none 0 0,.slice none 0 0,.int .i64 0,.string ⟨#[]⟩,.bool false,.bool true],.string ⟨#[42,32,66,89,69,13,10,98,32,79,75,13,10]⟩])/\ψ w w':=by
 refine(lawz (λvs l _=>vs=[.slice none 0 0,.slice none 0 0,.string ⟨#[]⟩,.string ⟨#[]⟩,.string ⟨#[]⟩,.int .i64 0,.slice none 0 0,.slice none 0 0,.int .i64 0,.string ⟨#[]⟩,.bool false,.bool true]/\l=[42,32]++[66,89,69]++[13,10]) False False [98,32,76,79,71,79,85,84] [98] [76,79,71,79,85,84] [76,79,71,79,85,84] [] 0 109 true w (λ_ _=>stbP) δ δ δ δ δ δ δ
  (List.mem_of_getElem? (i:=2) rfl) (λv hv=>by simpa[uX] using hv) (λargs W=>enters_of func109 κ rfl args W) (λb sl W h=>xIa b W) (λh=>by cases h) (λ_ b sl W hc ha=>by
   obtain⟨A,c,rfl,_⟩:=ha;refine(xSd b _ A c W hc rfl).mono ?_;rintro e w' ⟨rfl,v,hc2,hb2⟩;exact .inl ⟨_,_,_,_,_,_,_,_,_,_,_,_,_,_,_,rfl,hc2,⟨rfl,rfl⟩,δ,δ,hb2⟩)).mono ?_
 rintro e w' ⟨hb,h⟩;rcases h with ⟨v0,v1,v2,v3,v4,v5,v6,v7,v8,v9,v10,v11,l,rfl,⟨hv,hl⟩,_⟩|⟨_,h⟩|⟨_,h⟩
 ·simp only[List.cons.injEq] at hv;obtain⟨rfl,rfl,rfl,rfl,rfl,rfl,rfl,rfl,rfl,rfl,rfl,rfl,_⟩:=hv;subst hl;exact⟨rfl,hb⟩
 ·exact h.elim
 ·exact h.elim
theorem xW8 (w:World):Calls prog 9 #[.agg #[.slice none 0 0,.slice none 0 0],.agg #[.string ⟨#[]⟩,.string ⟨#[]⟩,.string ⟨#[]⟩,.int .i64 0,.slice none 0 0,.slice none 0 0,.int .i64 0,.string ⟨#[]⟩,.bool false,.bool false],.string ⟨#[99,32,70,69,84,67,72,32,49,32,70,76,65,71,83]⟩,.agg #[.string ⟨#[]⟩,.string ⟨#[]⟩,.string ⟨#[]⟩,.string ⟨#[]⟩,.string ⟨#[]⟩,.int .i64 0]] w λe w'=>
   e=.returned (.tuple #[.agg #[.slice none 0 0,.slice none 0 0],.agg #[.string ⟨#[]⟩,.string ⟨#[]⟩,.string ⟨#[]⟩,.int .i64 0,.slice none 0 0,.slice none 0 0,.int .i64 0,.string ⟨#[]⟩,.bool false,.bool false],.string ⟨#[99,32,66,65,68,13,10]⟩])/\ψ w w':=by
 refine(lawz (λ_ _ _=>False) False True [99,32,70,69,84,67,72,32,49,32,70,76,65,71,83] [99] [70,69,84,67,72] [70,69,84,67,72] [(0,[49]),(0,[70,76,65,71,83])] 3 125 false w (λ_ _=>stbP) δ δ δ δ δ δ δ
  (List.mem_of_getElem? (i:=18) rfl) (λv hv=>by simpa[uX] using hv) (λargs W=>enters_of func125 κ rfl args W) (λb sl W h=>xW1 b W (xA h 2)) (λ_=>trivial) (λh=>by cases h)).mono ?_
 rintro e w' ⟨hb,h⟩;rcases h with ⟨v0,v1,v2,v3,v4,v5,v6,v7,v8,v9,v10,v11,l,_,h,_⟩|⟨_,h⟩|⟨rfl,_⟩
 ·exact h.elim
 ·exact h.elim
 ·exact⟨rfl,hb⟩
theorem xD7 (w:World):Calls prog 8 #[] w λe w'=>e=.returned (.bool true)/\ψ w w':=by
 have Lcap:=ι (λW=>yDm W);obtain⟨rcap,hcap⟩:∃r:ByteArray,(⟨#[42,32,67,65,80,65,66,73,76,73,84,89,32,73,77,65,80,52,114,101,118,49,13,10,97,32,79,75,13,10]⟩:ByteArray)=r:=⟨_,rfl⟩;rw[hcap] at Lcap
 have ecap:(rcap.toList==[42,32,67,65,80,65,66,73,76,73,84,89,32,73,77,65,80,52,114,101,118,49,13,10,97,32,79,75,13,10])=true:=by rw[<-hcap,ByteArray.toList_eq];rfl
 clear hcap;have Lout:=ι (λW=>yDk W);obtain⟨rout,hout⟩:∃r:ByteArray,(⟨#[42,32,66,89,69,13,10,98,32,79,75,13,10]⟩:ByteArray)=r:=⟨_,rfl⟩;rw[hout] at Lout;have eout:(rout.toList==[42,32,66,89,69,13,10,98,32,79,75,13,10])=true:=by rw[<-hout,ByteArray.toList_eq];rfl
 clear hout;have xY3:=ι (λW=>xW8 W);obtain⟨rfetch,xWn⟩:∃r:ByteArray,(⟨#[99,32,66,65,68,13,10]⟩:ByteArray)=r:=⟨_,rfl⟩;rw[xWn] at xY3;have efetch:(rfetch.toList==[99,32,66,65,68,13,10])=true:=by rw[<-xWn,ByteArray.toList_eq];rfl
 clear xWn;go_enter func8,ntmps8;go_wp2_with fail
 refine(Lcap.o _).mono ?_;rintro e w1 ⟨rfl,hb1⟩;have HB1:=ι hb1;clear hb1;go_wp2_with fail
 refine(Lout.o _).mono ?_;rintro e w2 ⟨rfl,hb2⟩;have ha1:=jO (jO (Below.refl w1.heap.size w1) ν (xW (.slice none 0 0) (.slice none 0 0))) ν xHu;have p1:=xD (zK w1 (xW (.slice none 0 0) (.slice none 0 0)) xHu) hb2 σ
 have HB2:=ι (HB1.o.trans ((ha1.trans (hb2.mono ha1.size)).mono HB1.o.size));have P1:=ι p1;clear hb2 ha1 p1;go_wp2_with fail
 refine(xY3.o _).mono ?_;rintro e w3 ⟨rfl,hb3⟩
 have ha2:=jO (jO (Below.refl w2.heap.size w2) ν (xW (.slice none 0 0) (.slice none 0 0))) ν (wT (.string ⟨#[]⟩) (.string ⟨#[]⟩) (.string ⟨#[]⟩) (.int .i64 0) (.slice none 0 0) (.slice none 0 0) (.int .i64 0) (.string ⟨#[]⟩) (.bool false) (.bool true))
 have p2:=xD (zK w2 (xW (.slice none 0 0) (.slice none 0 0)) (wT (.string ⟨#[]⟩) (.string ⟨#[]⟩) (.string ⟨#[]⟩) (.int .i64 0) (.slice none 0 0) (.slice none 0 0) (.int .i64 0) (.string ⟨#[]⟩) (.bool false) (.bool true))) hb3 σ;have xO8:=ha2.trans (hb3.mono ha2.size)
 have HB3:=ι (HB2.o.trans (xO8.mono HB2.o.size));have p1:=xD P1.o xO8 (xH P1.o);have ha3:=jO (jO (Below.refl w3.heap.size w3) ν (xW (.slice none 0 0) (.slice none 0 0))) ν xHu;have HB4:=ι (HB3.o.trans (ha3.mono HB3.o.size))
 have c1:((w3.alloc (xW (.slice none 0 0) (.slice none 0 0))).alloc xHu).cell? ⟨w1.heap.size+1,9,none⟩=some (.bool false):=xA (xO (xO p1 _) _) 9
 have c2:((w3.alloc (xW (.slice none 0 0) (.slice none 0 0))).alloc xHu).cell? ⟨w2.heap.size+1,9,none⟩=some (.bool true):=xA (xO (xO p2 _) _) 9;clear hb3 ha2 p2 xO8 p1 P1 HB1 HB2 HB3 ha3 Lcap Lout xY3;go_wp2;go_ret;exact⟨rfl,HB4.o⟩
end Go.Proofs.IM
namespace Go.Proofs.IM
open Go.RowKit MM BU Mailsack SV RK DS IX BK Go.Proofs.VA
theorem yAm:(⟨((xOg true:List UInt8)++([116]:List UInt8)++([32,79,75]:List UInt8)++([13,10]:List UInt8)).toArray⟩:ByteArray)=(⟨#[42,32,68,79,78,69,13,10]⟩:ByteArray)++(⟨#[116,32,79,75,13,10]⟩:ByteArray):=by
 apply ByteArray.ext;simp[xOg]
theorem xZz (d0 d1:Value) (d:Dk) (su sp so bx f1 f2 f3 f4 f5 u pw:ByteArray) (se rd:Int) (bv sv:Value) (x:uQ) (o1 o2:Bool) (w:World) (hs:RdS w w.heap.size d0 d.secs) (hcw:RdW w w.heap.size d1 d.cache)
  (hx:xKp w w.heap.size bv sv x) (hm:∀b∈x.boxes,b.zA.length<=9223372036854775807) (hl:x.boxes.length<=9223372036854775807) (hl2:x.subs.length<=9223372036854775807) (hu:u.size<=9223372036854775807) (hp:pw.size<=9223372036854775807) (hT:VaT w):
  Calls prog 4 #[.agg #[d0,d1],.agg #[.string su,.string sp,.string so,.int .i64 se,bv,sv,.int .i64 x.given,.string bx,.bool o1,.bool o2],.string u,.string pw,.agg #[.string f1,.string f2,.string f3,.string f4,.string f5,.int .i64 rd]] w λe w'=>e=.returned (.bool true)/\ψ w w':=by
 have HS0:=ι (And.intro hs hcw);have HT:=ι hT;obtain⟨A1,c1,rfl,_,_⟩:=hs;obtain⟨A2,c2,rfl,_,_⟩:=hcw;obtain⟨Ab,cb,rfl,_⟩:=hx.boxes;obtain⟨As,cs,rfl,_⟩:=hx.subs;obtain⟨nb,hnb⟩:∃n,x.boxes.length=n:=⟨_,rfl⟩;obtain⟨ns,hns⟩:∃n,x.subs.length=n:=⟨_,rfl⟩
 obtain⟨n1,hn1⟩:∃n,d.secs.length=n:=⟨_,rfl⟩;obtain⟨n2,hn2⟩:∃n,d.cache.length=n:=⟨_,rfl⟩;have hx':=hx;rw[hnb,hns] at hx';have HX:=ι (And.intro hx' (And.intro hm (And.intro hl hl2)));have HXF:=ι (And.intro hnb hns);rw[hnb,hns];rw[hn1,hn2] at HS0⊢;have HN:=ι (And.intro hn1 hn2)
 clear hn1 hn2 hnb hns hx hx' hm hl hl2 hT;have HSM:=ι (λW (hb:ψ w W)=>xNe A1 A2 n1 c1 n2 c2 su sp so bx f1 f2 f3 f4 f5 se rd (.slice Ab nb cb) (.slice As ns cs) x o1 o2 W ((HX.o.1.below hb ν).more hb.size) HX.o.2.1 HX.o.2.2.1 HX.o.2.2.2)
 have HPR:=ι (bk3 w (.cells #[.slice A1 n1 c1,.slice A2 n2 c2] 25) (.cells #[.string su,.string sp,.string so,.int .i64 se,.slice Ab nb cb,.slice As ns cs,.int .i64 x.given,.string bx,.bool o1,.bool o2] 32) (.cells #[.string f1,.string f2,.string f3,.string f4,.string f5,.int .i64 rd] 36))
 go_enter func4,ntmps4;go_upto_region 1 with fail
 obtain⟨w1,hw1⟩:∃w1,((w.alloc (.cells #[.slice A1 n1 c1,.slice A2 n2 c2] 25)).alloc (.cells #[.string su,.string sp,.string so,.int .i64 se,.slice Ab nb cb,.slice As ns cs,.int .i64 x.given,.string bx,.bool o1,.bool o2] 32)).alloc (.cells #[.string f1,.string f2,.string f3,.string f4,.string f5,.int .i64 rd] 36)=w1:=⟨_,rfl⟩
 rw[hw1] at HPR;rw[hw1];clear hw1;obtain⟨d0,d1⟩:=zG (HPR.o.k 0 _ rfl);obtain⟨s0,s1,s2,s3,s4,s5,s6,s7,s8,s9⟩:=xBi (HPR.o.k 1 _ rfl);obtain⟨r0,r1,r2,r3,r4,r5⟩:=yEc (HPR.o.k 2 _ rfl);go_wp2_with fail
 refine(HSM.o _ HPR.o.bel).mono ?_;rintro e w2 ⟨⟨r,rfl,hr⟩,hb2⟩;have HP2:=ι (HPR.o.below hb2);have HR:=ι hr;clear d0 d1 s0 s1 s2 s3 s4 s5 s6 s7 s8 s9 r0 r1 r2 r3 r4 r5 hb2 hr HSM HPR;have HPR:=HP2;clear HP2;cases r with
 |false=>
  go_wp2_with fail
  refine(xD7 _).mono ?_;rintro e w9 ⟨rfl,hb9⟩;have HB:=ι (HPR.o.bel.trans (hb9.mono HPR.o.bel.size));clear hb9;go_wp2;go_ret;exact⟨rfl,HB.o⟩
 |true=>
  have HBD:=ι (HR.o rfl);have HD:Hid (RdD w w.heap.size (.slice A1 n1 c1) (.slice A2 n2 c2) d):=ι ⟨HS0.o.1,HS0.o.2,by rw[HN.o.1];have:=HBD.o.1;omega,by rw[HN.o.2];have:=HBD.o.2.1;omega⟩;have HP3:=ι (HPR.o.below (φ w2 (.cells #[.string u,.string pw] 9)))
  have HRW:Hid (RdS (w2.alloc (.cells #[.string u,.string pw] 9)) (w2.alloc (.cells #[.string u,.string pw] 9)).heap.size (.slice (some ⟨w2.heap.size,0,none⟩) 2 2) [u.data.toList,pw.data.toList]):=ι (SH.yBd w2 u pw)
  have HWD:=ι (xU0 _ [u.data.toList,pw.data.toList] _ HRW.o σ (by intro y hy;simp at hy;rcases hy with rfl|rfl<;>simp<;>assumption));clear HPR;go_wp2_with fail
  refine HWD.o.mono ?_;rintro e w3 ⟨⟨r,rfl,hr⟩,hw3⟩;have HR3:=ι hr;have HPR:Hid (Bk w _ w3):=ι (by rw[hw3];exact HP3.o);clear HWD HRW HP3 hr hw3;cases r with
  |false=>
   go_wp2_with fail
   refine(xD7 _).mono ?_;rintro e w9 ⟨rfl,hb9⟩;have HB:=ι (HPR.o.bel.trans (hb9.mono HPR.o.bel.size));clear hb9;go_wp2;go_ret;exact⟨rfl,HB.o⟩
  |true=>
   have HWU:=ι (HR3.o rfl u.data.toList σ);have HWP:=ι (HR3.o rfl pw.data.toList σ);have s0:=xKb (HPR.o.k 1 _ rfl);cases hsu:(su.toList==[]) with
   |true=>
    go_wp2_with fail
    refine(xD7 _).mono ?_;rintro e w9 ⟨rfl,hb9⟩;have HB:=ι (HPR.o.bel.trans (hb9.mono HPR.o.bel.size));clear hb9;go_wp2;go_ret;exact⟨rfl,HB.o⟩
   |false=>
    have hu6:u.size<=60:=by have:=HWU.o.2.2;simpa using this
    have hp6:pw.size<=60:=by have:=HWP.o.2.2;simpa using this
    have g1:¬9223372036854775807<10+u.size:=ω;have g2:¬9223372036854775807<10+u.size+1:=ω;have g3:¬9223372036854775807<10+u.size+1+pw.size:=ω;have hcl:d.cache.length<=10000:=by rw[HN.o.2];have:=HBD.o.2.1;omega
    have hsz:su.size<=1000:=by have:=HBD.o.2.2.1;omega
    have HDO1:=ι (λW (hb:ψ w W)=>xXg (.slice A1 n1 c1) (.slice A2 n2 c2) (.slice Ab nb cb) (.slice As ns cs) su sp so bx f1 f2 f3 f4 f5 se rd x o1 o2 d u pw W ((HD.o.below hb ν).more hb.size) ((HX.o.1.below hb ν).more hb.size) hsu HWU.o HWP.o hsz hcl (HT.o.below hb))
    have HDO2:=ι (λW (hb:ψ w W)=>xXf (.slice A1 n1 c1) (.slice A2 n2 c2) (.slice Ab nb cb) (.slice As ns cs) su sp so bx f1 f2 f3 f4 f5 se rd x o1 o2 d u W ((HD.o.below hb ν).more hb.size) ((HX.o.1.below hb ν).more hb.size) HX.o.2.2.1 HX.o.2.1 HX.o.2.2.2 hsu HWU.o hsz hcl (HT.o.below hb))
    have yEm:=ι (λW (hb:ψ w W)=>yE8 (.slice A1 n1 c1) (.slice A2 n2 c2) (.slice Ab nb cb) (.slice As ns cs) su sp so bx f1 f2 f3 f4 f5 se rd x o1 o2 d W ((HD.o.below hb ν).more hb.size) ((HX.o.1.below hb ν).more hb.size) hsu hsz hcl (HT.o.below hb))
    have HV1:=ι (λW (hb:ψ w W)=>xFh (.slice A1 n1 c1) (.slice A2 n2 c2) d su u pw f3 f4 f5 rd W ((HD.o.below hb ν).more hb.size) hsz ω ω hcl (HT.o.below hb).se.sha)
    have hv2:=λW (hb:ψ w W)=>xFg (.slice A1 n1 c1) (.slice A2 n2 c2) d su sp so u f3 f4 f5 se rd (.slice Ab nb cb) (.slice As ns cs) x W ((HD.o.below hb ν).more hb.size) ((HX.o.1.below hb ν).more hb.size) HX.o.2.2.1 HX.o.2.1 HX.o.2.2.2 hsz ω hcl (HT.o.below hb).se.sha
    have hv3:=λW (hb:ψ w W)=>xKz (.slice A1 n1 c1) (.slice A2 n2 c2) d su sp so f2 se x.given Ab As nb cb ns cs W ((HD.o.below hb ν).more hb.size) hsz hcl (HT.o.below hb);have HB1:=ι (λh=>xUa (d:=d) (u:=su) (old:=u) (pw:=pw) (xI:=f3) (xE:=f4) (r:=rd) h)
    have HB2:=ι (λh=>xU8 (d:=d) (u:=su) (x:=x) (pw:=u) (xI:=f3) (xE:=f4) (fp:=f5) (r:=rd) h);have HB3:=ι (λh=>xU6 (d:=d) (u:=su) (xL:=sp) (old:=so) (once:=f2) (ep:=se) h)
    obtain⟨mu,mp,mo,me,M3,M4,i3,j3,i4,j4,mg,heq2,hf2⟩:=xGx.flat (P:=λW Q=>ψ w W->Calls prog 20 #[.agg #[.slice A1 n1 c1,.slice A2 n2 c2],jZ su sp so se (.slice Ab nb cb) (.slice As ns cs) x.given,.string u,SH.xAb f3 f4 f5 rd] W Q) (λw Q Q' h1 h2 hb=>(h1 hb).mono h2) hv2
    obtain⟨nu,np,no,ne,N3,N4,h3,l3,h4,l4,ng,lb,heq3,hf3⟩:=xGw.flat (P:=λW Q=>ψ w W->Calls prog 21 #[.agg #[.slice A1 n1 c1,.slice A2 n2 c2],jZ su sp so se (.slice Ab nb cb) (.slice As ns cs) x.given,.string f2] W Q) (λw Q Q' h1 h2 hb=>(h1 hb).mono h2) hv3;have HV2:=ι hf2
    have HV3:=ι hf3;generalize (xKj (zQ d su) u f3 f4 f5 rd).vQ=te at HDO2 heq2;generalize xU7 d su so se=vo at yEm heq3;generalize xOz d su so se=vl at yEm heq3;generalize xN3 d su u pw f3 f4 rd=e1 at HDO1 HV1 HB1;generalize xUb d su u pw f3 f4 rd=D1 at HDO1 HV1 HB1
    generalize xP0 d su x u f3 f4 f5 rd=e2 at HDO2 HV2 HB2 heq2;generalize uY d (xR7 d su x u f3 f4 f5 rd)=D2 at HDO2 HV2 HB2;generalize xIy d su sp so f2 se=e3 at yEm HV3 HB3 heq3;generalize xR6 d su sp so f2 se=D3 at yEm HV3 HB3
    obtain⟨t1,ht1⟩:∃t:ByteArray,(if e1=0 then(⟨#[116,32,79,75,13,10]⟩:ByteArray) else⟨#[116,32,78,79,13,10]⟩)=t:=⟨_,rfl⟩;obtain⟨t2,ht2⟩:∃t:ByteArray,(if e2=0 then(⟨#[116,32,79,75,13,10]⟩:ByteArray) else⟨#[116,32,78,79,13,10]⟩)=t:=⟨_,rfl⟩
    obtain⟨t3,ht3⟩:∃t:ByteArray,(if e3=0 then(⟨(xOg vl++[116]++[32,79,75]++[13,10]).toArray⟩:ByteArray) else⟨#[116,32,78,79,13,10]⟩)=t:=⟨_,rfl⟩;obtain⟨p2,hp2⟩:∃p,(if e2=0 then f5 else sp)=p:=⟨_,rfl⟩;obtain⟨o2',ho2⟩:∃p,(if e2=0 then sp else so)=p:=⟨_,rfl⟩
    obtain⟨e2',he2⟩:∃p,(if e2=0 then te else se)=p:=⟨_,rfl⟩;obtain⟨o3',ho3⟩:∃p,(if e3=0 then vo else so)=p:=⟨_,rfl⟩
    have hS2:(if e2=0 then[.string su,.string f5,.string sp,.int .i64 te,.slice Ab nb cb,.slice As ns cs,.int .i64 x.given,.string bx,.bool o1,.bool o2] else[.string su,.string sp,.string so,.int .i64 se,.slice Ab nb cb,.slice As ns cs,.int .i64 x.given,.string bx,.bool o1,.bool o2]:List Value)=[.string su,.string p2,.string o2',.int .i64 e2',.slice Ab nb cb,.slice As ns cs,.int .i64 x.given,.string bx,.bool o1,.bool o2]:=by rw[<-hp2,<-ho2,<-he2];split<;>rfl
    have hS3:(if e3=0 then[.string su,.string sp,.string vo,.int .i64 se,.slice Ab nb cb,.slice As ns cs,.int .i64 x.given,.string bx,.bool o1,.bool o2] else[.string su,.string sp,.string so,.int .i64 se,.slice Ab nb cb,.slice As ns cs,.int .i64 x.given,.string bx,.bool o1,.bool o2]:List Value)=[.string su,.string sp,.string o3',.int .i64 se,.slice Ab nb cb,.slice As ns cs,.int .i64 x.given,.string bx,.bool o1,.bool o2]:=by rw[<-ho3];split<;>rfl
    rw[ht1] at HDO1;rw[ht2,hS2] at HDO2;rw[ht3,hS3] at yEm;have HE1:Hid ((e1=0->t1=⟨#[116,32,79,75,13,10]⟩)/\(e1≠0->t1=⟨#[116,32,78,79,13,10]⟩)):=ι ⟨λh=>by rw[<-ht1,if_pos h],λh=>by rw[<-ht1,if_neg h]⟩
    have HE2:Hid ((e2=0->t2=⟨#[116,32,79,75,13,10]⟩/\su=mu/\p2=mp/\o2'=mo/\e2'=me/\Ab=M3/\nb=i3/\cb=j3/\As=M4/\ns=i4/\cs=j4/\x.given=mg)/\(e2≠0->t2=⟨#[116,32,78,79,13,10]⟩/\p2=sp/\o2'=so/\e2'=se)):=ι ⟨λh=>by
     obtain⟨q1,q2,q3,q4,q5⟩:=heq2 h;refine⟨by rw[<-ht2,if_pos h],q1,?_,?_,?_,q5⟩
     ·rw[<-hp2,if_pos h,q2]
     ·rw[<-ho2,if_pos h,q3]
     ·rw[<-he2,if_pos h,q4],λh=>⟨by rw[<-ht2,if_neg h],by rw[<-hp2,if_neg h],by rw[<-ho2,if_neg h],by rw[<-he2,if_neg h]⟩⟩
    have HE3:Hid ((e3=0->t3=⟨(xOg lb++[116]++[32,79,75]++[13,10]).toArray⟩/\su=nu/\sp=np/\o3'=no/\se=ne/\Ab=N3/\nb=h3/\cb=l3/\As=N4/\ns=h4/\cs=l4/\x.given=ng)/\(e3≠0->t3=⟨#[116,32,78,79,13,10]⟩/\o3'=so)):=ι ⟨λh=>by
     obtain⟨q1,q2,q3,q4,q5,q6,q7,q8,q9,q10,q11,q12⟩:=heq3 h;refine⟨by rw[<-ht3,if_pos h,q12],q1,q2,?_,q4,q5,q6,q7,q8,q9,q10,q11⟩;rw[<-ho3,if_pos h,q3],λh=>⟨by rw[<-ht3,if_neg h],by rw[<-ho3,if_neg h]⟩⟩
    clear ht1 ht2 ht3 hp2 ho2 he2 ho3 hS2 hS3 heq2 heq3 hf2 hf3 hv2 hv3 hcl hsz HR3 HR hu hp;have HB:Hid (Bt w _ (.slice A1 n1 c1) (.slice A2 n2 c2) [] w3):=ι (Bt.of HPR.o);clear HPR;go_upto_region 3 with fail
    clear s0;obtain⟨d0,d1⟩:=zG (HB.o.k 0 _ rfl);obtain⟨s0,s1,s2,s3,s4,s5,s6,s7,s8,s9⟩:=xBi (HB.o.k 1 _ rfl);obtain⟨r0,r1,r2,r3,r4,r5⟩:=yEc (HB.o.k 2 _ rfl);go_wp2_with fail
    refine(HDO1.o _ HB.o.bel).mono ?_;rintro e w4 ⟨Ra,rfl,hat,hb4⟩
    have hc:=((HB.o.below hb4).cons ⟨D1,e1,Ra,true⟩ hat.1 (λ_=>hat.2)).two (.cells #[.slice Ra.A5 Ra.m5 Ra.k5,.slice Ra.A6 Ra.m6 Ra.k6] 25) (.cells #[.string su,.string sp,.string so,.int .i64 se,.slice Ab nb cb,.slice As ns cs,.int .i64 x.given,.string bx,.bool o1,.bool o2] 32)
    simp only[List.cons_append,List.nil_append] at hc;have HB4:=ι hc;clear d0 d1 s0 s1 s2 s3 s4 s5 s6 s7 s8 s9 r0 r1 r2 r3 r4 r5 hc hat hb4 HB HDO1;simp only[DkR.ls];go_upto_region 4 with fail
    obtain⟨w5,hw5⟩:∃w5,(w4.alloc (.cells #[.slice Ra.A5 Ra.m5 Ra.k5,.slice Ra.A6 Ra.m6 Ra.k6] 25)).alloc (.cells #[.string su,.string sp,.string so,.int .i64 se,.slice Ab nb cb,.slice As ns cs,.int .i64 x.given,.string bx,.bool o1,.bool o2] 32)=w5:=⟨_,rfl⟩;rw[hw5] at HB4⊢
    clear hw5;have HB:=HB4;clear HB4;generalize hg3':w4.heap.size+1=g3' at HB⊢;generalize w4.heap.size=g3 at HB⊢;clear hg3';obtain⟨d0,d1⟩:=zG (HB.o.k 0 _ rfl);obtain⟨s0,s1,s2,s3,s4,s5,s6,s7,s8,s9⟩:=xBi (HB.o.k 1 _ rfl);obtain⟨r0,r1,r2,r3,r4,r5⟩:=yEc (HB.o.k 2 _ rfl)
    go_wp2_with fail
    refine(HDO2.o _ HB.o.bel).mono ?_;rintro e w4 ⟨Rb,rfl,hat,hb4⟩
    have hc:=((HB.o.below hb4).cons ⟨D2,e2,Rb,true⟩ hat.1 (λ_=>hat.2)).two (.cells #[.slice Rb.A5 Rb.m5 Rb.k5,.slice Rb.A6 Rb.m6 Rb.k6] 25) (.cells #[.string su,.string p2,.string o2',.int .i64 e2',.slice Ab nb cb,.slice As ns cs,.int .i64 x.given,.string bx,.bool o1,.bool o2] 32)
    simp only[List.cons_append,List.nil_append] at hc;have HB4:=ι hc;clear d0 d1 s0 s1 s2 s3 s4 s5 s6 s7 s8 s9 r0 r1 r2 r3 r4 r5 hc hat hb4 HB HDO2;simp only[DkR.ls];go_upto_region 5 with fail
    obtain⟨w5,hw5⟩:∃w5,(w4.alloc (.cells #[.slice Rb.A5 Rb.m5 Rb.k5,.slice Rb.A6 Rb.m6 Rb.k6] 25)).alloc (.cells #[.string su,.string p2,.string o2',.int .i64 e2',.slice Ab nb cb,.slice As ns cs,.int .i64 x.given,.string bx,.bool o1,.bool o2] 32)=w5:=⟨_,rfl⟩;rw[hw5] at HB4⊢
    clear hw5;have HB:=HB4;clear HB4;generalize hg5':w4.heap.size+1=g5' at HB⊢;generalize w4.heap.size=g5 at HB⊢;clear hg5';obtain⟨d0,d1⟩:=zG (HB.o.k 0 _ rfl);obtain⟨s0,s1,s2,s3,s4,s5,s6,s7,s8,s9⟩:=xBi (HB.o.k 1 _ rfl);obtain⟨r0,r1,r2,r3,r4,r5⟩:=yEc (HB.o.k 2 _ rfl)
    go_wp2_with fail
    refine(yEm.o _ HB.o.bel).mono ?_;rintro e w4 ⟨Rc,rfl,hat,hb4⟩
    have hc:=((HB.o.below hb4).cons ⟨D3,e3,Rc,true⟩ hat.1 (λ_=>hat.2)).two (.cells #[.slice Rc.A5 Rc.m5 Rc.k5,.slice Rc.A6 Rc.m6 Rc.k6] 25) (.cells #[.string su,.string sp,.string o3',.int .i64 se,.slice Ab nb cb,.slice As ns cs,.int .i64 x.given,.string bx,.bool o1,.bool o2] 32)
    simp only[List.cons_append,List.nil_append] at hc;have HB4:=ι hc;clear d0 d1 s0 s1 s2 s3 s4 s5 s6 s7 s8 s9 r0 r1 r2 r3 r4 r5 hc hat hb4 HB yEm;simp only[DkR.ls];go_upto_region 6 with fail
    obtain⟨w5,hw5⟩:∃w5,(w4.alloc (.cells #[.slice Rc.A5 Rc.m5 Rc.k5,.slice Rc.A6 Rc.m6 Rc.k6] 25)).alloc (.cells #[.string su,.string sp,.string o3',.int .i64 se,.slice Ab nb cb,.slice As ns cs,.int .i64 x.given,.string bx,.bool o1,.bool o2] 32)=w5:=⟨_,rfl⟩;rw[hw5] at HB4⊢
    clear hw5;have HB:=HB4;clear HB4;generalize hg7':w4.heap.size+1=g7' at HB⊢;generalize w4.heap.size=g7 at HB⊢;clear hg7';obtain⟨d0,d1⟩:=zG (HB.o.k 0 _ rfl);obtain⟨s0,s1,s2,s3,s4,s5,s6,s7,s8,s9⟩:=xBi (HB.o.k 1 _ rfl);obtain⟨r0,r1,r2,r3,r4,r5⟩:=yEc (HB.o.k 2 _ rfl)
    go_wp2_with fail
    refine(HV1.o _ HB.o.bel).mono ?_;rintro e w4 ⟨va',vb',rfl,hrd,hb4⟩;obtain⟨A5,k5,A6,k6,rfl,rfl⟩:=xX hrd;obtain⟨Rp,hRp⟩:∃R:DkR,R=⟨A5,D1.secs.length,k5,A6,D1.cache.length,k6⟩:=⟨_,rfl⟩
    have hc:=((HB.o.below hb4).cons ⟨D1,e1,Rp,false⟩ (λh0=>by rw[hRp];exact⟨hrd,HB1.o h0⟩) (λh=>by cases h)).alloc (.cells #[.slice Rp.A5 Rp.m5 Rp.k5,.slice Rp.A6 Rp.m6 Rp.k6] 25);simp only[List.cons_append,List.nil_append] at hc;have HB4:=ι hc
    have q1:(.slice A5 D1.secs.length k5:Value)=.slice Rp.A5 Rp.m5 Rp.k5:=by rw[hRp]
    have q2:(.slice A6 D1.cache.length k6:Value)=.slice Rp.A6 Rp.m6 Rp.k6:=by rw[hRp]
    rw[q1,q2];clear d0 d1 s0 s1 s2 s3 s4 s5 s6 s7 s8 s9 r0 r1 r2 r3 r4 r5 hc hrd hb4 HB HV1 HB1 q1 q2 hRp;go_upto_region 7 with fail
    obtain⟨w5,hw5⟩:∃w5,w4.alloc (.cells #[.slice Rp.A5 Rp.m5 Rp.k5,.slice Rp.A6 Rp.m6 Rp.k6] 25)=w5:=⟨_,rfl⟩;rw[hw5] at HB4⊢;clear hw5;have HB:=HB4;clear HB4;generalize w4.heap.size=g9 at HB⊢;obtain⟨d0,d1⟩:=zG (HB.o.k 0 _ rfl)
    obtain⟨s0,s1,s2,s3,s4,s5,s6,s7,s8,s9⟩:=xBi (HB.o.k 1 _ rfl);obtain⟨r0,r1,r2,r3,r4,r5⟩:=yEc (HB.o.k 2 _ rfl);go_wp2_with fail
    refine(HV2.o _ HB.o.bel).mono ?_;rintro e w4 ⟨m5,m6,A5,k5,A6,k6,rfl,hrd,hb4⟩;obtain⟨Rq,hRp⟩:∃R:DkR,R=⟨A5,m5,k5,A6,m6,k6⟩:=⟨_,rfl⟩
    have hc:=((HB.o.below hb4).cons ⟨D2,e2,Rq,false⟩ (λh0=>by rw[hRp];exact⟨hrd h0,HB2.o h0⟩) (λh=>by cases h)).two (.cells #[.string mu,.string mp,.string mo,.int .i64 me,.slice M3 i3 j3,.slice M4 i4 j4,.int .i64 mg] 30) (.cells #[.slice Rq.A5 Rq.m5 Rq.k5,.slice Rq.A6 Rq.m6 Rq.k6] 25)
    simp only[List.cons_append,List.nil_append] at hc;have HB4:=ι hc;have q1:(.slice A5 m5 k5:Value)=.slice Rq.A5 Rq.m5 Rq.k5:=by rw[hRp]
    have q2:(.slice A6 m6 k6:Value)=.slice Rq.A6 Rq.m6 Rq.k6:=by rw[hRp]
    rw[q1,q2];clear d0 d1 s0 s1 s2 s3 s4 s5 s6 s7 s8 s9 r0 r1 r2 r3 r4 r5 hc hrd hb4 HB HV2 HB2 q1 q2 hRp;go_upto_region 8 with fail
    obtain⟨w5,hw5⟩:∃w5,(w4.alloc (.cells #[.string mu,.string mp,.string mo,.int .i64 me,.slice M3 i3 j3,.slice M4 i4 j4,.int .i64 mg] 30)).alloc (.cells #[.slice Rq.A5 Rq.m5 Rq.k5,.slice Rq.A6 Rq.m6 Rq.k6] 25)=w5:=⟨_,rfl⟩;rw[hw5] at HB4⊢;clear hw5;have HB:=HB4;clear HB4
    generalize hg10':w4.heap.size+1=qF at HB⊢;generalize w4.heap.size=g10 at HB⊢;clear hg10';obtain⟨d0,d1⟩:=zG (HB.o.k 0 _ rfl);obtain⟨s0,s1,s2,s3,s4,s5,s6,s7,s8,s9⟩:=xBi (HB.o.k 1 _ rfl);obtain⟨r0,r1,r2,r3,r4,r5⟩:=yEc (HB.o.k 2 _ rfl);go_wp2_with fail
    refine(HV3.o _ HB.o.bel).mono ?_;rintro e w4 ⟨m5,m6,A5,k5,A6,k6,rfl,hrd,hb4⟩;obtain⟨Rr,hRp⟩:∃R:DkR,R=⟨A5,m5,k5,A6,m6,k6⟩:=⟨_,rfl⟩
    have hc:=((HB.o.below hb4).cons ⟨D3,e3,Rr,false⟩ (λh0=>by rw[hRp];exact⟨hrd h0,HB3.o h0⟩) (λh=>by cases h)).two (.cells #[.string nu,.string np,.string no,.int .i64 ne,.slice N3 h3 l3,.slice N4 h4 l4,.int .i64 ng] 30) (.cells #[.slice Rr.A5 Rr.m5 Rr.k5,.slice Rr.A6 Rr.m6 Rr.k6] 25)
    simp only[List.cons_append,List.nil_append] at hc;have HB4:=ι hc;have q1:(.slice A5 m5 k5:Value)=.slice Rr.A5 Rr.m5 Rr.k5:=by rw[hRp]
    have q2:(.slice A6 m6 k6:Value)=.slice Rr.A6 Rr.m6 Rr.k6:=by rw[hRp]
    rw[q1,q2];clear d0 d1 s0 s1 s2 s3 s4 s5 s6 s7 s8 s9 r0 r1 r2 r3 r4 r5 hc hrd hb4 HB HV3 HB3 q1 q2 hRp;go_upto_region 9 with fail
    obtain⟨w5,hw5⟩:∃w5,(w4.alloc (.cells #[.string nu,.string np,.string no,.int .i64 ne,.slice N3 h3 l3,.slice N4 h4 l4,.int .i64 ng] 30)).alloc (.cells #[.slice Rr.A5 Rr.m5 Rr.k5,.slice Rr.A6 Rr.m6 Rr.k6] 25)=w5:=⟨_,rfl⟩;rw[hw5] at HB4⊢;clear hw5;have HB:=HB4;clear HB4
    generalize hg12':w4.heap.size+1=qE at HB⊢;generalize w4.heap.size=g12 at HB⊢;clear hg12';obtain⟨w8,hw8⟩:∃w8,w8=w5:=⟨_,rfl⟩;rw[<-hw8] at HB⊢;clear hw8
    refine RG.uA [6,7,8] [3,4,5] (λL α W=>Hid (Tri w8 (.cells #[.string su,.string sp,.string so,.int .i64 se,.slice Ab nb cb,.slice As ns cs,.int .i64 x.given,.string bx,.bool o1,.bool o2] 32) L α W)) (λL L' α α' W hl ha h=>ι (h.o.congr (λi h1 h2=>hl i (by simp;omega)) (λi h1 h2=>ha i (by simp;omega)))) κ κ κ (ι ⟨(Below.refl _ _).drew,λ_ _ e=>(by cases e),λ_ _ e=>(by cases e),λ_ _ _ _ _ e=>(by cases e)⟩) ?_
    iterate 3 refine RG.vF (λα L w9 h0 hcl xK hw9=>have hb:=(HB.o.below hw9.o.b).k 1 _ rfl;xBi hb) ?_
    apply RG.vK
    ·rfl
    ·intro α L w9 h0 hcl xK hw9;have e:L 6=false:=hcl.not 10 (i:=6) h0 κ;refine⟨.pointer (some ⟨w9.heap.size,0,none⟩),λbv hbv=>?_⟩
     have HJ:Hid (Tri w8 (.cells #[.string su,.string sp,.string so,.int .i64 se,.slice Ab nb cb,.slice As ns cs,.int .i64 x.given,.string bx,.bool o1,.bool o2] 32) (λn=>n==3||L n) (RG.wO α 3 (.pointer (some ⟨w9.heap.size,0,none⟩))) (w9.alloc xHu)):=ι (hw9.o.new (j:=0) δ rfl e)
     rw[<-hbv] at HJ;clear hw9;repeat go_step
     rw[<-hbv];refine RG.xC ?_;exact HJ
    ·intro b α;rfl
    apply RG.vK
    ·rfl
    ·intro α L w9 h0 hcl xK hw9;have e:L 7=false:=hcl.not 10 (i:=7) h0 κ;refine⟨.pointer (some ⟨w9.heap.size,0,none⟩),λbv hbv=>?_⟩
     have HJ:Hid (Tri w8 (.cells #[.string su,.string sp,.string so,.int .i64 se,.slice Ab nb cb,.slice As ns cs,.int .i64 x.given,.string bx,.bool o1,.bool o2] 32) (λn=>n==4||L n) (RG.wO α 4 (.pointer (some ⟨w9.heap.size,0,none⟩))) (w9.alloc xHu)):=ι (hw9.o.new (j:=1) δ rfl e)
     rw[<-hbv] at HJ;clear hw9;repeat go_step
     rw[<-hbv];refine RG.xC ?_;exact HJ
    ·intro b α;rfl
    apply RG.vK
    ·rfl
    ·intro α L w9 h0 hcl xK hw9;have e:L 8=false:=hcl.not 10 (i:=8) h0 κ;refine⟨.pointer (some ⟨w9.heap.size,0,none⟩),λbv hbv=>?_⟩
     have HJ:Hid (Tri w8 (.cells #[.string su,.string sp,.string so,.int .i64 se,.slice Ab nb cb,.slice As ns cs,.int .i64 x.given,.string bx,.bool o1,.bool o2] 32) (λn=>n==5||L n) (RG.wO α 5 (.pointer (some ⟨w9.heap.size,0,none⟩))) (w9.alloc xHu)):=ι (hw9.o.new (j:=2) δ rfl e)
     rw[<-hbv] at HJ;clear hw9;repeat go_step
     rw[<-hbv];refine RG.xC ?_;exact HJ
    ·intro b α;rfl
    apply RG.jK (v:=undef)
    ·rfl
    ·rfl
    ·intro α L w9 h0 hcl xK hw9
     have fp:L 3=true:=by
      have:=xK.yes 10 (i:=6) (j:=3) σ κ;simpa using this
     obtain⟨g,q2,hx,hg,q3⟩:=hw9.o.set (j:=0) δ rfl h0 fp (l:=[.string su,.string sp,.string so,.int .i64 se,.slice Ab nb cb,.slice As ns cs,.int .i64 x.given,.string bx,.bool o1,.bool o2]) rfl rfl;have N1:Hid (α 3=.pointer (some ⟨g,0,none⟩)):=ι q2
     simp only[xU,Nat.reduceAdd] at q3;have HJ:=ι q3;have hx2:w9.heap[g]?=some (.cells #[.string ⟨#[]⟩,.string ⟨#[]⟩,.string ⟨#[]⟩,.int .i64 0,.slice none 0 0,.slice none 0 0,.int .i64 0,.string ⟨#[]⟩,.bool false,.bool false] 32 (0,0)):=hx
     obtain⟨⟨j0,y0⟩,⟨j1,y1⟩,⟨j2,y2⟩,⟨j3,y3⟩,⟨j4,y4⟩,⟨j5,y5⟩,⟨j6,y6⟩,⟨j7,y7⟩,⟨j8,y8⟩,⟨j9,y9⟩⟩:=st10 hx2;rw[show α (0+1+1+1)=_ from N1.o];clear hx hx2 q2 q3 hw9;repeat go_step
     rw[<-show α (0+1+1+1)=_ from N1.o];refine RG.xC ?_;exact HJ
    ·intro α;rfl
    apply RG.jK (v:=undef)
    ·rfl
    ·rfl
    ·intro α L w9 h0 hcl xK hw9
     have fp:L 4=true:=by
      have:=xK.yes 10 (i:=7) (j:=4) σ κ;simpa using this
     obtain⟨g,q2,hx,hg,q3⟩:=hw9.o.set (j:=1) δ rfl h0 fp (l:=[.string su,.string sp,.string so,.int .i64 se,.slice Ab nb cb,.slice As ns cs,.int .i64 x.given,.string bx,.bool o1,.bool o2]) rfl rfl;have N1:Hid (α 4=.pointer (some ⟨g,0,none⟩)):=ι q2
     simp only[xU,Nat.reduceAdd] at q3;have HJ:=ι q3;have hx2:w9.heap[g]?=some (.cells #[.string ⟨#[]⟩,.string ⟨#[]⟩,.string ⟨#[]⟩,.int .i64 0,.slice none 0 0,.slice none 0 0,.int .i64 0,.string ⟨#[]⟩,.bool false,.bool false] 32 (0,0)):=hx
     obtain⟨⟨j0,y0⟩,⟨j1,y1⟩,⟨j2,y2⟩,⟨j3,y3⟩,⟨j4,y4⟩,⟨j5,y5⟩,⟨j6,y6⟩,⟨j7,y7⟩,⟨j8,y8⟩,⟨j9,y9⟩⟩:=st10 hx2;rw[show α (0+1+1+1+1)=_ from N1.o];clear hx hx2 q2 q3 hw9;repeat go_step
     rw[<-show α (0+1+1+1+1)=_ from N1.o];refine RG.xC ?_;exact HJ
    ·intro α;rfl
    apply RG.jK (v:=undef)
    ·rfl
    ·rfl
    ·intro α L w9 h0 hcl xK hw9
     have fp:L 5=true:=by
      have:=xK.yes 10 (i:=8) (j:=5) σ κ;simpa using this
     obtain⟨g,q2,hx,hg,q3⟩:=hw9.o.set (j:=2) δ rfl h0 fp (l:=[.string su,.string sp,.string so,.int .i64 se,.slice Ab nb cb,.slice As ns cs,.int .i64 x.given,.string bx,.bool o1,.bool o2]) rfl rfl;have N1:Hid (α 5=.pointer (some ⟨g,0,none⟩)):=ι q2
     simp only[xU,Nat.reduceAdd] at q3;have HJ:=ι q3;have hx2:w9.heap[g]?=some (.cells #[.string ⟨#[]⟩,.string ⟨#[]⟩,.string ⟨#[]⟩,.int .i64 0,.slice none 0 0,.slice none 0 0,.int .i64 0,.string ⟨#[]⟩,.bool false,.bool false] 32 (0,0)):=hx
     obtain⟨⟨j0,y0⟩,⟨j1,y1⟩,⟨j2,y2⟩,⟨j3,y3⟩,⟨j4,y4⟩,⟨j5,y5⟩,⟨j6,y6⟩,⟨j7,y7⟩,⟨j8,y8⟩,⟨j9,y9⟩⟩:=st10 hx2;rw[show α (0+1+1+1+1+1)=_ from N1.o];clear hx hx2 q2 q3 hw9;repeat go_step
     rw[<-show α (0+1+1+1+1+1)=_ from N1.o];refine RG.xC ?_;exact HJ
    ·intro α;rfl
    refine RG.qV (λα w6 hw6=>?_);obtain⟨g14,a14,l14,b14⟩:=hw6.o.n 0 δ rfl;obtain⟨g15,a15,l15,b15⟩:=hw6.o.n 1 δ rfl;obtain⟨g16,a16,l16,b16⟩:=hw6.o.n 2 δ rfl;have n45:g14≠g15:=λe=>hw6.o.d 0 1 δ δ δ rfl rfl (by rw[a14,a15,e])
    have n46:g14≠g16:=λe=>hw6.o.d 0 2 δ δ δ rfl rfl (by rw[a14,a16,e]);have n56:g15≠g16:=λe=>hw6.o.d 1 2 δ δ δ rfl rfl (by rw[a15,a16,e]);have hlt:=HB.o.lt;have h6:=HB.o.below hw6.o.b;have h7:=h6.add b14 (Nat.le_trans HB.o.bel.size l14) (λp hp=>by have:=hlt p hp;omega)
    have h8:=h7.add b15 (Nat.le_trans HB.o.bel.size l15) (λp hp=>by
     rcases List.mem_append.1 hp with hp|hp
     ·have:=hlt p hp;omega
     ·rw[List.mem_singleton.1 hp];exact n45)
    have h9:=h8.add b16 (Nat.le_trans HB.o.bel.size l16) (λp hp=>by
     rcases List.mem_append.1 hp with hp|hp
     ·rcases List.mem_append.1 hp with hp|hp
      ·have:=hlt p hp;omega
      ·rw[List.mem_singleton.1 hp];exact n46
     ·rw[List.mem_singleton.1 hp];exact n56)
    simp only[List.cons_append,List.nil_append,if_true] at h9;have h10:=h9.alloc (.cells #[.string ⟨#[116,32,79,75,13,10]⟩,.string ⟨#[116,32,79,75,13,10]⟩,.string ⟨#[116,32,79,75,13,10]⟩] 74);simp only[List.cons_append,List.nil_append] at h10;have HB10:=ι h10
    simp only[Nat.zero_add,Nat.reduceAdd];rw[show α 3=.pointer (some ⟨g14,0,none⟩) from a14,show α 4=.pointer (some ⟨g15,0,none⟩) from a15,show α 5=.pointer (some ⟨g16,0,none⟩) from a16];clear a14 a15 a16 l14 l15 l16 b14 b15 b16 n45 n46 n56 hlt h6 h7 h8 h9 h10 hw6 HB
    go_upto_region 11 with fail
    obtain⟨w7,hw7⟩:∃w7,w6.alloc (.cells #[.string ⟨#[116,32,79,75,13,10]⟩,.string ⟨#[116,32,79,75,13,10]⟩,.string ⟨#[116,32,79,75,13,10]⟩] 74)=w7:=⟨_,rfl⟩;rw[hw7] at HB10⊢;clear hw7;have HB:=HB10;clear HB10;generalize w6.heap.size=g17 at HB⊢
    obtain⟨od,hod⟩:∃o:Obj,o=.cells #[.slice A1 n1 c1,.slice A2 n2 c2] 25:=⟨_,rfl⟩;obtain⟨os,hos⟩:∃o:Obj,o=.cells #[.string su,.string sp,.string so,.int .i64 se,.slice Ab nb cb,.slice As ns cs,.int .i64 x.given,.string bx,.bool o1,.bool o2] 32:=⟨_,rfl⟩
    obtain⟨ow,how⟩:∃o:Obj,o=.cells #[.string f1,.string f2,.string f3,.string f4,.string f5,.int .i64 rd] 36:=⟨_,rfl⟩;obtain⟨oa,hoa⟩:∃o:Obj,o=.cells #[.slice Ra.A5 Ra.m5 Ra.k5,.slice Ra.A6 Ra.m6 Ra.k6] 25:=⟨_,rfl⟩
    obtain⟨ob,hob⟩:∃o:Obj,o=.cells #[.slice Rb.A5 Rb.m5 Rb.k5,.slice Rb.A6 Rb.m6 Rb.k6] 25:=⟨_,rfl⟩;obtain⟨ou,hou⟩:∃o:Obj,o=.cells #[.string su,.string p2,.string o2',.int .i64 e2',.slice Ab nb cb,.slice As ns cs,.int .i64 x.given,.string bx,.bool o1,.bool o2] 32:=⟨_,rfl⟩
    obtain⟨oc,hoc⟩:∃o:Obj,o=.cells #[.slice Rc.A5 Rc.m5 Rc.k5,.slice Rc.A6 Rc.m6 Rc.k6] 25:=⟨_,rfl⟩;obtain⟨ov,hov⟩:∃o:Obj,o=.cells #[.string su,.string sp,.string o3',.int .i64 se,.slice Ab nb cb,.slice As ns cs,.int .i64 x.given,.string bx,.bool o1,.bool o2] 32:=⟨_,rfl⟩
    obtain⟨om,hom⟩:∃o:Obj,o=.cells #[.string mu,.string mp,.string mo,.int .i64 me,.slice M3 i3 j3,.slice M4 i4 j4,.int .i64 mg] 30:=⟨_,rfl⟩;obtain⟨on,hon⟩:∃o:Obj,o=.cells #[.string nu,.string np,.string no,.int .i64 ne,.slice N3 h3 l3,.slice N4 h4 l4,.int .i64 ng] 30:=⟨_,rfl⟩
    obtain⟨op,hop⟩:∃o:Obj,o=.cells #[.slice Rp.A5 Rp.m5 Rp.k5,.slice Rp.A6 Rp.m6 Rp.k6] 25:=⟨_,rfl⟩;obtain⟨oq,hoq⟩:∃o:Obj,o=.cells #[.slice Rq.A5 Rq.m5 Rq.k5,.slice Rq.A6 Rq.m6 Rq.k6] 25:=⟨_,rfl⟩
    obtain⟨or,hor⟩:∃o:Obj,o=.cells #[.slice Rr.A5 Rr.m5 Rr.k5,.slice Rr.A6 Rr.m6 Rr.k6] 25:=⟨_,rfl⟩;obtain⟨km,hkm⟩:∃o:Obj,o=.cells #[.string mu,.string mp,.string mo,.int .i64 me,.slice M3 i3 j3,.slice M4 i4 j4,.int .i64 mg,.string bx,.bool o1,.bool o2] 32:=⟨_,rfl⟩
    obtain⟨lm,hlm⟩:∃o:Obj,o=.cells #[.string nu,.string np,.string no,.int .i64 ne,.slice N3 h3 l3,.slice N4 h4 l4,.int .i64 ng,.string bx,.bool o1,.bool o2] 32:=⟨_,rfl⟩
    obtain⟨a0,ha0⟩:∃o:Obj,o=.cells #[.string ⟨#[116,32,79,75,13,10]⟩,.string ⟨#[116,32,79,75,13,10]⟩,.string ⟨#[116,32,79,75,13,10]⟩] 74:=⟨_,rfl⟩;obtain⟨a1,ha1⟩:∃o:Obj,o=.cells #[.string t1,.string ⟨#[116,32,79,75,13,10]⟩,.string ⟨#[116,32,79,75,13,10]⟩] 74:=⟨_,rfl⟩
    obtain⟨a2,ha2⟩:∃o:Obj,o=.cells #[.string t1,.string t2,.string ⟨#[116,32,79,75,13,10]⟩] 74:=⟨_,rfl⟩;obtain⟨a3,ha3⟩:∃o:Obj,o=.cells #[.string t1,.string t2,.string t3] 74:=⟨_,rfl⟩
    obtain⟨b2,hb2⟩:∃o:Obj,o=.cells #[.string t1,.string ⟨#[116,32,78,79,13,10]⟩,.string ⟨#[116,32,79,75,13,10]⟩] 74:=⟨_,rfl⟩;obtain⟨b3,hb3⟩:∃o:Obj,o=.cells #[.string t1,.string t2,.string ⟨#[116,32,78,79,13,10]⟩] 74:=⟨_,rfl⟩
    have HB0:Hid (Bt w (kyB w.heap.size g3 g3' g5 g5' g7 g7' g9 g10 qF g12 qE g14 g15 g16 g17 od os ow oa ob ou oc ov om on op oq or os os a0) (.slice A1 n1 c1) (.slice A2 n2 c2) [⟨D3,e3,Rr,false⟩,⟨D2,e2,Rq,false⟩,⟨D1,e1,Rp,false⟩,⟨D3,e3,Rc,true⟩,⟨D2,e2,Rb,true⟩,⟨D1,e1,Ra,true⟩] w7):=ι (by
     rw[hod,hos,how,hoa,hob,hou,hoc,hov,hom,hon,hop,hoq,hor,ha0];exact HB.o)
    have Kod:=ι hod;have Kos:=ι hos;have Kow:=ι how;have Koa:=ι hoa;have Kob:=ι hob;have Kou:=ι hou;have Koc:=ι hoc;have Kov:=ι hov;have Kom:=ι hom;have Kon:=ι hon;have Kop:=ι hop;have Koq:=ι hoq;have Kor:=ι hor;have Kkm:=ι hkm;have Klm:=ι hlm;have Ka0:=ι ha0;have Ka1:=ι ha1
    have Ka2:=ι ha2;have Ka3:=ι ha3;have Kb2:=ι hb2;have Kb3:=ι hb3;clear HB hod hos how hoa hob hou hoc hov hom hon hop hoq hor hkm hlm ha0 ha1 ha2 ha3 hb2 hb3;have HB:=HB0;clear HB0
    go_upto_if 122 with (fail)
    go_cut [] (λwx=>Hid (∃(Rp':DkR) (op':Obj),op'=.cells #[.slice Rp'.A5 Rp'.m5 Rp'.k5,.slice Rp'.A6 Rp'.m6 Rp'.k6] 25/\Bt w (kyB w.heap.size g3 g3' g5 g5' g7 g7' g9 g10 qF g12 qE g14 g15 g16 g17 od os ow oa ob ou oc ov om on op' oq or os os a1) (.slice A1 n1 c1) (.slice A2 n2 c2) [⟨D3,e3,Rr,false⟩,⟨D2,e2,Rq,false⟩,⟨D1,e1,Rp',true⟩,⟨D3,e3,Rc,true⟩,⟨D2,e2,Rb,true⟩,⟨D1,e1,Ra,true⟩] wx))
    case first=>
     by_cases he1:e1=0
     ·subst he1;have h1:=HE1.o.1 (by first|rfl|trivial)
      have HF:Hid (∃(Rp':DkR) (op':Obj),op'=.cells #[.slice Rp'.A5 Rp'.m5 Rp'.k5,.slice Rp'.A6 Rp'.m6 Rp'.k6] 25/\Bt w (kyB w.heap.size g3 g3' g5 g5' g7 g7' g9 g10 qF g12 qE g14 g15 g16 g17 od os ow oa ob ou oc ov om on op' oq or os os a1) (.slice A1 n1 c1) (.slice A2 n2 c2) [⟨D3,e3,Rr,false⟩,⟨D2,e2,Rq,false⟩,⟨D1,0,Rp',true⟩,⟨D3,e3,Rc,true⟩,⟨D2,e2,Rb,true⟩,⟨D1,0,Ra,true⟩] w7):=ι ⟨Rp,op,Kop.o,by
       rw[show a1=a0 by rw[Ka1.o,Ka0.o,h1]];exact HB.o.b,λt ht=>by
       simp only[List.mem_cons,List.not_mem_nil,or_false] at ht;rcases ht with rfl|rfl|rfl|rfl|rfl|rfl
       ·exact HB.o.t _ σ
       ·exact HB.o.t _ σ
       ·exact⟨(HB.o.t ⟨D1,0,Rp,false⟩ σ).1,λ_ h=>absurd rfl h⟩
       ·exact HB.o.t _ σ
       ·exact HB.o.t _ σ
       ·exact HB.o.t _ σ⟩
      clear HB h1;go_wp2_with fail
      go_meet;exact HF
     ·have i1:(e1==0)=false:=by simpa using he1
      have h1:=HE1.o.2 he1;have hk:=HB.o.k 0 _ rfl;rw[Kod.o] at hk;obtain⟨d0,d1⟩:=zG hk;clear hk;have hk:=HB.o.k 9 _ rfl;rw[Kop.o] at hk;have zo0:=xA hk 0;have zy0:=xB hk 0;have zo1:=xA hk 1;have zy1:=xB hk 1;simp only[gA,gB,gC] at zo0 zo1;clear hk
      have hm:=HB.o.wr (i:=9) rfl Kop.o 0 [.slice A1 n1 c1,.slice A2 n2 c2] σ σ Kod.o;simp only[xU,Nat.reduceAdd] at hm;have hk:=hm.k 17 _ rfl;rw[Ka0.o] at hk;have z0:=xA hk 0;have q0:=xB hk 0;simp only[gA,gB,gC] at z0;clear hk;clear hm
      have hs:Bt w (kyB w.heap.size g3 g3' g5 g5' g7 g7' g9 g10 qF g12 qE g14 g15 g16 g17 od os ow oa ob ou oc ov om on od oq or os os a1) (.slice A1 n1 c1) (.slice A2 n2 c2) [⟨D3,e3,Rr,false⟩,⟨D2,e2,Rq,false⟩,⟨D1,e1,Rp,false⟩,⟨D3,e3,Rc,true⟩,⟨D2,e2,Rb,true⟩,⟨D1,e1,Ra,true⟩] (xU g17 0 [.string ⟨#[116,32,78,79,13,10]⟩] (xU g9 0 [.slice A1 n1 c1,.slice A2 n2 c2] w7)):=(HB.o.wr (i:=9) rfl Kop.o 0 [.slice A1 n1 c1,.slice A2 n2 c2] σ σ Kod.o).wr (i:=17) (o':=a1) rfl Ka0.o 0 [.string ⟨#[116,32,78,79,13,10]⟩] σ σ (by rw[Ka1.o,h1];rfl)
      simp only[xU,Nat.reduceAdd] at hs;have HF:=ι hs;have HNE:=ι he1;clear hs HB h1 he1;go_wp2_with fail
      go_meet;refine ι ⟨(⟨A1,n1,c1,A2,n2,c2⟩:DkR),od,Kod.o,HF.o.b,λt ht=>?_⟩;simp only[List.mem_cons,List.not_mem_nil,or_false] at ht;rcases ht with rfl|rfl|rfl|rfl|rfl|rfl
      ·exact HF.o.t _ σ
      ·exact HF.o.t _ σ
      ·exact⟨λh=>absurd h HNE.o,λ_ _=>rfl⟩
      ·exact HF.o.t _ σ
      ·exact HF.o.t _ σ
      ·exact HF.o.t _ σ
    case rest=>
     obtain⟨Rp',op',hop',hcut⟩:=hcut.o;have HB0:=ι hcut;have Kop':=ι hop';clear hcut hop' HB HE1;have HB:=HB0;clear HB0;go_upto_region 13 with fail
     refine RG.yT [3,5] (λL W=>Hid (Bt w (kyB w.heap.size g3 g3' g5 g5' g7 g7' g9 g10 qF g12 qE g14 g15 g16 g17 od os ow oa ob ou oc ov om on op' oq or (if L 3=true then km else os) (if L 5=true then lm else os) a1) (.slice A1 n1 c1) (.slice A2 n2 c2) [⟨D3,e3,Rr,false⟩,⟨D2,e2,Rq,false⟩,⟨D1,e1,Rp',true⟩,⟨D3,e3,Rc,true⟩,⟨D2,e2,Rb,true⟩,⟨D1,e1,Ra,true⟩] W)) (λL L' W h hI=>by rw[<-h 3 δ,<-h 5 δ];exact hI) κ κ δ (ι (HB.o.below (Below.refl _ _).drew)) ?_
     apply RG.vW
     ·rfl
     ·intro L w9 hw9;have hk:=hw9.o.k 10 _ rfl;rw[Kom.o] at hk;obtain⟨q0,q1,q2,q3,q4,q5,q6⟩:=jV hk;clear hk;repeat go_step
      exact RG.xC hw9
     ·rfl
     apply RG.vW
     ·rfl
     ·intro L w9 hw9;have hk:=hw9.o.k 12 _ rfl;rw[Kon.o] at hk;obtain⟨q0,q1,q2,q3,q4,q5,q6⟩:=jV hk;clear hk;repeat go_step
      exact RG.xC hw9
     ·rfl
     refine RG.lS ?_;apply RG.yA
     ·rfl
     ·intro L w9 h0 _ hw9;have hh:=hw9.o;rw[h0] at hh;simp only[if_neg (c:=false=true) σ] at hh;have hk:=hh.k 15 _ rfl;rw[Kos.o] at hk;have zo0:=xA hk 0;have zy0:=xB hk 0;have zo1:=xA hk 1;have zy1:=xB hk 1;have zo2:=xA hk 2;have zy2:=xB hk 2;have zo3:=xA hk 3
      have zy3:=xB hk 3;have zo4:=xA hk 4;have zy4:=xB hk 4;have zo5:=xA hk 5;have zy5:=xB hk 5;have zo6:=xA hk 6;have zy6:=xB hk 6;simp only[gA,gB,gC] at zo0 zo1 zo2 zo3 zo4 zo5 zo6;clear hk
      have hs:Bt w (kyB w.heap.size g3 g3' g5 g5' g7 g7' g9 g10 qF g12 qE g14 g15 g16 g17 od os ow oa ob ou oc ov om on op' oq or (if (true:Bool)=true then km else os) (if L 5=true then lm else os) a1) (.slice A1 n1 c1) (.slice A2 n2 c2) [⟨D3,e3,Rr,false⟩,⟨D2,e2,Rq,false⟩,⟨D1,e1,Rp',true⟩,⟨D3,e3,Rc,true⟩,⟨D2,e2,Rb,true⟩,⟨D1,e1,Ra,true⟩] (xU g15 0 [.string mu,.string mp,.string mo,.int .i64 me,.slice M3 i3 j3,.slice M4 i4 j4,.int .i64 mg] w9):=by
       rw[if_pos rfl];exact hh.wr (i:=15) rfl Kos.o 0 [.string mu,.string mp,.string mo,.int .i64 me,.slice M3 i3 j3,.slice M4 i4 j4,.int .i64 mg] σ σ Kkm.o
      simp only[xU,Nat.reduceAdd] at hs;have HS:=ι hs;clear hh hs hw9;repeat go_step
      refine RG.xC ?_;exact HS
     ·rfl
     refine RG.lS ?_;apply RG.yA
     ·rfl
     ·intro L w9 h0 _ hw9;have hh:=hw9.o;rw[h0] at hh;simp only[if_neg (c:=false=true) σ] at hh;have hk:=hh.k 16 _ rfl;rw[Kos.o] at hk;have zo0:=xA hk 0;have zy0:=xB hk 0;have zo1:=xA hk 1;have zy1:=xB hk 1;have zo2:=xA hk 2;have zy2:=xB hk 2;have zo3:=xA hk 3
      have zy3:=xB hk 3;have zo4:=xA hk 4;have zy4:=xB hk 4;have zo5:=xA hk 5;have zy5:=xB hk 5;have zo6:=xA hk 6;have zy6:=xB hk 6;simp only[gA,gB,gC] at zo0 zo1 zo2 zo3 zo4 zo5 zo6;clear hk
      have hs:Bt w (kyB w.heap.size g3 g3' g5 g5' g7 g7' g9 g10 qF g12 qE g14 g15 g16 g17 od os ow oa ob ou oc ov om on op' oq or (if L 3=true then km else os) (if (true:Bool)=true then lm else os) a1) (.slice A1 n1 c1) (.slice A2 n2 c2) [⟨D3,e3,Rr,false⟩,⟨D2,e2,Rq,false⟩,⟨D1,e1,Rp',true⟩,⟨D3,e3,Rc,true⟩,⟨D2,e2,Rb,true⟩,⟨D1,e1,Ra,true⟩] (xU g16 0 [.string nu,.string np,.string no,.int .i64 ne,.slice N3 h3 l3,.slice N4 h4 l4,.int .i64 ng] w9):=by
       rw[if_pos rfl];exact hh.wr (i:=16) rfl Kos.o 0 [.string nu,.string np,.string no,.int .i64 ne,.slice N3 h3 l3,.slice N4 h4 l4,.int .i64 ng] σ σ Klm.o
      simp only[xU,Nat.reduceAdd] at hs;have HS:=ι hs;clear hh hs hw9;repeat go_step
      refine RG.xC ?_;exact HS
     ·rfl
     refine RG.xZ (λw8 hw8=>?_)
     have HB0:Hid (Bt w (kyB w.heap.size g3 g3' g5 g5' g7 g7' g9 g10 qF g12 qE g14 g15 g16 g17 od os ow oa ob ou oc ov om on op' oq or km lm a1) (.slice A1 n1 c1) (.slice A2 n2 c2) [⟨D3,e3,Rr,false⟩,⟨D2,e2,Rq,false⟩,⟨D1,e1,Rp',true⟩,⟨D3,e3,Rc,true⟩,⟨D2,e2,Rb,true⟩,⟨D1,e1,Ra,true⟩] w8):=ι hw8.o
     clear hw8 HB;have HB:=HB0;clear HB0
     go_upto_if 130 with (fail)
     go_cut [] (λwx=>Hid (∃(Rq':DkR) (oq':Obj),oq'=.cells #[.slice Rq'.A5 Rq'.m5 Rq'.k5,.slice Rq'.A6 Rq'.m6 Rq'.k6] 25/\Bt w (kyB w.heap.size g3 g3' g5 g5' g7 g7' g9 g10 qF g12 qE g14 g15 g16 g17 od os ow oa ob ou oc ov om on op' oq' or ou lm a2) (.slice A1 n1 c1) (.slice A2 n2 c2) [⟨D3,e3,Rr,false⟩,⟨D2,e2,Rq',true⟩,⟨D1,e1,Rp',true⟩,⟨D3,e3,Rc,true⟩,⟨D2,e2,Rb,true⟩,⟨D1,e1,Ra,true⟩] wx))
     case first=>
      by_cases he2:e2=0
      ·subst he2;obtain⟨h1,h2,h3,h4,h5,h6,h7,h8,h9,h10,h11,h12⟩:=HE2.o.1 (by first|rfl|trivial)
       have HF:Hid (∃(Rq':DkR) (oq':Obj),oq'=.cells #[.slice Rq'.A5 Rq'.m5 Rq'.k5,.slice Rq'.A6 Rq'.m6 Rq'.k6] 25/\Bt w (kyB w.heap.size g3 g3' g5 g5' g7 g7' g9 g10 qF g12 qE g14 g15 g16 g17 od os ow oa ob ou oc ov om on op' oq' or ou lm a2) (.slice A1 n1 c1) (.slice A2 n2 c2) [⟨D3,e3,Rr,false⟩,⟨D2,0,Rq',true⟩,⟨D1,e1,Rp',true⟩,⟨D3,e3,Rc,true⟩,⟨D2,0,Rb,true⟩,⟨D1,e1,Ra,true⟩] w8):=ι ⟨Rq,oq,Koq.o,by
        have eb:=HB.o.b;rw[(show a2=a1 by rw[Ka1.o,Ka2.o,h1]).symm,(show ou=km by rw[Kou.o,Kkm.o,h2,h3,h4,h5,h6,h7,h8,h9,h10,h11,h12]).symm] at eb;exact eb,λt ht=>by
        simp only[List.mem_cons,List.not_mem_nil,or_false] at ht;rcases ht with rfl|rfl|rfl|rfl|rfl|rfl
        ·exact HB.o.t _ σ
        ·exact⟨(HB.o.t ⟨D2,0,Rq,false⟩ σ).1,λ_ h=>absurd rfl h⟩
        ·exact HB.o.t _ σ
        ·exact HB.o.t _ σ
        ·exact HB.o.t _ σ
        ·exact HB.o.t _ σ⟩
       clear h1 h2 h3 h4 h5 h6 h7 h8 h9 h10 h11 h12 HB;go_wp2_with fail
       go_meet;exact HF
      ·have i1:(e2==0)=false:=by simpa using he2
       obtain⟨h1,h2,h3,h4⟩:=HE2.o.2 he2;have HEQ:Hid (a2=b2/\ou=os):=ι ⟨by rw[Ka2.o,Kb2.o,h1],by rw[Kou.o,Kos.o,h2,h3,h4]⟩;have HNE:=ι he2;clear h1 h2 h3 h4 he2;go_upto_region 15 with fail
       refine RG.yT [2,3,5] (λL W=>Hid (Bt w (kyB w.heap.size g3 g3' g5 g5' g7 g7' g9 g10 qF g12 qE g14 g15 g16 g17 od os ow oa ob ou oc ov om on op' (if L 2=true then od else oq) or (if L 3=true then os else km) lm (if L 5=true then b2 else a1)) (.slice A1 n1 c1) (.slice A2 n2 c2) [⟨D3,e3,Rr,false⟩,⟨D2,e2,Rq,false⟩,⟨D1,e1,Rp',true⟩,⟨D3,e3,Rc,true⟩,⟨D2,e2,Rb,true⟩,⟨D1,e1,Ra,true⟩] W)) (λL L' W h hI=>by rw[<-h 2 δ,<-h 3 δ,<-h 5 δ];exact hI) κ κ δ (ι (HB.o.below (Below.refl _ _).drew)) ?_
       apply RG.vW
       ·rfl
       ·intro L w9 hw9;have hk:=hw9.o.k 0 _ rfl;rw[Kod.o] at hk;obtain⟨q0,q1⟩:=zG hk;clear hk;repeat go_step
        exact RG.xC hw9
       ·rfl
       apply RG.vW
       ·rfl
       ·intro L w9 hw9;have hk:=hw9.o.k 1 _ rfl;rw[Kos.o] at hk;obtain⟨q0,q1,q2,q3,q4,q5,q6,q7,q8,q9⟩:=xBi hk;clear hk;repeat go_step
        exact RG.xC hw9
       ·rfl
       apply RG.yA
       ·rfl
       ·intro L w9 h0 _ hw9;have hh:=hw9.o;rw[h0] at hh;simp only[if_neg (c:=false=true) σ] at hh;have hk:=hh.k 11 _ rfl;rw[Koq.o] at hk;have zo0:=xA hk 0;have zy0:=xB hk 0;have zo1:=xA hk 1;have zy1:=xB hk 1;simp only[gA,gB,gC] at zo0 zo1;clear hk
        have hs:Bt w (kyB w.heap.size g3 g3' g5 g5' g7 g7' g9 g10 qF g12 qE g14 g15 g16 g17 od os ow oa ob ou oc ov om on op' (if (true:Bool)=true then od else oq) or (if L 3=true then os else km) lm (if L 5=true then b2 else a1)) (.slice A1 n1 c1) (.slice A2 n2 c2) [⟨D3,e3,Rr,false⟩,⟨D2,e2,Rq,false⟩,⟨D1,e1,Rp',true⟩,⟨D3,e3,Rc,true⟩,⟨D2,e2,Rb,true⟩,⟨D1,e1,Ra,true⟩] (xU qF 0 [.slice A1 n1 c1,.slice A2 n2 c2] w9):=by
         rw[if_pos rfl];exact hh.wr (i:=11) rfl Koq.o 0 [.slice A1 n1 c1,.slice A2 n2 c2] σ σ Kod.o
        simp only[xU,Nat.reduceAdd] at hs;have HS:=ι hs;clear hh hs hw9;repeat go_step
        refine RG.xC ?_;exact HS
       ·rfl
       apply RG.yA
       ·rfl
       ·intro L w9 h0 _ hw9;have hh:=hw9.o;rw[h0] at hh;simp only[if_neg (c:=false=true) σ] at hh;have hk:=hh.k 15 _ rfl;rw[Kkm.o] at hk;have zo0:=xA hk 0;have zy0:=xB hk 0;have zo1:=xA hk 1;have zy1:=xB hk 1;have zo2:=xA hk 2;have zy2:=xB hk 2;have zo3:=xA hk 3
        have zy3:=xB hk 3;have zo4:=xA hk 4;have zy4:=xB hk 4;have zo5:=xA hk 5;have zy5:=xB hk 5;have zo6:=xA hk 6;have zy6:=xB hk 6;have zo7:=xA hk 7;have zy7:=xB hk 7;have zo8:=xA hk 8;have zy8:=xB hk 8;have zo9:=xA hk 9;have zy9:=xB hk 9
        simp only[gA,gB,gC] at zo0 zo1 zo2 zo3 zo4 zo5 zo6 zo7 zo8 zo9;clear hk
        have hs:Bt w (kyB w.heap.size g3 g3' g5 g5' g7 g7' g9 g10 qF g12 qE g14 g15 g16 g17 od os ow oa ob ou oc ov om on op' (if L 2=true then od else oq) or (if (true:Bool)=true then os else km) lm (if L 5=true then b2 else a1)) (.slice A1 n1 c1) (.slice A2 n2 c2) [⟨D3,e3,Rr,false⟩,⟨D2,e2,Rq,false⟩,⟨D1,e1,Rp',true⟩,⟨D3,e3,Rc,true⟩,⟨D2,e2,Rb,true⟩,⟨D1,e1,Ra,true⟩] (xU g15 0 [.string su,.string sp,.string so,.int .i64 se,.slice Ab nb cb,.slice As ns cs,.int .i64 x.given,.string bx,.bool o1,.bool o2] w9):=by
         rw[if_pos rfl];exact hh.wr (i:=15) rfl Kkm.o 0 [.string su,.string sp,.string so,.int .i64 se,.slice Ab nb cb,.slice As ns cs,.int .i64 x.given,.string bx,.bool o1,.bool o2] σ σ Kos.o
        simp only[xU,Nat.reduceAdd] at hs;have HS:=ι hs;clear hh hs hw9;repeat go_step
        refine RG.xC ?_;exact HS
       ·rfl
       refine RG.lS ?_;apply RG.yA
       ·rfl
       ·intro L w9 h0 _ hw9;have hh:=hw9.o;rw[h0] at hh;simp only[if_neg (c:=false=true) σ] at hh;have hk:=hh.k 17 _ rfl;rw[Ka1.o] at hk;have zo1:=xA hk 1;have zy1:=xB hk 1;simp only[gA,gB,gC] at zo1;clear hk
        have hs:Bt w (kyB w.heap.size g3 g3' g5 g5' g7 g7' g9 g10 qF g12 qE g14 g15 g16 g17 od os ow oa ob ou oc ov om on op' (if L 2=true then od else oq) or (if L 3=true then os else km) lm (if (true:Bool)=true then b2 else a1)) (.slice A1 n1 c1) (.slice A2 n2 c2) [⟨D3,e3,Rr,false⟩,⟨D2,e2,Rq,false⟩,⟨D1,e1,Rp',true⟩,⟨D3,e3,Rc,true⟩,⟨D2,e2,Rb,true⟩,⟨D1,e1,Ra,true⟩] (xU g17 1 [.string ⟨#[116,32,78,79,13,10]⟩] w9):=by
         rw[if_pos rfl];exact hh.wr (i:=17) rfl Ka1.o 1 [.string ⟨#[116,32,78,79,13,10]⟩] σ σ Kb2.o
        simp only[xU,Nat.reduceAdd] at hs;have HS:=ι hs;clear hh hs hw9;repeat go_step
        refine RG.xC ?_;exact HS
       ·rfl
       refine RG.xZ (λw8 hw8=>?_)
       have HF:Hid (Bt w (kyB w.heap.size g3 g3' g5 g5' g7 g7' g9 g10 qF g12 qE g14 g15 g16 g17 od os ow oa ob ou oc ov om on op' od or os lm b2) (.slice A1 n1 c1) (.slice A2 n2 c2) [⟨D3,e3,Rr,false⟩,⟨D2,e2,Rq,false⟩,⟨D1,e1,Rp',true⟩,⟨D3,e3,Rc,true⟩,⟨D2,e2,Rb,true⟩,⟨D1,e1,Ra,true⟩] w8):=ι hw8.o
       clear hw8 HB;go_wp2_with fail
       go_meet;refine ι ⟨(⟨A1,n1,c1,A2,n2,c2⟩:DkR),od,Kod.o,?_,λt ht=>?_⟩
       ·rw[HEQ.o.1];have hb:=HF.o.b;rw[HEQ.o.2] at hb⊢;exact hb
       ·skip
        simp only[List.mem_cons,List.not_mem_nil,or_false] at ht;rcases ht with rfl|rfl|rfl|rfl|rfl|rfl
        ·exact HF.o.t _ σ
        ·exact⟨λh=>absurd h HNE.o,λ_ _=>rfl⟩
        ·exact HF.o.t _ σ
        ·exact HF.o.t _ σ
        ·exact HF.o.t _ σ
        ·exact HF.o.t _ σ
     case rest=>
      obtain⟨Rq',oq',hop',hcut⟩:=hcut.o;have HB0:=ι hcut;have Koq':=ι hop';clear hcut hop' HB HE2;have HB:=HB0;clear HB0;obtain⟨wd,hwd⟩:∃wd,wd=wc:=⟨_,rfl⟩;rw[<-hwd] at HB⊢;clear hwd
      go_upto_if 135 with (fail)
      go_cut [] (λwx=>Hid (∃(Rr':DkR) (or':Obj),or'=.cells #[.slice Rr'.A5 Rr'.m5 Rr'.k5,.slice Rr'.A6 Rr'.m6 Rr'.k6] 25/\Bt w (kyB w.heap.size g3 g3' g5 g5' g7 g7' g9 g10 qF g12 qE g14 g15 g16 g17 od os ow oa ob ou oc ov om on op' oq' or' ou ov a3) (.slice A1 n1 c1) (.slice A2 n2 c2) [⟨D3,e3,Rr',true⟩,⟨D2,e2,Rq',true⟩,⟨D1,e1,Rp',true⟩,⟨D3,e3,Rc,true⟩,⟨D2,e2,Rb,true⟩,⟨D1,e1,Ra,true⟩] wx))
      case first=>
       by_cases he3:e3=0
       ·subst he3;obtain⟨h1,h2,h3,h4,h5,h6,h7,h8,h9,h10,h11,h12⟩:=HE3.o.1 (by first|rfl|trivial);have HLV:Hid (ov=lm):=ι (by rw[Kov.o,Klm.o,h2,h3,h4,h5,h6,h7,h8,h9,h10,h11,h12]);have HT3:=ι h1;clear h1 h2 h3 h4 h5 h6 h7 h8 h9 h10 h11 h12;cases lb with
        |false=>
         have HF:Hid (∃(Rr':DkR) (or':Obj),or'=.cells #[.slice Rr'.A5 Rr'.m5 Rr'.k5,.slice Rr'.A6 Rr'.m6 Rr'.k6] 25/\Bt w (kyB w.heap.size g3 g3' g5 g5' g7 g7' g9 g10 qF g12 qE g14 g15 g16 g17 od os ow oa ob ou oc ov om on op' oq' or' ou ov a3) (.slice A1 n1 c1) (.slice A2 n2 c2) [⟨D3,0,Rr',true⟩,⟨D2,e2,Rq',true⟩,⟨D1,e1,Rp',true⟩,⟨D3,0,Rc,true⟩,⟨D2,e2,Rb,true⟩,⟨D1,e1,Ra,true⟩] wd):=ι ⟨Rr,or,Kor.o,by
          have eb:=HB.o.b;rw[(show a3=a2 by rw[Ka3.o,Ka2.o,HT3.o];rfl).symm,HLV.o.symm] at eb;exact eb,λt ht=>by
          simp only[List.mem_cons,List.not_mem_nil,or_false] at ht;rcases ht with rfl|rfl|rfl|rfl|rfl|rfl
          ·exact⟨(HB.o.t ⟨D3,0,Rr,false⟩ σ).1,λ_ h=>absurd rfl h⟩
          ·exact HB.o.t _ σ
          ·exact HB.o.t _ σ
          ·exact HB.o.t _ σ
          ·exact HB.o.t _ σ
          ·exact HB.o.t _ σ⟩
         clear HB HT3 HLV;go_wp2_with fail
         go_meet;exact HF
        |true=>
         have hk:=HB.o.k 17 _ rfl;rw[Ka2.o] at hk;have z2:=xA hk 2;have q2:=xB hk 2;simp only[gA,gB,gC] at z2;clear hk
         have hs:Bt w (kyB w.heap.size g3 g3' g5 g5' g7 g7' g9 g10 qF g12 qE g14 g15 g16 g17 od os ow oa ob ou oc ov om on op' oq' or ou lm a3) (.slice A1 n1 c1) (.slice A2 n2 c2) [⟨D3,0,Rr,false⟩,⟨D2,e2,Rq',true⟩,⟨D1,e1,Rp',true⟩,⟨D3,0,Rc,true⟩,⟨D2,e2,Rb,true⟩,⟨D1,e1,Ra,true⟩] (xU g17 2 [.string ((⟨#[42,32,68,79,78,69,13,10]⟩:ByteArray)++(⟨#[116,32,79,75,13,10]⟩:ByteArray))] wd):=HB.o.wr (i:=17) (o':=a3) rfl Ka2.o 2 [.string ((⟨#[42,32,68,79,78,69,13,10]⟩:ByteArray)++(⟨#[116,32,79,75,13,10]⟩:ByteArray))] σ σ (by rw[Ka3.o,HT3.o,yAm];rfl)
         simp only[xU] at hs;have HF:=ι hs;clear hs HB HT3;go_wp2_with fail
         go_meet;refine ι ⟨Rr,or,Kor.o,by have eb:=HF.o.b;rw[HLV.o.symm] at eb;exact eb,λt ht=>?_⟩;simp only[List.mem_cons,List.not_mem_nil,or_false] at ht;rcases ht with rfl|rfl|rfl|rfl|rfl|rfl
         ·exact⟨(HF.o.t ⟨D3,0,Rr,false⟩ σ).1,λ_ h=>absurd rfl h⟩
         ·exact HF.o.t _ σ
         ·exact HF.o.t _ σ
         ·exact HF.o.t _ σ
         ·exact HF.o.t _ σ
         ·exact HF.o.t _ σ
       ·have i1:(e3==0)=false:=by simpa using he3
        obtain⟨h1,h2⟩:=HE3.o.2 he3;have HEQ:Hid (a3=b3/\ov=os):=ι ⟨by rw[Ka3.o,Kb3.o,h1],by rw[Kov.o,Kos.o,h2]⟩;have HNE:=ι he3;clear h1 h2 he3;go_upto_region 17 with fail
        refine RG.yT [2,3,5] (λL W=>Hid (Bt w (kyB w.heap.size g3 g3' g5 g5' g7 g7' g9 g10 qF g12 qE g14 g15 g16 g17 od os ow oa ob ou oc ov om on op' oq' (if L 2=true then od else or) ou (if L 3=true then os else lm) (if L 5=true then b3 else a2)) (.slice A1 n1 c1) (.slice A2 n2 c2) [⟨D3,e3,Rr,false⟩,⟨D2,e2,Rq',true⟩,⟨D1,e1,Rp',true⟩,⟨D3,e3,Rc,true⟩,⟨D2,e2,Rb,true⟩,⟨D1,e1,Ra,true⟩] W)) (λL L' W h hI=>by rw[<-h 2 δ,<-h 3 δ,<-h 5 δ];exact hI) κ κ δ (ι (HB.o.below (Below.refl _ _).drew)) ?_
        apply RG.vW
        ·rfl
        ·intro L w9 hw9;have hk:=hw9.o.k 0 _ rfl;rw[Kod.o] at hk;obtain⟨q0,q1⟩:=zG hk;clear hk;repeat go_step
         exact RG.xC hw9
        ·rfl
        apply RG.vW
        ·rfl
        ·intro L w9 hw9;have hk:=hw9.o.k 1 _ rfl;rw[Kos.o] at hk;obtain⟨q0,q1,q2,q3,q4,q5,q6,q7,q8,q9⟩:=xBi hk;clear hk;repeat go_step
         exact RG.xC hw9
        ·rfl
        apply RG.yA
        ·rfl
        ·intro L w9 h0 _ hw9;have hh:=hw9.o;rw[h0] at hh;simp only[if_neg (c:=false=true) σ] at hh;have hk:=hh.k 13 _ rfl;rw[Kor.o] at hk;have zo0:=xA hk 0;have zy0:=xB hk 0;have zo1:=xA hk 1;have zy1:=xB hk 1;simp only[gA,gB,gC] at zo0 zo1;clear hk
         have hs:Bt w (kyB w.heap.size g3 g3' g5 g5' g7 g7' g9 g10 qF g12 qE g14 g15 g16 g17 od os ow oa ob ou oc ov om on op' oq' (if (true:Bool)=true then od else or) ou (if L 3=true then os else lm) (if L 5=true then b3 else a2)) (.slice A1 n1 c1) (.slice A2 n2 c2) [⟨D3,e3,Rr,false⟩,⟨D2,e2,Rq',true⟩,⟨D1,e1,Rp',true⟩,⟨D3,e3,Rc,true⟩,⟨D2,e2,Rb,true⟩,⟨D1,e1,Ra,true⟩] (xU qE 0 [.slice A1 n1 c1,.slice A2 n2 c2] w9):=by
          rw[if_pos rfl];exact hh.wr (i:=13) rfl Kor.o 0 [.slice A1 n1 c1,.slice A2 n2 c2] σ σ Kod.o
         simp only[xU,Nat.reduceAdd] at hs;have HS:=ι hs;clear hh hs hw9;repeat go_step
         refine RG.xC ?_;exact HS
        ·rfl
        apply RG.yA
        ·rfl
        ·intro L w9 h0 _ hw9;have hh:=hw9.o;rw[h0] at hh;simp only[if_neg (c:=false=true) σ] at hh;have hk:=hh.k 16 _ rfl;rw[Klm.o] at hk;have zo0:=xA hk 0;have zy0:=xB hk 0;have zo1:=xA hk 1;have zy1:=xB hk 1;have zo2:=xA hk 2;have zy2:=xB hk 2;have zo3:=xA hk 3
         have zy3:=xB hk 3;have zo4:=xA hk 4;have zy4:=xB hk 4;have zo5:=xA hk 5;have zy5:=xB hk 5;have zo6:=xA hk 6;have zy6:=xB hk 6;have zo7:=xA hk 7;have zy7:=xB hk 7;have zo8:=xA hk 8;have zy8:=xB hk 8;have zo9:=xA hk 9;have zy9:=xB hk 9
         simp only[gA,gB,gC] at zo0 zo1 zo2 zo3 zo4 zo5 zo6 zo7 zo8 zo9;clear hk
         have hs:Bt w (kyB w.heap.size g3 g3' g5 g5' g7 g7' g9 g10 qF g12 qE g14 g15 g16 g17 od os ow oa ob ou oc ov om on op' oq' (if L 2=true then od else or) ou (if (true:Bool)=true then os else lm) (if L 5=true then b3 else a2)) (.slice A1 n1 c1) (.slice A2 n2 c2) [⟨D3,e3,Rr,false⟩,⟨D2,e2,Rq',true⟩,⟨D1,e1,Rp',true⟩,⟨D3,e3,Rc,true⟩,⟨D2,e2,Rb,true⟩,⟨D1,e1,Ra,true⟩] (xU g16 0 [.string su,.string sp,.string so,.int .i64 se,.slice Ab nb cb,.slice As ns cs,.int .i64 x.given,.string bx,.bool o1,.bool o2] w9):=by
          rw[if_pos rfl];exact hh.wr (i:=16) rfl Klm.o 0 [.string su,.string sp,.string so,.int .i64 se,.slice Ab nb cb,.slice As ns cs,.int .i64 x.given,.string bx,.bool o1,.bool o2] σ σ Kos.o
         simp only[xU,Nat.reduceAdd] at hs;have HS:=ι hs;clear hh hs hw9;repeat go_step
         refine RG.xC ?_;exact HS
        ·rfl
        refine RG.lS ?_;apply RG.yA
        ·rfl
        ·intro L w9 h0 _ hw9;have hh:=hw9.o;rw[h0] at hh;simp only[if_neg (c:=false=true) σ] at hh;have hk:=hh.k 17 _ rfl;rw[Ka2.o] at hk;have zo2:=xA hk 2;have zy2:=xB hk 2;simp only[gA,gB,gC] at zo2;clear hk
         have hs:Bt w (kyB w.heap.size g3 g3' g5 g5' g7 g7' g9 g10 qF g12 qE g14 g15 g16 g17 od os ow oa ob ou oc ov om on op' oq' (if L 2=true then od else or) ou (if L 3=true then os else lm) (if (true:Bool)=true then b3 else a2)) (.slice A1 n1 c1) (.slice A2 n2 c2) [⟨D3,e3,Rr,false⟩,⟨D2,e2,Rq',true⟩,⟨D1,e1,Rp',true⟩,⟨D3,e3,Rc,true⟩,⟨D2,e2,Rb,true⟩,⟨D1,e1,Ra,true⟩] (xU g17 2 [.string ⟨#[116,32,78,79,13,10]⟩] w9):=by
          rw[if_pos rfl];exact hh.wr (i:=17) rfl Ka2.o 2 [.string ⟨#[116,32,78,79,13,10]⟩] σ σ Kb3.o
         simp only[xU,Nat.reduceAdd] at hs;have HS:=ι hs;clear hh hs hw9;repeat go_step
         refine RG.xC ?_;exact HS
        ·rfl
        refine RG.xZ (λw8 hw8=>?_)
        have HF:Hid (Bt w (kyB w.heap.size g3 g3' g5 g5' g7 g7' g9 g10 qF g12 qE g14 g15 g16 g17 od os ow oa ob ou oc ov om on op' oq' od ou os b3) (.slice A1 n1 c1) (.slice A2 n2 c2) [⟨D3,e3,Rr,false⟩,⟨D2,e2,Rq',true⟩,⟨D1,e1,Rp',true⟩,⟨D3,e3,Rc,true⟩,⟨D2,e2,Rb,true⟩,⟨D1,e1,Ra,true⟩] w8):=ι hw8.o
        clear hw8 HB;go_wp2_with fail
        go_meet;refine ι ⟨(⟨A1,n1,c1,A2,n2,c2⟩:DkR),od,Kod.o,?_,λt ht=>?_⟩
        ·rw[HEQ.o.1];have hb:=HF.o.b;rw[HEQ.o.2] at hb⊢;exact hb
        ·skip
         simp only[List.mem_cons,List.not_mem_nil,or_false] at ht;rcases ht with rfl|rfl|rfl|rfl|rfl|rfl
         ·exact⟨λh=>absurd h HNE.o,λ_ _=>rfl⟩
         ·exact HF.o.t _ σ
         ·exact HF.o.t _ σ
         ·exact HF.o.t _ σ
         ·exact HF.o.t _ σ
         ·exact HF.o.t _ σ
      case rest=>
       obtain⟨Rr',or',hop',hcut⟩:=hcut.o;have HB0:=ι hcut;have Kor':=ι hop';clear hcut hop' HB HE3;have HB:=HB0;clear HB0;have q1:(t1.toList==t1.toList)=true:=σ;have q2:(t2.toList==t2.toList)=true:=σ;have q3:(t3.toList==t3.toList)=true:=σ;go_upto_region 20 with fail
       have hk:=HB.o.k 17 _ rfl;rw[Ka3.o] at hk;have z0:=xKb hk;clear hk;have hk:=HB.o.k 3 _ rfl;rw[Koa.o] at hk;obtain⟨d0,d1⟩:=zG hk;clear hk;have hk:=HB.o.k 9 _ rfl;rw[Kop'.o] at hk;obtain⟨r0,r1⟩:=zG hk;clear hk;go_wp2_with fail
       refine(xDm _ _ _ _ (if e1=0 then D1 else d) _ (HB.o.t.rd ((HD.o.below HB.o.bel ν).more HB.o.bel.size) (t:=⟨D1,e1,Ra,true⟩) σ rfl) (HB.o.t.rd ((HD.o.below HB.o.bel ν).more HB.o.bel.size) (t:=⟨D1,e1,Rp',true⟩) σ rfl)).mono ?_;rintro e w9 ⟨rfl,hb9⟩
       have HB0:=ι (HB.o.below hb9);clear d0 d1 r0 r1 hb9 HB;have HB:=HB0;clear HB0;clear z0;have hk:=HB.o.k 4 _ rfl;rw[Kos.o] at hk;obtain⟨s0,s1,s2,s3,s4,s5,s6,s7,s8,s9⟩:=xBi hk;clear hk;have hk:=HB.o.k 14 _ rfl;rw[Kos.o] at hk;obtain⟨y0,y1,y2,y3,y4,y5,y6,y7,y8,y9⟩:=xBi hk
       clear hk;go_wp2_with fail
       refine(xGb su sp so bx se (.slice Ab nb cb) (.slice As ns cs) (.slice Ab nb cb) (.slice As ns cs) x o1 o2 _ ((HX.o.1.below HB.o.bel ν).more HB.o.bel.size) ((HX.o.1.below HB.o.bel ν).more HB.o.bel.size) HX.o.2.1 HX.o.2.2.1 HX.o.2.2.2).mono ?_;rintro e w9 ⟨rfl,hb9⟩
       have HB0:=ι (HB.o.below hb9);clear s0 s1 s2 s3 s4 s5 s6 s7 s8 s9 y0 y1 y2 y3 y4 y5 y6 y7 y8 y9 hb9 HB;have HB:=HB0;clear HB0;have hk:=HB.o.k 17 _ rfl;rw[Ka3.o] at hk;have z1:=xA hk 1;simp only[gA,gB,gC] at z1;clear hk;have hk:=HB.o.k 5 _ rfl;rw[Kob.o] at hk
       obtain⟨d0,d1⟩:=zG hk;clear hk;have hk:=HB.o.k 11 _ rfl;rw[Koq'.o] at hk;obtain⟨r0,r1⟩:=zG hk;clear hk;go_wp2_with fail
       refine(xDm _ _ _ _ (if e2=0 then D2 else d) _ (HB.o.t.rd ((HD.o.below HB.o.bel ν).more HB.o.bel.size) (t:=⟨D2,e2,Rb,true⟩) σ rfl) (HB.o.t.rd ((HD.o.below HB.o.bel ν).more HB.o.bel.size) (t:=⟨D2,e2,Rq',true⟩) σ rfl)).mono ?_;rintro e w9 ⟨rfl,hb9⟩
       have HB0:=ι (HB.o.below hb9);clear d0 d1 r0 r1 hb9 HB;have HB:=HB0;clear HB0;clear z1;have hk:=HB.o.k 6 _ rfl;rw[Kou.o] at hk;obtain⟨s0,s1,s2,s3,s4,s5,s6,s7,s8,s9⟩:=xBi hk;clear hk;have hk:=HB.o.k 15 _ rfl;rw[Kou.o] at hk;obtain⟨y0,y1,y2,y3,y4,y5,y6,y7,y8,y9⟩:=xBi hk
       clear hk;go_wp2_with fail
       refine(xGb su p2 o2' bx e2' (.slice Ab nb cb) (.slice As ns cs) (.slice Ab nb cb) (.slice As ns cs) x o1 o2 _ ((HX.o.1.below HB.o.bel ν).more HB.o.bel.size) ((HX.o.1.below HB.o.bel ν).more HB.o.bel.size) HX.o.2.1 HX.o.2.2.1 HX.o.2.2.2).mono ?_;rintro e w9 ⟨rfl,hb9⟩
       have HB0:=ι (HB.o.below hb9);clear s0 s1 s2 s3 s4 s5 s6 s7 s8 s9 y0 y1 y2 y3 y4 y5 y6 y7 y8 y9 hb9 HB;have HB:=HB0;clear HB0;have hk:=HB.o.k 17 _ rfl;rw[Ka3.o] at hk;have z2:=xA hk 2;simp only[gA,gB,gC] at z2;clear hk;have hk:=HB.o.k 7 _ rfl;rw[Koc.o] at hk
       obtain⟨d0,d1⟩:=zG hk;clear hk;have hk:=HB.o.k 13 _ rfl;rw[Kor'.o] at hk;obtain⟨r0,r1⟩:=zG hk;clear hk;go_wp2_with fail
       refine(xDm _ _ _ _ (if e3=0 then D3 else d) _ (HB.o.t.rd ((HD.o.below HB.o.bel ν).more HB.o.bel.size) (t:=⟨D3,e3,Rc,true⟩) σ rfl) (HB.o.t.rd ((HD.o.below HB.o.bel ν).more HB.o.bel.size) (t:=⟨D3,e3,Rr',true⟩) σ rfl)).mono ?_;rintro e w9 ⟨rfl,hb9⟩
       have HB0:=ι (HB.o.below hb9);clear d0 d1 r0 r1 hb9 HB;have HB:=HB0;clear HB0;clear z2;have hk:=HB.o.k 8 _ rfl;rw[Kov.o] at hk;obtain⟨s0,s1,s2,s3,s4,s5,s6,s7,s8,s9⟩:=xBi hk;clear hk;have hk:=HB.o.k 16 _ rfl;rw[Kov.o] at hk;obtain⟨y0,y1,y2,y3,y4,y5,y6,y7,y8,y9⟩:=xBi hk
       clear hk;go_wp2_with fail
       refine(xGb su sp o3' bx se (.slice Ab nb cb) (.slice As ns cs) (.slice Ab nb cb) (.slice As ns cs) x o1 o2 _ ((HX.o.1.below HB.o.bel ν).more HB.o.bel.size) ((HX.o.1.below HB.o.bel ν).more HB.o.bel.size) HX.o.2.1 HX.o.2.2.1 HX.o.2.2.2).mono ?_;rintro e w9 ⟨rfl,hb9⟩
       have HB0:=ι (HB.o.below hb9);clear s0 s1 s2 s3 s4 s5 s6 s7 s8 s9 y0 y1 y2 y3 y4 y5 y6 y7 y8 y9 hb9 HB;have HB:=HB0;clear HB0;go_wp2_with fail
       refine(xD7 _).mono ?_;rintro e w10 ⟨rfl,zF⟩;have HE:=ι (HB.o.bel.trans (zF.mono HB.o.bel.size));clear zF HB;go_wp2;go_ret;exact⟨rfl,HE.o⟩
end Go.Proofs.IM
namespace Go.Proofs.LE
open Go.ChangeShapes Go.WideShapes Go.ChangeAt Go.RowKit
section
variable {H:Type} {enc:TypeId×Value->H} {P:Program}
theorem xCb (hl:laidOutB P=true) {W W':World} (hb:ψ W W') {sp:Nat->Bool}:∀{ts:List TypeId} {vs:List Value} {ds:List (DataW H)} {ps:List MemPlace},
  (∀t∈ts,P.readableRec t=true/\t<P.types.size)->DataW.TrodAll enc P W 0 (λ_=>true) true ts vs ds ps->(∀x∈ps,x.block<W.heap.size)->(∀x∈ps,sp x.block=true)->
  DataW.TrodAll enc P W' 0 sp true ts vs ds ps
 |[],[],[],ps,_,h,_,_=>h
 |t::ts,v::vs,d::ds,ps,hr,h,hlt,hsp=>by
  obtain⟨p,q,h1,h2,rfl⟩:=h
  exact⟨p,q,WideElems.Trod_stays hl (hr t σ).1 (hr t σ).2 h1 (λx hx=>hb.same (hlt x (by simp[hx]))) (λx hx=>hsp x (by simp[hx])),
   xCb hl hb (λt ht=>hr t (by simp[ht])) h2 (λx hx=>hlt x (by simp[hx])) (λx hx=>hsp x (by simp[hx])),rfl⟩
 |[],[],_::_,_,_,h,_,_=>h.elim
 |[],_::_,_,_,_,h,_,_=>h.elim
 |_::_,[],_,_,_,h,_,_=>h.elim
 |_::_,_::_,[],_,_,h,_,_=>h.elim
theorem xPv {f:Func} {s:ChangeSpec} {apart fresh handsOn again:Bool} {W W':World} {args:Array Value} {ds gs:List (DataW H)} {before:List MemPlace} {tb:TypeId}
  (hl:laidOutB P=true) (hr:∀t∈f.params.toList,P.readableRec t=true/\t<P.types.size) (hrt:f.resultTypes=#[tb]) (htb:P.underlying tb=some .bool)
  (hW:DataW.Whole enc P f.params.toList s.vars apart W args.toList ds gs before) (hv:s.vars=[])
  (hfn:s.fn H ds={results:=[.lit (.bool true)],args:=ds}) (hb:ψ W W'):
  s.post enc P f apart fresh handsOn again W args (.bool true) W':=by
 have hlt:∀p∈before,p.block<W.heap.size:=λp hp=>hW.lt p hp;have hold:∀p∈before,(λb=>decide (b<W.heap.size)) p.block=true:=λp hp=>by simpa using hlt p hp
 have hW':=hW;obtain⟨p,q,hA,hV,rfl,hz,hn⟩:=hW;rw[hv] at hV;obtain⟨rfl,rfl⟩:=trodVars_none hV;simp only[List.append_nil] at*
 have hres:∀(b:Nat) (sp:Nat->Bool) (hd:Bool),DataW.TrodAll enc P W' b sp hd f.resultTypes.toList ((Value.bool true).resultList f.resultTypes.size) [.lit (.bool true)] []:=by
  intro b sp hd;rw[hrt];exact trodAll_mk1 (shut_bool htb _)
 have hargs:∀sp:Nat->Bool,(∀x∈p,sp x.block=true)->DataW.TrodAll enc P W' 0 sp true f.params.toList args.toList ds p:=λsp hsp=>xCb hl hb hr hA hlt hsp;refine⟨ds,[],p,[],p,[],hW',?_,?_,?_,World.keptBut_mono (λx hx=>⟨hx,?_⟩) (hb.frame (·∈p)),λ_=>?_⟩
 ·rw[List.append_nil,hfn];exact hres _ _ _
 ·rw[List.append_nil,hfn];exact hargs _ hold
 ·rw[List.append_nil,hfn,hv];rfl
 ·simp[hx]
 ·refine⟨?_,_,[],([]++p)++[],⟨[]++p,[],trodAll_append (hargs _ (λ_ _=>rfl)) (hres _ _ _),?_,rfl,?_,?_⟩,?_⟩
  ·exact ok_one hrt rfl (okWide_bool_mk htb _)
  ·rw[hv];rfl
  ·intro b off hp;have hin:MemPlace.cell b off∈p:=by simpa using hp
   rw[hb.frozen (hlt _ hin)];exact hz b off hin
  ·intro ha;simpa using hn ha
  ·intro x hx _;simpa using hx
theorem trodAll_length {W:World} {sp:Nat->Bool} {held:Bool} {base:Nat}:∀{ts:List TypeId} {vs:List Value} {ds:List (DataW H)} {ps:List MemPlace},DataW.TrodAll enc P W base sp held ts vs ds ps->ds.length=ts.length
 |[],[],[],_,_=>rfl
 |_::_,_::_,_::_,_,h=>by
  obtain⟨_,_,_,h2,_⟩:=h;simp[trodAll_length h2]
 |[],[],_::_,_,h=>h.elim
 |[],_::_,_,_,h=>h.elim
 |_::_,[],_,_,h=>h.elim
 |_::_,_::_,[],_,h=>h.elim
theorem law_lifted {C:Checked} {os:Os} {f:FuncId} {fn:Func} {s:ChangeSpec} {conds:List PathCond} {apart fresh handsOn again:Bool} {tb:TypeId}
  (own:ownKnob C.prog.godebug=none) (started:os.Started) (noInit:C.prog.inits.idxOf? f=none) (hfn:C.prog.funcs[f]?=some fn)
  (witness:∃(w:World) (tape:Tape) (i:Input),w.os=os/\(w.forCall tape i).Shaped C.prog/\i.vars=[]/\Input.okWide C.prog (w.forCall tape i) .any w.heap.size f i/\
   s.pre6 enc C.prog fn conds apart (w.forCall tape i).memory i.args/\Assume.holds {} C.prog (lone (Frame.enter C.prog f i.args .normal) [] (w.forCall tape i)))
  (hl:laidOutB C.prog=true) (hr:∀t∈fn.params.toList,C.prog.readableRec t=true/\t<C.prog.types.size) (hrt:fn.resultTypes=#[tb]) (htb:C.prog.underlying tb=some .bool)
  (hv:s.vars=[]) (hs:∀ds:List (DataW H),ds.length=fn.params.toList.length->s.fn H ds={results:=[.lit (.bool true)],args:=ds})
  (walk:∀(W:World) (base:Nat) (args:Array Value) (ds:List (DataW H)) (p:List MemPlace),
   (∀(j:Nat) t v,fn.params[j]?=some t->args[j]?=some v->Value.okWide C.prog W .any base t v)->
   DataW.TrodAll enc C.prog W 0 (λ_=>true) true fn.params.toList args.toList ds p->
   (DataW.weightsEach C.prog (fn.params.toList++s.plain.varTypes C.prog) (ds++[])).all (·<=reachBytes)=true->
   W.ShapedOpen C.prog->Calls C.prog f args W λe w'=>e=.returned (.bool true)/\ψ W w'):
  ReturnsInHanded {} C os f .any (s.pre6 enc C.prog fn conds apart) (s.post enc C.prog fn apart fresh handsOn again):=by
 refine returnsInHanded_of_change_shaped own started noInit hfn witness ?_;intro W base args ds gs before hval hW _ hwt hsh _;have hW':=hW;obtain⟨p,q,hA,hV,rfl,_,_⟩:=hW;rw[hv] at hV;obtain⟨rfl,rfl⟩:=trodVars_none hV
 refine(walk W base args ds p hval hA hwt hsh).mono λe W' ⟨he,hb⟩=>?_;subst he;exact⟨_,rfl,xPv hl hr hrt htb hW' hv (hs ds (trodAll_length hA)) hb⟩
end
end Go.Proofs.LE
namespace Go.Proofs.LE
open Go.ChangeShapes Go.WideShapes Go.ChangeAt Go.RowKit
section
variable {H:Type} {enc:TypeId×Value->H}
theorem yDj {C:Checked} {os:Os} {f:FuncId} {fn:Func} {s:ChangeSpec} {F:Stop.Interp} {conds:List PathCond} {apart fresh handsOn again:Bool} {laid:List (String×DataW Unit)} {tb:TypeId}
  (own:ownKnob C.prog.godebug=none) (started:os.Started) (noInit:C.prog.inits.idxOf? f=none) (hfn:C.prog.funcs[f]?=some fn)
  (witness:∃(w:World) (tape:Tape) (i:Input),w.os=os/\(w.forCall tape i).Shaped C.prog/\i.vars=[]/\Input.okWide C.prog (w.forCall tape i) .any w.heap.size f i/\
   (OpenSpec.ofChange s).preRow enc C.prog fn conds apart laid (w.forCall tape i).memory i.args/\({}:Assume).holds C.prog (lone (Frame.enter C.prog f i.args .normal) [] (w.forCall tape i)))
  (hl:laidOutB C.prog=true) (hr:∀t∈fn.params.toList,C.prog.readableRec t=true/\t<C.prog.types.size) (hrt:fn.resultTypes=#[tb]) (htb:C.prog.underlying tb=some .bool)
  (hv:s.vars=[]) (hs:∀ds:List (DataW H),ds.length=fn.params.toList.length->s.fn H ds={results:=[.lit (.bool true)],args:=ds})
  (walk:∀(W:World) (base:Nat) (args:Array Value) (ds:List (DataW H)) (p:List MemPlace),
   (∀(j:Nat) t v,fn.params[j]?=some t->args[j]?=some v->Value.okWide C.prog W .any base t v)->
   DataW.TrodAll enc C.prog W 0 (λ_=>true) true fn.params.toList args.toList ds p->
   W.ShapedOpen C.prog->laidMetH C.prog laid W->Calls C.prog f args W λe w'=>e=.returned (.bool true)/\ψ W w'):
  ReturnsInHanded {} C os f .any ((OpenSpec.ofChange s).preRow enc C.prog fn conds apart laid) (((OpenSpec.ofChange s).at F).post enc C.prog fn apart fresh handsOn again):=by
 refine returnsInHanded_of_row own started noInit hfn witness ?_;intro W base args ds gs before hval hW _ _ _ hL hsh _;have hW':DataW.Whole enc C.prog fn.params.toList s.vars apart W args.toList ds gs before:=hW;have hW2:=hW';obtain⟨p,q,hA,hV,rfl,_,_⟩:=hW2;rw[hv] at hV
 obtain⟨rfl,rfl⟩:=trodVars_none hV;refine(walk W base args ds p hval hA hsh hL).mono λe W' ⟨he,hb⟩=>?_;subst he;exact⟨_,rfl,xPv hl hr hrt htb hW' hv (hs ds (trodAll_length hA)) hb⟩
end
def xEp:DataW Unit->List Value
 |.agg l=>l.map λd=>match d with
  |.lit (.int k n)=>.int k n
  |_=>.bool false
 |_=>[]
def cells2:DataW Unit->List Value
 |.agg l=>l.flatMap xEp
 |_=>[]
def put (l:List Value):Obj->Obj
 |.cells _ t frozen=>.cells l.toArray t frozen
 |o=>o
end Go.Proofs.LE
namespace Go.Proofs.SV
open Go.Joins Go.ChangeShapes Go.WideShapes Go.RowKit Go.Deep MM Mailsack
theorem xBc {W:World} {name:String} {g:Nat} {cs:Array Value} (hg:prog.globalNamed name=some g) (h:W.var? prog name=some cs):∃t fr,W.heap[g]?=some (.cells cs t fr):=by
 unfold World.var? at h;rw[hg] at h;simp only[Option.bind_some] at h;split at h
 ·rename_i c t fr hw
  injection h with h;subst h;exact⟨t,fr,hw⟩
 ·cases h
theorem xFr {W:World} {a b:String} (ha:prog.globalNamed a=some 1) (hb:prog.globalNamed b=some 4) (h1:Lib.TabIs prog W a .u32 xSj) (h2:Lib.TabIs prog W b .u32 rE):SH.vT W:=
 ⟨xBc ha h1,xBc hb h2⟩
theorem xL1 {H:Type} {enc:TypeId×Value->H} {P:Program} {w:World} {base:Nat} {spare:Nat->Bool} {held:Bool} {t t1 t2 t3 t4:TypeId} {args:Array Value} {ds:List (DataW H)} {ps:List MemPlace} (h:DataW.TrodAll enc P w base spare held [t,t1,t2,t3,t4] args.toList ds ps):
  ∃v v1 v2 v3 v4 d d1 d2 d3 d4 p p1 p2 p3 p4,args=#[v,v1,v2,v3,v4]/\ds=[d,d1,d2,d3,d4]/\ps=p++p1++p2++p3++p4/\DataW.Trod enc P w base spare held t v d p/\DataW.Trod enc P w base spare held t1 v1 d1 p1/\DataW.Trod enc P w base spare held t2 v2 d2 p2/\DataW.Trod enc P w base spare held t3 v3 d3 p3/\DataW.Trod enc P w base spare held t4 v4 d4 p4:=by
 obtain⟨v,vs,d,ds',p,q,hargs,rfl,rfl,hd,hrest⟩:=trodAll_cons h;obtain⟨v',vs',d',ds'',p',q',rfl,rfl,rfl,hd',hrest'⟩:=trodAll_cons hrest;obtain⟨v2,vs2,d2,ds2,p2,q2,rfl,rfl,rfl,hd2,hrest2⟩:=trodAll_cons hrest';obtain⟨v3,vs3,d3,ds3,p3,q3,rfl,rfl,rfl,hd3,hrest3⟩:=trodAll_cons hrest2
 obtain⟨v4,vs4,d4,ds4,p4,q4,rfl,rfl,rfl,hd4,hrest4⟩:=trodAll_cons hrest3;obtain⟨rfl,rfl,rfl⟩:=trodAll_nil hrest4;exact⟨v,v',v2,v3,v4,d,d',d2,d3,d4,p,p',p2,p3,p4,by cases args;simp_all,rfl,σ,hd,hd',hd2,hd3,hd4⟩
theorem xUc {W w':World} {name:String} {g:Nat} {cs:Array Value} (hg:prog.globalNamed name=some g) (h:W.var? prog name=some cs) (hb:ψ W w'):w'.var? prog name=some cs:=by
 obtain⟨t,fr,h1⟩:=xBc hg h;have h2:=xD h1 hb (xH h1);unfold World.var?;rw[hg];simp only[Option.bind_some,h2]
theorem xN4 {W : World} {a b c : String} (ha : prog.globalNamed a = some 1) (hb : prog.globalNamed b = some 4) (hc : prog.globalNamed c = some 0) (he : prog.globalNamed "internal/strconv.uint64pow10" = some 3)
  (h1 : Lib.TabIs prog W a .u32 xSj) (h2 : Lib.TabIs prog W b .u32 rE) (h3 : Lib.TabIs prog W c .i64 [128,256,512,704]) (h4 : Lib.TabIs prog W "internal/strconv.uint64pow10" .u64 Lib.pow10Tab) : Go.Proofs.VA.VaT W :=
 ⟨⟨xFr ha hb h1 h2,⟨xBc hc h3⟩⟩,λ_ hb=>xUc he h4 hb⟩
end Go.Proofs.SV