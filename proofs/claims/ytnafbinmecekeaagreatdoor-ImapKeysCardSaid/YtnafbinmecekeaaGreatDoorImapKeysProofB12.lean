/- Contracts of functions. Conditions: as stated. -/
import Derived.Test.YtnafbinmecekeaaGreatDoorImapKeysProofB11
import Derived.Lib.ItoaLen
open Go.Proofs.Tryz
set_option maxHeartbeats 8000000
set_option maxRecDepth 100000
namespace Mailsack
theorem xX4 {c b:Nat} {data:Bs} {k:Nat} (h:k<countP c):(xAh c b data)[k]?=some ⟨((kN c b+k:Nat):Int),((xS2 data (xIn c)).drop (k*64)).take 64⟩:=by
 unfold xAh;rw[List.getElem?_map,List.getElem?_range h]
 rfl
theorem xAt (c b:Nat) (data:Bs):(xAh c b data).length=countP c:=by simp[xAh]
end Mailsack
namespace Go.Proofs.ST
open Go.RowKit Mailsack MM BB SH SV RK DS AL
def xOs (K:StL) (W W':World):Prop:=∀(q:Nat) cs T fr,W.heap[q]?=some (.cells cs T fr)->T≠154->K.hi1<=q->W'.heap[q]?=some (.cells cs T fr)
theorem xOs.refl (K:StL) (W:World):xOs K W W:=λ_ _ _ _ h _ _=>h
theorem xOs.below {K:StL} {W W1 W2:World} (h:xOs K W W1) (hb:ψ W1 W2):xOs K W W2:=λq cs T fr h1 h2 h3=>by
 have:=h q cs T fr h1 h2 h3;exact xD this hb (xH this)
theorem xOs.app {K:StL} {W W1 W2:World} {base:Nat} {v v':Value} {l l':List Wr} (h:xOs K W W1) (ho:zI 154 2 wrF W1 base v l) (ha:xKt 154 2 wrF W1 W2 base v v' l'):xOs K W W2:=λq cs T fr h1 h2 h3=>by
 have:=h q cs T fr h1 h2 h3;exact ha.keep this (zI.neT ho this h2)
theorem xOs.cell {K:StL} {W W1:World} (h:xOs K W W1) (hg:K.gs<K.hi1) (v:Value):xOs K W (W1.setCell ⟨K.gs,3,none⟩ v):=λq cs T fr h1 h2 h3=>yC (h q cs T fr h1 h2 h3) (p:=⟨K.gs,3,none⟩) (by show q≠K.gs;omega) _
theorem StM.gs_lt {w W:World} {K:StL} {cv wv:Value} {s:StS} (h:StM w K cv wv s W):K.gs<K.hi1:=by
 have:=h.o2;have:=h.o3;have:=h.o4;have:=h.o5;omega
theorem tY (w:World) (K:StL) (wv:Value) (s:StS) (c b:Nat) (data:Bs) (W:World) (h:StM w K wv wv s W) (hc:c<=1) (hb:b<=255) (hd:data.length<=xIn c) (hw:s.writes.length<=10000):
  Calls prog 268 #[.pointer (some ⟨K.gs,0,none⟩),.int .i64 c,.int .i64 b,xR data] W λe W'=>e=.returned (.tuple #[])/\(∃wv',StM w K wv' wv' {s with writes:=s.writes++xAh c b data} W')/\xOs K W W':=by
 have HCA:=ι (λW=>pF c W);have hcl:=xOp c;have HPD:=ι (λW=>xNt ⟨data.toArray⟩ (xIn c) W ω (by show data.toArray.size<=_;simp;omega));rw[show(⟨data.toArray⟩:ByteArray).data.toList=data from rfl] at HPD;have HSE:=ι (λW=>xFv c b W ω);have HPL:=ι (xZf hd);have HCE:=ι (xXs hc)
 have HFG:=ι (λk h=>xX4 (c:=c) (b:=b) (data:=data) (k:=k) h);have HFL:=ι (xAt c b data);have HCN:Hid (countP c<=16/\kN c b<=100000):=ι ⟨by unfold countP;split<;>omega,by unfold kN;split<;>omega⟩;have HW:=ι hw
 have H0:Hid (StM w K wv wv {s with writes:=s.writes++(xAh c b data).take 0} W):=ι (by simpa using h);have HGS:=ι h.gs_lt;generalize xAh c b data=fl at HFG HFL H0⊢;generalize xS2 data (xIn c)=al at HPD HPL HFG;generalize xIn c=cp at HCA HPD HPL HCE hd hcl
 generalize kN c b=fi at HSE HFG HCN;generalize countP c=cn at HSE HFG HFL HCN HCE;obtain⟨ab,hab⟩:∃ab:ByteArray,(⟨al.toArray⟩:ByteArray)=ab:=⟨_,rfl⟩;have HAB:=ι (And.intro hab (show ab.size=al.length by rw[<-hab];simp[ByteArray.size]))
 rw[show xR al=.string ab from by rw[<-hab]] at HPD;clear h hc hb hd hcl hw hab;go_enter func268,ntmps268;go_wp2_with fail
 refine(HCA.o _).mono ?_;rintro e w1 ⟨rfl,hw1⟩;rw[hw1];clear hw1 w1;go_wp2_with fail
 refine(HPD.o _).mono ?_;rintro e w2 ⟨rfl,hb2⟩;have H2:=ι (And.intro (H0.o.below hb2) ((xOs.refl K W).below hb2));clear hb2 H0;go_wp2_with fail
 refine(HSE.o _).mono ?_;rintro e w3 ⟨rfl,rfl⟩;go_wp2_with fail
 clear HCA HPD HSE
 go_loopw [24] (λiv wr=>∃(k:Nat) (uv:Value),k<=cn/\iv=.int .i64 k/\Hid (StM w K uv uv {s with writes:=s.writes++fl.take k} wr/\xOs K W wr)) (λiv _=>cn- (intOf iv).toNat)
 case atStart=>exact⟨0,_,Nat.zero_le _,rfl,H2⟩
 case round=>
  obtain⟨k,uv,hk,rfl,HI⟩:=hrel;clear H2
  by_cases hlt:k<cn
  ·have HT1:Hid (∀x,fl[k]?=some x->s.writes++fl.take (k+1)=s.writes++fl.take k++[x]):=ι (λx hx=>by rw[List.take_add_one,hx,List.append_assoc];rfl)
   have HTL:Hid ((s.writes++fl.take k).length<=10020):=ι (by have:=HW.o;have:=List.length_take_le k fl;have:=HFL.o;have:=HCN.o.1;rw[List.length_append];omega);generalize s.writes++fl.take k=ws at HI HT1 HTL;obtain⟨A,cc,hv,_⟩:=HI.o.1.wr.form;have hcnb:cn<=16:=HCN.o.1
   have hfib:fi<=100000:=HCN.o.2;have hz:(ab.size:Int)=64*(cn:Int):=by have:=HAB.o.2;have:=HPL.o;have:=HCE.o;omega
   have hHX:=HFG.o k hlt
   have HPB:Hid (xR ((al.drop (k*64)).take 64)=.string (ab.extract (k*64) ((k+1)*64))):=ι (by
    rw[<-HAB.o.1];show Value.string _=Value.string _
    congr 1
    apply ByteArray.ext;rw[ByteArray.data_extract];apply Array.ext';rw[Array.toList_extract];simp[List.extract,show(k+1)*64-k*64=64 by omega])
   have HX:=ι hHX;have HTK:Hid (s.writes++fl.take (k+1)=ws++[⟨((fi+k:Nat):Int),(al.drop (k*64)).take 64⟩]):=ι (HT1.o _ HX.o);have g1:(0:Int)<=(k:Int)*64:=ω;have g2:(k:Int)*64<=((k:Int)+1)*64:=ω;have g3:((k:Int)+1)*64<=(ab.size:Int):=ω;have hb:=HI.o.1.st;have s3:=xA hb 3
   have y3:=xB hb 3;simp only[gA,gB,gC] at s3;clear hHX hb;go_upto_region 6 with fail
   rw[<-HPB.o];generalize (al.drop (k*64)).take 64=pl at HTK⊢;have hfk:(fi:Int)+(k:Int)=((fi+k:Nat):Int):=ω;have HFK:=ι hfk
   have HAD:Hid (∀v8 w8,xKt 154 2 wrF (wr.alloc (.cells #[.int .i64 ((fi:Int)+(k:Int)),xR pl] 154)) w8 K.hi1 uv v8 (ws++[(⟨(fi:Int)+(k:Int),pl⟩:Wr)])->Hid (StM w K v8 v8 {s with writes:=s.writes++fl.take (k+1)} (w8.setCell ⟨K.gs,3,none⟩ v8)/\w8.heap[K.gs]?=some (wT K uv)/\xOs K W (w8.setCell ⟨K.gs,3,none⟩ v8))):=ι λv8 w8 h8=>ι (by
    have ha:=StM.app (HI.o.1.below (φ wr _)) h8;refine⟨?_,ha.st,((HI.o.2.below (φ wr _)).app (HI.o.1.wr.alloc _) h8).cell HGS.o v8⟩;have hc:=ha.cell v8;rw[HTK.o,<-HFK.o];exact hc)
   have HO:=ι (And.intro HI.o.1.wr HI.o.1.o6);subst hv;clear hfk HI HTK HPB HX
   go_wp2_with (at_builtin;refine vL tyWr rfl _ _ rfl rfl rfl (HO.o.1.alloc _) (RdR.lit (m:=[(⟨(fi:Int)+(k:Int),pl⟩:Wr)]) xDd _ _ rfl) (by have:=HTL.o;simp;omega) (by have:=HO.o.2;simp;omega) ?_;intro v8 w8 h8;obtain⟨A8,c8,hv8,_⟩:=h8.own.form;rw[show(ws++[(⟨(fi:Int)+(k:Int),pl⟩:Wr)]).length=ws.length+1 by simp] at hv8;subst hv8;have HA8:=HAD.o _ _ h8;have s8:=xA HA8.o.2.1 3;have y8:=xB HA8.o.2.1 3;simp only[gA,gB,gC] at s8;clear h8)
   exact⟨⟨k+1,_,ω,by go_num,ι ⟨HA8.o.1,HA8.o.2.2⟩⟩,by simp[intOf];omega⟩
  ·obtain rfl:k=cn:=ω;have HE:Hid (fl.take k=fl):=ι (List.take_of_length_le (by rw[HFL.o];omega));rw[HE.o] at HI;go_wp2;refine bodyPost_end (results_none rfl _ _ _) rfl ?_;exact⟨rfl,⟨_,HI.o.1⟩,HI.o.2⟩
theorem xWz (t:Slot) (w:World):
  Calls prog 266 #[xGz t] w λe w'=>e=.returned (.bool (!t.used))/\ψ w w':=by
 obtain⟨u,c,b,s,m⟩:=t;have HB:=ι (φ w (wU ⟨u,c,b,s,m⟩));have hb:=xM w (wU ⟨u,c,b,s,m⟩);have c0:=xKb hb;clear hb;cases u with
 |false=>
  go_enter func266,ntmps266;go_wp2;go_ret;exact⟨rfl,HB.o⟩
 |true=>
  go_enter func266,ntmps266;go_wp2;go_ret;exact⟨rfl,HB.o⟩
abbrev chV (c:Ch):Value:=.agg #[xR c.name,xR c.data,.bool c.gone]
abbrev chO (c:Ch):Obj:=.cells #[xR c.name,xR c.data,.bool c.gone] 102
structure ChM (w:World) (K:StL) (wv:Value) (s:StS) (c:Ch) (bx:Nat) (W:World):Prop where
 m:StM w K wv wv s W
 c:W.heap[bx]?=some (chO c)
 lo:K.hi1<=bx
section
variable {w W W':World} {K:StL} {wv:Value} {s:StS} {c:Ch} {bx:Nat}
theorem ChM.below (h:ChM w K wv s c bx W) (hb:ψ W W'):ChM w K wv s c bx W':=⟨h.m.below hb,xD h.c hb (xH h.c),h.lo⟩
theorem ChM.drew (h:ChM w K wv s c bx W):ChM w K wv s c bx W.drew:=h.below (Below.refl _ _).drew
theorem ChM.slots (h:ChM w K wv s c bx W):RdR 5 qC W W.heap.size (.slice (some ⟨K.gl,0,none⟩) 32 32) s.slots:=by
 have:=h.m.sl.rd zM (B:=W.heap.size) (xH h.m.sl.blk) (c:=32) (by rw[h.m.len];omega);rw[h.m.len] at this;exact this
theorem ChM.pop0 (h:ChM w K wv s c bx W) {l:List Nat} (hp:pW W' K.lo0 K.hi0 K.gp0 24 l) (ht:Tn (λk=>K.lo0<=k/\k<K.hi0) W W'):ChM w K wv {s with xAr:=l} c bx W':=by
 have m:=h.m;have a0:=m.o0;have a1:=m.o1;have a2:=m.o2;have a3:=m.o3;have a4:=m.o4;have a5:=m.o5;have a6:=m.o6;have a7:=h.lo
 refine⟨⟨ht.blk m.st ω,ht.blk m.sl.blk ω,hp,m.p1.tn ht (λk h1 h2=>by omega),m.wr.tn ht (λg hg=>by have:=(World.ownsRow.lt m.wr.row g hg).1;omega),m.len,m.bel.trans (ht.below (λk hk=>by omega) m.bel.size),a0,a1,a2,a3,a4,a5,Nat.le_trans a6 ht.size⟩,ht.blk h.c ω,h.lo⟩
theorem ChM.pop1 (h:ChM w K wv s c bx W) {l:List Nat} (hp:pW W' K.lo1 K.hi1 K.gp1 12 l) (ht:Tn (λk=>K.lo1<=k/\k<K.hi1) W W'):ChM w K wv {s with xAq:=l} c bx W':=by
 have m:=h.m;have a0:=m.o0;have a1:=m.o1;have a2:=m.o2;have a3:=m.o3;have a4:=m.o4;have a5:=m.o5;have a6:=m.o6;have a7:=h.lo
 refine⟨⟨ht.blk m.st ω,ht.blk m.sl.blk ω,m.p0.tn ht (λk h1 h2=>by omega),hp,m.wr.tn ht (λg hg=>by have:=(World.ownsRow.lt m.wr.row g hg).1;omega),m.len,m.bel.trans (ht.below (λk hk=>by omega) m.bel.size),a0,a1,a2,a3,a4,a5,Nat.le_trans a6 ht.size⟩,ht.blk h.c ω,h.lo⟩
end
end Go.Proofs.ST
namespace Go.Proofs.ST
open Go.RowKit Mailsack MM BB SH SV RK DS AL
def yC3 (w:World) (K:StL) (s:StS) (c:Ch) (W:World):Prop:=∃wv',StM w K wv' wv' (if xGp s c=0 then xKa s c else s) W
theorem xT2 (w:World) (K:StL) (wv:Value) (s:StS) (c:Ch) (W:World) (h:StM w K wv wv s W) (hw:s.writes.length<=9000):
  Calls prog 176 #[.pointer (some ⟨K.gs,0,none⟩),chV c] W λe W'=>e=.returned (.int .i64 (xGp s c))/\yC3 w K s c W':=by
 have H0:Hid (ChM w K wv s c W.heap.size (W.alloc (chO c))):=ι ⟨h.below ((Below.refl _ _).alloc ν _),xM _ _,h.o6⟩;have HW:=ι hw
 have HCE:Hid (xGp s c=if c.name.length<1∨24<c.name.length then 1 else if c.gone=true then(if rM s.slots c.name<0 then 6 else 0) else if 1024<c.data.length then 4 else if xEd s.slots c.name<0 then 5 else if (s.free (wB c.data)).length=0 then 5 else 0):=ι rfl
 have HPO:Hid (∀W',(∃wv',StM w K wv' wv' (if xGp s c=0 then xKa s c else s) W')->yC3 w K s c W'):=ι λ_ h=>h;obtain⟨ce,hce⟩:∃ce,xGp s c=ce:=⟨_,rfl⟩;rw[hce] at HCE HPO⊢;obtain⟨bx,hbx⟩:∃bx,W.heap.size=bx:=⟨_,rfl⟩;rw[hbx] at H0;have HBX:=ι hbx;clear h hw hce hbx
 by_cases hn:c.name.length<1∨24<c.name.length
 ·have HC:Hid (ce=1):=ι (by rw[HCE.o,if_pos hn]);have c0:=xKb H0.o.c;rw[HC.o,if_neg ω] at HPO;clear HCE
  by_cases h1:c.name.length<1
  ·have i1:(c.name.length:Int)<1:=ω;clear hn h1;go_enter func176,ntmps176;go_upto_region 1 with fail
   rw[HBX.o];go_wp2;go_ret;exact⟨by rw[HC.o];rfl,HPO.o _ ⟨_,H0.o.m⟩⟩
  ·have i1:¬((c.name.length:Int)<1):=ω;have i2:24<(c.name.length:Int):=ω;clear hn h1;go_enter func176,ntmps176;go_upto_region 1 with fail
   rw[HBX.o];go_wp2;go_ret;exact⟨by rw[HC.o];rfl,HPO.o _ ⟨_,H0.o.m⟩⟩
 ·have i1:¬((c.name.length:Int)<1):=ω;have i2:¬(24<(c.name.length:Int)):=ω;have HNL:Hid (c.name.length<=24):=ι ω;rw[if_neg hn] at HCE;clear hn;have c0:=xKb H0.o.c
  have HFI:=ι (λW (h:ChM w K wv s c bx W)=>xQ9 (.slice (some ⟨K.gl,0,none⟩) 32 32) s.slots c.name W h.slots (by rw[h.m.len];omega));go_enter func176,ntmps176;go_upto_region 1 with fail
  rw[HBX.o];go_upto_region 3 with fail
  clear c0 i1 i2;generalize W.alloc (.cells #[xR c.name,xR c.data,.bool c.gone] 102)=w1 at H0⊢;refine RG.xQ (λW=>Hid (ChM w K wv s c bx W)) κ κ (ι H0.o.drew) ?_
  iterate 6
   apply RG.xJ
   ·intro w9 hw9;have hb:=hw9.o.m.st;have s0:=xA hb 0;have hc:=hw9.o.c;have c0:=xA hc 0;simp only[gA,gC] at s0 c0;repeat go_step
    exact RG.xC hw9
   ·rfl
  apply RG.xJ
  ·intro w9 hw9;repeat go_step
   refine(HFI.o _ hw9.o).mono ?_;rintro e w10 ⟨rfl,zF⟩;simp only[];repeat go_step
   refine RG.xC ?_;exact ι (hw9.o.below zF)
  ·rfl
  refine RG.dS ?_;refine RG.xS (λw3 hw3=>?_);clear H0 HFI HBX;have c2:=xA hw3.o.c 2;simp only[gA,gB,gC] at c2;cases hg:c.gone with
  |true=>
   rw[hg] at c2;rw[hg,if_pos rfl] at HCE;have HGO:Hid (xKa s c=putAt s (rM s.slots c.name).toNat noSlot):=ι (by unfold xKa;rw[hg,if_pos rfl]);rcases xDx s.slots c.name with ⟨f1,_⟩|⟨i,t,f1,f2,_,_,f5⟩
   ·rw[f1];rw[f1,if_pos ω] at HCE;have HC:=HCE;rw[HC.o,if_neg ω] at HPO;clear f1 hg HGO HCE;go_wp2;go_ret;exact⟨by rw[HC.o];rfl,HPO.o _ ⟨_,hw3.o.m⟩⟩
   ·rw[f1];rw[f1,if_neg ω] at HCE;rw[f1,Int.toNat_natCast] at HGO;have HC:=HCE;rw[HC.o,if_pos rfl,HGO.o] at HPO;have HST:=ι (xFs w K wv s i noSlot w3 hw3.o.m (by rw[hw3.o.m.len] at f5;exact f5) δ δ δ δ (by have:=HW.o;omega))
    rw[show xGz noSlot=.agg #[.bool false,.int .i64 0,.int .i64 0,.int .i64 0,.string ⟨#[]⟩] from rfl] at HST;clear f1 f2 f5 hg HGO HCE;go_wp2_with fail
    refine HST.o.mono ?_;rintro e w4 ⟨rfl,hp⟩;have HP:=ι hp;clear hp c2 HST;go_wp2;go_ret;exact⟨by rw[HC.o];rfl,HPO.o _ HP.o⟩
  |false=>
   rw[hg] at c2;rw[hg,if_neg σ] at HCE;have c1:=xA hw3.o.c 1;simp only[gA,gB,gC] at c1
   have HGO:Hid (xKa s c=putAt {xJf s (wB c.data) with writes:=(xJf s (wB c.data)).writes++xAh (wB c.data) ((s.free (wB c.data)).getD 0 0) c.data} (xEd s.slots c.name).toNat (pM c ((s.free (wB c.data)).getD 0 0))):=ι (by unfold xKa;rw[hg,if_neg σ]);clear hg
   by_cases hd:1024<c.data.length
   ·have hdi:1024<(c.data.length:Int):=ω;rw[if_pos hd] at HCE;have HC:=HCE;rw[HC.o,if_neg ω] at HPO;clear hd HGO HCE;go_wp2;go_ret;exact⟨by rw[HC.o];rfl,HPO.o _ ⟨_,hw3.o.m⟩⟩
   ·have hdi:¬(1024<(c.data.length:Int)):=ω;rw[if_neg hd] at HCE;have HDL:Hid (c.data.length<=1024):=ι ω;clear hd;have HPL:Hid (xEd s.slots c.name=if rM s.slots c.name<0 then xQ2 (λt=>!t.used) s.slots else rM s.slots c.name):=ι rfl
    have HPC:Hid ((xEd s.slots c.name=-1)∨∃i:Nat,xEd s.slots c.name=i/\i<32):=ι (by
     have hl:=hw3.o.m.len;unfold xEd;split
     ·rcases rJ (λt:Slot=>!t.used) s.slots with ⟨g,_⟩|⟨k,t,g1,g2,_⟩
      ·exact .inl g
      ·exact .inr ⟨k,g1,by have:=(List.getElem?_eq_some_iff.1 g2).1;omega⟩
     ·rcases xDx s.slots c.name with ⟨g,_⟩|⟨k,t,g1,_,_,_,g5⟩
      ·omega
      ·exact .inr ⟨k,g1,ω⟩)
    by_cases hf:rM s.slots c.name<0
    ·rw[if_pos hf] at HPL;have HIF:=ι (xM5 266 #[] (λt=>!t.used) (.slice (some ⟨K.gl,0,none⟩) 32 32) s.slots w3 hw3.o.slots (by rw[hw3.o.m.len];omega) (λargs W=>enters_of func266 κ rfl args W) (λt W _=>xWz t W));rw[<-HPL.o] at HIF;have hs0:=xKb hw3.o.m.st
     go_wp2_with fail
     refine HIF.o.mono ?_;rintro e w5 ⟨rfl,hb5⟩;have H5:=ι (hw3.o.below hb5);clear hb5 HIF hs0 c1 c2 hdi hf hw3 HPL;rcases HPC.o with hpl|⟨i,hpl,hi⟩
     ·rw[hpl];rw[hpl,if_pos ω] at HCE;have HC:=HCE;rw[HC.o,if_neg ω] at HPO;clear hpl HGO HCE;go_wp2;go_ret;exact⟨by rw[HC.o];rfl,HPO.o _ ⟨_,H5.o.m⟩⟩
     ·rw[hpl];rw[hpl,if_neg ω] at HCE;rw[hpl,Int.toNat_natCast] at HGO;clear hpl HPC;have HI:=ι hi;clear hi;go_upto_region 16 with fail
      have HCA:=ι (λW=>pF 0 W);rw[show(xIn 0:Int)=256 from rfl] at HCA;refine RG.xQ (λW=>Hid (ChM w K wv s c bx W)) κ κ (ι H5.o.drew) ?_
      iterate 3
       apply RG.xJ
       ·intro w9 hw9;have hc:=hw9.o.c;have c1:=xA hc 1;simp only[gA,gB,gC] at c1;repeat go_step
        exact RG.xC hw9
       ·rfl
      apply RG.xJ
      ·intro w9 hw9;repeat go_step
       refine(HCA.o _).mono ?_;rintro e w10 ⟨rfl,rfl⟩;simp only[];repeat go_step
       exact RG.xC hw9
      ·rfl
      refine RG.dS ?_;refine RG.xS (λw6 hw6=>?_);clear H5 HCA;have c1:=xA hw6.o.c 1;simp only[gA,gB,gC] at c1
      by_cases hcl:256<c.data.length
      ·have HCL:Hid (wB c.data=1):=ι (by unfold wB;rw[if_pos hcl]);rw[HCL.o] at HCE HGO;have yDy:256<(c.data.length:Int):=ω;have s2:=xA hw6.o.m.st 2;simp only[gA,gB,gC] at s2;clear hcl;rw[show s.free 1=s.xAq from rfl] at HCE HGO
       rw[show xJf s 1={s with xAq:=xH0 s.xAq} from rfl] at HGO;cases hfr:s.xAq with
       |nil=>
        rw[hfr,if_pos (show([]:List Nat).length=0 from rfl)] at HCE;have HC:=HCE;rw[HC.o,if_neg ω] at HPO;have hpm:=hw6.o.m.p1;rw[hfr] at hpm;have HTK:=ι (xCe K.lo1 K.hi1 K.gp1 12 w6 hpm);clear hfr hpm HGO HCE;go_wp2_with fail
        refine HTK.o.mono ?_;rintro e w7 ⟨rfl,hw7⟩;rw[hw7];clear hw7 w7;go_wp2;go_ret;exact⟨by rw[HC.o];rfl,HPO.o _ ⟨_,hw6.o.m⟩⟩
       |cons x fl=>
        rw[hfr,if_neg σ] at HCE;rw[hfr] at HGO;have HC:=HCE;rw[HC.o,if_pos rfl,HGO.o] at HPO;have hpm:=hw6.o.m.p1;rw[hfr] at hpm
        have HXB:Hid (x<12):=ι (by
         obtain⟨_,_,_,_,_,_,_,_,_,_,_,_,h8,_⟩:=hpm;exact h8 x (List.mem_cons_self ..))
        have HTK:=ι (xEx K.lo1 K.hi1 K.gp1 12 x fl w6 hpm);clear hfr hpm HGO HCE;go_wp2_with fail
        refine HTK.o.mono ?_;rintro e w7 ⟨rfl,hp7,ht7⟩;have H7:=ι (hw6.o.pop1 hp7 ht7);clear hp7 ht7 HTK c1 s2 hw6 yDy;have c1:=xA H7.o.c 1;simp only[gA,gB,gC] at c1
        have HFL:=ι (tY w K wv {s with xAq:=xH0 (x::fl)} 1 x c.data w7 H7.o.m ω (by have:=HXB.o;omega) (by show c.data.length<=1024;have:=HDL.o;omega) (by show s.writes.length<=_;have:=HW.o;omega));rw[show(((1:Nat)):Int)=1 from rfl] at HFL;go_upto_region 21 with fail
        go_wp2_with fail
        refine HFL.o.mono ?_;rintro e w8 ⟨rfl,⟨uv,hm8⟩,hk8⟩;have HB8:=ι (hk8 _ _ _ _ H7.o.c δ H7.o.lo)
        have HST:=ι (xFs w K uv {s with xAq:=xH0 (x::fl),writes:=s.writes++xAh 1 x c.data} i (pM c x) w8 hm8 HI.o (by show wB c.data<=255;rw[HCL.o];omega) (by show x<=255;have:=HXB.o;omega) (by show c.data.length<=65535;have:=HDL.o;omega) (by show c.name.length<=255;have:=HNL.o;omega) (by show(s.writes++xAh 1 x c.data).length<=_;rw[List.length_append,xAt];have:=HW.o;have h16:countP 1<=16:=δ;omega))
        rw[show xGz (pM c x)=.agg #[.bool true,.int .i64 (wB c.data:Nat),.int .i64 x,.int .i64 (c.data.length:Nat),xR c.name] from rfl,HCL.o] at HST;rw[show(((1:Nat)):Int)=1 from rfl] at HST;clear hm8 hk8 HFL H7 c1;have c1:=xA HB8.o 1;have c0:=xA HB8.o 0
        simp only[gA,gB,gC] at c0 c1;go_upto_region 22 with fail
        go_wp2_with fail
        refine HST.o.mono ?_;rintro e w9 ⟨rfl,hp⟩;have HP:=ι hp;clear hp c0 c1 HST;go_wp2;go_ret;exact⟨by rw[HC.o];rfl,HPO.o _ HP.o⟩
      ·have HCL:Hid (wB c.data=0):=ι (by unfold wB;rw[if_neg hcl]);rw[HCL.o] at HCE HGO;have HCLB:Hid (c.data.length<=256):=ι ω;have yDy:¬(256<(c.data.length:Int)):=ω;have s2:=xA hw6.o.m.st 1;simp only[gA,gB,gC] at s2;clear hcl;rw[show s.free 0=s.xAr from rfl] at HCE HGO
       rw[show xJf s 0={s with xAr:=xH0 s.xAr} from rfl] at HGO;cases hfr:s.xAr with
       |nil=>
        rw[hfr,if_pos (show([]:List Nat).length=0 from rfl)] at HCE;have HC:=HCE;rw[HC.o,if_neg ω] at HPO;have hpm:=hw6.o.m.p0;rw[hfr] at hpm;have HTK:=ι (xCe K.lo0 K.hi0 K.gp0 24 w6 hpm);clear hfr hpm HGO HCE;go_wp2_with fail
        refine HTK.o.mono ?_;rintro e w7 ⟨rfl,hw7⟩;rw[hw7];clear hw7 w7;go_wp2;go_ret;exact⟨by rw[HC.o];rfl,HPO.o _ ⟨_,hw6.o.m⟩⟩
       |cons x fl=>
        rw[hfr,if_neg σ] at HCE;rw[hfr] at HGO;have HC:=HCE;rw[HC.o,if_pos rfl,HGO.o] at HPO;have hpm:=hw6.o.m.p0;rw[hfr] at hpm
        have HXB:Hid (x<24):=ι (by
         obtain⟨_,_,_,_,_,_,_,_,_,_,_,_,h8,_⟩:=hpm;exact h8 x (List.mem_cons_self ..))
        have HTK:=ι (xEx K.lo0 K.hi0 K.gp0 24 x fl w6 hpm);clear hfr hpm HGO HCE;go_wp2_with fail
        refine HTK.o.mono ?_;rintro e w7 ⟨rfl,hp7,ht7⟩;have H7:=ι (hw6.o.pop0 hp7 ht7);clear hp7 ht7 HTK c1 s2 hw6 yDy;have c1:=xA H7.o.c 1;simp only[gA,gB,gC] at c1
        have HFL:=ι (tY w K wv {s with xAr:=xH0 (x::fl)} 0 x c.data w7 H7.o.m ω (by have:=HXB.o;omega) (by show c.data.length<=256;have:=HCLB.o;omega) (by show s.writes.length<=_;have:=HW.o;omega));rw[show(((0:Nat)):Int)=0 from rfl] at HFL;go_upto_region 21 with fail
        go_wp2_with fail
        refine HFL.o.mono ?_;rintro e w8 ⟨rfl,⟨uv,hm8⟩,hk8⟩;have HB8:=ι (hk8 _ _ _ _ H7.o.c δ H7.o.lo)
        have HST:=ι (xFs w K uv {s with xAr:=xH0 (x::fl),writes:=s.writes++xAh 0 x c.data} i (pM c x) w8 hm8 HI.o (by show wB c.data<=255;rw[HCL.o];omega) (by show x<=255;have:=HXB.o;omega) (by show c.data.length<=65535;have:=HDL.o;omega) (by show c.name.length<=255;have:=HNL.o;omega) (by show(s.writes++xAh 0 x c.data).length<=_;rw[List.length_append,xAt];have:=HW.o;have h16:countP 0<=16:=δ;omega))
        rw[show xGz (pM c x)=.agg #[.bool true,.int .i64 (wB c.data:Nat),.int .i64 x,.int .i64 (c.data.length:Nat),xR c.name] from rfl,HCL.o] at HST;rw[show(((0:Nat)):Int)=0 from rfl] at HST;clear hm8 hk8 HFL H7 c1;have c1:=xA HB8.o 1;have c0:=xA HB8.o 0
        simp only[gA,gB,gC] at c0 c1;go_upto_region 22 with fail
        go_wp2_with fail
        refine HST.o.mono ?_;rintro e w9 ⟨rfl,hp⟩;have HP:=ι hp;clear hp c0 c1 HST;go_wp2;go_ret;exact⟨by rw[HC.o];rfl,HPO.o _ HP.o⟩
    ·rw[if_neg hf] at HPL;have H5:=hw3;rw[<-HPL.o] at hf⊢;clear hw3 HPL;go_upto_region 13 with fail
     clear c1 c2 hdi hf;obtain⟨w5,hw5⟩:∃w5,w5=w3:=⟨_,rfl⟩;rw[<-hw5] at H5⊢;clear hw5;rcases HPC.o with hpl|⟨i,hpl,hi⟩
     ·rw[hpl];rw[hpl,if_pos ω] at HCE;have HC:=HCE;rw[HC.o,if_neg ω] at HPO;clear hpl HGO HCE;go_wp2;go_ret;exact⟨by rw[HC.o];rfl,HPO.o _ ⟨_,H5.o.m⟩⟩
     ·rw[hpl];rw[hpl,if_neg ω] at HCE;rw[hpl,Int.toNat_natCast] at HGO;clear hpl HPC;have HI:=ι hi;clear hi;go_upto_region 16 with fail
      have HCA:=ι (λW=>pF 0 W);rw[show(xIn 0:Int)=256 from rfl] at HCA;refine RG.xQ (λW=>Hid (ChM w K wv s c bx W)) κ κ (ι H5.o.drew) ?_
      iterate 3
       apply RG.xJ
       ·intro w9 hw9;have hc:=hw9.o.c;have c1:=xA hc 1;simp only[gA,gB,gC] at c1;repeat go_step
        exact RG.xC hw9
       ·rfl
      apply RG.xJ
      ·intro w9 hw9;repeat go_step
       refine(HCA.o _).mono ?_;rintro e w10 ⟨rfl,rfl⟩;simp only[];repeat go_step
       exact RG.xC hw9
      ·rfl
      refine RG.dS ?_;refine RG.xS (λw6 hw6=>?_);clear H5 HCA;have c1:=xA hw6.o.c 1;simp only[gA,gB,gC] at c1
      by_cases hcl:256<c.data.length
      ·have HCL:Hid (wB c.data=1):=ι (by unfold wB;rw[if_pos hcl]);rw[HCL.o] at HCE HGO;have yDy:256<(c.data.length:Int):=ω;have s2:=xA hw6.o.m.st 2;simp only[gA,gB,gC] at s2;clear hcl;rw[show s.free 1=s.xAq from rfl] at HCE HGO
       rw[show xJf s 1={s with xAq:=xH0 s.xAq} from rfl] at HGO;cases hfr:s.xAq with
       |nil=>
        rw[hfr,if_pos (show([]:List Nat).length=0 from rfl)] at HCE;have HC:=HCE;rw[HC.o,if_neg ω] at HPO;have hpm:=hw6.o.m.p1;rw[hfr] at hpm;have HTK:=ι (xCe K.lo1 K.hi1 K.gp1 12 w6 hpm);clear hfr hpm HGO HCE;go_wp2_with fail
        refine HTK.o.mono ?_;rintro e w7 ⟨rfl,hw7⟩;rw[hw7];clear hw7 w7;go_wp2;go_ret;exact⟨by rw[HC.o];rfl,HPO.o _ ⟨_,hw6.o.m⟩⟩
       |cons x fl=>
        rw[hfr,if_neg σ] at HCE;rw[hfr] at HGO;have HC:=HCE;rw[HC.o,if_pos rfl,HGO.o] at HPO;have hpm:=hw6.o.m.p1;rw[hfr] at hpm
        have HXB:Hid (x<12):=ι (by
         obtain⟨_,_,_,_,_,_,_,_,_,_,_,_,h8,_⟩:=hpm;exact h8 x (List.mem_cons_self ..))
        have HTK:=ι (xEx K.lo1 K.hi1 K.gp1 12 x fl w6 hpm);clear hfr hpm HGO HCE;go_wp2_with fail
        refine HTK.o.mono ?_;rintro e w7 ⟨rfl,hp7,ht7⟩;have H7:=ι (hw6.o.pop1 hp7 ht7);clear hp7 ht7 HTK c1 s2 hw6 yDy;have c1:=xA H7.o.c 1;simp only[gA,gB,gC] at c1
        have HFL:=ι (tY w K wv {s with xAq:=xH0 (x::fl)} 1 x c.data w7 H7.o.m ω (by have:=HXB.o;omega) (by show c.data.length<=1024;have:=HDL.o;omega) (by show s.writes.length<=_;have:=HW.o;omega));rw[show(((1:Nat)):Int)=1 from rfl] at HFL;go_upto_region 21 with fail
        go_wp2_with fail
        refine HFL.o.mono ?_;rintro e w8 ⟨rfl,⟨uv,hm8⟩,hk8⟩;have HB8:=ι (hk8 _ _ _ _ H7.o.c δ H7.o.lo)
        have HST:=ι (xFs w K uv {s with xAq:=xH0 (x::fl),writes:=s.writes++xAh 1 x c.data} i (pM c x) w8 hm8 HI.o (by show wB c.data<=255;rw[HCL.o];omega) (by show x<=255;have:=HXB.o;omega) (by show c.data.length<=65535;have:=HDL.o;omega) (by show c.name.length<=255;have:=HNL.o;omega) (by show(s.writes++xAh 1 x c.data).length<=_;rw[List.length_append,xAt];have:=HW.o;have h16:countP 1<=16:=δ;omega))
        rw[show xGz (pM c x)=.agg #[.bool true,.int .i64 (wB c.data:Nat),.int .i64 x,.int .i64 (c.data.length:Nat),xR c.name] from rfl,HCL.o] at HST;rw[show(((1:Nat)):Int)=1 from rfl] at HST;clear hm8 hk8 HFL H7 c1;have c1:=xA HB8.o 1;have c0:=xA HB8.o 0
        simp only[gA,gB,gC] at c0 c1;go_upto_region 22 with fail
        go_wp2_with fail
        refine HST.o.mono ?_;rintro e w9 ⟨rfl,hp⟩;have HP:=ι hp;clear hp c0 c1 HST;go_wp2;go_ret;exact⟨by rw[HC.o];rfl,HPO.o _ HP.o⟩
      ·have HCL:Hid (wB c.data=0):=ι (by unfold wB;rw[if_neg hcl]);rw[HCL.o] at HCE HGO;have HCLB:Hid (c.data.length<=256):=ι ω;have yDy:¬(256<(c.data.length:Int)):=ω;have s2:=xA hw6.o.m.st 1;simp only[gA,gB,gC] at s2;clear hcl;rw[show s.free 0=s.xAr from rfl] at HCE HGO
       rw[show xJf s 0={s with xAr:=xH0 s.xAr} from rfl] at HGO;cases hfr:s.xAr with
       |nil=>
        rw[hfr,if_pos (show([]:List Nat).length=0 from rfl)] at HCE;have HC:=HCE;rw[HC.o,if_neg ω] at HPO;have hpm:=hw6.o.m.p0;rw[hfr] at hpm;have HTK:=ι (xCe K.lo0 K.hi0 K.gp0 24 w6 hpm);clear hfr hpm HGO HCE;go_wp2_with fail
        refine HTK.o.mono ?_;rintro e w7 ⟨rfl,hw7⟩;rw[hw7];clear hw7 w7;go_wp2;go_ret;exact⟨by rw[HC.o];rfl,HPO.o _ ⟨_,hw6.o.m⟩⟩
       |cons x fl=>
        rw[hfr,if_neg σ] at HCE;rw[hfr] at HGO;have HC:=HCE;rw[HC.o,if_pos rfl,HGO.o] at HPO;have hpm:=hw6.o.m.p0;rw[hfr] at hpm
        have HXB:Hid (x<24):=ι (by
         obtain⟨_,_,_,_,_,_,_,_,_,_,_,_,h8,_⟩:=hpm;exact h8 x (List.mem_cons_self ..))
        have HTK:=ι (xEx K.lo0 K.hi0 K.gp0 24 x fl w6 hpm);clear hfr hpm HGO HCE;go_wp2_with fail
        refine HTK.o.mono ?_;rintro e w7 ⟨rfl,hp7,ht7⟩;have H7:=ι (hw6.o.pop0 hp7 ht7);clear hp7 ht7 HTK c1 s2 hw6 yDy;have c1:=xA H7.o.c 1;simp only[gA,gB,gC] at c1
        have HFL:=ι (tY w K wv {s with xAr:=xH0 (x::fl)} 0 x c.data w7 H7.o.m ω (by have:=HXB.o;omega) (by show c.data.length<=256;have:=HCLB.o;omega) (by show s.writes.length<=_;have:=HW.o;omega));rw[show(((0:Nat)):Int)=0 from rfl] at HFL;go_upto_region 21 with fail
        go_wp2_with fail
        refine HFL.o.mono ?_;rintro e w8 ⟨rfl,⟨uv,hm8⟩,hk8⟩;have HB8:=ι (hk8 _ _ _ _ H7.o.c δ H7.o.lo)
        have HST:=ι (xFs w K uv {s with xAr:=xH0 (x::fl),writes:=s.writes++xAh 0 x c.data} i (pM c x) w8 hm8 HI.o (by show wB c.data<=255;rw[HCL.o];omega) (by show x<=255;have:=HXB.o;omega) (by show c.data.length<=65535;have:=HDL.o;omega) (by show c.name.length<=255;have:=HNL.o;omega) (by show(s.writes++xAh 0 x c.data).length<=_;rw[List.length_append,xAt];have:=HW.o;have h16:countP 0<=16:=δ;omega))
        rw[show xGz (pM c x)=.agg #[.bool true,.int .i64 (wB c.data:Nat),.int .i64 x,.int .i64 (c.data.length:Nat),xR c.name] from rfl,HCL.o] at HST;rw[show(((0:Nat)):Int)=0 from rfl] at HST;clear hm8 hk8 HFL H7 c1;have c1:=xA HB8.o 1;have c0:=xA HB8.o 0
        simp only[gA,gB,gC] at c0 c1;go_upto_region 22 with fail
        go_wp2_with fail
        refine HST.o.mono ?_;rintro e w9 ⟨rfl,hp⟩;have HP:=ι hp;clear hp c0 c1 HST;go_wp2;go_ret;exact⟨by rw[HC.o];rfl,HPO.o _ HP.o⟩
end Go.Proofs.ST
namespace Mailsack
theorem xMh:∀(l:List Ch) (s:StS) (c:Ch),(uP s l).2=0->uP s (l++[c])=if xGp (uP s l).1 c=0 then(xKa (uP s l).1 c,0) else((uP s l).1,xGp (uP s l).1 c)
 |[],s,c,_=>by
  show(if xGp s c=0 then uP (xKa s c) [] else(s,xGp s c))=if xGp s c=0 then(xKa s c,0) else(s,xGp s c)
  rfl
 |x::l,s,c,h=>by
  unfold uP at h
  by_cases hx:xGp s x=0
  ·rw[if_pos hx] at h;have ih:=xMh l (xKa s x) c h;show(if xGp s x=0 then uP (xKa s x) (l++[c]) else(s,xGp s x))=_
   have e:uP s (x::l)=uP (xKa s x) l:=by
    show(if xGp s x=0 then uP (xKa s x) l else(s,xGp s x))=_;rw[if_pos hx]
   rw[if_pos hx,ih,e]
  ·rw[if_neg hx] at h;exact absurd h hx
theorem xQm:∀(l:List Ch) (s:StS) (k:Nat),(uP s (l.take k)).2≠0->(uP s l).2=(uP s (l.take k)).2
 |l,s,0,h=>absurd rfl h
 |[],s,k+1,h=>absurd rfl h
 |x::l,s,k+1,h=>by
  rw[List.take_succ_cons] at h⊢;unfold uP at h⊢
  by_cases hx:xGp s x=0
  ·rw[if_pos hx] at h;rw[if_pos hx,if_pos hx];exact xQm l (xKa s x) k h
  ·rw[if_neg hx,if_neg hx]
theorem xZq (s:StS) (c:Ch):(xKa s c).writes.length<=s.writes.length+17:=by
 have h16:∀k,countP k<=16:=λk=>by unfold countP;split<;>omega
 unfold xKa;split
 ·simp[putAt]
 ·have:=h16 (wB c.data);simp[putAt,xLq,xAh];omega
theorem xYt {S:List Bs} {c x:Nat} (h:x∈uD (yS S) c):x<jU c:=by
 unfold uD at h;obtain⟨t,ht,rfl⟩:=List.mem_map.1 h;obtain⟨h1,h2⟩:=List.mem_filter.1 ht;simp only[Bool.and_eq_true,beq_iff_eq] at h2;obtain⟨i,hi⟩:=List.mem_iff_getElem?.1 h1;rw[rA] at hi;split at hi
 ·obtain⟨s,_,rfl⟩:=Option.map_eq_some_iff.1 hi;rcases xK8 s with e|⟨_,h3⟩
  ·rw[e] at h2;cases h2.1
  ·have:=h3.blk;rw[h2.2] at this;exact this
 ·cases hi
end Mailsack
namespace Go.Proofs.ST
open Go.RowKit Mailsack MM BB SH SV RK DS AL
abbrev chF (c:Ch):List Value:=[xR c.name,xR c.data,.bool c.gone]
structure Ps0 (w:World) (gl gs:Nat) (ts:List Slot) (W:World):Prop where
 st:W.heap[gs]?=some (.cells #[.slice (some ⟨gl,0,none⟩) 32 32,.pointer none,.pointer none,.slice none 0 0] 236 (0,0))
 sl:kM 165 qC W gl ts
 bel:ψ w W
 o0:w.heap.size<=gl
 o1:gl<gs
structure Ps1 (w:World) (gl gs gp0 lo0 hi0:Nat) (ts:List Slot) (W:World):Prop where
 st:W.heap[gs]?=some (.cells #[.slice (some ⟨gl,0,none⟩) 32 32,.pointer (some ⟨gp0,0,none⟩),.pointer none,.slice none 0 0] 236 (0,0))
 sl:kM 165 qC W gl ts
 p0:pW W lo0 hi0 gp0 24 (xDv 24 (uD ts 0))
 bel:ψ w W
 o0:w.heap.size<=gl
 o1:gl<gs
 o2:gs<lo0
 o3:lo0<=hi0
 o4:hi0<=W.heap.size
def PsM (w:World) (gl gs:Nat) (sl:List Slot) (k:Nat) (W:World):Prop:=
 (k=0/\Ps0 w gl gs sl W)∨(k=1/\∃gp0 lo0 hi0,Ps1 w gl gs gp0 lo0 hi0 sl W)∨
 (k=2/\∃K:StL,K.gl=gl/\K.gs=gs/\StM w K (.slice none 0 0) (.slice none 0 0) ⟨sl,xDv 24 (uD sl 0),xDv 12 (uD sl 1),[]⟩ W)
theorem Ps0.below {w W W':World} {gl gs:Nat} {sl:List Slot} (h:Ps0 w gl gs sl W) (hb:ψ W W'):Ps0 w gl gs sl W':=
 ⟨xD h.st hb (xH h.st),h.sl.below hb,h.bel.trans (hb.mono h.bel.size),h.o0,h.o1⟩
theorem Ps1.below {w W W':World} {gl gs gp0 lo0 hi0:Nat} {sl:List Slot} (h:Ps1 w gl gs gp0 lo0 hi0 sl W) (hb:ψ W W'):Ps1 w gl gs gp0 lo0 hi0 sl W':=
 ⟨xD h.st hb (xH h.st),h.sl.below hb,h.p0.below hb,h.bel.trans (hb.mono h.bel.size),h.o0,h.o1,h.o2,h.o3,Nat.le_trans h.o4 hb.size⟩
theorem Ps0.pool {w W W':World} {gl gs gp:Nat} {sl:List Slot} (h:Ps0 w gl gs sl W) (hb:ψ W W') (hp:pW W' W.heap.size W'.heap.size gp 24 (xDv 24 (uD sl 0))):
  Ps1 w gl gs gp W.heap.size W'.heap.size sl (W'.setCell ⟨gs,1,none⟩ (.pointer (some ⟨gp,0,none⟩))):=by
 have h':=h.below hb;have hlt:=xH h.st;have:=h.o0;have:=h.o1;have e1:=xY h'.st 1 (.pointer (some ⟨gp,0,none⟩));simp only[List.setIfInBounds_toArray,List.set_cons_zero,List.set_cons_succ] at e1
 exact⟨e1,yC h'.sl.blk (p:=⟨gs,1,none⟩) (by show gl≠gs;omega) _,hp.kept λq o hq h1 h2=>yC hq (p:=⟨gs,1,none⟩) (by show q≠gs;omega) _,h'.bel.setCell (p:=⟨gs,1,none⟩) (by show w.heap.size<=gs;omega) _,h.o0,h.o1,hlt,hb.size,by rw[size_set];exact Nat.le_refl _⟩
theorem Ps1.pool {w W W':World} {gl gs gp0 lo0 hi0 gp:Nat} {sl:List Slot} (h:Ps1 w gl gs gp0 lo0 hi0 sl W) (hl:sl.length=32) (hb:ψ W W') (hp:pW W' W.heap.size W'.heap.size gp 12 (xDv 12 (uD sl 1))):
  StM w ⟨gl,gs,gp0,lo0,hi0,gp,W.heap.size,W'.heap.size⟩ (.slice none 0 0) (.slice none 0 0) ⟨sl,xDv 24 (uD sl 0),xDv 12 (uD sl 1),[]⟩ (W'.setCell ⟨gs,2,none⟩ (.pointer (some ⟨gp,0,none⟩))):=by
 have h':=h.below hb;have hlt:=xH h.st;have:=h.o0;have:=h.o1;have:=h.o2;have e1:=xY h'.st 2 (.pointer (some ⟨gp,0,none⟩));simp only[List.setIfInBounds_toArray,List.set_cons_zero,List.set_cons_succ] at e1
 exact⟨e1,yC h'.sl.blk (p:=⟨gs,2,none⟩) (by show gl≠gs;omega) _,h'.p0.kept λq o hq h1 h2=>yC hq (p:=⟨gs,2,none⟩) (by show q≠gs;omega) _,hp.kept λq o hq h1 h2=>yC hq (p:=⟨gs,2,none⟩) (by show q≠gs;omega) _,zI.nil _ _,hl,h'.bel.setCell (p:=⟨gs,2,none⟩) (by show w.heap.size<=gs;omega) _,h.o0,h.o1,h.o2,h.o3,h.o4,hb.size,by rw[size_set];exact Nat.le_refl _⟩
theorem xR0 (va vb lv:Value) (d:Dk) (l:List Ch) (w:World) (h:RdD w w.heap.size va vb d) (hl:RdR 3 chF w w.heap.size lv l) (hll:l.length<=500):
  Calls prog 90 #[.agg #[va,vb],lv] w λe w'=>∃v,e=.returned (.tuple #[v,.int .i64 (jP d l)])/\RdW w' w'.heap.size v (wC d l)/\ψ w w':=by
 obtain⟨A1,c1,A2,c2,rfl,rfl⟩:=xX h;obtain⟨A3,c3,rfl,hc3,hl3⟩:=hl;have HL:=ι hl3;have HA:=ι (φ w (xW (.slice A1 d.secs.length c1) (.slice A2 d.cache.length c2)));have hD0:=xM w (xW (.slice A1 d.secs.length c1) (.slice A2 d.cache.length c2));obtain⟨d0,d1⟩:=zG hD0;clear hD0 hl3 hc3
 have HCT:=ι (xAy _ _ d _ ((h.below HA.o ν).more HA.o.size));have HE:Hid (jP d l=if wS d=true then(if (uP (stS d) l).2=0 then(if 30<(uP (stS d) l).1.writes.length then 4 else 0) else(uP (stS d) l).2) else 1):=ι rfl
 have HG:Hid (wC d l=if jP d l=0 then(uP (stS d) l).1.writes else[]):=ι rfl;have HFL:Hid (wS d=true->(yH d).secs.length=381/\∀s∈(yH d).secs,s.length=64):=ι xJy;have HCP:Hid (∀v W,xQz d v W->wS d=true->RdS W W.heap.size v (yH d).secs):=ι (λv W h=>h)
 have HSD:Hid (stS d=⟨yS (yH d).secs,xDv 24 (uD (yS (yH d).secs) 0),xDv 12 (uD (yS (yH d).secs) 1),[]⟩):=ι rfl;have HLL:=ι hll;obtain⟨we,hwe⟩:∃we,jP d l=we:=⟨_,rfl⟩;obtain⟨wp,hwp⟩:∃wp,wC d l=wp:=⟨_,rfl⟩;rw[hwe] at HE HG;rw[hwp] at HG;rw[hwe,hwp];clear hwe hwp h;cases hc:wS d with
 |false=>
  rw[hc] at HCT HE;rw[if_neg σ] at HE;rw[HE.o,if_neg ω] at HG;clear hc HFL HCP;go_enter func90,ntmps90;go_wp2_with fail
  refine HCT.o.mono ?_;rintro e w1 ⟨v,rfl,_,hb⟩;have HB:=ι (HA.o.trans (hb.mono HA.o.size));clear hb HA HCT d0 d1;go_wp2;go_ret2;exact⟨_,by rw[HE.o];rfl,by rw[HG.o];exact RdW.xPn _ _,HB.o⟩
 |true=>
  have qI:=ι (HFL.o hc);have xTc:=ι (λv W h=>HCP.o v W h hc);rw[hc] at HCT HE;rw[if_pos rfl] at HE;clear hc HFL HCP;generalize stS d=s0 at HE HG HSD;generalize (yH d).secs=S at qI xTc HSD;go_enter func90,ntmps90;go_wp2_with fail
  refine HCT.o.mono ?_;rintro e w1 ⟨v,rfl,hct,hb⟩;have HB1:=ι (HA.o.trans (hb.mono HA.o.size));have HSO:=ι (xFq v S w1 (xTc.o v w1 hct) qI.o.1 qI.o.2);obtain⟨A5,c5,rfl,_⟩:=xTc.o v w1 hct;clear hct hb HCT xTc d0 d1 HA;go_wp2_with fail
  refine HSO.o.mono ?_;rintro e w2 ⟨gl,rfl,hgl,hsl,hb2⟩;have HS2:=ι (show kM 165 qC w2 gl (yS S)/\ψ w w2/\w.heap.size<=gl from⟨hsl,HB1.o.trans (hb2.mono HB1.o.size),Nat.le_trans HB1.o.size hgl⟩);have HTL:=ι (λc x (h:x∈uD (yS S) c)=>xYt h);have HSL:=ι (kP qI.o.1)
  have HTN:=ι (λc=>xL2 (yS S) c 32);clear hsl hb2 hgl HSO HB1 qI;generalize yS S=sl at HS2 HSD HTL HSL HTN
  have HP0:Hid (PsM w gl w2.heap.size sl 0 (w2.alloc (.cells #[.slice (some ⟨gl,0,none⟩) 32 32,.pointer none,.pointer none,.slice none 0 0] 236))):=ι (.inl ⟨rfl,xM _ _,xO HS2.o.1.blk _,HS2.o.2.1.alloc HS2.o.2.1.size _,HS2.o.2.2,xH HS2.o.1.blk⟩);go_upto_region 5 with fail
  generalize w2.alloc (.cells #[.slice (some ⟨gl,0,none⟩) 32 32,.pointer none,.pointer none,.slice none 0 0] 236)=w3 at HP0⊢;obtain⟨gs,hgs⟩:∃gs,w2.heap.size=gs:=⟨_,rfl⟩;rw[hgs] at HP0⊢;clear hgs HS2;have HBK:=ι (λ(c:Nat) W=>xBb c W);go_wp2_with fail
  go_loopw [23] (λiv wr=>∃k:Nat,k<=2/\iv=.int .i64 k/\Hid (PsM w gl gs sl k wr)) (λiv _=>2- (intOf iv).toNat)
  case atStart=>exact⟨0,ω,rfl,HP0⟩
  case round=>
   obtain⟨k,hk,rfl,HI⟩:=hrel;clear HP0
   by_cases hlt:k<2
   ·rcases(show k=0∨k=1 by omega) with rfl|rfl
    ·have HI0:Hid (Ps0 w gl gs sl wr):=ι (by
      rcases HI.o with ⟨_,h⟩|⟨h,_⟩|⟨h,_⟩
      ·exact h
      ·omega
      ·omega)
     have HTK:=ι (xL3 gs gl 0 sl wr (by have:=xA HI0.o.st 0;simpa using this) HI0.o.sl HSL.o (xH HI0.o.st));have HB0:=ι (λW=>xBb 0 W);rw[show((jU 0:Nat):Int)=24 from rfl] at HB0;clear HI hk hlt;go_wp2_with fail
     refine(HB0.o _).mono ?_;rintro e w4 ⟨rfl,hw4⟩;rw[hw4];clear hw4 w4;go_wp2_with fail
     refine HTK.o.mono ?_;rintro e w5 ⟨tv,rfl,hrt,hb5⟩;have HI5:=ι (HI0.o.below hb5);have HNW:=ι (xQu 24 (uD sl 0) tv w5 ω hrt (λx hx=>HTL.o 0 x hx) (by have:=HTN.o 0;rw[List.take_of_length_le (by rw[HSL.o];omega)] at this;omega));rw[show(((24:Nat)):Int)=24 from rfl] at HNW
     obtain⟨A6,c6,rfl,_⟩:=hrt;clear hb5 HTK HB0 HI0;go_wp2_with fail
     refine HNW.o.mono ?_;rintro e w6 ⟨gp,rfl,hp6,hb6⟩;have HI6:=ι (And.intro (HI5.o.pool hb6 hp6) (HI5.o.below hb6).st);clear hp6 hb6 HNW HI5;have s1:=xA HI6.o.2 1;have y1:=xB HI6.o.2 1;simp only[gA,gB,gC] at s1;go_wp2
     exact⟨⟨1,ω,by go_num,ι (.inr (.inl ⟨rfl,_,_,_,HI6.o.1⟩))⟩,by simp[intOf]⟩
    ·obtain⟨gp0,lo0,hi0,HI0⟩:∃gp0 lo0 hi0,Hid (Ps1 w gl gs gp0 lo0 hi0 sl wr):=by
      rcases HI.o with ⟨h,_⟩|⟨_,gp0,lo0,hi0,h⟩|⟨h,_⟩
      ·omega
      ·exact⟨gp0,lo0,hi0,ι h⟩
      ·omega
     have HTK:=ι (xL3 gs gl 1 sl wr (by have:=xA HI0.o.st 0;simpa using this) HI0.o.sl HSL.o (xH HI0.o.st));rw[show(((1:Nat)):Int)=1 from rfl] at HTK;have HB0:=ι (λW=>xBb 1 W);rw[show((jU 1:Nat):Int)=12 from rfl,show(((1:Nat)):Int)=1 from rfl] at HB0;clear HI hk hlt
     go_wp2_with fail
     refine(HB0.o _).mono ?_;rintro e w4 ⟨rfl,hw4⟩;rw[hw4];clear hw4 w4;go_wp2_with fail
     refine HTK.o.mono ?_;rintro e w5 ⟨tv,rfl,hrt,hb5⟩;have HI5:=ι (HI0.o.below hb5);have HNW:=ι (xQu 12 (uD sl 1) tv w5 ω hrt (λx hx=>HTL.o 1 x hx) (by have:=HTN.o 1;rw[List.take_of_length_le (by rw[HSL.o];omega)] at this;omega));rw[show(((12:Nat)):Int)=12 from rfl] at HNW
     obtain⟨A6,c6,rfl,_⟩:=hrt;clear hb5 HTK HB0 HI0;go_wp2_with fail
     refine HNW.o.mono ?_;rintro e w6 ⟨gp,rfl,hp6,hb6⟩;have HI6:=ι (And.intro (HI5.o.pool HSL.o hb6 hp6) (HI5.o.below hb6).st);clear hp6 hb6 HNW HI5;have s1:=xA HI6.o.2 2;have y1:=xB HI6.o.2 2;simp only[gA,gB,gC] at s1;go_wp2
     exact⟨⟨2,ω,by go_num,ι (.inr (.inr ⟨rfl,_,rfl,rfl,HI6.o.1⟩))⟩,by simp[intOf]⟩
   ·obtain rfl:k=2:=ω;rw[show(((2:Nat)):Int)=2 from rfl]
    obtain⟨K,hK,HK⟩:∃K:StL,K.gs=gs/\Hid (StM w K (.slice none 0 0) (.slice none 0 0) s0 wr):=by
     rcases HI.o with ⟨h,_⟩|⟨h,_⟩|⟨_,K,_,h2,h3⟩
     ·omega
     ·omega
     ·exact⟨K,h2,ι (by rw[HSD.o];exact h3)⟩
    subst hK;clear HI hlt hk HBK HTL HTN HSL;go_wp2_with fail
    go_loopw [37] (λiv wr=>∃(k:Nat) (uv:Value),k<=l.length/\iv=.int .i64 k/\Hid ((uP s0 (l.take k)).2=0/\(uP s0 (l.take k)).1.writes.length<=17*k/\StM w K uv uv (uP s0 (l.take k)).1 wr)) (λiv _=>l.length- (intOf iv).toNat)
    case atStart=>exact⟨0,_,Nat.zero_le _,rfl,ι ⟨rfl,by show s0.writes.length<=_;rw[HSD.o];exact Nat.le_refl _,HK.o⟩⟩
    case round=>
     obtain⟨k,uv,hk,rfl,HI⟩:=hrel;clear HK
     by_cases hlt:k<l.length
     ·obtain⟨x,hx⟩:∃x,l[k]?=some x:=⟨_,List.getElem?_eq_getElem hlt⟩;obtain⟨b,off,rfl,hb,hcell⟩:=HL.o ω;have q:=λi u hu=>(HI.o.2.2.bel.cell (p:=⟨b,off+k*3+i,none⟩) hb).trans (hcell k x hx i u hu);have q0:wr.cell? ⟨b,off+k*3,none⟩=some (xR x.name):=q 0 _ rfl
      have q1:wr.cell? ⟨b,off+k*3+1,none⟩=some (xR x.data):=q 1 _ rfl;have q2:wr.cell? ⟨b,off+k*3+2,none⟩=some (.bool x.gone):=q 2 _ rfl
      have HSN:Hid (uP s0 (l.take (k+1))=if xGp (uP s0 (l.take k)).1 x=0 then(xKa (uP s0 (l.take k)).1 x,0) else((uP s0 (l.take k)).1,xGp (uP s0 (l.take k)).1 x)):=ι (by
       rw[List.take_add_one,hx];exact xMh _ _ _ HI.o.1)
      have HBD:=ι (xQm l s0 (k+1));have HI2:=ι (And.intro HI.o.2.1 (HI.o.2.2.below (φ wr (chO x))));have hbx:=xM wr (chO x);obtain⟨x0,x1,x2⟩:=xOn hbx;generalize (uP s0 (l.take k)).1=sk at HSN HI2;clear q hcell hbx hx HI
      have HCH:=ι (xT2 w K uv sk x _ HI2.o.2 (by have:=HI2.o.1;have:=HLL.o;omega));go_wp2_with fail
      refine HCH.o.mono ?_;rintro e w7 ⟨rfl,hp7⟩;have HP7:=ι hp7;clear hp7 HCH q0 q1 q2 x0 x1 x2
      by_cases hce:xGp sk x=0
      ·obtain⟨uv',hm⟩:=HP7.o;rw[if_pos hce] at hm HSN;rw[hce];have HM:=ι (And.intro hm (Nat.le_trans (xZq sk x) (by have:=HI2.o.1;exact Nat.add_le_add_right this 17)));clear hm hce HP7 HBD;go_wp2
       exact⟨⟨k+1,uv',ω,by go_num,ι ⟨by rw[HSN.o],by rw[HSN.o];have:=HM.o.2;show(xKa sk x).writes.length<=_;omega,by rw[HSN.o];exact HM.o.1⟩⟩,by simp[intOf];omega⟩
      ·obtain⟨uv',hm⟩:=HP7.o;rw[if_neg hce] at hm HSN;obtain⟨ee,hee⟩:∃ee,xGp sk x=ee:=⟨_,rfl⟩;rw[hee] at hce HSN;rw[hee]
       have HEE:Hid (we=ee):=ι (by
        have:=HBD.o (by rw[HSN.o];exact hce);rw[HSN.o] at this;rw[HE.o,this,if_neg hce])
       have HGG:Hid (wp=[]):=ι (by rw[HG.o,HEE.o,if_neg hce]);have HM:=ι hm.bel;have hc1:(ee==0)=false:=by simpa using hce
       have hc2:(ee !=0)=true:=by simpa using hce
       clear hm hee HP7 HBD HSN HE HG;go_wp2;go_ret2;exact⟨_,by rw[HEE.o];rfl,by rw[HGG.o];exact RdW.xPn _ _,HM.o⟩
     ·obtain rfl:k=l.length:=ω;rw[List.take_length] at HI;rw[if_pos HI.o.1] at HE;obtain⟨A8,c8,huv,hle8⟩:=HI.o.2.2.wr.form;have hb:=HI.o.2.2.st;have s3:=xA hb 3;simp only[gA,gB,gC] at s3;have HM:=ι HI.o.2.2;generalize (uP s0 l).1=sk at HE HG HM huv hle8
      obtain⟨n,hn⟩:∃n,sk.writes.length=n:=⟨_,rfl⟩;rw[hn] at HE huv;subst huv;clear hb HI hlt hle8 hn HL
      by_cases h30:30<n
      ·have h30i:30<(n:Int):=ω;have HEE:Hid (we=4):=ι (by rw[HE.o,if_pos h30]);have HGG:Hid (wp=[]):=ι (by rw[HG.o,HEE.o,if_neg ω]);clear HE HG;go_wp2;go_ret2;exact⟨_,by rw[HEE.o];rfl,by rw[HGG.o];exact RdW.xPn _ _,HM.o.bel⟩
      ·have h30i:¬(30<(n:Int)):=ω;have HEE:Hid (we=0):=ι (by rw[HE.o,if_neg h30]);have HGG:Hid (wp=sk.writes):=ι (by rw[HG.o,HEE.o,if_pos rfl]);clear HE HG;go_wp2;go_ret2;exact⟨_,by rw[HEE.o];rfl,by rw[HGG.o];exact yBe (HM.o.wr.rd xDd),HM.o.bel⟩
end Go.Proofs.ST
namespace Mailsack
theorem xMz {d:Dk} {l:List Ch}:(wC d l).length<=30:=by
 unfold wC;split
 ·rename_i h
  unfold jP at h;split at h
  ·split at h
   ·split at h
    ·omega
    ·omega
   ·rename_i h2;exact absurd h h2
  ·omega
 ·simp
end Mailsack
namespace Go.Proofs.ST
open Go.RowKit Mailsack MM BB SH SV RK DS AL
theorem xD8 (va vb lv:Value) (d:Dk) (l:List Ch) (w:World) (h:RdD w w.heap.size va vb d) (hl:RdR 3 chF w w.heap.size lv l) (hll:l.length<=500) (hc:d.cache.length<=10000) (hT:vT w):
  Calls prog 37 #[.agg #[va,vb],lv] w λe w'=>∃va' vb',e=.returned (.tuple #[.agg #[va',vb'],.int .i64 (kH d l)])/\RdD w' w'.heap.size va' vb' (uY d l)/\ψ w w':=by
 obtain⟨A1,c1,A2,c2,rfl,rfl⟩:=xX h
 have H0:Hid (CmM w (.slice A1 d.secs.length c1) (.slice A2 d.cache.length c2) d ((w.alloc (xW (.slice A1 d.secs.length c1) (.slice A2 d.cache.length c2))).alloc (xW (.slice none 0 0) (.slice none 0 0)))):=ι (by
  have hb:=(φ w (xW (.slice A1 d.secs.length c1) (.slice A2 d.cache.length c2))).alloc σ (xW (.slice none 0 0) (.slice none 0 0));exact⟨zV _ _ _,zK _ _ _,(h.below hb ν).more hb.size,hb⟩)
 have HW:=ι (xR0 _ _ lv d l _ H0.o.rd ((hl.below H0.o.bel ν).more H0.o.bel.size) hll);have HT:=ι (λW (hb:ψ w W)=>hT.below hb ν);have HC:=ι hc;have HAE:Hid (kH d l=if jP d l=0 then(if (wC d l).length=0 then 0 else vY d (wC d l)) else jP d l):=ι rfl
 have HAP:Hid (uY d l=if jP d l=0 then(if (wC d l).length=0 then yH d else xC3 d (wC d l)) else⟨[],[]⟩):=ι rfl;have HWL:=ι (xMz (d:=d) (l:=l));obtain⟨ae,hae⟩:∃ae,kH d l=ae:=⟨_,rfl⟩;obtain⟨ap,hap⟩:∃ap,uY d l=ap:=⟨_,rfl⟩;rw[hae] at HAE;rw[hap] at HAP;rw[hae,hap]
 generalize wC d l=wp at HW HAE HAP HWL;generalize jP d l=we at HW HAE HAP;obtain⟨A3,c3,rfl,_⟩:=hl;clear h hae hap hT hc hll;go_enter func37,ntmps37;go_upto_region 1 with fail
 generalize (w.alloc (xW (.slice A1 d.secs.length c1) (.slice A2 d.cache.length c2))).alloc (xW (.slice none 0 0) (.slice none 0 0))=w1 at H0 HW⊢;obtain⟨d0,d1⟩:=zG H0.o.d;go_wp2_with fail
 refine HW.o.mono ?_;rintro e w2 ⟨ov,rfl,hro,hb⟩;obtain⟨A4,c4,rfl,_⟩:=id hro;have H2:=ι (H0.o.below hb);have HRO:=ι hro;clear hb H0 HW d0 d1 hro;obtain⟨d0,d1⟩:=zG H2.o.d
 by_cases h0:we=0
 ·subst h0;rw[if_pos rfl] at HAE HAP;obtain⟨n,hn⟩:∃n,wp.length=n:=⟨_,rfl⟩;have HN:=ι hn;rw[hn] at HAE HAP⊢
  by_cases hz:n=0
  ·subst hz;rw[if_pos rfl] at HAE HAP;have HEE:Hid (ae=0):=HAE;have HCC:Hid (ap=yH d):=HAP;have HF:=ι (xG8 _ _ d w2 H2.o.rd);clear hn;go_wp2_with fail
   refine HF.o.mono ?_;rintro e w3 ⟨ua,ub,rfl,hr,_,hb⟩;have H3:=ι (H2.o.below hb);have HRR:=ι hr;generalize yH d=cm at HRR HCC;obtain⟨ee,hee⟩:∃ee:Int,ee=0:=⟨_,rfl⟩;clear hr hb H2 HF HRO d0 d1 hee ee;obtain⟨A5,c5,A6,c6,rfl,rfl⟩:=xX HRR.o
   have hRD:RdD ((w3.setCell ⟨w.heap.size+1,0,none⟩ (.slice A5 cm.secs.length c5)).setCell ⟨w.heap.size+1,1,none⟩ (.slice A6 cm.cache.length c6)) w3.heap.size (.slice A5 cm.secs.length c5) (.slice A6 cm.cache.length c6) cm:=by
    have e0:=xY H3.o.o 0 (.slice A5 cm.secs.length c5);simp only[List.setIfInBounds_toArray,List.set_cons_zero] at e0;exact RdD.far (RdD.far HRR.o (p:=⟨w.heap.size+1,0,none⟩) (vG H3.o.o) _) (p:=⟨w.heap.size+1,1,none⟩) (vG e0) _
   have HRD:=ι hRD;clear hRD;obtain⟨o0,y0,f0,o1,y1,f1,HB⟩:=xIm H3.o.o H3.o.bel ω (.slice A5 cm.secs.length c5) (.slice A6 cm.cache.length c6) _ rfl;clear H3 HRR;go_wp2
   refine bodyPost_ret (v:=.tuple #[.agg #[.slice A5 cm.secs.length c5,.slice A6 cm.cache.length c6],.int .i64 0]) (by simp[results,results37,go_sem,f0,f1]) rfl ?_;exact⟨_,_,by rw[HEE.o],by rw[HCC.o];simpa[size_set] using HRD.o,HB.o⟩
  ·rw[if_neg hz] at HAE HAP;have hzi:¬((n:Int)=0):=ω;have hzb:((n:Int)==0)=false:=by simpa using hzi
   have HCM:=ι (xT0 _ _ (.slice A4 wp.length c4) d wp w2 H2.o.rd HRO.o (by have:=HWL.o;omega) HC.o (HT.o _ H2.o.bel));rw[hn] at HCM;have HEE:=HAE;have HCC:=HAP;generalize vY d wp=ee at HCM HEE;generalize xC3 d wp=cm at HCM HCC;clear hz hn;go_wp2_with fail
   refine HCM.o.mono ?_;rintro e w3 ⟨ua,ub,rfl,hr,hb⟩;have H3:=ι (H2.o.below hb);have HRR:=ι hr;clear hr hb H2 HCM HRO d0 d1 HAE HAP;obtain⟨A5,c5,A6,c6,rfl,rfl⟩:=xX HRR.o
   have hRD:RdD ((w3.setCell ⟨w.heap.size+1,0,none⟩ (.slice A5 cm.secs.length c5)).setCell ⟨w.heap.size+1,1,none⟩ (.slice A6 cm.cache.length c6)) w3.heap.size (.slice A5 cm.secs.length c5) (.slice A6 cm.cache.length c6) cm:=by
    have e0:=xY H3.o.o 0 (.slice A5 cm.secs.length c5);simp only[List.setIfInBounds_toArray,List.set_cons_zero] at e0;exact RdD.far (RdD.far HRR.o (p:=⟨w.heap.size+1,0,none⟩) (vG H3.o.o) _) (p:=⟨w.heap.size+1,1,none⟩) (vG e0) _
   have HRD:=ι hRD;clear hRD;obtain⟨o0,y0,f0,o1,y1,f1,HB⟩:=xIm H3.o.o H3.o.bel ω (.slice A5 cm.secs.length c5) (.slice A6 cm.cache.length c6) _ rfl;clear H3 HRR;go_wp2
   refine bodyPost_ret (v:=.tuple #[.agg #[.slice A5 cm.secs.length c5,.slice A6 cm.cache.length c6],.int .i64 ee]) (by simp[results,results37,go_sem,f0,f1]) rfl ?_;exact⟨_,_,by rw[HEE.o],by rw[HCC.o];simpa[size_set] using HRD.o,HB.o⟩
 ·rw[if_neg h0] at HAE HAP;have h0b:(we==0)=false:=by simpa using h0
  have h0c:(we !=0)=true:=by simpa using h0
  obtain⟨o0,y0,f0,o1,y1,f1,HB⟩:=xIm H2.o.o H2.o.bel ω (.slice none 0 0) (.slice none 0 0) _ rfl;clear H2 HRO d0 d1;go_wp2;refine bodyPost_ret (v:=.tuple #[.agg #[.slice none 0 0,.slice none 0 0],.int .i64 we]) (by simp[results,results37,go_sem,f0,f1]) rfl ?_
  refine⟨_,_,by rw[HAE.o],?_,HB.o⟩;rw[HAP.o];exact⟨⟨_,_,rfl,Nat.le_refl _,λh=>by simp at h⟩,RdW.xPn _ _,σ,σ⟩
end Go.Proofs.ST
namespace Mailsack
def pV (d:Dk) (u:ByteArray):ByteArray:=bsA (yAa d (xNw [117] u.data.toList))
def xGv (d:Dk) (u:ByteArray):Bool:=xAj (pV d u)&&decide ((xBf (pV d u)).user=u)
def vI (d:Dk) (u:ByteArray):Int:=if xWx d (xNw [117] u.data.toList)=0 then(if xGv d u=true then 0 else 3) else 6
def zQ (d:Dk) (u:ByteArray):zU:=if vI d u=0 then xBf (pV d u) else zT
theorem xQ4 (d:Dk) (n:Bs):(yAa d n).length<=1024:=by
 unfold yAa;split
 ·unfold yCv;rw[List.length_take];generalize hs:xHv (yS (yH d).secs) (rM (yS (yH d).secs) n)=t
  have:t.size<=1024:=by
   have hok:t=noSlot∨xQx t:=by
    rw[<-hs];unfold xHv;rw[List.getD_eq_getElem?_getD];cases hg:(yS (yH d).secs)[(rM (yS (yH d).secs) n).toNat]? with
    |none=>exact .inl rfl
    |some t=>
     rw[rA] at hg;split at hg
     ·obtain⟨s,_,rfl⟩:=Option.map_eq_some_iff.1 hg;rcases xK8 s with e|⟨_,h⟩
      ·exact .inl e
      ·exact .inr h
     ·cases hg
   rcases hok with e|h
   ·rw[e];exact Nat.zero_le _
   ·exact Nat.le_trans h.size (xOp _)
  omega
 ·simp
end Mailsack
namespace Go.Proofs.VA
open Go.RowKit Mailsack MM BB SH SV RK DS Go.Proofs.ST
structure AcN (w:World) (va vb:Value) (D:Dk) (W:World):Prop where
 d:W.heap[w.heap.size]?=some (xW va vb)
 o:W.heap[w.heap.size+1]?=some (yI zT)
 rd:RdD W W.heap.size va vb D
 bel:ψ w W
theorem AcN.below {w W W':World} {va vb:Value} {D:Dk} (h:AcN w va vb D W) (hb:ψ W W'):AcN w va vb D W':=
 ⟨xD h.d hb (xH h.d),xD h.o hb (xH h.o),(h.rd.below hb ν).more hb.size,h.bel.trans (hb.mono h.bel.size)⟩
theorem AcN.drew {w W:World} {va vb:Value} {D:Dk} (h:AcN w va vb D W):AcN w va vb D W.drew:=h.below (Below.refl _ W).drew
theorem xC5 (va vb:Value) (d:Dk) (u:ByteArray) (w:World) (h:RdD w w.heap.size va vb d) (hu:u.size<=1000000):
  Calls prog 34 #[.agg #[va,vb],.string u] w λe w'=>e=.returned (.tuple #[vH (zQ d u),.int .i64 (vI d u)])/\ψ w w':=by
 obtain⟨A1,c1,A2,c2,rfl,rfl⟩:=xX h
 have H0:Hid (AcN w (.slice A1 d.secs.length c1) (.slice A2 d.cache.length c2) d ((w.alloc (xW (.slice A1 d.secs.length c1) (.slice A2 d.cache.length c2))).alloc (yI zT))):=ι (by
  have hb:=(φ w (xW (.slice A1 d.secs.length c1) (.slice A2 d.cache.length c2))).alloc σ (yI zT);exact⟨zV _ _ _,zK _ _ _,(h.below hb ν).more hb.size,hb⟩)
 have HUO:=ι (λW=>pK ⟨#[117]⟩ u W δ hu);rw[show(⟨#[117]⟩:ByteArray).data.toList=[117] from rfl] at HUO;have HGE:=ι (λW (h:AcN w (.slice A1 d.secs.length c1) (.slice A2 d.cache.length c2) d W)=>xWw _ _ d (xNw [117] u.data.toList) W h.rd)
 have HAE:Hid (vI d u=if xWx d (xNw [117] u.data.toList)=0 then(if xGv d u=true then 0 else 3) else 6):=ι rfl;have HAR:Hid (zQ d u=if vI d u=0 then xBf (pV d u) else zT):=ι rfl;have HAF:Hid (xGv d u=(xAj (pV d u)&&decide ((xBf (pV d u)).user=u))):=ι rfl
 have HTK:=ι (λW=>xV9 (pV d u) W (by unfold pV;rw[yN];have:=xQ4 d (xNw [117] u.data.toList);omega));rw[show xR (yAa d (xNw [117] u.data.toList))=.string (pV d u) from rfl] at HGE;generalize pV d u=ag at HGE HAR HAF HTK;generalize xNw [117] u.data.toList=nm at HUO HGE HAE
 generalize xGv d u=fit at HAE HAF;generalize xWx d nm=ge at HGE HAE;obtain⟨ae,hae⟩:∃ae,vI d u=ae:=⟨_,rfl⟩;obtain⟨ar,har⟩:∃ar,zQ d u=ar:=⟨_,rfl⟩;rw[hae] at HAE HAR;rw[har] at HAR;rw[hae,har];clear hae har h hu;go_enter func34,ntmps34;go_upto_region 1 with fail
 obtain⟨w1,hw1⟩:∃w1,(w.alloc (xW (.slice A1 d.secs.length c1) (.slice A2 d.cache.length c2))).alloc (yI zT)=w1:=⟨_,rfl⟩;rw[hw1] at H0;simp only[yI,zT] at hw1;rw[hw1];clear hw1
 refine RG.xQ (λW=>Hid (AcN w (.slice A1 d.secs.length c1) (.slice A2 d.cache.length c2) d W)) κ κ (ι H0.o.drew) ?_;iterate 2 refine RG.dF (λw9 hw9=>zG hw9.o.d) ?_
 apply RG.xJ
 ·intro w9 hw9;repeat go_step
  refine(HUO.o _).mono ?_;rintro e w10 ⟨rfl,rfl⟩;simp only[];repeat go_step
  exact RG.xC hw9
 ·rfl
 apply RG.xJ
 ·intro w9 hw9;repeat go_step
  refine(HGE.o _ hw9.o).mono ?_;rintro e w10 ⟨rfl,zF⟩;simp only[];repeat go_step
  refine RG.xC ?_;exact ι (hw9.o.below zF)
 ·rfl
 iterate 5 refine RG.dS ?_
 refine RG.xS (λw2 hw2=>?_);clear H0 HUO HGE
 by_cases hg:ge=0
 ·subst hg;rw[if_pos rfl] at HAE;go_wp2_with fail
  refine(HTK.o _).mono ?_;rintro e w3 ⟨rfl,hb3⟩;have H3:=ι (hw2.o.below hb3);clear hb3 hw2 HTK;cases htk:xAj ag with
  |false=>
   have HZ:Hid (AcN w (.slice A1 d.secs.length c1) (.slice A2 d.cache.length c2) d (w3.alloc (yI zT))):=ι (H3.o.below ((Below.refl _ _).alloc ν _));rw[if_neg σ,if_neg σ];rw[htk,Bool.false_and] at HAF;rw[HAF.o,if_neg σ] at HAE;rw[HAE.o,if_neg ω] at HAR;simp only[vH,zT]
   have hbz:=xM w3 (yI zT);have z0:=xA hbz 0;simp only[yI,zT,gA,gC] at z0;clear hbz htk H3;go_upto_region 6 with fail
   clear z0;obtain⟨w4,hw4⟩:∃w4,w3.alloc (yI zT)=w4:=⟨_,rfl⟩;rw[hw4] at HZ;simp only[yI,zT] at hw4;rw[hw4];clear hw4
   obtain⟨o0,y0,f0,o1,y1,f1,o2,y2,f2,o3,y3,f3,o4,y4,f4,o5,y5,f5,o6,y6,f6,o7,y7,f7,HB⟩:=xKm HZ.o.o HZ.o.bel ω (.string ⟨#[]⟩) (.string ⟨#[]⟩) (.int .i64 0) (.int .i64 0) (.string ⟨#[]⟩) (.string ⟨#[]⟩) (.string ⟨#[]⟩) (.string ⟨#[]⟩) _ rfl;clear HZ;go_wp2
   refine bodyPost_ret (v:=.tuple #[.agg #[.string ⟨#[]⟩,.string ⟨#[]⟩,.int .i64 0,.int .i64 0,.string ⟨#[]⟩,.string ⟨#[]⟩,.string ⟨#[]⟩,.string ⟨#[]⟩],.int .i64 3]) (by simp[results,results34,go_sem,f0,f1,f2,f3,f4,f5,f6,f7]) rfl ?_;exact⟨by rw[HAE.o,HAR.o];rfl,HB.o⟩
  |true=>
   rw[if_pos rfl,if_pos rfl];rw[htk,Bool.true_and] at HAF
   have HZ:Hid (AcN w (.slice A1 d.secs.length c1) (.slice A2 d.cache.length c2) d (w3.alloc (yI (xBf ag)))/\(w3.alloc (yI (xBf ag))).heap[w3.heap.size]?=some (yI (xBf ag))):=ι ⟨H3.o.below ((Below.refl _ _).alloc ν _),xM _ _⟩;have hbz:=xM w3 (yI (xBf ag));have z0:=xA hbz 0
   simp only[yI,gA,gC] at z0;clear hbz htk H3;generalize xBf ag=ta at HZ HAF HAR z0⊢;obtain⟨tu,ts,tr,te,tp,tn,tw,to_⟩:=ta;simp only[vH,yI] at z0 HZ⊢;have HAF2:Hid (fit=decide (tu=u)):=HAF;clear HAF;have HAF:=HAF2;clear HAF2
   by_cases hue:tu=u
   ·have HFT:Hid (fit=true):=ι (by rw[HAF.o,hue];simp);rw[HFT.o,if_pos rfl] at HAE;rw[HAE.o,if_pos rfl] at HAR;have e1:(tu.toList==u.toList)=true:=by rw[hue];simp
    have e2:(!tu.toList==u.toList)=false:=by rw[hue];simp
    clear hue HAF HFT;go_upto_region 7 with fail
    clear z0;generalize hg4:w3.heap.size=g4 at HZ⊢;generalize w3.alloc (.cells #[.string tu,.string ts,.int .i64 tr,.int .i64 te,.string tp,.string tn,.string tw,.string to_] 97)=w4 at HZ⊢;have hz4:=HZ.o.2;obtain⟨z0,z1,z2,z3,z4,z5,z6,z7⟩:=xH1 hz4
    obtain⟨o0,y0,f0,o1,y1,f1,o2,y2,f2,o3,y3,f3,o4,y4,f4,o5,y5,f5,o6,y6,f6,o7,y7,f7,HB⟩:=xKm HZ.o.1.o HZ.o.1.bel ω (.string tu) (.string ts) (.int .i64 tr) (.int .i64 te) (.string tp) (.string tn) (.string tw) (.string to_) _ rfl;clear HZ hz4 hg4;go_wp2
    refine bodyPost_ret (v:=.tuple #[.agg #[.string tu,.string ts,.int .i64 tr,.int .i64 te,.string tp,.string tn,.string tw,.string to_],.int .i64 0]) (by simp[results,results34,go_sem,f0,f1,f2,f3,f4,f5,f6,f7]) rfl ?_;exact⟨by rw[HAE.o,HAR.o],HB.o⟩
   ·have HFT:Hid (fit=false):=ι (by rw[HAF.o];simpa using hue);rw[HFT.o,if_neg σ] at HAE;rw[HAE.o,if_neg ω] at HAR
    have hne:¬(tu.toList=u.toList):=by
     rw[ByteArray.toList_eq,ByteArray.toList_eq];intro e;exact hue (ByteArray.ext (Array.toList_inj.1 e))
    have e1:(tu.toList==u.toList)=false:=by simpa using hne
    have e2:(!tu.toList==u.toList)=true:=by rw[e1];rfl
    have HZ2:=ι HZ.o.1;clear hue HAF HFT hne HZ;have HZ:=HZ2;clear HZ2;go_upto_region 6 with fail
    clear z0;generalize w3.alloc (.cells #[.string tu,.string ts,.int .i64 tr,.int .i64 te,.string tp,.string tn,.string tw,.string to_] 97)=w4 at HZ⊢
    obtain⟨o0,y0,f0,o1,y1,f1,o2,y2,f2,o3,y3,f3,o4,y4,f4,o5,y5,f5,o6,y6,f6,o7,y7,f7,HB⟩:=xKm HZ.o.o HZ.o.bel ω (.string ⟨#[]⟩) (.string ⟨#[]⟩) (.int .i64 0) (.int .i64 0) (.string ⟨#[]⟩) (.string ⟨#[]⟩) (.string ⟨#[]⟩) (.string ⟨#[]⟩) _ rfl;clear HZ;go_wp2
    refine bodyPost_ret (v:=.tuple #[.agg #[.string ⟨#[]⟩,.string ⟨#[]⟩,.int .i64 0,.int .i64 0,.string ⟨#[]⟩,.string ⟨#[]⟩,.string ⟨#[]⟩,.string ⟨#[]⟩],.int .i64 3]) (by simp[results,results34,go_sem,f0,f1,f2,f3,f4,f5,f6,f7]) rfl ?_;exact⟨by rw[HAE.o,HAR.o];rfl,HB.o⟩
 ·have hg1:(ge==0)=false:=by simpa using hg
  have hg2:(ge !=0)=true:=by simpa using hg
  rw[if_neg hg] at HAE;rw[HAE.o,if_neg ω] at HAR;have HZ:=hw2;clear hw2 HTK
  obtain⟨o0,y0,f0,o1,y1,f1,o2,y2,f2,o3,y3,f3,o4,y4,f4,o5,y5,f5,o6,y6,f6,o7,y7,f7,HB⟩:=xKm HZ.o.o HZ.o.bel ω (.string ⟨#[]⟩) (.string ⟨#[]⟩) (.int .i64 0) (.int .i64 0) (.string ⟨#[]⟩) (.string ⟨#[]⟩) (.string ⟨#[]⟩) (.string ⟨#[]⟩) _ rfl;clear HZ;go_wp2
  refine bodyPost_ret (v:=.tuple #[.agg #[.string ⟨#[]⟩,.string ⟨#[]⟩,.int .i64 0,.int .i64 0,.string ⟨#[]⟩,.string ⟨#[]⟩,.string ⟨#[]⟩,.string ⟨#[]⟩],.int .i64 6]) (by simp[results,results34,go_sem,f0,f1,f2,f3,f4,f5,f6,f7]) rfl ?_;exact⟨by rw[HAE.o,HAR.o];rfl,HB.o⟩
end Go.Proofs.VA
namespace Mailsack
def tN (a:zU):Ch:=⟨xNw [117] a.user.data.toList,(yBg a).data.toList,false⟩
def xRm (user xL xE enc:ByteArray):Ch:=⟨xNw [120] user.data.toList,(xE++rD (wH xL) xE user enc).data.toList,false⟩
end Mailsack
namespace Go.Proofs.VA
open Go.RowKit Mailsack MM BB SH SV RK DS Go.Proofs.ST
theorem xAi (a:zU) (w:World) (hr:zR a=true):
  Calls prog 36 #[vH a] w λe w'=>e=.returned (.tuple #[chV (tN a),.int .i64 0])/\ψ w w':=by
 have hu:=(wL hr).2.1;have HPU:=ι (λW=>yCs a W hr);have HUO:=ι (λW=>pK ⟨#[117]⟩ a.user W δ ω);rw[show(⟨#[117]⟩:ByteArray).data.toList=[117] from rfl] at HUO
 have H0:Hid (((w.alloc (yI a)).alloc (chO ⟨[],[],false⟩)).heap[w.heap.size]?=some (yI a)/\((w.alloc (yI a)).alloc (chO ⟨[],[],false⟩)).heap[w.heap.size+1]?=some (chO ⟨[],[],false⟩)/\ψ w ((w.alloc (yI a)).alloc (chO ⟨[],[],false⟩))):=ι ⟨zV _ _ _,zK _ _ _,(φ w _).alloc σ _⟩
 have HC:Hid (chV (tN a)=.agg #[xR (xNw [117] a.user.data.toList),.string (yBg a),.bool false]):=ι rfl;generalize yBg a=pa at HPU HC;generalize xNw [117] a.user.data.toList=nm at HUO HC;generalize tN a=ac at HC⊢;obtain⟨u,s,r,ep,pb,n,wr,o⟩:=a;simp only[yI,vH] at H0 HPU HUO⊢
 clear hr hu;go_enter func36,ntmps36;go_upto_region 1 with fail
 obtain⟨w1,hw1⟩:∃w1,(w.alloc (.cells #[.string u,.string s,.int .i64 r,.int .i64 ep,.string pb,.string n,.string wr,.string o] 97)).alloc (chO ⟨[],[],false⟩)=w1:=⟨_,rfl⟩;rw[hw1] at H0;simp only[chO,xR] at hw1;rw[hw1];clear hw1;have ha:=H0.o.1
 obtain⟨a0,a1,a2,a3,a4,a5,a6,a7⟩:=xH1 ha;clear ha;go_wp2_with fail
 refine(HPU.o _).mono ?_;rintro e w2 ⟨rfl,hb2⟩;have H2:Hid (w2.heap[w.heap.size+1]?=some (chO ⟨[],[],false⟩)/\ψ w w2):=ι ⟨xD H0.o.2.1 hb2 (xH H0.o.2.1),H0.o.2.2.trans (hb2.mono H0.o.2.2.size)⟩;have ha:=xD H0.o.1 hb2 (xH H0.o.1);clear H0 HPU hb2 a0 a1 a2 a3 a4 a5 a6 a7
 have a0:=xKb ha;clear ha;go_wp2_with fail
 refine(HUO.o _).mono ?_;rintro e w3 ⟨rfl,hw3⟩;rw[hw3];clear hw3 w3 a0 HUO;obtain⟨o0,y0,f0,o1,y1,f1,o2,y2,f2,HB⟩:=cpl3 H2.o.1 H2.o.2 ω (xR nm) (.string pa) (.bool false) _ rfl;clear H2;go_wp2
 refine bodyPost_ret (v:=.tuple #[.agg #[xR nm,.string pa,.bool false],.int .i64 0]) (by simp[results,results36,go_sem,f0,f1,f2]) rfl ?_;exact⟨by rw[HC.o],HB.o⟩
end Go.Proofs.VA
namespace Mailsack
def xHk (box:ByteArray):ByteArray:=box.extract 0 (box.size-16)
def xEq (box:ByteArray):ByteArray:=box.extract (box.size-16) box.size
def aOk (key xE ad box:ByteArray):Bool:=decide (16<=box.size)&&Go.Proofs.SH.rX (tL key xE ad (xHk box)) (xEq box)
def aTx (key xE ad box:ByteArray):ByteArray:=if aOk key xE ad box=true then bsA (xHi key xE 1 (xHk box)) else⟨#[]⟩
def aE (key xE ad box:ByteArray):Int:=if aOk key xE ad box=true then 0 else 7
theorem xMi {box:ByteArray} (h:16<=box.size):xHk box++xEq box=box:=by
 unfold xHk xEq;apply ByteArray.ext;rw[ByteArray.data_append,ByteArray.data_extract,ByteArray.data_extract,Array.extract_append_extract];have hs:box.data.size=box.size:=rfl;rw[show min 0 (box.size-16)=0 by omega,show max (box.size-16) box.size=box.data.size by omega];simp
end Mailsack
namespace Go.Proofs.VA
open Go.RowKit Mailsack MM BB SH SV RK DS IX Go.Proofs.ST
theorem xXz (key xE ad box:ByteArray) (w:World) (hk:key.size=32) (hn:xE.size=12) (ha:ad.size<=1000000) (hb:box.size<=1000000):
  Calls prog 82 #[.string key,.string xE,.string ad,.string box] w λe w'=>e=.returned (.tuple #[.string (aTx key xE ad box),.int .i64 (aE key xE ad box)])/\ψ w w':=by
 by_cases h16:16<=box.size
 ·have h1:(xEq box).size=16:=by unfold xEq;rw[ByteArray.size_extract];omega
  have h2:(xHk box).size<=1000000000:=by unfold xHk;rw[ByteArray.size_extract];omega
  cases hs:rX (tL key xE ad (xHk box)) (xEq box) with
  |true=>
   have ho:aOk key xE ad box=true:=by unfold aOk;rw[hs,decide_eq_true h16];rfl
   have:=xJk key xE ad (xHk box) (xEq box) w hk hn ω h2 h1 hs;rw[xMi h16] at this;unfold aTx aE;rw[ho,if_pos rfl,if_pos rfl];exact this
  |false=>
   have ho:aOk key xE ad box=false:=by unfold aOk;rw[hs,Bool.and_false]
   have:=xNv key xE ad (xHk box) (xEq box) w hk hn ω h2 h1 hs;rw[xMi h16] at this;unfold aTx aE;rw[ho,if_neg σ,if_neg σ];exact this
 ·have ho:aOk key xE ad box=false:=by unfold aOk;rw[decide_eq_false h16,Bool.false_and]
  unfold aTx aE;rw[ho,if_neg σ,if_neg σ];refine(xS5 key xE ad box w hk hn ω).mono ?_;rintro e w' ⟨rfl,rfl⟩;exact⟨rfl,Below.refl _ _⟩
theorem xRk (u xL xE enc:ByteArray) (w:World) (hu:u.size<=1000) (hp:xL.size<=1000000) (hn:xE.size=12) (he:enc.size<=1000000) (hT:vT w):
  Calls prog 39 #[.string u,.string xL,.string xE,.string enc] w λe w'=>e=.returned (.tuple #[chV (xRm u xL xE enc),.int .i64 0])/\ψ w w':=by
 have H0:Hid ((w.alloc (chO ⟨[],[],false⟩)).heap[w.heap.size]?=some (chO ⟨[],[],false⟩)/\ψ w (w.alloc (chO ⟨[],[],false⟩))):=ι ⟨xM _ _,φ w _⟩;have HIK:=ι (xM4 xL (w.alloc (chO ⟨[],[],false⟩)) hp (hT.below H0.o.2 ν));have HSE:=ι (λW=>xJ4 (wH xL) xE u enc W (xHa xL) hn ω ω)
 have HUO:=ι (λW=>pK ⟨#[120]⟩ u W δ ω);rw[show(⟨#[120]⟩:ByteArray).data.toList=[120] from rfl] at HUO;have HC:Hid (chV (xRm u xL xE enc)=.agg #[xR (xNw [120] u.data.toList),.string (xE++rD (wH xL) xE u enc),.bool false]):=ι rfl;have hss:=rC (wH xL) xE u enc
 have hns:¬(9223372036854775807<xE.size+(rD (wH xL) xE u enc).size):=ω;generalize xRm u xL xE enc=sc at HC⊢;generalize xNw [120] u.data.toList=nm at HUO HC;generalize rD (wH xL) xE u enc=sp at HSE HC hns;generalize wH xL=ik at HIK HSE;clear hu hp hn he hT hss
 go_enter func39,ntmps39;go_upto_region 1 with fail
 obtain⟨w1,hw1⟩:∃w1,w.alloc (chO ⟨[],[],false⟩)=w1:=⟨_,rfl⟩;rw[hw1] at H0 HIK;simp only[chO,xR] at hw1;rw[hw1];clear hw1;go_wp2_with fail
 refine HIK.o.mono ?_;rintro e w2 ⟨rfl,hb2⟩;have H2:Hid (w2.heap[w.heap.size]?=some (chO ⟨[],[],false⟩)/\ψ w w2):=ι ⟨xD H0.o.1 hb2 (xH H0.o.1),H0.o.2.trans (hb2.mono H0.o.2.size)⟩;clear H0 HIK hb2;go_wp2_with fail
 refine(HSE.o _).mono ?_;rintro e w3 ⟨rfl,hb3⟩;have H3:Hid (w3.heap[w.heap.size]?=some (chO ⟨[],[],false⟩)/\ψ w w3):=ι ⟨xD H2.o.1 hb3 (xH H2.o.1),H2.o.2.trans (hb3.mono H2.o.2.size)⟩;clear H2 HSE hb3;go_wp2_with fail
 refine(HUO.o _).mono ?_;rintro e w4 ⟨rfl,hw4⟩;rw[hw4];clear hw4 w4 HUO;obtain⟨o0,y0,f0,o1,y1,f1,o2,y2,f2,HB⟩:=cpl3 H3.o.1 H3.o.2 ω (xR nm) (.string (xE++sp)) (.bool false) _ rfl;clear H3;go_wp2
 refine bodyPost_ret (v:=.tuple #[.agg #[xR nm,.string (xE++sp),.bool false],.int .i64 0]) (by simp[results,results39,go_sem,f0,f1,f2]) rfl ?_;exact⟨by rw[HC.o],HB.o⟩
end Go.Proofs.VA
namespace Mailsack
def xMd (secret xI:ByteArray):ByteArray:=bsA (xK7 secret xI ⟨#[109,97,105,108]⟩ 44)
theorem xE6 (a b:ByteArray):(xMd a b).size=44:=by rw[xMd,yN,xGd]
def xMw (secret xI:ByteArray):ByteArray:=(xMd secret xI).extract 0 32
def xMv (secret xI:ByteArray):ByteArray:=(xMd secret xI).extract 32 44
theorem xMf (a b:ByteArray):(xMw a b).size=32:=by unfold xMw;rw[ByteArray.size_extract,xE6];rfl
theorem xMe (a b:ByteArray):(xMv a b).size=12:=by unfold xMv;rw[ByteArray.size_extract,xE6];rfl
def xKn (pub once s:ByteArray):Int:=if once.size≠32∨pub.size≠32 then 1 else if 700<s.size then 4 else 0
def boxP (pub once s:ByteArray):ByteArray:=yL once++rD (xMw (zY once pub) (yL once++pub)) (xMv (zY once pub) (yL once++pub)) ⟨#[]⟩ (xG2 s)
def xQn (pub once s:ByteArray):ByteArray:=if xKn pub once s=0 then boxP pub once s else⟨#[]⟩
def xYz (xL box:ByteArray):ByteArray:=aTx (xMw (zY xL (box.extract 0 32)) (box.extract 0 32++yL xL)) (xMv (zY xL (box.extract 0 32)) (box.extract 0 32++yL xL)) ⟨#[]⟩ (box.extract 32 box.size)
def sopA (xL box:ByteArray):Bool:=aOk (xMw (zY xL (box.extract 0 32)) (box.extract 0 32++yL xL)) (xMv (zY xL (box.extract 0 32)) (box.extract 0 32++yL xL)) ⟨#[]⟩ (box.extract 32 box.size)
def xRh (xL box:ByteArray):Int:=if xL.size≠32 then 1 else if box.size<32 then 3 else if sopA xL box=false then 7 else unE (xYz xL box)
def xY7 (xL box:ByteArray):ByteArray:=if xRh xL box=0 then unT (xYz xL box) else⟨#[]⟩
theorem yCc {s:ByteArray} (h:unE s≠0):unT s=⟨#[]⟩:=by
 unfold unE at h;unfold unT
 by_cases hk:xY6 s=true
 ·rw[if_pos hk] at h;exact absurd rfl h
 ·rw[if_neg hk]
end Mailsack
namespace Go.Proofs.SE
open Go.RowKit Mailsack MM BB SH SV VA Go.Proofs.FE
structure SeT (w:World):Prop where
 sha:vT w
 cls:yC2 w
theorem SeT.below {w w':World} {B:Nat} (h:SeT w) (hb:Below B w w') (hB:w.heap.size<=B):SeT w':=⟨h.sha.below hb hB,h.cls.below hb hB⟩
theorem xIk (secret xI:ByteArray) (w:World) (h1:secret.size<=1000000) (h2:xI.size<=1000000) (hT:vT w):
  Calls prog 81 #[.string secret,.string xI] w λe w'=>e=.returned (.tuple #[.string (xMw secret xI),.string (xMv secret xI),.int .i64 0])/\ψ w w':=by
 have HD:Hid (Calls prog 163 #[.string secret,.string xI,.string ⟨#[109,97,105,108]⟩,.int .i64 44] w λe w'=>e=.returned (.tuple #[.string (xMd secret xI),.int .i64 0])/\ψ w w'):=ι (xK6 secret xI ⟨#[109,97,105,108]⟩ 44 w ω ω δ δ hT);have hz:=xE6 secret xI
 have HK:Hid (xMw secret xI=(xMd secret xI).extract 0 32):=ι rfl;have HN:Hid (xMv secret xI=(xMd secret xI).extract 32 44):=ι rfl;rw[HK.o,HN.o];clear HK HN;generalize xMd secret xI=r at HD hz⊢;clear hT h1 h2;have hzi:(r.size:Int)=44:=ω;go_enter func81,ntmps81
 go_wp2_with fail
 refine HD.o.mono ?_;rintro e w1 ⟨rfl,hb1⟩;have B1:=ι hb1;clear hb1 HD;go_upto_region 4 with fail
 refine RG.xQ (λW=>Hid (ψ w W)) κ κ (ι B1.o.drew) ?_;iterate 7 refine RG.dS ?_
 refine RG.xS (λw2 hw2=>?_);have B2:=ι hw2.o;clear hw2 B1;go_wp2;go_ret3;exact⟨rfl,B2.o⟩
theorem yEe (pub once s:ByteArray) (w:World) (hT:SeT w):
  Calls prog 100 #[.string pub,.string once,.string s] w λe w'=>e=.returned (.tuple #[.string (xQn pub once s),.int .i64 (xKn pub once s)])/\ψ w w':=by
 by_cases h1:once.size≠32
 ·have HE:xKn pub once s=1:=by unfold xKn;rw[if_pos (.inl h1)]
  have HP:=ι (xI1 once pub w h1);rw[show xQn pub once s=⟨#[]⟩ by unfold xQn;rw[HE,if_neg δ],HE];clear HE h1 hT;go_enter func100,ntmps100;go_wp2_with fail
  refine HP.o.mono ?_;rintro e w1 ⟨rfl,hb1⟩;have B1:=ι hb1;clear hb1 HP;go_wp2;go_ret2;exact⟨rfl,B1.o⟩
 ·have h1:once.size=32:=Classical.not_not.1 h1
  by_cases h2:pub.size≠32
  ·have HE:xKn pub once s=1:=by unfold xKn;rw[if_pos (.inr h2)]
   have HP:=ι (xRy once pub w h1 h2);rw[show xQn pub once s=⟨#[]⟩ by unfold xQn;rw[HE,if_neg δ],HE];clear HE h1 h2 hT;go_enter func100,ntmps100;go_wp2_with fail
   refine HP.o.mono ?_;rintro e w1 ⟨rfl,hb1⟩;have B1:=ι hb1;clear hb1 HP;go_wp2;go_ret2;exact⟨rfl,B1.o⟩
  ·have h2:pub.size=32:=Classical.not_not.1 h2;have HP:=ι (xG0 once pub w h1 h2);have HT:=ι (λW (hb:ψ w W)=>hT.below hb ν)
   by_cases h3:700<s.size
   ·have HE:xKn pub once s=4:=by unfold xKn;rw[if_neg ω,if_pos h3]
    have HD:=ι (λW (hb:ψ w W)=>yD3 s W h3 (HT.o W hb).cls);rw[show xQn pub once s=⟨#[]⟩ by unfold xQn;rw[HE,if_neg δ],HE];generalize zY once pub=sec at HP;clear HE h1 h2 h3 hT HT;go_enter func100,ntmps100;go_wp2_with fail
    refine HP.o.mono ?_;rintro e w1 ⟨rfl,hb1⟩;have B1:=ι hb1;clear hb1 HP;go_wp2_with fail
    refine(HD.o _ B1.o).mono ?_;rintro e w2 ⟨rfl,rfl⟩;go_wp2;go_ret2;exact⟨rfl,B1.o⟩
   ·have HE:xKn pub once s=0:=by unfold xKn;rw[if_neg ω,if_neg h3]
    have HD:=ι (λW (hb:ψ w W)=>pad_ok s W ω (HT.o W hb).cls);have HPU:=ι (λW=>rF once W h1);have HDE:=ι (λW (hb:ψ w W)=>xIk (zY once pub) (yL once++pub) W (by rw[wE];decide) (by rw[ByteArray.size_append,show(yL once).size=32 from wE _ _];omega) (HT.o W hb).sha)
    have HSE:=ι (λW=>xJ4 (xMw (zY once pub) (yL once++pub)) (xMv (zY once pub) (yL once++pub)) ⟨#[]⟩ (xG2 s) W (xMf _ _) (xMe _ _) δ (by
     obtain⟨c,hc,_,h,_⟩:=xE7 (n:=s.size) ω;rw[xDq ω,hc,Int.toNat_natCast];omega))
    have hz1:(yL once).size=32:=wE _ _
    have hz2:(rD (xMw (zY once pub) (yL once++pub)) (xMv (zY once pub) (yL once++pub)) ⟨#[]⟩ (xG2 s)).size<=1000000:=by
     obtain⟨c,hc,_,h,_⟩:=xE7 (n:=s.size) ω;rw[rC,xDq ω,hc,Int.toNat_natCast];omega
    rw[show xQn pub once s=boxP pub once s by unfold xQn;rw[if_pos HE],HE];have HBX:Hid (boxP pub once s=yL once++rD (xMw (zY once pub) (yL once++pub)) (xMv (zY once pub) (yL once++pub)) ⟨#[]⟩ (xG2 s)):=ι rfl;generalize boxP pub once s=bx at HBX⊢
    generalize rD (xMw (zY once pub) (yL once++pub)) (xMv (zY once pub) (yL once++pub)) ⟨#[]⟩ (xG2 s)=sl at HSE hz2 HBX;generalize xMw (zY once pub) (yL once++pub)=kk at HDE HSE;generalize xMv (zY once pub) (yL once++pub)=nn at HDE HSE;generalize zY once pub=sec at HP HDE
    generalize yL once=own at HPU HDE hz1 HBX;generalize xG2 s=ps at HD HSE;have hn1:¬(9223372036854775807<own.size+pub.size):=ω;have hn2:¬(9223372036854775807<own.size+sl.size):=ω;clear HE h1 h2 h3 hT HT hz1 hz2;go_enter func100,ntmps100;go_wp2_with fail
    refine HP.o.mono ?_;rintro e w1 ⟨rfl,hb1⟩;have B1:=ι hb1;clear hb1 HP;go_wp2_with fail
    refine(HD.o _ B1.o).mono ?_;rintro e w2 ⟨rfl,hb2⟩;have B2:=ι (B1.o.trans (hb2.mono B1.o.size));clear hb2 HD B1;go_wp2_with fail
    refine(HPU.o _).mono ?_;rintro e w3 ⟨rfl,hb3⟩;have B3:=ι (B2.o.trans (hb3.mono B2.o.size));clear hb3 HPU B2;go_wp2_with fail
    refine(HDE.o _ B3.o).mono ?_;rintro e w4 ⟨rfl,hb4⟩;have B4:=ι (B3.o.trans (hb4.mono B3.o.size));clear hb4 HDE B3;go_wp2_with fail
    refine(HSE.o _).mono ?_;rintro e w5 ⟨rfl,hb5⟩;have B5:=ι (B4.o.trans (hb5.mono B4.o.size));clear hb5 HSE B4;go_wp2;go_ret2;exact⟨by rw[HBX.o];rfl,B5.o⟩
theorem xI0 (k:ByteArray) (w:World) (hk:k.size≠32):
  Calls prog 79 #[.string k] w λe w'=>e=.returned (.tuple #[.string ⟨#[]⟩,.bool false])/\ψ w w':=by
 have HP:=ι (λW=>xI1 k xKc W hk);have HB:=ι (xQs w);clear hk;go_enter func79,ntmps79;go_wp2_with fail
 refine HB.o.mono ?_;rintro e w1 ⟨rfl,hb1⟩;have B1:=ι hb1;clear hb1 HB;go_wp2_with fail
 refine(HP.o _).mono ?_;rintro e w2 ⟨rfl,hb2⟩;have B2:=ι (B1.o.trans (hb2.mono B1.o.size));clear hb2 HP B1;go_wp2;go_ret2;exact⟨rfl,B2.o⟩
theorem xV2 (xL box:ByteArray) (w:World) (hb:box.size<=100000) (hT:SeT w):
  Calls prog 32 #[.string xL,.string box] w λe w'=>e=.returned (.tuple #[.string (xY7 xL box),.int .i64 (xRh xL box)])/\ψ w w':=by
 by_cases h1:xL.size≠32
 ·have HE:xRh xL box=1:=by unfold xRh;rw[if_pos h1]
  have HP:=ι (xI0 xL w h1);rw[show xY7 xL box=⟨#[]⟩ by unfold xY7;rw[HE,if_neg δ],HE];clear HE h1 hb hT;go_enter func32,ntmps32;go_wp2_with fail
  refine HP.o.mono ?_;rintro e w1 ⟨rfl,hb1⟩;have B1:=ι hb1;clear hb1 HP;go_wp2;go_ret2;exact⟨rfl,B1.o⟩
 ·have h1:xL.size=32:=Classical.not_not.1 h1;have HPU:=ι (rF xL w h1)
  by_cases h2:box.size<32
  ·have HE:xRh xL box=3:=by unfold xRh;rw[if_neg ω,if_pos h2]
   rw[show xY7 xL box=⟨#[]⟩ by unfold xY7;rw[HE,if_neg δ],HE];have h2i:(box.size:Int)<32:=ω;generalize yL xL=pu at HPU;clear HE h1 h2 hb hT;go_enter func32,ntmps32;go_wp2_with fail
   refine HPU.o.mono ?_;rintro e w1 ⟨rfl,hb1⟩;have B1:=ι hb1;clear hb1 HPU;go_wp2;go_ret2;exact⟨rfl,B1.o⟩
  ·have h2i:¬(box.size:Int)<32:=ω;have h2n:¬(box.size<32):=h2;have hz0:(box.extract 0 32).size=32:=by rw[ByteArray.size_extract];omega
   have hz1:(yL xL).size=32:=wE _ _;have HT:=ι (λW (hb:ψ w W)=>hT.below hb ν);have HP:=ι (λW=>xG0 xL (box.extract 0 32) W h1 hz0)
   have HDE:=ι (λW (hb:ψ w W)=>xIk (zY xL (box.extract 0 32)) (box.extract 0 32++yL xL) W (by rw[wE];decide) (by rw[ByteArray.size_append];omega) (HT.o W hb).sha)
   have HAO:=ι (λW=>xXz (xMw (zY xL (box.extract 0 32)) (box.extract 0 32++yL xL)) (xMv (zY xL (box.extract 0 32)) (box.extract 0 32++yL xL)) ⟨#[]⟩ (box.extract 32 box.size) W (xMf _ _) (xMe _ _) δ (by rw[ByteArray.size_extract];omega))
   have HE:Hid (xRh xL box=if sopA xL box=false then 7 else unE (xYz xL box)):=ι (by unfold xRh;rw[if_neg ω,if_neg h2]);have HS:Hid (xY7 xL box=if xRh xL box=0 then unT (xYz xL box) else⟨#[]⟩):=ι rfl
   have HXS:(xYz xL box).size<=1000000:=by
    unfold xYz aTx;split
    ·rw[yN,xD5];unfold xHk;rw[ByteArray.size_extract,ByteArray.size_extract];omega
    ·decide
   have HUN:=ι (λW (hb:ψ w W)=>xUj (xYz xL box) W HXS (HT.o W hb).cls)
   have HAE:Hid (aE (xMw (zY xL (box.extract 0 32)) (box.extract 0 32++yL xL)) (xMv (zY xL (box.extract 0 32)) (box.extract 0 32++yL xL)) ⟨#[]⟩ (box.extract 32 box.size)=if sopA xL box=true then 0 else 7):=ι rfl
   rw[HAE.o,show aTx (xMw (zY xL (box.extract 0 32)) (box.extract 0 32++yL xL)) (xMv (zY xL (box.extract 0 32)) (box.extract 0 32++yL xL)) ⟨#[]⟩ (box.extract 32 box.size)=xYz xL box from rfl] at HAO;clear HAE HXS
   have hn1:¬(9223372036854775807<(box.extract 0 32).size+(yL xL).size):=ω;generalize xRh xL box=se at HE HS⊢;generalize xY7 xL box=st at HS⊢;generalize sopA xL box=sa at HE HAO;generalize xYz xL box=sx at HE HS HAO HUN
   generalize xMw (zY xL (box.extract 0 32)) (box.extract 0 32++yL xL)=kk at HDE HAO;generalize xMv (zY xL (box.extract 0 32)) (box.extract 0 32++yL xL)=nn at HDE HAO;generalize zY xL (box.extract 0 32)=sec at HP HDE;generalize yL xL=pu at HPU HDE hn1
   clear h1 h2 hz0 hz1 hb hT HT;go_enter func32,ntmps32;go_wp2_with fail
   refine HPU.o.mono ?_;rintro e w1 ⟨rfl,hb1⟩;have B1:=ι hb1;clear hb1 HPU;go_upto_region 6 with fail
   refine RG.xQ (λW=>Hid (ψ w W)) κ κ (ι B1.o.drew) ?_;iterate 6 refine RG.dS ?_
   refine RG.xS (λw2 hw2=>?_);have B2:=ι hw2.o;clear hw2 B1 h2i h2n;go_wp2_with fail
   refine(HP.o _).mono ?_;rintro e w3 ⟨rfl,hb3⟩;have B3:=ι (B2.o.trans (hb3.mono B2.o.size));clear hb3 HP B2;go_wp2_with fail
   refine(HDE.o _ B3.o).mono ?_;rintro e w4 ⟨rfl,hb4⟩;have B4:=ι (B3.o.trans (hb4.mono B3.o.size));clear hb4 HDE B3;go_wp2_with fail
   refine(HAO.o _).mono ?_;rintro e w5 ⟨rfl,hb5⟩;have B5:=ι (B4.o.trans (hb5.mono B4.o.size));clear hb5 HAO B4 hn1;cases sa with
   |false=>
    rw[if_neg σ];rw[if_pos rfl] at HE;have HSS:Hid (st=⟨#[]⟩):=ι (by rw[HS.o,HE.o,if_neg δ]);clear HUN;go_wp2;go_ret2;exact⟨by rw[HSS.o,HE.o];rfl,B5.o⟩
   |true=>
    rw[if_pos rfl];go_wp2_with fail
    refine(HUN.o _ B5.o).mono ?_;rintro e w6 ⟨rfl,hb6⟩;have B6:=ι (B5.o.trans (hb6.mono B5.o.size));clear hb6 HUN B5;rw[if_neg σ] at HE
    have HSS:Hid (st=unT sx):=ι (by
     rw[HS.o,HE.o];split
     ·rfl
     ·rename_i h;exact(yCc h).symm)
    go_wp2;go_ret2;exact⟨by rw[HSS.o,HE.o];rfl,B6.o⟩
end Go.Proofs.SE
namespace Mailsack
def xSb (kind user:Bs) (n:Int):Bs:=xM7 kind user++Go.Lib.itoa n
end Mailsack
namespace Go.Proofs.VA
open Go.RowKit Mailsack MM BB SH SV RK DS Go.Proofs.ST Go.Proofs.SE
structure VaT (w:World):Prop where
 se:SeT w
 tab : ∀ w',ψ w w' → Lib.TabIs prog w' "internal/strconv.uint64pow10" .u64 Lib.pow10Tab
theorem VaT.below {w w':World} (h:VaT w) (hb:ψ w w'):VaT w':=
 ⟨h.se.below hb ν,λw2 h2=>h.tab w2 (hb.trans (h2.mono hb.size))⟩
theorem xEg (k u:ByteArray) (n:Int) (w:World) (hk:k.size<=100) (hu:u.size<=1000000) (hn:-9223372036854775808<=n/\n<=9223372036854775807) (hT:VaT w):
  Calls prog 31 #[.string k,.string u,.int .i64 n] w λe w'=>e=.returned (xR (xSb k.data.toList u.data.toList n))/\ψ w w':=by
 have HE:Hid (xR (xSb k.data.toList u.data.toList n)=.string (k++⟨#[47]⟩++u++⟨#[47]⟩++⟨(Lib.itoa n).toArray⟩)):=ι (by
  show Value.string _=Value.string _
  congr 1)
 have HI:=ι (Tryz.strconv_Itoa n hn.1 hn.2 w (hT.tab w (Below.refl _ _)))
 have hd:(⟨(Lib.itoa n).toArray⟩:ByteArray).size<=100:=by
  have:=Lib.itoa_length_le n hn.1 hn.2;show(Lib.itoa n).length<=100;omega
 generalize (⟨(Lib.itoa n).toArray⟩:ByteArray)=ds at HE HI hd;have n1:¬(9223372036854775807<k.size+1):=ω;have s1:(k++⟨#[47]⟩:ByteArray).size=k.size+1:=ByteArray.size_append;have s2:(k++⟨#[47]⟩++u:ByteArray).size=k.size+1+u.size:=by rw[ByteArray.size_append,s1]
 have s3:(k++⟨#[47]⟩++u++⟨#[47]⟩:ByteArray).size=k.size+1+u.size+1:=by rw[ByteArray.size_append,s2];rfl
 have n2:¬(9223372036854775807<(k++⟨#[47]⟩).size+u.size):=by rw[s1];omega
 have n3:¬(9223372036854775807<(k++⟨#[47]⟩++u).size+1):=by rw[s2];omega
 have n4:¬(9223372036854775807<(k++⟨#[47]⟩++u++⟨#[47]⟩).size+ds.size):=by rw[s3];omega
 have n5:¬(9223372036854775807<k.size+1+u.size+1):=ω;have n6:¬(9223372036854775807<k.size+1+u.size):=ω;have n7:¬(9223372036854775807<k.size+1+u.size+1+ds.size):=ω;clear hk hu hT s1 s2 s3 hd hn;go_enter func31,ntmps31;go_wp2_with fail
 refine HI.o.mono ?_;rintro e w1 ⟨rfl,k1,os1,hw1⟩;have B1:=ι (show ψ w w1 by subst hw1;exact Lib.below_grow _ _ ν _ _);clear hw1 HI;go_wp2;go_ret;exact⟨by rw[HE.o];rfl,B1.o⟩
theorem xXa (n:Int) (w:World):Calls prog 101 #[.int .i64 n] w λe w'=>e=.returned (xR [oct n])/\ψ w w':=by
 have HB0:=ι (And.intro (show wK (w.alloc (.cells #[.int .u8 (n % 256)] 5)) w.heap.size [oct n] from by
  have e:yE [oct n]=#[.int .u8 (n % 256)]:=by unfold yE;simp[qK]
  unfold wK;rw[e];exact xM w (.cells #[.int .u8 (n % 256)] 5)) (φ w (.cells #[.int .u8 (n % 256)] 5)))
 have hcv:=xFm HB0.o.1 1 1 (Nat.le_refl 1);rw[show([oct n]:Bs).take 1=[oct n] from rfl] at hcv;go_enter func101,ntmps101;go_wp2;go_ret;exact⟨rfl,HB0.o.2⟩
end Go.Proofs.VA
namespace Go.Proofs.VA
open Go.RowKit Mailsack MM BB SH SV RK DS IX Go.Proofs.ST
theorem xGc {W:World} {g:Nat} {A1 A2:Option Addr} {n1 c1 n2 c2:Nat} {ua ub:Value} {D:Dk} (ho:W.heap[g]?=some (xW (.slice A1 n1 c1) (.slice A2 n2 c2))) (hr:RdD W W.heap.size ua ub D):RdD ((W.setCell ⟨g,0,none⟩ ua).setCell ⟨g,1,none⟩ ub) ((W.setCell ⟨g,0,none⟩ ua).setCell ⟨g,1,none⟩ ub).heap.size ua ub D:=by
 have e0:=xY ho 0 ua;obtain⟨A3,c3,A4,c4,rfl,rfl⟩:=xX hr;have n0:=vG ho
 have n1:xTa (W.setCell ⟨g,0,none⟩ (.slice A3 D.secs.length c3)) g:=by
  simp only[List.setIfInBounds_toArray,List.set_cons_zero] at e0;exact vG e0
 have:=RdD.far (RdD.far hr (p:=⟨g,0,none⟩) n0 (.slice A3 D.secs.length c3)) (p:=⟨g,1,none⟩) n1 (.slice A4 D.cache.length c4);simpa[size_set] using this
end Go.Proofs.VA
namespace Mailsack
theorem xVv {d:Dk} {x:Bs} (h:x∈xAa d):x.length<=24:=by
 obtain⟨t,h1,h2,rfl⟩:=xVu h;obtain⟨i,hi⟩:=List.mem_iff_getElem?.1 h1;rw[rA] at hi;split at hi
 ·obtain⟨s,_,rfl⟩:=Option.map_eq_some_iff.1 hi;rcases xK8 s with e|⟨_,h3⟩
  ·rw[e] at h2;cases h2
  ·exact h3.n2
 ·cases hi
theorem xNn (s p:Bs):Go.Lib.hasPrefix s p=decide (s.take p.length=p):=by
 unfold Go.Lib.hasPrefix;rw[Bool.eq_iff_iff,List.isPrefixOf_iff_prefix,decide_eq_true_eq,List.prefix_iff_eq_take];exact⟨λh=>h.symm,λh=>h.symm⟩
theorem xLs {l:List Bs} {k:Nat} {x:Bs} (h:l[k]?=some x) (hd:Bs):(l.take (k+1)).flatMap (numberOf hd)=(l.take k).flatMap (numberOf hd)++numberOf hd x:=by
 rw[List.take_add_one,h,List.flatMap_append];simp
theorem xB5 (hd:Bs):∀(l:List Bs),(l.flatMap (numberOf hd)).length<=l.length
 |[]=>Nat.le_refl _
 |x::l=>by
  have ih:=xB5 hd l
  have:(numberOf hd x).length<=1:=by
   unfold numberOf;split
   ·split<;>simp
   ·simp
  rw[List.flatMap_cons,List.length_append,List.length_cons];omega
theorem xG4 (d:Dk):(xAa d).length<=1000:=by
 unfold xAa;split
 ·have h1:(Go.Lib.compact (tH (usedNames (yS (yH d).secs)))).length<=(tH (usedNames (yS (yH d).secs))).length:=by
   unfold Go.Lib.compact Go.Lib.compactUpTo;rw[List.length_map];have:=List.length_filter_le (Go.Lib.keeps (tH (usedNames (yS (yH d).secs))).toArray) (List.range (tH (usedNames (yS (yH d).secs))).length);simpa using this
  have h2:(tH (usedNames (yS (yH d).secs))).length=(usedNames (yS (yH d).secs)).length:=by unfold tH;exact List.length_mergeSort _
  have h3:(usedNames (yS (yH d).secs)).length<=32:=by
   unfold usedNames;rw[List.length_map];have:=List.length_filter_le (λt:Slot=>t.used) (yS (yH d).secs);have h4:(yS (yH d).secs).length<=32:=by unfold yS;simp;omega
   omega
  omega
 ·simp
end Mailsack
namespace Go.Proofs.VA
open Go.RowKit Go.Lib Mailsack MM BB SH SV RK DS Go.Proofs.ST
abbrev xTj (z:Int):List Value:=[.int .i64 z]
theorem xJu (z:Int):(xTj z).length=1:=rfl
theorem yA2 (x:Int):∀u∈xTj x,u.oneCell'=true:=by
 intro u hu;rw[List.mem_singleton.1 hu];rfl
theorem tyInt:yBw prog 65 3 1 8 xTj:=by
 obtain⟨i,hi,hz,hs,hb⟩:=jA xQ1;exact⟨underlying65,⟨i,_,hi,hz,hs,hb,rfl⟩,ω,ω,xJu,yA2⟩
theorem xV1 {w:World} {base:Nat} {v:Value} {xs:List Int} (h:zI 3 1 xTj w base v xs) (hl:xs.length<=1000000):
  Calls prog 99 #[v] w λe w'=>e=.returned (.tuple #[])/\Below base w w'/\RdR 1 xTj w' w'.heap.size v (xDk xs):=by
 have hls:(xDk xs).length=xs.length:=by unfold xDk;exact List.length_mergeSort _
 rcases h.2 with ⟨hv,hn⟩|⟨g,cap,cur,h1,hb,hg,hnc,_,_,htake⟩
 ·have:xs=[]:=List.eq_nil_of_length_eq_zero hn;subst this;subst hv;refine(Tryz.slices_Sort_int_none none 0 w).mono ?_;rintro e w' ⟨rfl,rfl⟩;exact⟨rfl,Below.refl _ _,none,0,by simp[xDk],by simp[xDk],λh=>by simp[xDk] at h⟩
 ·subst h1
  have hH:Sort.Holds (Value.int .i64) w g 0 xs.toArray:=λj hj=>⟨by
   have hj2:j<xs.length:=by simpa using hj
   have:=World.ownsRow.cells h.row (g:=g) rfl (j*1+0) (.int .i64 (xs.toArray[j]!)) (flat_get xJu xs j 0 xs[j] _ (List.getElem?_eq_getElem hj2) (by rw[getElem!_pos xs.toArray j (by simpa using hj2)];rfl))
   have hadd:(⟨g,0,none⟩:Addr).add (j*1+0)=⟨g,0+j,none⟩:=by unfold Addr.add;split<;>simp_all
   rw[hadd] at this;exact this,xB hg _⟩
  refine(Tryz.slices_Sort_int g 0 cap xs w hH (xH hg) ω).mono ?_;rintro e w' ⟨rfl,n,os,rfl⟩
  have hH2:=Sort.holds_grow (Value.int .i64) _ os g 0 (xDk xs).toArray (by simpa using xH hg) (Sort.holds_putRow (Value.int .i64) (Sort.ahead w n) g 0 xs.toArray (xDk xs).toArray (Sort.holds_ahead _ _ n _ _ _ hH) (by simpa using hls))
  refine⟨rfl,xGu (Below.refl _ _) hb (xH hg),_,cap,by rw[hls],by rw[hls];exact hnc,λ_=>⟨g,0,rfl,by have:=xH hg;simp;omega,λj x hx i u hu=>?_⟩⟩;have hi:=(List.getElem?_eq_some_iff.1 hu).1;obtain rfl:i=0:=by simp at hi;omega
  obtain⟨hj,rfl⟩:=List.getElem?_eq_some_iff.1 hx;have:=(hH2 j (by simpa using hj)).1;rw[show 0+j*1+0=0+j by omega];refine this.trans ?_;rw[getElem!_pos (xDk xs).toArray j (by simpa using hj)];simpa using hu
def FarV (B:Nat) (v:Value):Prop:=∀a n c,v=.slice (some a) n c->B<=a.block
theorem xNx (va vb:Value) (d:Dk) (kd us:ByteArray) (w:World) (h:RdD w w.heap.size va vb d) (hk:kd.size<=100) (hu:us.size<=1000000):
  Calls prog 40 #[.agg #[va,vb],.string kd,.string us] w λe w'=>∃v,e=.returned v/\RdR 1 xTj w' w'.heap.size v (wR d kd.data.toList us.data.toList)/\ψ w w'/\FarV w.heap.size v:=by
 obtain⟨A1,c1,A2,c2,rfl,rfl⟩:=xX h;have HA:=ι (φ w (xW (.slice A1 d.secs.length c1) (.slice A2 d.cache.length c2)));have hD0:=xM w (xW (.slice A1 d.secs.length c1) (.slice A2 d.cache.length c2));obtain⟨d0,d1⟩:=zG hD0;clear hD0
 have HNM:=ι (xVw _ _ d _ ((h.below HA.o ν).more HA.o.size));have HNP:Hid (wR d kd.data.toList us.data.toList=xDk ((xAa d).flatMap (numberOf (xM7 kd.data.toList us.data.toList)))):=ι rfl;have HNL:=ι (λx (hx:x∈xAa d)=>xVv hx);have HNC:=ι (xG4 d)
 obtain⟨np,hnp⟩:∃np,wR d kd.data.toList us.data.toList=np:=⟨_,rfl⟩;rw[hnp] at HNP⊢;obtain⟨hp,hhp⟩:∃hp:ByteArray,kd++⟨#[47]⟩++us++⟨#[47]⟩=hp:=⟨_,rfl⟩
 have HHP:Hid (xM7 kd.data.toList us.data.toList=hp.data.toList):=ι (by
  rw[<-hhp];simp[xM7,slash,ByteArray.data_append])
 rw[HHP.o] at HNP;have n1:¬(9223372036854775807<kd.size+1):=ω;have n2:¬(9223372036854775807<(kd++⟨#[47]⟩).size+us.size):=by rw[ByteArray.size_append];show ¬(_<kd.size+1+us.size);omega
 have n3:¬(9223372036854775807<(kd++⟨#[47]⟩++us).size+1):=by rw[ByteArray.size_append,ByteArray.size_append];show ¬(_<kd.size+1+us.size+1);omega
 have n4:¬(9223372036854775807<kd.size+1+us.size+1):=ω;generalize xAa d=names at HNM HNP HNL HNC;have HHQ:=ι hhp;clear h hk hu hnp hhp HHP;go_enter func40,ntmps40;go_wp2_with fail
 refine HNM.o.mono ?_;rintro e w1 ⟨v1,rfl,hr1,hb1⟩;have HB1:=ι (HA.o.trans (hb1.mono HA.o.size));have HR1:=ι hr1;obtain⟨A5,c5,rfl,hc5,hcell⟩:=hr1;have HCL:=ι hcell;clear hb1 hcell hc5 HNM HA d0 d1;go_wp2_with fail
 go_loopw [7,17] (λtv iv wr=>∃k:Nat,k<=names.length/\iv=.int .i64 k/\Hid (zI 3 1 xTj wr w1.heap.size tv ((names.take k).flatMap (numberOf hp.data.toList))/\ψ w1 wr)) (λ_ iv _=>names.length- (intOf iv).toNat)
 case atStart=>exact⟨0,Nat.zero_le _,rfl,ι ⟨zI.nil _ _,Below.refl _ _⟩⟩
 case round=>
  obtain⟨k,hk,rfl,HI⟩:=hrel;have hnc:names.length<=1000:=HNC.o
  by_cases hlt:k<names.length
  ·obtain⟨x,hx⟩:∃x,names[k]?=some x:=⟨_,List.getElem?_eq_getElem hlt⟩;obtain⟨b,off,rfl,hbw,hcs⟩:=HCL.o ω;have q:=(HI.o.2.cell (p:=⟨b,off+k,none⟩) hbw).trans (hcs k x hx);have HXL:Hid (x.length<=24):=ι (HNL.o x (List.mem_of_getElem? hx));have HST:=ι (xLs hx hp.data.toList)
   have HNO:Hid (numberOf hp.data.toList x=if x.take hp.data.toList.length=hp.data.toList then(if kT (x.drop hp.data.toList.length)=true then[(numOf (x.drop hp.data.toList.length):Int)] else[]) else[]):=ι rfl;have HCP:=ι (λW=>Tryz.strings_CutPrefix ⟨x.toArray⟩ hp W)
   rw[show(⟨x.toArray⟩:ByteArray).data.toList=x from rfl] at HCP;have HTR:Hid (trimPrefix x hp.data.toList=if hasPrefix x hp.data.toList=true then x.drop hp.data.toList.length else x):=ι rfl;have HPT:=ι (xNn x hp.data.toList)
   have HTL:Hid (((names.take k).flatMap (numberOf hp.data.toList)).length<=1000):=ι (by have:=xB5 hp.data.toList (names.take k);have:=List.length_take_le k names;omega);generalize trimPrefix x hp.data.toList=tp at HCP HTR;cases hpf:hasPrefix x hp.data.toList with
   |false=>
    rw[hpf] at HCP HTR HPT;have hne:¬(x.take hp.data.toList.length=hp.data.toList):=of_decide_eq_false HPT.o.symm;rw[if_neg hne] at HNO;rw[HNO.o,List.append_nil] at HST;clear hcs hx hpf hne HNO HPT;rw[<-HHQ.o] at HCP
    have HI2:Hid (zI 3 1 xTj wr w1.heap.size u7 ((names.take (k+1)).flatMap (numberOf hp.data.toList))/\ψ w1 wr):=ι (by rw[HST.o];exact HI.o);clear HI HST HTL HTR HXL HNL;go_wp2_with fail
    refine(HCP.o _).mono ?_;rintro e w3 ⟨rfl,hw3⟩;rw[hw3];clear hw3 w3 q;go_wp2;exact⟨⟨k+1,ω,by go_num,HI2⟩,by simp[intOf];omega⟩
   |true=>
    rw[hpf] at HCP HTR HPT;have hye:x.take hp.data.toList.length=hp.data.toList:=of_decide_eq_true HPT.o.symm;rw[if_pos hye] at HNO;rw[if_pos rfl] at HTR;rw[<-HTR.o] at HNO;have HPA:=ι (λW=>xVi tp W (by rw[HTR.o,List.length_drop];have:=HXL.o;omega));rw[<-HHQ.o] at HCP
    clear hcs hx hpf hye HPT HTR HXL HNL;go_wp2_with fail
    refine(HCP.o _).mono ?_;rintro e w3 ⟨rfl,hw3⟩;rw[hw3];clear hw3 w3 q HCP;go_wp2_with fail
    refine(HPA.o _).mono ?_;rintro e w3 ⟨z,rfl,hz,hw3⟩;rw[hw3];clear hw3 w3 HPA;cases hpo:kT tp with
    |false=>
     rw[hpo,if_neg σ] at HNO;rw[HNO.o,List.append_nil] at HST;have HI2:Hid (zI 3 1 xTj wr w1.heap.size u7 ((names.take (k+1)).flatMap (numberOf hp.data.toList))/\ψ w1 wr):=ι (by rw[HST.o];exact HI.o);clear hz hpo HI HNO HST HTL;go_wp2
     exact⟨⟨k+1,ω,by go_num,HI2⟩,by simp[intOf];omega⟩
    |true=>
     have hz2:=hz hpo;rw[hpo,if_pos rfl,<-hz2] at HNO;rw[HNO.o] at HST;have HO:=ι HI.o;generalize (names.take k).flatMap (numberOf hp.data.toList)=T at HO HST HTL
     have HAD:Hid (∀v8 w8,xKt 3 1 xTj (wr.alloc (.cells #[.int .i64 z] 3)) w8 w1.heap.size u7 v8 (T++[z])->Hid (zI 3 1 xTj w8 w1.heap.size v8 ((names.take (k+1)).flatMap (numberOf hp.data.toList))/\ψ w1 w8)):=ι λv8 w8 h8=>ι ⟨by rw[HST.o];exact h8.own,h8.bel (HO.o.1.alloc _) ν (HO.o.2.alloc HO.o.2.size _) (by have:=HO.o.2.size;simp;omega)⟩
     clear hz hz2 hpo HI HNO;go_wp2_with (at_builtin;refine vL tyInt rfl _ _ rfl rfl rfl (HO.o.1.alloc _) (RdR.lit (m:=[z]) xJu _ _ rfl) (by have:=HTL.o;simp;omega) (by have:=HO.o.2.size;simp;omega) ?_;intro v8 w8 h8;have HA8:=HAD.o _ _ h8;clear h8)
     exact⟨⟨k+1,ω,by go_num,HA8⟩,by simp[intOf];omega⟩
  ·obtain rfl:k=names.length:=ω;rw[List.take_length] at HI;have HUL:Hid ((names.flatMap (numberOf hp.data.toList)).length<=1000):=ι (by have:=xB5 hp.data.toList names;omega);generalize names.flatMap (numberOf hp.data.toList)=ns at HI HNP HUL
   have HSS:=ι (xV1 HI.o.1 (by have:=HUL.o;omega));have HBI:=ι HI.o.2;obtain⟨A6,c6,hu7,_⟩:=HI.o.1.form;subst hu7
   have HFV:Hid (FarV w.heap.size (.slice A6 ns.length c6)):=ι λa n c e=>by
    injection e with e1 _ _;subst e1;have:=(World.ownsRow.lt HI.o.1.row a.block rfl).1;exact Nat.le_trans HB1.o.size this
   clear HI hlt hk;go_wp2_with fail
   refine HSS.o.mono ?_;rintro e w4 ⟨rfl,hb4,hr4⟩;have H4:=ι (And.intro hr4 (HB1.o.trans ((HBI.o.trans hb4).mono HB1.o.size)));clear hb4 hr4 HSS HBI;go_wp2;go_ret;exact⟨_,rfl,by rw[HNP.o];exact H4.o.1,H4.o.2,HFV.o⟩
theorem xNy (va vb:Value) (d:Dk) (kd us:ByteArray) (w:World) (h:RdD w w.heap.size va vb d) (hk:kd.size<=100) (hu:us.size<=1000000):
  Calls prog 40 #[.agg #[va,vb],.string kd,.string us] w λe w'=>∃v,e=.returned v/\RdR 1 xTj w' w'.heap.size v (wR d kd.data.toList us.data.toList)/\ψ w w':=by
 refine(xNx va vb d kd us w h hk hu).mono ?_;rintro e w' ⟨v,h1,h2,h3,_⟩;exact⟨v,h1,h2,h3⟩
end Go.Proofs.VA
namespace Go.Proofs.VA
open Go.RowKit Mailsack MM BB SH SV RK DS IX Go.Proofs.ST
abbrev wD (u p o:ByteArray) (ep:Int) (bv sv:Value) (g:Int):Obj:=.cells #[.string u,.string p,.string o,.int .i64 ep,bv,sv,.int .i64 g] 30
abbrev jZ (u p o:ByteArray) (ep:Int) (bv sv:Value) (g:Int):Value:=.agg #[.string u,.string p,.string o,.int .i64 ep,bv,sv,.int .i64 g]
abbrev kR:Obj:=wD ⟨#[]⟩ ⟨#[]⟩ ⟨#[]⟩ 0 (.slice none 0 0) (.slice none 0 0) 0
abbrev kG:Obj:=xW (.slice none 0 0) (.slice none 0 0)
end Go.Proofs.VA