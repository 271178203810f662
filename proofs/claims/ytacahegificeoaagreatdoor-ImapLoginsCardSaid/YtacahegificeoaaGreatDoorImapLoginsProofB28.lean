/- Contracts of functions. Conditions: as stated. -/
import Derived.Test.YtacahegificeoaaGreatDoorImapLoginsProofB27
set_option maxHeartbeats 8000000
set_option maxRecDepth 100000
namespace Mailsack
def byteOf (z:Int):UInt8:=UInt8.ofNat (z % 256).toNat
theorem xIf (z:Int):((byteOf z).toNat:Int)=z % 256:=by
 unfold byteOf;have h1:=Int.emod_nonneg z (b:=256) δ;have h2:=Int.emod_lt_of_pos z (b:=256) δ;rw[UInt8.toNat_ofNat',Nat.mod_eq_of_lt ω];omega
def vQ (n:Int) (c:Nat):Bs:=(List.range c).map λi=>byteOf (n / 2^(8*i))
theorem xW2 (n:Int) (c:Nat):vQ n (c+1)=vQ n c++[byteOf (n / 2^(8*c))]:=by
 unfold vQ;rw[List.range_succ,List.map_append];rfl
def rW (s:Bs):Bs:=byteOf s.length::s
theorem uN (n:Int) (c:Nat):(vQ n c).length=c:=by unfold vQ;simp
end Mailsack
namespace Go.Proofs.IX
open Go.RowKit Mailsack MM BU VB
structure Ext (w:World) (v:Value) (w':World) (v':Value):Prop where
 grown:w.grownBy w' v.ownBlock
 own:∀k,v'.ownBlock=some k->v.ownBlock=some k∨w.heap.size<=k
theorem Ext.refl (w:World) (v:Value):Ext w v w v:=⟨⟨rfl,rfl,rfl,Nat.le_refl _,λ_ _ _=>rfl⟩,λ_ h=>.inl h⟩
theorem Ext.trans {w w1 w2:World} {v v1 v2:Value} (h:Ext w v w1 v1) (k:Ext w1 v1 w2 v2):Ext w v w2 v2:=by
 refine⟨⟨k.grown.os.trans h.grown.os,k.grown.tape.trans h.grown.tape,k.grown.output.trans h.grown.output,Nat.le_trans h.grown.size k.grown.size,λb hb hne=>?_⟩,λb hb=>?_⟩
 ·refine(k.grown.block b (Nat.lt_of_lt_of_le hb h.grown.size) (λe=>?_)).trans (h.grown.block b hb hne);rcases h.own b e.symm with h1|h1
  ·exact hne h1.symm
  ·omega
 ·rcases k.own b hb with h1|h1
  ·exact h.own b h1
  ·exact .inr (Nat.le_trans h.grown.size h1)
theorem Ext.push {w w1:World} {v:Value} {o:Obj} {g n cap:Nat} (hg:(w.alloc o).grownBy w1 v.ownBlock) (hl:v.ownBlock=some g∨g=w.heap.size+1):Ext w v w1 (.slice (some ⟨g,0,none⟩) n cap):=by
 refine⟨⟨hg.os,hg.tape,hg.output,Nat.le_trans σ hg.size,λb hb hne=>?_⟩,λb hb=>?_⟩
 ·exact(hg.block b (by simp;omega) hne).trans (Below.heap_alloc w o b hb)
 ·have hb':g=b:=by simpa[Value.ownBlock] using hb
  subst hb';rcases hl with h|h
  ·exact .inl h
  ·exact .inr ω
theorem Ext.away {w w':World} {v v':Value} (h:Ext w v w' v') {g:Nat} (hg:g<w.heap.size) (hne:v.ownBlock≠some g):w'.heap[g]?=w.heap[g]?/\v'.ownBlock≠some g:=by
 refine⟨h.grown.block g hg (λe=>hne e.symm),λe=>?_⟩;rcases h.own g e with h1|h1
 ·exact hne h1
 ·omega
theorem Ext.below {w w':World} {v v':Value} (h:Ext w v w' v') {base:Nat} {l:Bs} (ho:kM w base v l) (hb:base<=w.heap.size):Below base w w':=
 ⟨h.grown.os,h.grown.tape,h.grown.output,h.grown.size,λk hk=>h.grown.block k ω (λe=>by
  have:=(World.ownsRow.lt ho k e.symm).1;omega)⟩
theorem xNh {P:Program} (w:World) (base:Nat) (t u ty e:TypeId) (i:TypeInfo) (ht:P.underlying t=some (.slice e)) (hu:P.underlying u=some .string) (hi:P.info? e=some i) (hz:i.zero=some (.int .u8 0))
  (hsize:i.size=1) (hby:i.bytes=1) (g n cap:Nat) (xs:List Value) (hown:w.ownsRow base e 1 (.slice (some ⟨g,0,none⟩) n cap) n xs) (s:ByteArray)
  (h63:n+s.size<=maxLen) (hbytes:n+s.size<=140737488355328) (hbase:base<=w.heap.size):
  ∃v' w',(Builtin.append_ #[t,u] ty #[.slice (some ⟨g,0,none⟩) n cap,.string s]).run P w=.ok v' w'/\w'.ownsRow base e 1 v' (n+s.size) (xs++Lib.strCells s)/\w.grownBy w' (some g)/\
   (v'.ownBlock=some g∨v'.ownBlock=some w.heap.size):=by
 obtain⟨v',w',hr,h2,h3,_⟩:=Lib.run_append_own_string (P:=P) w base t u ty e i ht hu hi hz hsize hby _ n xs hown s h63 hbytes hbase;refine⟨v',w',hr,h2,h3,?_⟩;have hsmall:n+s.size<=9223372036854775807:=by simp only[maxLen] at h63;omega
 have hxl:xs.length=n:=by simpa using hown.1
 rcases hown.2 with ⟨h,_⟩|⟨g',cap',cur,h,hbg,hg,hnc,hcm,hcs,htake⟩
 ·cases h
 ·injection h with h h' h'';injection h with h;injection h with h;subst h h''
  by_cases hroom:n+s.size<=cap
  ·have hcs':cur.size=cap:=by simpa using hcs
   have hq:=Lib.run_append_room_string (P:=P) w t u ty e i ht hu hi hsize g n cap cur hg s hroom ω;rw[hq] at hr;injection hr with hv hw;exact .inl (by rw[<-hv];rfl)
  ·have holds:∀j u,xs[j]?=some u->w.cell? ((⟨g,0,none⟩:Addr).add j)=some u:=hown.cells (g:=g) rfl
   have hq:=Lib.run_append_grow_string (P:=P) w t u ty e i (.int .u8 0) ht hu hi hz ⟨g,0,none⟩ n cap xs (by rw[hsize];simpa using hxl) holds s ω ω (by rw[hby];exact growslice_fits ω ω);rw[hq] at hr;injection hr with hv hw;exact .inr (by rw[<-hv];rfl)
theorem xH5 {P:Program} {w:World} {ops:Array Oper} {rest:List Oper} {o:Oper} {a:Act} {Q:Exit->Act->World->Prop} (hgd:o.guard=none) (sl x:Operand) (t u:TypeId)
  (ho:o.op=.call {callee:=.builtin .append,args:=#[sl,x],argTypes:=#[t,u]})
  (base:Nat) (e:TypeId) (i:TypeInfo) (ht:P.underlying t=some (.slice e)) (hu:P.underlying u=some .string) (hi:P.info? e=some i) (hz:i.zero=some (.int .u8 0))
  (hsize:i.size=1) (hby:i.bytes=1)
  (g n cap:Nat) (xs:List Value) (hs:a.eval sl=.slice (some ⟨g,0,none⟩) n cap) (hown:w.ownsRow base e 1 (.slice (some ⟨g,0,none⟩) n cap) n xs) (s:ByteArray) (hx:a.eval x=.string s)
  (h63:n+s.size<=maxLen) (hbytes:n+s.size<=140737488355328) (hbase:base<=w.heap.size)
  (h:∀v' w',w'.ownsRow base e 1 v' (n+s.size) (xs++Lib.strCells s)->w.grownBy w' (some g)->(v'.ownBlock=some g∨v'.ownBlock=some w.heap.size)->wpList P ops Q rest (a.put o.dst v') w'):wpList P ops Q (o::rest) a w:=by
 refine wpList_plain hgd λK hK=>?_;obtain⟨v',w',hr,h2,h3,h4⟩:=xNh (P:=P) w base t u o.type e i ht hu hi hz hsize hby g n cap xs hown s h63 hbytes hbase;unfold Oper.wp execOp
 simp only[ho,resolve,invoke,builtin,Sem.run_bind,Sem.run_pure,Result.andThen_ok,List.map_toArray,List.map_cons,List.map_nil,hs,hx,hr];exact hK _ _ (h v' w' h2 h3 h4)
theorem Ext.spread {w w1:World} {g n cap:Nat} {v':Value} (hg:w.grownBy w1 (some g)) (hl:v'.ownBlock=some g∨v'.ownBlock=some w.heap.size):Ext w (.slice (some ⟨g,0,none⟩) n cap) w1 v':=by
 refine⟨hg,λb hb=>?_⟩;rcases hl with h|h
 ·exact .inl (by rw[<-hb,h];rfl)
 ·rw[h] at hb;injection hb with hb;exact .inr ω
theorem xBb (n:Int) (c:Nat) (v:Value) (l:Bs) (w:World) (base:Nat) (ho:kM w base v l) (hb:base<=w.heap.size) (hl:l.length<4294967281) (hc:c<=4):
  Calls Tryz.prog 45 #[v,.int .i64 n,.int .i64 c] w λe w'=>∃v',e=.returned v'/\kM w' base v' (l++vQ n c)/\Ext w v w' v':=by
 obtain⟨i0,hi,hz0,hz1,hz2⟩:=info_parts xLz;have HO:=ι ho;clear ho;go_enter Tryz.func45,Tryz.ntmps45;go_wp2
 go_loopw [0,9] (λlv iv wr=>∃k:Nat,k<=c/\iv=.int .i64 k/\Hid (kM wr base lv (l++vQ n k))/\Hid (Ext w v wr lv)) (λ_ iv _=>c- (intOf iv).toNat)
 case atStart=>exact⟨0,Nat.zero_le _,rfl,ι (by rw[show vQ n 0=[] from rfl,List.append_nil];exact HO.o),ι (Ext.refl _ _)⟩
 case round=>
  obtain⟨k,hk,rfl,hown,xX5⟩:=hrel
  by_cases hlt:k<c
  ·have HL0:=(show(l++vQ n k).length=l.length+k by rw[List.length_append,uN]);obtain⟨L,hL⟩:∃L,l++vQ n k=L:=⟨_,rfl⟩;rw[hL] at hown HL0;have HL:=ι HL0;have HLe:=ι hL;clear HL0 hL;have HS:=ι (xW2 n k);have HK:=ι (show k<4 by omega)
   go_wp2_with (at_builtin;refine wpList_append_lies _ rfl _ _ 79 rfl base 5 i0 (.int .u8 0) 1 1 Tryz.underlying79 hi hz0 hz1 hz2 rfl δ _ _ _ rfl (hown.o.alloc _) ⟨wr.heap.size,0,none⟩ 1 1 [.int .u8 (n / 2^(8*k) % 256)] rfl rfl (cell_one_new _ _ _) (xVy _) δ (by have:=HL.o;have:=HK.o;unfold maxLen;omega) (by have:=HL.o;have:=HK.o;omega) (by have:=xX5.o.grown.size;simp;omega) (wr.heap.size+1) σ ?_;intro g cap w1 hown1 hgrow hat hlt1)
   have he2:=xX5.o.trans (Ext.push (n:=L.length+1) (cap:=cap) hgrow hat);have ho2:=ι hown1;clear hown1 hgrow hat
   go_roundw
   case rel=>exact⟨k+1,ω,by go_num,ι (by
    rw[HS.o,<-List.append_assoc,HLe.o];refine kM.of ?_;rw[xIf];exact ho2.o),ι he2⟩
   case measure=>simp[intOf];omega
  ·go_wp2;go_ret;refine⟨_,rfl,?_,xX5.o⟩;rw[show c=k by omega];exact hown.o
theorem xF4 (s:ByteArray) (v:Value) (l:Bs) (w:World) (base:Nat) (ho:kM w base v l) (hb:base<=w.heap.size) (hl:l.length<4294967281) (hs:s.size<=100):
  Calls Tryz.prog 46 #[v,.string s] w λe w'=>∃v',e=.returned v'/\kM w' base v' (l++rW s.data.toList)/\Ext w v w' v':=by
 obtain⟨i0,hi,hz0,hz1,hz2⟩:=info_parts xLz;have HO:=ι ho;clear ho;go_enter Tryz.func46,Tryz.ntmps46;have hsl:s.data.toList.length=s.size:=Array.length_toList;have Hs8:Hid ((((Mailsack.byteOf (s.data.toList.length:Int)).toNat:Int))=(s.size:Int)):=ι (by rw[hsl,xIf];omega)
 have Hsl:=ι hsl;clear hsl
 go_wp2_with (first|(at_builtin;refine wpList_append_lies _ rfl _ _ 79 rfl base 5 i0 (.int .u8 0) 1 1 Tryz.underlying79 hi hz0 hz1 hz2 rfl δ _ _ _ rfl (HO.o.alloc _) ⟨w.heap.size,0,none⟩ 1 1 [.int .u8 (s.size:Int)] rfl rfl (cell_one_new _ _ _) (xVy _) δ (by unfold maxLen;omega) ω (by simp;omega) (w.heap.size+1) σ ?_;intro g cap w1 hown1 hgrow hat hlt1;have HE:=ι (Ext.push (n:=l.length+1) (cap:=cap) hgrow hat);have HO1:=ι hown1;clear hown1 hgrow hat hlt1)|(at_builtin;refine xH5 rfl _ _ 79 9 rfl base 5 i0 Tryz.underlying79 Tryz.underlying9 hi hz0 hz1 hz2 g _ cap _ rfl HO1.o s rfl (by unfold maxLen;omega) ω (by have:=HE.o.grown.size;omega) ?_;intro v2 w2 hown2 hgrow2 hat2;have HE2:=ι (HE.o.trans (Ext.spread (n:=l.length+1) (cap:=cap) hgrow2 hat2));have HO2:=ι hown2;clear hown2 hgrow2 hat2))
 go_ret;refine⟨_,rfl,?_,HE2.o⟩;have h:=HO2.o;unfold kM;rw[show(l++rW s.data.toList).length=l.length+1+s.size by unfold rW;rw[List.length_append,List.length_cons,Hsl.o];omega]
 rw[show(l++rW s.data.toList).map (λc=>Value.int .u8 c.toNat)=l.map (λc=>Value.int .u8 c.toNat)++[.int .u8 (s.size:Int)]++Lib.strCells s by
  unfold rW Lib.strCells;rw[List.map_append,List.map_cons,Hs8.o,List.append_assoc]
  rfl]
 exact h
end Go.Proofs.IX
namespace Mailsack
def xLp (m:uH):Bs:=vQ m.uid 4++vQ m.flags 1++vQ m.object 4++vQ m.size 2
def xX6 (b:jV):Bs:=rW b.name++vQ b.validity 4++vQ b.next 4++vQ b.yB.length 1
def yCn (b:jV):Bs:=xX6 b++(b.yB.map xLp).flatten
def yA2 (x:yD):Bs:=vQ x.given 4++vQ x.boxes.length 1++(x.boxes.map yCn).flatten++vQ x.subs.length 1++(x.subs.map rW).flatten
def xLa (x:yD):Bs:=if zI x=true then yA2 x else[]
def yC8 (x:yD):Int:=if zI x=true then 0 else 1
theorem xEj (m:uH):(xLp m).length=11:=by unfold xLp;simp[uN]
theorem tL (s:Bs):(rW s).length=s.length+1:=rfl
theorem xEm (b:jV):(xX6 b).length=b.name.length+10:=by unfold xX6;simp[uN,tL]
theorem xD2 {α:Type} {L:List α} {k:Nat} {x:α} (h:L[k]?=some x) (f:α->Bs):((L.take (k+1)).map f).flatten=((L.take k).map f).flatten++f x:=by
 rw[List.take_add_one,h];simp
theorem kU {α:Type} {L:List α} (f:α->Bs) {c:Nat} (h:∀x∈L,(f x).length<=c) (k:Nat):(((L.take k).map f).flatten).length<=c*k:=by
 induction k with
 |zero=>simp
 |succ k ih=>
  cases e:L[k]? with
  |none=>rw[List.take_add_one,e];simp only[Option.toList,List.append_nil];rw[Nat.mul_succ];omega
  |some x=>
   rw[xD2 e,List.length_append,Nat.mul_succ];have:=h x (List.mem_of_getElem? e);omega
theorem xE9 {given:Int}:∀{l:List jV} {i:Nat} {p:Bs},rP given l i p=true->∀b∈l,rQ b=true
 |[],_,_,_,_,hb=>by cases hb
 |b::l,i,p,h,b',hb=>by
  unfold rP at h;simp only[Bool.and_eq_true] at h;rcases List.mem_cons.1 hb with rfl|hb
  ·exact h.1.1.1.1
  ·exact xE9 h.2 b' hb
theorem xKw:∀{l:List Bs} {i:Nat} {p:Bs},xCm l i p=true->∀s∈l,xAg s=true
 |[],_,_,_,_,hb=>by cases hb
 |b::l,i,p,h,b',hb=>by
  unfold xCm at h;simp only[Bool.and_eq_true] at h;rcases List.mem_cons.1 hb with rfl|hb
  ·exact h.1.1
  ·exact xKw h.2 b' hb
theorem xLi {s:Bs} (h:xAg s=true):s.length<=16:=by
 unfold xAg at h;simp only[Bool.and_eq_true,decide_eq_true_eq] at h;exact h.1.2
theorem xYc {b:jV} (h:rQ b=true):b.name.length<=16/\b.yB.length<=30:=by
 unfold rQ at h;simp only[Bool.and_eq_true,decide_eq_true_eq] at h;exact⟨xLi h.1.1.1.1,h.1.2⟩
theorem xAn {x:yD} (h:zI x=true):x.boxes.length<=6/\x.subs.length<=6/\(∀b∈x.boxes,b.name.length<=16/\b.yB.length<=30)/\∀s∈x.subs,s.length<=16:=by
 unfold zI at h;simp only[Bool.and_eq_true,decide_eq_true_eq] at h;exact⟨h.1.1.1.1.1.1.2,h.1.1.1.1.2,λb hb=>xYc (xE9 h.1.1.2 b hb),λs hs=>xLi (xKw h.1.2 s hs)⟩
theorem xGv {b:jV} (h:b.name.length<=16/\b.yB.length<=30):(yCn b).length<=400:=by
 unfold yCn;rw[List.length_append,xEm];have:=kU (L:=b.yB) xLp (c:=11) (λm _=>by rw[xEj];exact Nat.le_refl _) b.yB.length;rw[List.take_length] at this;omega
end Mailsack
namespace Go.Proofs.IX
open Go.RowKit Mailsack MM BU VB
structure xYt (w1:World) (base g:Nat) (o:Obj) (w:World) (v:Value) (l:Bs):Prop where
 own:kM w base v l
 off:v.ownBlock≠some g
 blk:w.heap[g]?=some o
 below:Below base w1 w
 size:base<=w.heap.size
theorem xYt.step {w1 w w':World} {base g:Nat} {o:Obj} {v v':Value} {l l':Bs} (h:xYt w1 base g o w v l) (ho:kM w' base v' l') (he:Ext w v w' v'):xYt w1 base g o w' v' l':=by
 have ha:=he.away (xG h.blk) h.off;exact⟨ho,ha.2,ha.1.trans h.blk,h.below.trans (he.below h.own h.size),Nat.le_trans h.size he.grown.size⟩
theorem xYt.begin {w1 wr:World} {base:Nat} {v:Value} {l:Bs} (ho:kM wr base v l) (hb:Below base w1 wr) (hs:base<=wr.heap.size) (o:Obj):xYt w1 base wr.heap.size o (wr.alloc o) v l:=
 ⟨ho.alloc o,λe=>by have:=(World.ownsRow.lt ho _ e).2;omega,xL wr o,⟨hb.os,hb.tape,hb.output,Nat.le_trans hb.size σ,λk hk=>(Below.heap_alloc wr o k ω).trans (hb.block k hk)⟩,by simp;omega⟩
theorem jS {w1 w:World} {base g:Nat} {o:Obj} {v:Value} {l:Bs} (n:Int) (c:Nat) (h:xYt w1 base g o w v l) (hl:l.length<4294967281) (hc:c<=4):
  Calls Tryz.prog 45 #[v,.int .i64 n,.int .i64 c] w λe w'=>∃v',e=.returned v'/\xYt w1 base g o w' v' (l++vQ n c):=by
 refine(xBb n c v l w base h.own h.size hl hc).mono ?_;rintro e w' ⟨v',rfl,h1,h2⟩;exact⟨v',rfl,h.step h1 h2⟩
theorem xV2 {w1 w:World} {base g:Nat} {o:Obj} {v:Value} {l:Bs} (s:Bs) (h:xYt w1 base g o w v l) (hl:l.length<4294967281) (hs:s.length<=100):
  Calls Tryz.prog 46 #[v,xO s] w λe w'=>∃v',e=.returned v'/\xYt w1 base g o w' v' (l++rW s):=by
 refine(xF4 ⟨s.toArray⟩ v l w base h.own h.size hl hs).mono ?_;rintro e w' ⟨v',rfl,h1,h2⟩;exact⟨v',rfl,h.step h1 h2⟩
theorem xG1 (bv sv:Value) (x:yD) (w:World) (h:xHk w w.heap.size bv sv x) (hm:∀b∈x.boxes,b.yB.length<=9223372036854775807) (hl:x.boxes.length<=9223372036854775807) (hl2:x.subs.length<=9223372036854775807):
  Calls Tryz.prog 19 #[.agg #[bv,sv,.int .i64 x.given]] w λe w'=>e=.returned (.tuple #[xO (xLa x),.int .i64 (yC8 x)])/\Below w.heap.size w w':=by
 have HB:=ι h.boxes;have HS:=ι h.subs;have H1:=ι ((Below.refl w.heap.size w).alloc ν (.cells #[bv,sv,.int .i64 x.given] 28));have P1:=ι (xL w (.cells #[bv,sv,.int .i64 x.given] 28));have S1:=ι (uX w (.cells #[bv,sv,.int .i64 x.given] 28))
 have HR:Hid (Calls Tryz.prog 11 #[.agg #[bv,sv,.int .i64 x.given]] (w.alloc (.cells #[bv,sv,.int .i64 x.given] 28)) λe w'=>e=.returned (.bool (zI x))/\Below (w.alloc (.cells #[bv,sv,.int .i64 x.given] 28)).heap.size (w.alloc (.cells #[bv,sv,.int .i64 x.given] 28)) w'):=
  ι (wE bv sv x _ ((h.below H1.o ν).more H1.o.size) hm hl hl2)
 obtain⟨A,c,rfl,hc,_⟩:=h.boxes;obtain⟨A2,c2,rfl,hc2,_⟩:=h.subs;clear h hm;have HT:Hid (xLa x=if zI x=true then yA2 x else[]):=ι rfl;have HE:Hid (yC8 x=if zI x=true then 0 else 1):=ι rfl;generalize xLa x=T at HT⊢;generalize yC8 x=E at HE⊢;have HL:=ι (xAn (x:=x))
 generalize zI x=R at HR HT HE HL;cases R with
 |false=>
  go_enter Tryz.func19,Tryz.ntmps19;go_wp2_with (go_at_call 11;refine HR.o.mono ?_;rintro e w2 ⟨rfl,hb2⟩)
  go_ret2;refine⟨?_,H1.o.trans (hb2.mono H1.o.size)⟩;rw[HT.o,HE.o]
  rfl
 |true=>
  obtain⟨h6,h6',hbx,hsx⟩:=HL.o rfl
  replace HT:Hid (T=yA2 x):=ι (by rw[HT.o];rfl)
  replace HE:Hid (E=0):=ι (by rw[HE.o];rfl)
  clear HL;have HBX:=ι hbx;have HSX:=ι hsx;clear hbx hsx;obtain⟨P,hP⟩:∃P:Nat->Bs,∀k,P k=vQ x.given 4++vQ x.boxes.length 1++((x.boxes.take k).map yCn).flatten:=⟨_,λ_=>rfl⟩;have HP0:Hid (P 0=vQ x.given 4++vQ x.boxes.length 1):=ι (by rw[hP];simp)
  have HPS:Hid (∀k b,x.boxes[k]?=some b->P (k+1)=P k++yCn b):=ι (λk b hb=>by rw[hP,hP,xD2 hb];simp only[List.append_assoc])
  have HPL:Hid (∀k,(P k).length<=5+400*k):=ι (λk=>by
   rw[hP,List.length_append,List.length_append,uN,uN];have:=kU (L:=x.boxes) yCn (c:=400) (λb hb=>xGv (HBX.o b hb)) k;omega)
  have HPE:Hid (yA2 x=P x.boxes.length++vQ x.subs.length 1++(x.subs.map rW).flatten):=ι (by rw[hP,List.take_length];rfl);clear hP;go_enter Tryz.func19,Tryz.ntmps19;go_wp2_with fail
  refine HR.o.mono ?_;rintro e w2 ⟨rfl,hb2⟩;have p2:=xB P1.o hb2 (by rw[S1.o];omega);have y2:w2.cell? ⟨w.heap.size,2,none⟩=some (.int .i64 x.given):=xA p2 2;have HB2:=ι hb2;clear hb2;have y0:w2.cell? ⟨w.heap.size,0,none⟩=some (.slice A x.boxes.length c):=xA p2 0;clear p2 HR
  go_wp2_with fail
  refine(xBb x.given 4 _ [] w2 (w.alloc (.cells #[.slice A x.boxes.length c,.slice A2 x.subs.length c2,.int .i64 x.given] 28)).heap.size (kM.nil _ _) HB2.o.size δ δ).mono ?_;rintro e w3 ⟨v3,rfl,ho3,he3⟩;have hb3:=HB2.o.trans (he3.below (kM.nil _ _) HB2.o.size)
  have p3:=xB P1.o hb3 (by rw[S1.o];omega);have y0':w3.cell? ⟨w.heap.size,0,none⟩=some (.slice A x.boxes.length c):=xA p3 0;have HB3:=ι hb3;have HO3:=ι ho3;clear hb3 he3 ho3 p3 y0 y2 HB2;go_wp2_with fail
  refine(xBb x.boxes.length 1 _ _ w3 (w.alloc (.cells #[.slice A x.boxes.length c,.slice A2 x.subs.length c2,.int .i64 x.given] 28)).heap.size HO3.o HB3.o.size (by simp[uN]) δ).mono ?_;rintro e w4 ⟨v4,rfl,ho4,he4⟩;have hb4:=HB3.o.trans (he4.below HO3.o HB3.o.size)
  have p4:=xB P1.o hb4 (by rw[S1.o];omega);have y0:w4.cell? ⟨w.heap.size,0,none⟩=some (.slice A x.boxes.length c):=xA p4 0;have HB4:=ι hb4
  have HO4:Hid (kM w4 (w.alloc (.cells #[.slice A x.boxes.length c,.slice A2 x.subs.length c2,.int .i64 x.given] 28)).heap.size v4 (P 0)):=ι (by rw[HP0.o];exact ho4);clear hb4 he4 ho4 p4 y0' HB3 HO3;go_wp2_with fail
  go_loopw [4,25] (λlv iv wr=>∃k:Nat,k<=x.boxes.length/\iv=.int .i64 k/\Hid (kM wr (w.alloc (.cells #[.slice A x.boxes.length c,.slice A2 x.subs.length c2,.int .i64 x.given] 28)).heap.size lv (P k))/\Hid (Below (w.alloc (.cells #[.slice A x.boxes.length c,.slice A2 x.subs.length c2,.int .i64 x.given] 28)).heap.size (w.alloc (.cells #[.slice A x.boxes.length c,.slice A2 x.subs.length c2,.int .i64 x.given] 28)) wr)) (λ_ iv _=>x.boxes.length- (intOf iv).toNat)
  case atStart=>exact⟨0,Nat.zero_le _,rfl,HO4,HB4⟩
  case round=>
   obtain⟨k,hk,rfl,hown,hbel⟩:=hrel;clear HO4 HB4 y0
   by_cases hlt:k<x.boxes.length
   ·obtain⟨b,hx⟩:∃b,x.boxes[k]?=some b:=⟨_,List.getElem?_eq_getElem hlt⟩;obtain⟨g,off,c',mv,e0,hg,q0,q1,q2,q3,hmv⟩:=xFh HB.o hx;injection e0 with e0 _ e0';subst e0 e0';have hwr:Below w.heap.size w wr:=H1.o.trans (hbel.o.mono H1.o.size)
    have r0:=(hwr.cell (p:=⟨g,off+k*4,none⟩) hg).trans q0;have r1:=(hwr.cell (p:=⟨g,off+k*4+1,none⟩) hg).trans q1;have r2:=(hwr.cell (p:=⟨g,off+k*4+2,none⟩) hg).trans q2;have r3:=(hwr.cell (p:=⟨g,off+k*4+3,none⟩) hg).trans q3;obtain⟨hbn,hbm⟩:=HBX.o b (List.mem_of_getElem? hx)
    have HSt:=ι (HPS.o k b hx);have HLk:=ι (HPL.o k);have hmv':=hmv;obtain⟨Am,cm,rfl,hcm,_⟩:=hmv';have HMv:=ι hmv;have Hwr:=ι hwr;have HH:=ι (xYt.begin hown.o hbel.o hbel.o.size (.cells #[xO b.name,.int .i64 b.validity,.int .i64 b.next,.slice Am b.yB.length cm] 68))
    clear q0 q1 q2 q3 hmv hwr hx;go_wp2_with fail
    refine(xV2 b.name HH.o (by have:=HLk.o;omega) ω).mono ?_;rintro e w5 ⟨v5,rfl,hh5⟩;have HL5:Hid ((P k++rW b.name).length<=5+400*k+17):=ι (by rw[List.length_append,tL];have:=HLk.o;omega);have HH5:=ι hh5
    have z1:w5.cell? ⟨wr.heap.size,1,none⟩=some (.int .i64 b.validity):=xA hh5.blk 1;clear hh5 HH r0 r1 r2 r3;go_wp2_with fail
    refine(jS b.validity 4 HH5.o (by have:=HL5.o;omega) δ).mono ?_;rintro e w6 ⟨v6,rfl,hh6⟩;have HL6:Hid ((P k++rW b.name++vQ b.validity 4).length<=5+400*k+21):=ι (by rw[List.length_append,uN];have:=HL5.o;omega);have HH6:=ι hh6
    have z2:w6.cell? ⟨wr.heap.size,2,none⟩=some (.int .i64 b.next):=xA hh6.blk 2;clear hh6 HH5 z1 HL5;go_wp2_with fail
    refine(jS b.next 4 HH6.o (by have:=HL6.o;omega) δ).mono ?_;rintro e w7 ⟨v7,rfl,hh7⟩;have HL7:Hid ((P k++rW b.name++vQ b.validity 4++vQ b.next 4).length<=5+400*k+25):=ι (by rw[List.length_append,uN];have:=HL6.o;omega);have HH7:=ι hh7
    have z3:w7.cell? ⟨wr.heap.size,3,none⟩=some (.slice Am b.yB.length cm):=xA hh7.blk 3;clear hh7 HH6 z2 HL6;go_wp2_with fail
    refine(jS b.yB.length 1 HH7.o (by have:=HL7.o;omega) δ).mono ?_;rintro e w8 ⟨v8,rfl,hh8⟩;have HH8:=ι hh8;have z3':w8.cell? ⟨wr.heap.size,3,none⟩=some (.slice Am b.yB.length cm):=xA hh8.blk 3;clear hh8 HH7 z3 HL7
    obtain⟨M,hM⟩:∃M:Nat->Bs,∀j,M j=P k++xX6 b++((b.yB.take j).map xLp).flatten:=⟨_,λ_=>rfl⟩;have HM0:Hid (M 0=P k++rW b.name++vQ b.validity 4++vQ b.next 4++vQ b.yB.length 1):=ι (by rw[hM];unfold xX6;simp[List.append_assoc])
    have HMS:Hid (∀j m,b.yB[j]?=some m->M (j+1)=M j++xLp m):=ι (λj m hm=>by rw[hM,hM,xD2 hm];simp only[List.append_assoc])
    have HML:Hid (∀j,(M j).length<=5+400*k+26+11*j):=ι (λj=>by
     rw[hM,List.length_append,List.length_append,xEm];have:=kU (L:=b.yB) xLp (c:=11) (λm _=>by rw[xEj];exact Nat.le_refl _) j;have:=HLk.o;omega)
    have HME:Hid (P (k+1)=M b.yB.length):=ι (by rw[HSt.o,hM,List.take_length];unfold yCn;simp only[List.append_assoc]);clear hM;have HB8:=ι HH8.o.below
    have HO8:Hid (kM w8 (w.alloc (.cells #[.slice (some ⟨g,off,none⟩) x.boxes.length c,.slice A2 x.subs.length c2,.int .i64 x.given] 28)).heap.size v8 (M 0)):=ι (by rw[HM0.o];exact HH8.o.own);clear HH8;go_wp2_with fail
    go_loopw [4,49] (λlv iv wr=>∃j:Nat,j<=b.yB.length/\iv=.int .i64 j/\Hid (kM wr (w.alloc (.cells #[.slice (some ⟨g,off,none⟩) x.boxes.length c,.slice A2 x.subs.length c2,.int .i64 x.given] 28)).heap.size lv (M j))/\Hid (Below (w.alloc (.cells #[.slice (some ⟨g,off,none⟩) x.boxes.length c,.slice A2 x.subs.length c2,.int .i64 x.given] 28)).heap.size (w.alloc (.cells #[.slice (some ⟨g,off,none⟩) x.boxes.length c,.slice A2 x.subs.length c2,.int .i64 x.given] 28)) wr)) (λ_ iv _=>b.yB.length- (intOf iv).toNat)
    case atStart=>exact⟨0,Nat.zero_le _,rfl,HO8,HB8⟩
    case round=>
     rename_i wq _
     obtain⟨j,hj,rfl,hown2,xHa⟩:=hrel;clear HO8 HB8 z3'
     by_cases hlt2:j<b.yB.length
     ·obtain⟨m,hxm⟩:∃m,b.yB[j]?=some m:=⟨_,List.getElem?_eq_getElem hlt2⟩;obtain⟨A4,c4,e0,_,hrd⟩:=HMv.o;injection e0 with e0 _ e0';subst e0 e0';obtain⟨g4,off4,rfl,hg4,hcell⟩:=hrd ω;obtain⟨q1,q2,q3,q4⟩:=hcell j m hxm
      have hwq:Below w.heap.size w wr:=H1.o.trans (xHa.o.mono H1.o.size);have r1:=(hwq.cell (p:=⟨g4,off4+j*4,none⟩) hg4).trans q1;have r2:=(hwq.cell (p:=⟨g4,off4+j*4+1,none⟩) hg4).trans q2;have r3:=(hwq.cell (p:=⟨g4,off4+j*4+2,none⟩) hg4).trans q3
      have r4:=(hwq.cell (p:=⟨g4,off4+j*4+3,none⟩) hg4).trans q4;have HK1:=ι (xYt.begin hown2.o xHa.o xHa.o.size (.cells #[.int .i64 m.uid,.int .i64 m.flags,.int .i64 m.object,.int .i64 m.size] 122));have HMj:=ι (HML.o j);have HMs:=ι (HMS.o j m hxm)
      clear q1 q2 q3 q4 hcell hrd hxm hwq;go_wp2_with fail
      refine(jS m.uid 4 HK1.o (by have:=HMj.o;omega) δ).mono ?_;rintro e w9 ⟨v9,rfl,hk9⟩;have HL9:Hid ((M j++vQ m.uid 4).length<=5+400*k+26+11*j+4):=ι (by rw[List.length_append,uN];have:=HMj.o;omega);have HK9:=ι hk9
      have z1:w9.cell? ⟨wr.heap.size,1,none⟩=some (.int .i64 m.flags):=xA hk9.blk 1;clear hk9 HK1 r1 r2 r3 r4;go_wp2_with fail
      refine(jS m.flags 1 HK9.o (by have:=HL9.o;omega) δ).mono ?_;rintro e w10 ⟨v10,rfl,hk10⟩;have HL10:Hid ((M j++vQ m.uid 4++vQ m.flags 1).length<=5+400*k+26+11*j+5):=ι (by rw[List.length_append,uN];have:=HL9.o;omega);have HK10:=ι hk10
      have z2:w10.cell? ⟨wr.heap.size,2,none⟩=some (.int .i64 m.object):=xA hk10.blk 2;clear hk10 HK9 z1 HL9;go_wp2_with fail
      refine(jS m.object 4 HK10.o (by have:=HL10.o;omega) δ).mono ?_;rintro e w11 ⟨v11,rfl,hk11⟩;have HL11:Hid ((M j++vQ m.uid 4++vQ m.flags 1++vQ m.object 4).length<=5+400*k+26+11*j+9):=ι (by rw[List.length_append,uN];have:=HL10.o;omega);have HK11:=ι hk11
      have z3:w11.cell? ⟨wr.heap.size,3,none⟩=some (.int .i64 m.size):=xA hk11.blk 3;clear hk11 HK10 z2 HL10;go_wp2_with fail
      refine(jS m.size 2 HK11.o (by have:=HL11.o;omega) δ).mono ?_;rintro e w12 ⟨v12,rfl,hk12⟩;have HK12:=ι hk12;clear hk12 HK11 z3 HL11;go_wp2
      exact⟨⟨j+1,ω,by go_num,ι (by rw[HMs.o];unfold xLp;simp only[<-List.append_assoc];exact HK12.o.own),ι HK12.o.below⟩,by simp[intOf];omega⟩
     ·obtain rfl:j=b.yB.length:=by omega
      have HOx:Hid (kM wr (w.alloc (.cells #[.slice (some ⟨g,off,none⟩) x.boxes.length c,.slice A2 x.subs.length c2,.int .i64 x.given] 28)).heap.size _ (P (k+1))):=ι (by rw[HME.o];exact hown2.o);go_wp2;exact⟨⟨k+1,ω,by go_num,HOx,xHa⟩,by simp[intOf];omega⟩
   ·obtain rfl:k=x.boxes.length:=by omega
    have p5:=xB P1.o hbel.o (by rw[S1.o];omega);have y1:wr.cell? ⟨w.heap.size,1,none⟩=some (.slice A2 x.subs.length c2):=xA p5 1;have HLk:=ι (HPL.o x.boxes.length);have HPE1:Hid (yA2 x=P x.boxes.length++vQ x.subs.length 1++(x.subs.map rW).flatten):=HPE
    generalize P x.boxes.length=PB at hown HLk HPE1;clear p5 HPS HPL HP0 HPE;go_wp2_with fail
    refine(xBb x.subs.length 1 _ _ wr (w.alloc (.cells #[.slice A x.boxes.length c,.slice A2 x.subs.length c2,.int .i64 x.given] 28)).heap.size hown.o hbel.o.size (by have:=HLk.o;omega) δ).mono ?_;rintro e w5 ⟨v5,rfl,ho5,he5⟩
    have hb5:=hbel.o.trans (he5.below hown.o hbel.o.size);have p5:=xB P1.o hb5 (by rw[S1.o];omega);have y1':w5.cell? ⟨w.heap.size,1,none⟩=some (.slice A2 x.subs.length c2):=xA p5 1
    obtain⟨M,hM⟩:∃M:Nat->Bs,∀j,M j=PB++vQ x.subs.length 1++((x.subs.take j).map rW).flatten:=⟨_,λ_=>rfl⟩;have HM0:Hid (M 0=PB++vQ x.subs.length 1):=ι (by rw[hM];simp)
    have HMS:Hid (∀j s,x.subs[j]?=some s->M (j+1)=M j++rW s):=ι (λj m hm=>by rw[hM,hM,xD2 hm];simp only[List.append_assoc])
    have HML:Hid (∀j,(M j).length<=5+400*x.boxes.length+1+17*j):=ι (λj=>by
     rw[hM,List.length_append,List.length_append,uN];have:=kU (L:=x.subs) rW (c:=17) (λm hm=>by rw[tL];have:=HSX.o m hm;omega) j;have:=HLk.o;omega)
    have HME:Hid (T=M x.subs.length):=ι (by rw[HT.o,HPE1.o,hM,List.take_length]);clear hM;have HB5:=ι hb5;have HO5:Hid (kM w5 (w.alloc (.cells #[.slice A x.boxes.length c,.slice A2 x.subs.length c2,.int .i64 x.given] 28)).heap.size v5 (M 0)):=ι (by rw[HM0.o];exact ho5)
    clear hown hbel y1 ho5 he5 hb5 p5 HPE1 HLk HM0;go_wp2_with fail
    go_loopw [4,79] (λlv iv wr=>∃j:Nat,j<=x.subs.length/\iv=.int .i64 j/\Hid (kM wr (w.alloc (.cells #[.slice A x.boxes.length c,.slice A2 x.subs.length c2,.int .i64 x.given] 28)).heap.size lv (M j))/\Hid (Below (w.alloc (.cells #[.slice A x.boxes.length c,.slice A2 x.subs.length c2,.int .i64 x.given] 28)).heap.size (w.alloc (.cells #[.slice A x.boxes.length c,.slice A2 x.subs.length c2,.int .i64 x.given] 28)) wr)) (λ_ iv _=>x.subs.length- (intOf iv).toNat)
    case atStart=>exact⟨0,Nat.zero_le _,rfl,HO5,HB5⟩
    case round=>
     obtain⟨j,hj,rfl,hown2,xHa⟩:=hrel;clear HO5 HB5 y1'
     by_cases hlt2:j<x.subs.length
     ·obtain⟨s,hxm⟩:∃s,x.subs[j]?=some s:=⟨_,List.getElem?_eq_getElem hlt2⟩;obtain⟨A4,c4,e0,_,hrd⟩:=HS.o;injection e0 with e0 _ e0';subst e0 e0';obtain⟨g,off,rfl,hg,hcell⟩:=hrd ω;have q1:=hcell j s hxm;have hwq:Below w.heap.size w wr:=H1.o.trans (xHa.o.mono H1.o.size)
      have r1:=(hwq.cell (p:=⟨g,off+j,none⟩) hg).trans q1;have HMj:=ι (HML.o j);have HMs:=ι (HMS.o j s hxm);have hsl:=HSX.o s (List.mem_of_getElem? hxm);clear q1 hcell hrd hxm hwq;go_wp2_with fail
      refine(xF4 ⟨s.toArray⟩ _ _ wr (w.alloc (.cells #[.slice A x.boxes.length c,.slice (some ⟨g,off,none⟩) x.subs.length c2,.int .i64 x.given] 28)).heap.size hown2.o xHa.o.size (by have:=HMj.o;omega) (by show s.length<=100;omega)).mono ?_;rintro e w6 ⟨v6,rfl,ho6,he6⟩
      have HB6:=ι (xHa.o.trans (he6.below hown2.o xHa.o.size));have HO6:=ι ho6;clear ho6 he6;go_wp2;exact⟨⟨j+1,ω,by go_num,ι (by rw[HMs.o];exact HO6.o),HB6⟩,by simp[intOf];omega⟩
     ·obtain rfl:j=x.subs.length:=by omega
      have hcv:=xY2 hown2.o;go_wp2;go_ret2;exact⟨by rw[HME.o,HE.o];rfl,H1.o.trans (xHa.o.mono H1.o.size)⟩
end Go.Proofs.IX
namespace Mailsack
structure RdP where
 rest:Bs
 bad:Bool
def rdB (r:RdP) (n:Nat):Bs:=if (r.bad||decide (r.rest.length<n))=true then[] else r.rest.take n
def rdR (r:RdP) (n:Nat):RdP:=if (r.bad||decide (r.rest.length<n))=true then⟨r.rest,true⟩ else⟨r.rest.drop n,false⟩
def leN:Bs->Nat
 |[]=>0
 |b::l=>b.toNat+256*leN l
def zR (r:RdP) (c:Nat):Nat:=leN (rdB r c)
def xYw (r:RdP):Bs:=rdB (rdR r 1) (zR r 1)
def xKc (r:RdP):RdP:=rdR (rdR r 1) (zR r 1)
def xSj (r:RdP):uH:=⟨zR r 4,zR (rdR r 4) 1,zR (rdR (rdR r 4) 1) 4,zR (rdR (rdR (rdR r 4) 1) 4) 2⟩
def xJg (r:RdP):RdP:=rdR (rdR (rdR (rdR r 4) 1) 4) 2
def xAq {α:Type} (v:RdP->α) (t:RdP->RdP):Nat->RdP->List α
 |0,_=>[]
 |k+1,r=>if r.bad=true then[] else v r::xAq v t k (t r)
def xAr (t:RdP->RdP):Nat->RdP->RdP
 |0,r=>r
 |k+1,r=>if r.bad=true then r else xAr t k (t r)
def xZ3 (r:RdP):RdP:=rdR (rdR (xKc r) 4) 4
def xMw (r:RdP):jV:=⟨xYw r,zR (xKc r) 4,zR (rdR (xKc r) 4) 4,xAq xSj xJg (zR (xZ3 r) 1) (rdR (xZ3 r) 1)⟩
def xKf (r:RdP):RdP:=xAr xJg (zR (xZ3 r) 1) (rdR (xZ3 r) 1)
def ixR1 (r:RdP):RdP:=rdR (rdR r 4) 1
def xZ0 (r:RdP):RdP:=xAr xKf (zR (rdR r 4) 1) (ixR1 r)
def ixV (r:RdP):yD:=⟨xAq xMw xKf (zR (rdR r 4) 1) (ixR1 r),xAq xYw xKc (zR (xZ0 r) 1) (rdR (xZ0 r) 1),zR r 4⟩
def ixR (r:RdP):RdP:=xAr xKc (zR (xZ0 r) 1) (rdR (xZ0 r) 1)
def ix0:yD:=⟨[],[],0⟩
def yEi (s:Bs):Bool:=!(ixR ⟨s,false⟩).bad&&decide ((ixR ⟨s,false⟩).rest=[])&&zI (ixV ⟨s,false⟩)
def xKu (s:Bs):yD:=if yEi s=true then ixV ⟨s,false⟩ else ix0
def xRg (s:Bs):Int:=if yEi s=true then 0 else 3
theorem or_big (n b:Nat) (hn:n<1099511627776) (hb:b<256):Go.bits .or .i64 ((n:Int)*256) (b:Int)=(n:Int)*256+b:=by
 have hx:n*256 |||b=n*256+b:=by
  have:=Nat.two_pow_add_eq_or_of_lt (i:=8) (b:=b) ω n;rw[show 2^8*n=n*256 by omega] at this;exact this.symm
 have h2:(BitVec.ofInt 64 (b:Int)).toNat=b:=by
  rw[BitVec.ofInt_natCast,BitVec.toNat_ofNat];exact Nat.mod_eq_of_lt ω
 have h1:(BitVec.ofInt 64 ((n:Int)*256)).toNat=n*256:=by
  rw[show(n:Int)*256=((n*256:Nat):Int) by omega,BitVec.ofInt_natCast,BitVec.toNat_ofNat];exact Nat.mod_eq_of_lt ω
 show Go.IntKind.i64.wrap ((BitVec.ofInt 64 ((n:Int)*256) |||BitVec.ofInt 64 (b:Int)).toNat:Int)=_;rw[BitVec.toNat_or,h1,h2,hx,Go.IntKind.wrap_i64];omega
theorem xQ1:∀(l:Bs),l.length<=4->leN l<256^l.length
 |[],_=>by simp[leN]
 |b::l,h=>by
  have ih:=xQ1 l (by simp at h;omega);have hb:=UInt8.toNat_lt b;simp only[leN,List.length_cons,Nat.pow_succ];omega
theorem yAs {l:Bs} {k:Nat} {b:UInt8} (h:l[k]?=some b):leN (l.drop k)=b.toNat+256*leN (l.drop (k+1)):=by
 obtain⟨hk,rfl⟩:=List.getElem?_eq_some_iff.1 h;rw[List.drop_eq_getElem_cons hk]
 rfl
theorem xNj (r:RdP) (n:Nat):(rdB r n).length<=n:=by
 unfold rdB;split
 ·exact Nat.zero_le _
 ·exact List.length_take_le _ _
theorem vK (r:RdP) (n:Nat):(rdR r n).rest.length<=r.rest.length:=by
 unfold rdR;split
 ·exact Nat.le_refl _
 ·simp
end Mailsack
namespace Go.Proofs.IX
open Go.RowKit Mailsack MM BB SH SV
abbrev rdO (r:RdP):Obj:=.cells #[xO r.rest,.bool r.bad] 148
structure xQy (g:Nat) (r:RdP) (w w':World):Prop where
 b:w'.heap[g]?=some (rdO r)
 tn:Tn (λk=>k=g) w w'
theorem xQy.trans {g:Nat} {r r':RdP} {w w1 w2:World} (h:xQy g r w w1) (k:xQy g r' w1 w2):xQy g r' w w2:=⟨k.b,h.tn.trans k.tn⟩
theorem xHv (g:Nat) (r:RdP) (n:Nat) (w:World) (h:w.heap[g]?=some (rdO r)) (hl:r.rest.length<=1000000):
  Calls Tryz.prog 176 #[.pointer (some ⟨g,0,none⟩),.int .i64 n] w λe w'=>e=.returned (xO (rdB r n))/\xQy g (rdR r n) w w':=by
 obtain⟨s,b⟩:=r;have HB:Hid (rdB ⟨s,b⟩ n=if (b||decide (s.length<n))=true then[] else s.take n):=ι rfl;have HR:Hid (rdR ⟨s,b⟩ n=if (b||decide (s.length<n))=true then⟨s,true⟩ else⟨s.drop n,false⟩):=ι rfl;have c0:=xA h 0;have c1:=xA h 1;have f0:=xC h 0;have f1:=xC h 1
 simp only[gA,gB,gC] at c0 c1;have HH:=ι h;simp only at hl;clear h;have HT:Hid (xQy g ⟨s,true⟩ w (w.setCell ⟨g,1,none⟩ (.bool true))):=ι ⟨by have:=xY HH.o 1 (.bool true);simpa using this,(Tn.refl (λk=>k=g) w).set (p:=⟨g,1,none⟩) (.inl rfl) _⟩;cases b with
 |true=>
  rw[if_pos σ] at HB HR;rw[HB.o,HR.o];go_enter Tryz.func176,Tryz.ntmps176;go_wp2;go_ret;exact⟨rfl,HT.o⟩
 |false=>
  by_cases hs:s.length<n
  ·have hsi:(s.length:Int)<(n:Int):=by omega
   rw[if_pos (by simp[hs])] at HB HR;rw[HB.o,HR.o];clear hs;go_enter Tryz.func176,Tryz.ntmps176;go_wp2;go_ret;exact⟨rfl,HT.o⟩
  ·have hsi:¬((s.length:Int)<(n:Int)):=by omega
   rw[if_neg (by simp;omega)] at HB HR;rw[HB.o,HR.o];obtain⟨sb,hsb⟩:∃sb:ByteArray,(⟨s.toArray⟩:ByteArray)=sb:=⟨_,rfl⟩;have hss:sb.size=s.length:=by rw[<-hsb];simp[ByteArray.size]
   have HTK:Hid (xO (s.take n)=.string (sb.extract 0 n)/\xO (s.drop n)=.string (sb.extract n sb.size)):=ι (by
    rw[<-hsb]
    constructor
    ·show Value.string _=Value.string _
     congr 1
     apply ByteArray.ext;rw[ByteArray.data_extract];apply Array.ext';simp
    ·show Value.string _=Value.string _
     congr 1
     apply ByteArray.ext;rw[ByteArray.data_extract];apply Array.ext';simp[ByteArray.size];rw[List.take_of_length_le σ])
   have HT2:Hid (xQy g ⟨s.drop n,false⟩ w (w.setCell ⟨g,0,none⟩ (.string (sb.extract n sb.size)))):=ι ⟨by
    have:=xY HH.o 0 (.string (sb.extract n sb.size));rw[this];simp[HTK.o.2],(Tn.refl (λk=>k=g) w).set (p:=⟨g,0,none⟩) (.inl rfl) _⟩
   rw[show xO s=.string sb from by rw[<-hsb]] at c0;have hni:(n:Int)<=(sb.size:Int):=by omega
   have hsi2:¬((sb.size:Int)<(n:Int)):=by omega
   clear hsb hs HT HH hss hsi;go_enter Tryz.func176,Tryz.ntmps176;go_wp2;go_ret;exact⟨by rw[HTK.o.1];rfl,HT2.o⟩
theorem xC4 (g:Nat) (r:RdP) (c:Nat) (w:World) (h:w.heap[g]?=some (rdO r)) (hl:r.rest.length<=1000000) (hc:c<=4):
  Calls Tryz.prog 90 #[.pointer (some ⟨g,0,none⟩),.int .i64 c] w λe w'=>e=.returned (.int .i64 (zR r c))/\xQy g (rdR r c) w w':=by
 have HB:=ι (xHv g r c w h hl);have HN:Hid (zR r c=leN (rdB r c)):=ι rfl;have hlen:=xNj r c;have HLT:=ι (xQ1 (rdB r c) ω);obtain⟨nv,hnv⟩:∃nv,zR r c=nv:=⟨_,rfl⟩;rw[hnv] at HN⊢;obtain⟨l,hll⟩:∃l,rdB r c=l:=⟨_,rfl⟩;rw[hll] at HB HN hlen HLT;have hl4:l.length<=4:=by omega
 clear h hl hc hnv hll hlen;go_enter Tryz.func90,Tryz.ntmps90;go_wp2_with fail
 refine HB.o.mono ?_;rintro e w1 ⟨rfl,ht⟩;have HT:=ι ht;clear ht HB;go_wp2_with fail
 go_loopw [6,7] (λnv iv wr=>∃(i:Int) (k:Nat),-1<=i/\i<l.length/\i+1=k/\iv=.int .i64 i/\nv=.int .i64 (leN (l.drop k))/\wr=w1) (λ_ iv _=>(intOf iv+1).toNat)
 case atStart=>exact⟨_,l.length,ω,ω,ω,rfl,by simp[leN],rfl⟩
 case round=>
  obtain⟨i,k,hi0,hi1,hik,rfl,rfl,rfl⟩:=hrel
  by_cases hlt:0<=i
  ·obtain⟨j,rfl⟩:∃j:Nat,i=j:=⟨i.toNat,ω⟩;obtain rfl:k=j+1:=by omega
   obtain⟨x,hx⟩:∃x,l[j]?=some x:=⟨_,List.getElem?_eq_getElem ω⟩;have HD:=ι (yAs hx);have hix:=λw=>zH (P:=Tryz.prog) Tryz.underlying9 ⟨l.toArray⟩ (j:Int) j rfl (by show j<l.toArray.size;simp;omega) w
   have hby:yO ⟨l.toArray⟩ j=(x.toNat:Int):=by
    unfold yO;show((l.getD j 0).toNat:Int)=_;rw[List.getD_eq_getElem?_getD,hx];rfl
   rw[hby] at hix;have hb:=UInt8.toNat_lt x;have hdl:(l.drop (j+1)).length<=3:=by rw[List.length_drop];omega
   have hlt4:=xQ1 (l.drop (j+1)) ω;have hpow:256^(l.drop (j+1)).length<=256^3:=Nat.pow_le_pow_right ω hdl;have HOR:=or_big (leN (l.drop (j+1))) x.toNat ω hb;have hm:leN (l.drop (j+1))<16777216:=by omega
   generalize leN (l.drop (j+1))=m at HD HOR hm;clear hdl hlt4 hpow hx hby
   go_wp2;exact⟨⟨(j:Int)-1,j,ω,ω,ω,rfl,by rw[HD.o];congr 1;omega,trivial⟩,by simp[intOf]⟩
  ·obtain rfl:k=0:=by omega
   obtain rfl:i=-1:=by omega
   go_wp2;go_ret;exact⟨by rw[HN.o];rfl,HT.o⟩
theorem xL4 (g:Nat) (r:RdP) (w:World) (h:w.heap[g]?=some (rdO r)) (hl:r.rest.length<=1000000):
  Calls Tryz.prog 92 #[.pointer (some ⟨g,0,none⟩)] w λe w'=>e=.returned (xO (xYw r))/\xQy g (xKc r) w w':=by
 have HN:=ι (xC4 g r 1 w h hl ω);rw[show(((1:Nat)):Int)=1 from rfl] at HN;have HB:=ι (λW (h:xQy g (rdR r 1) w W)=>xHv g (rdR r 1) (zR r 1) W h.b (Nat.le_trans (vK r 1) hl));have HV:Hid (xYw r=rdB (rdR r 1) (zR r 1)/\xKc r=rdR (rdR r 1) (zR r 1)):=ι ⟨rfl,rfl⟩;rw[HV.o.1,HV.o.2]
 generalize zR r 1=n at HN HB⊢;generalize rdR r 1=r1 at HN HB⊢;clear h hl HV;go_enter Tryz.func92,Tryz.ntmps92;go_wp2_with fail
 refine HN.o.mono ?_;rintro e w1 ⟨rfl,ht⟩;have HT:=ι ht;clear ht HN;go_wp2_with fail
 refine(HB.o _ HT.o).mono ?_;rintro e w2 ⟨rfl,ht⟩;have HT2:=ι (HT.o.trans ht);clear ht HT HB;go_wp2;go_ret;exact⟨rfl,HT2.o⟩
end Go.Proofs.IX