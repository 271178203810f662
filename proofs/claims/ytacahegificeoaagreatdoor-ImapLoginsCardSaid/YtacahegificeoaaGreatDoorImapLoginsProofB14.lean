/- Contracts of functions. Conditions: as stated. -/
import Derived.Test.YtacahegificeoaaGreatDoorImapLoginsProofB13
set_option maxHeartbeats 8000000
set_option maxRecDepth 100000
namespace Mailsack
def yCa (n:Nat):Nat:=(16-n % 16) % 16
def qZ (l:Bs):Bs:=l++xQ (yCa l.length)
def vV (n:Int) (c:Nat):Bs:=(List.range c).map λi=>oct (Go.IntKind.u64.wrap n / 2^(8*i))
theorem xRn (n:Int) (c:Nat):vV n (c+1)=vV n c++[oct (Go.IntKind.u64.wrap n / 2^(8*c))]:=by
 unfold vV;rw[List.range_succ,List.map_append];rfl
theorem xCn (n:Int) (c:Nat):(vV n c).length=c:=by unfold vV;simp
end Mailsack
namespace Go.Proofs.SH
open Go.RowKit Mailsack MM BB
structure xKh (w:World) (v:Value) (w':World) (v':Value):Prop where
 grown:w.grownBy w' v.ownBlock
 own:∀k,v'.ownBlock=some k->v.ownBlock=some k∨w.heap.size<=k
theorem xKh.refl (w:World) (v:Value):xKh w v w v:=⟨⟨rfl,rfl,rfl,Nat.le_refl _,λ_ _ _=>rfl⟩,λ_ h=>.inl h⟩
theorem xKh.trans {w w1 w2:World} {v v1 v2:Value} (h:xKh w v w1 v1) (k:xKh w1 v1 w2 v2):xKh w v w2 v2:=by
 refine⟨⟨k.grown.os.trans h.grown.os,k.grown.tape.trans h.grown.tape,k.grown.output.trans h.grown.output,Nat.le_trans h.grown.size k.grown.size,λb hb hne=>?_⟩,λb hb=>?_⟩
 ·refine(k.grown.block b (Nat.lt_of_lt_of_le hb h.grown.size) (λe=>?_)).trans (h.grown.block b hb hne);rcases h.own b e.symm with h1|h1
  ·exact hne h1.symm
  ·omega
 ·rcases k.own b hb with h1|h1
  ·exact h.own b h1
  ·exact .inr (Nat.le_trans h.grown.size h1)
theorem xKh.push {w w1:World} {v:Value} {o:Obj} {g n cap:Nat} (hg:(w.alloc o).grownBy w1 v.ownBlock) (hl:v.ownBlock=some g∨g=w.heap.size+1):xKh w v w1 (.slice (some ⟨g,0,none⟩) n cap):=by
 refine⟨⟨hg.os,hg.tape,hg.output,Nat.le_trans σ hg.size,λb hb hne=>?_⟩,λb hb=>?_⟩
 ·exact(hg.block b (by simp;omega) hne).trans (Below.heap_alloc w o b hb)
 ·have hb':g=b:=by simpa[Value.ownBlock] using hb
  subst hb';rcases hl with h|h
  ·exact .inl h
  ·exact .inr ω
theorem xKh.below {w w':World} {v v':Value} (h:xKh w v w' v') {base:Nat} {l:Bs} (ho:uG w base v l) (hb:base<=w.heap.size):Below base w w':=
 ⟨h.grown.os,h.grown.tape,h.grown.output,h.grown.size,λk hk=>h.grown.block k ω (λe=>by
  have:=(World.ownsRow.lt ho k e.symm).1;omega)⟩
theorem one_y (z:Int):∀v∈[Value.int .u8 z],v.oneCell'=true:=by simp[Value.oneCell']
theorem xPg (n:Int) (v:Value) (l:Bs) (w:World) (base:Nat) (ho:uG w base v l) (hb:base<=w.heap.size) (hl:l.length<4294967281):
  Calls Tryz.prog 165 #[v,.int .i64 n] w λe w'=>∃v',e=.returned v'/\uG w' base v' (l++vV n 8)/\xKh w v w' v':=by
 obtain⟨i0,hi,hz0,hz1,hz2⟩:=vM xSu;have HO:=ι ho;have HU:=wrap_u64 n;have HSE:Hid (∀c,c=8->l++vV n c=l++vV n 8):=ι (λc hc=>by rw[hc]);have HS0:Hid (l++vV n 0=l):=ι (by simp[vV]);have HSS:=ι (λc=>xRn n c);generalize hres:l++vV n 8=res at HSE⊢;clear ho hres
 go_enter Tryz.func165,Tryz.ntmps165;go_wp2_with fail
 go_loopw [0,6] (λlv iv wr=>∃k:Nat,k<=8/\iv=.int .i64 k/\Hid (uG wr base lv (l++vV n k))/\Hid (xKh w v wr lv)) (λ_ iv _=>8- (intOf iv).toNat)
 case atStart=>exact⟨0,Nat.zero_le _,rfl,ι (by rw[HS0.o];exact HO.o),ι (xKh.refl _ _)⟩
 case round=>
  obtain⟨k,hk,rfl,hown,xX5⟩:=hrel
  by_cases hlt:k<8
  ·have HL0:=(show(l++vV n k).length=l.length+k by rw[List.length_append,xCn]);have HLe:Hid (l++vV n (k+1)=(l++vV n k)++[oct (IntKind.u64.wrap n / 2^(8*k))]):=ι (by rw[HSS.o,List.append_assoc]);obtain⟨L1,hL1⟩:∃L,l++vV n (k+1)=L:=⟨_,rfl⟩;rw[hL1] at HLe;have HL1:=ι hL1;clear hL1
   generalize l++vV n k=L at hown HL0 HLe;have HL:=ι HL0;have HK:=ι hlt;obtain⟨u,hu⟩:∃u,IntKind.u64.wrap n=u:=⟨_,rfl⟩;obtain⟨u0,u1⟩:=hu▸HU;rw[hu] at HLe;clear HL0
   go_wp2_with (at_builtin;refine wpList_append_lies _ rfl _ _ 79 rfl base 5 i0 (.int .u8 0) 1 1 Tryz.underlying79 hi hz0 hz1 hz2 rfl δ _ _ _ rfl (hown.o.alloc _) ⟨wr.heap.size,0,none⟩ 1 1 [.int .u8 (u / 2^(8*k) % 256)] rfl rfl (cell_one_new _ _ _) (one_y _) δ (by have:=HL.o;have:=HK.o;unfold maxLen;omega) (by have:=HL.o;have:=HK.o;omega) (by have:=xX5.o.grown.size;simp;omega) (wr.heap.size+1) σ ?_;intro g cap w1 hown1 hgrow hat hlt1)
   have he2:=xX5.o.trans (xKh.push (n:=L.length+1) (cap:=cap) hgrow hat);have ho2:=ι hown1;clear hown1 hgrow hat
   go_roundw
   case rel=>exact⟨k+1,ω,by go_num,ι (by
    rw[HL1.o,HLe.o];refine uG.of ?_;simp only[List.map_cons,List.map_nil,xA5];exact ho2.o),ι he2⟩
   case measure=>simp[intOf];omega
  ·have hke:k=8:=by omega
   have h8:=HSE.o k hke;rw[h8] at hown;have hneg:¬((k:Int)<8):=by omega
   clear h8 HSE HSS HS0;go_wp2;go_ret;exact⟨_,rfl,hown.o,xX5.o⟩
theorem xMp (v:Value) (l:Bs) (w:World) (base:Nat) (ho:uG w base v l) (hb:base<=w.heap.size) (hl:l.length<4294967281):
  Calls Tryz.prog 164 #[v] w λe w'=>∃v',e=.returned v'/\uG w' base v' (qZ l)/\xKh w v w' v':=by
 obtain⟨i0,hi,hz0,hz1,hz2⟩:=vM xSu;obtain⟨A0,c0,rfl,hc0⟩:=ho.form;have HO:=ι ho;have HPN:Hid (yCa l.length<16/\(l.length+yCa l.length) % 16=0):=ι (by unfold yCa;omega);have HSE:Hid (∀k,k=yCa l.length->l++xQ k=qZ l):=ι (λk hk=>by rw[hk];rfl)
 have HS0:Hid (l++xQ 0=l):=ι (by simp[xQ]);have HSS:Hid (∀k,l++xQ (k+1)=(l++xQ k)++[0]):=ι (λk=>by rw[List.append_assoc];congr 1;unfold xQ;rw[List.replicate_succ']);generalize qZ l=res at HSE⊢;generalize yCa l.length=pn at HPN HSE;clear ho;go_enter Tryz.func164,Tryz.ntmps164
 go_wp2_with fail
 go_loopw [0] (λlv wr=>∃(k:Nat) (A:Option Addr) (c:Nat),k<=pn/\lv=.slice A (l.length+k) c/\Hid (uG wr base lv (l++xQ k))/\Hid (xKh w (.slice A0 l.length c0) wr lv)) (λlv _=>match lv with|.slice _ m _=>l.length+pn-m|_=>0)
 case atStart=>exact⟨0,A0,c0,Nat.zero_le _,rfl,ι (by rw[HS0.o];exact HO.o),ι (xKh.refl _ _)⟩
 case round=>
  obtain⟨k,A,c,hk,rfl,hown,xX5⟩:=hrel;obtain⟨p1,p2⟩:=HPN.o
  by_cases hlt:k<pn
  ·have hm:((l.length+k:Nat):Int) % 16≠0:=by omega
   have hmb:((((l.length+k:Nat):Int) % 16)!=0)=true:=by simp;omega
   have HL0:(l++xQ k).length=l.length+k:=by rw[List.length_append,zC]
   have HROW:Hid (wr.ownsRow base 5 1 (.slice A (l.length+k) c) (l.length+k) ((l++xQ k).map λc=>Value.int .u8 (c.toNat:Int))):=ι (by have h:=hown.o.row;rwa [HL0] at h);have HSk:=ι (HSS.o k);obtain⟨L1,hL1⟩:∃L,l++xQ (k+1)=L:=⟨_,rfl⟩;rw[hL1] at HSk;have HL1:=ι hL1;clear hL1 hown
   generalize l++xQ k=L at HROW HSk HL0;have HL:=ι HL0;have HK:=ι hlt;have HP1:=ι p1;have HLL:=ι hl;clear HL0 p1 p2 hlt hk
   go_wp2_with (at_builtin;refine wpList_append_lies _ rfl _ _ 79 rfl base 5 i0 (.int .u8 0) 1 1 Tryz.underlying79 hi hz0 hz1 hz2 rfl δ _ _ _ rfl (HROW.o.alloc _) ⟨wr.heap.size,0,none⟩ 1 1 [.int .u8 0] rfl rfl (cell_one_new _ _ _) (one_y _) δ (by have:=HLL.o;have:=HK.o;have:=HP1.o;unfold maxLen;omega) (by have:=HLL.o;have:=HK.o;have:=HP1.o;omega) (by have:=xX5.o.grown.size;simp;omega) (wr.heap.size+1) σ ?_;intro g cap w1 hown1 hgrow hat hlt1)
   have he2:=xX5.o.trans (xKh.push (n:=l.length+k+1) (cap:=cap) hgrow hat);have ho2:=ι hown1;clear hown1 hgrow hat
   go_roundw
   case rel=>exact⟨k+1,_,cap,by have:=HK.o;omega,rfl,ι (by
    rw[HL1.o,HSk.o];refine uG.of ?_;rw[HL.o];exact ho2.o),ι he2⟩
   case measure=>show l.length+pn- (l.length+k+1)<l.length+pn- (l.length+k);have:=HK.o;omega
  ·have hke:k=pn:=by omega
   have hm:((l.length+k:Nat):Int) % 16=0:=by omega
   have hmb:((((l.length+k:Nat):Int) % 16)!=0)=false:=by simp;omega
   have h8:=HSE.o k hke;rw[h8] at hown;clear h8 HSE HSS HS0 p1 p2;go_wp2;go_ret;exact⟨_,rfl,hown.o,xX5.o⟩
end Go.Proofs.SH
namespace Mailsack
def qR (xs:List Int):Nat->List Int
 |0=>xs
 |k+1=>(qR xs k).set 12 (((qR xs k).getD 12 0+1) % 4294967296)
theorem xHq (xs:List Int):∀k,(qR xs k).length=xs.length
 |0=>rfl
 |k+1=>by simp[qR,xHq xs k]
theorem xPe {xs:List Int} (h:jG xs):∀k,jG (qR xs k)
 |0=>h
 |k+1=>(xPe h k).set 12 (wC _)
def xTt (l:Bs) (off:Nat) (blk:Bs):Nat->Bs
 |0=>l
 |i+1=>(xTt l off blk i).set (off+i) (oct (Go.bits .xor .u8 (((xTt l off blk i).getD (off+i) 0).toNat:Int) ((blk.getD i 0).toNat:Int)))
theorem xIm (l:Bs) (off:Nat) (blk:Bs):∀i,(xTt l off blk i).length=l.length
 |0=>rfl
 |i+1=>by simp[xTt,xIm l off blk i]
def xDk (l:Bs) (xs:List Int):Nat->Bs
 |0=>l
 |k+1=>xTt (xDk l xs k) (64*k) (xA7 (qR xs k)) (min 64 (l.length-64*k))
theorem xFn (l:Bs) (xs:List Int):∀k,(xDk l xs k).length=l.length
 |0=>rfl
 |k+1=>by unfold xDk;rw[xIm,xFn l xs k]
def xHg (key xE:ByteArray) (counter:Int) (s:ByteArray):Bs:=xDk s.data.toList (tZ key xE counter) ((s.size+63) / 64)
theorem xBg (key xE:ByteArray) (counter:Int) (s:ByteArray):(xHg key xE counter s).length=s.size:=by
 unfold xHg;rw[xFn];simp
end Mailsack
namespace Go.Proofs.SH
open Go.RowKit Mailsack MM BB
structure xMx (W:World) (g:Nat) (l:Bs):Prop where
 cell:∀j,j<l.length->W.cell? ⟨g,j,none⟩=some (.int .u8 ((l.getD j 0).toNat:Int))
 free:∀j,j<l.length->W.frozen? ⟨g,j,none⟩=false
theorem xMx.put {W:World} {g:Nat} {l:Bs} (h:xMx W g l) {p:Nat} (hp:p<l.length) {z:Int} (h0:0<=z) (h1:z<256):xMx (W.setCell ⟨g,p,none⟩ (.int .u8 z)) g (l.set p (oct z)):=by
 refine⟨λj hj=>?_,λj hj=>?_⟩
 ·rw[List.length_set] at hj
  by_cases e:j=p
  ·subst e;rw[World.cell?_setCell_same _ _ _ (h.cell j hj),List.getD_eq_getElem?_getD,List.getElem?_set,if_pos rfl,if_pos hj];simp[xA5];omega
  ·rw[World.cell?_setCell_other _ _ _ _ (λe'=>e (by injection e' with _ e';exact e'.symm)),h.cell j hj,List.getD_eq_getElem?_getD,List.getD_eq_getElem?_getD,List.getElem?_set,if_neg (Ne.symm e)]
 ·rw[List.length_set] at hj;rw[World.frozen?_setCell];exact h.free j hj
theorem xMx.keep {W W':World} {g:Nat} {l:Bs} (h:xMx W g l) (hb:W'.heap[g]?=W.heap[g]?):xMx W' g l:=
 ⟨λj hj=>(World.cell?_of_block (w:=W) (a:=⟨g,j,none⟩) hb).trans (h.cell j hj),λj hj=>(World.frozen?_of_block (w:=W) (a:=⟨g,j,none⟩) hb).trans (h.free j hj)⟩
theorem xMx.start (W:World) (s:ByteArray):xMx (Lib.bytesWorld W 5 s) W.heap.size s.data.toList:=by
 have hsl:s.data.toList.length=s.size:=by simp
 refine⟨λj hj=>Lib.bytesWorld_cell W _ s j ω,λj hj=>?_⟩;simp only[World.frozen?,Lib.bytesWorld_at_new];have hz:(Lib.bytesCells W 5 s).size=s.data.size+(grownCap W s.size 0 5-s.size):=by simp[Lib.bytesCells]
 have hs:s.data.size=s.size:=rfl;simp;omega
theorem xMx.text {W:World} {g:Nat} {l:Bs} (h:xMx W g l) (n cap:Nat) (hn:l.length=n):(convert 79 9 (.slice (some ⟨g,0,none⟩) n cap)).run Tryz.prog W=.ok (.string (bsA l)) W:=by
 subst hn
 exact run_convert_bytes_back (P:=Tryz.prog) W 79 9 5 ⟨g,0,none⟩ cap l Tryz.underlying79 Tryz.underlying5 Tryz.underlying9 (λj hj=>by
  have hadd:(⟨g,0,none⟩:Addr).add j=⟨g,j,none⟩:=by unfold Addr.add;split<;>simp_all
  rw[hadd,h.cell j hj,List.getD_eq_getElem?_getD,List.getElem?_eq_getElem hj]
  rfl)
structure TuI (w:World) (g1 g2:Nat) (xs:List Int) (l:Bs) (W:World):Prop where
 st:W.heap[g1]?=some (.cells (yY xs) 234 (0,0))
 o:xMx W g2 l
 bel:Below w.heap.size w W
 lo:w.heap.size<=g1
 lt:g1<g2
 hi:g2<W.heap.size
theorem TuI.below {w:World} {g1 g2:Nat} {xs:List Int} {l:Bs} {W W':World} (h:TuI w g1 g2 xs l W) (hb:Below W.heap.size W W'):TuI w g1 g2 xs l W':=
 ⟨xB h.st hb (xG h.st),h.o.keep (hb.block g2 h.hi),h.bel.trans (hb.mono h.bel.size),h.lo,h.lt,Nat.lt_of_lt_of_le h.hi hb.size⟩
theorem TuI.alloc {w:World} {g1 g2:Nat} {xs:List Int} {l:Bs} {W:World} (h:TuI w g1 g2 xs l W) (o:Obj):TuI w g1 g2 xs l (W.alloc o):=h.below ((Below.refl W.heap.size W).alloc ν o)
theorem TuI.drew {w:World} {g1 g2:Nat} {xs:List Int} {l:Bs} {W:World} (h:TuI w g1 g2 xs l W):TuI w g1 g2 xs l W.drew:=⟨h.st,⟨h.o.cell,h.o.free⟩,h.bel.drew,h.lo,h.lt,h.hi⟩
theorem TuI.put {w:World} {g1 g2:Nat} {xs:List Int} {l:Bs} {W:World} (h:TuI w g1 g2 xs l W) {p:Nat} (hp:p<l.length) {z:Int} (h0:0<=z) (h1:z<256):TuI w g1 g2 xs (l.set p (oct z)) (W.setCell ⟨g2,p,none⟩ (.int .u8 z)):=
 ⟨yA h.st (p:=⟨g2,p,none⟩) (by have:=h.lt;simp;omega) _,h.o.put hp h0 h1,h.bel.setCell (p:=⟨g2,p,none⟩) (by have:=h.lo;have:=h.lt;simp;omega) _,h.lo,h.lt,by rw[size_set];exact h.hi⟩
theorem TuI.step {w:World} {g1 g2:Nat} {xs:List Int} {l:Bs} {W:World} (h:TuI w g1 g2 xs l W) (z:Int):TuI w g1 g2 (xs.set 12 z) l (W.setCell ⟨g1,12,none⟩ (.int .u32 z)):=by
 refine⟨?_,h.o.keep (Below.heap_setCell W ⟨g1,12,none⟩ _ g2 (by have:=h.lt;simp;omega)),h.bel.setCell (p:=⟨g1,12,none⟩) h.lo _,h.lo,h.lt,by rw[size_set];exact h.hi⟩;have:=xY h.st 12 (.int .u32 z);rw[xD7] at this;exact this
theorem xE7 (key xE:ByteArray) (counter:Int) (s:ByteArray) (w:World) (hk:key.size=32) (hn:xE.size=12) (hc:U32 counter) (hs:s.size<=1099511627776):
  Calls Tryz.prog 86 #[.string key,.string xE,.int .u32 counter,.string s] w λe w'=>e=.returned (.tuple #[.string (bsA (xHg key xE counter s)),.bool true])/\Below w.heap.size w w':=by
 have HB:=ι (xQq key xE counter w hk hn);have hl:=xEa key xE counter;have hu:=xQr key xE hc;have HP:Hid (∀k,k=(s.size+63) / 64->xHg key xE counter s=xDk s.data.toList (tZ key xE counter) k):=ι (λk hk=>by rw[hk];rfl);generalize tZ key xE counter=xs at HB hl hu HP
 have hsl:s.data.toList.length=s.size:=by simp
 have HI:Hid ((Tryz.prog.info? 234).map (·.size)=some (yY xs).size):=ι (by rw[zA,hl];kernel_rfl);have HO:Hid ((yY (List.replicate 16 0)).size=(yY xs).size):=ι (by rw[zA,zA,hl,List.length_replicate]);have HSZ:Hid ((yY xs).size=16):=ι (by rw[zA,hl])
 have HXL:Hid (∀k,(qR xs k).length=16):=ι (λk=>by rw[xHq,hl]);have HXU:=ι (λk=>xPe hu k);have HTL:Hid (∀k,(xDk s.data.toList xs k).length=s.size):=ι (λk=>by rw[xFn,hsl])
 have HTS:Hid (∀k m,m=min 64 (s.size-64*k)->xDk s.data.toList xs (k+1)=xTt (xDk s.data.toList xs k) (64*k) (xA7 (qR xs k)) m):=ι (λk m hm=>by rw[hm,<-hsl];rfl);have HXS:Hid (∀k,qR xs (k+1)=(qR xs k).set 12 (((qR xs k).getD 12 0+1) % 4294967296)):=ι (λk=>rfl)
 have xJp:=λW=>Lib.run_convert_string_bytes (P:=Tryz.prog) W 9 79 5 s Tryz.underlying9 Tryz.underlying79 Tryz.underlying5;have HS:=ι hs;clear hl hu hk hn hc;go_enter Tryz.func86,Tryz.ntmps86;go_wp2_with fail
 refine HB.o.mono ?_;rintro e w1 ⟨rfl,hb1⟩;have B1:=ι hb1;clear hb1 HB
 have hst:(storeCells ⟨w1.heap.size,0,none⟩ (yY xs).toList).run Tryz.prog (w1.alloc (.cells #[.int .u32 0,.int .u32 0,.int .u32 0,.int .u32 0,.int .u32 0,.int .u32 0,.int .u32 0,.int .u32 0,.int .u32 0,.int .u32 0,.int .u32 0,.int .u32 0,.int .u32 0,.int .u32 0,.int .u32 0,.int .u32 0] 234))=.ok () (w1.alloc (.cells (yY xs) 234)):=run_storeCells_new w1 _ _ _ HI.o HO.o (tT xs)
 have hsz:=HSZ.o
 have HT:Hid (TuI w w1.heap.size (w1.heap.size+1) (qR xs 0) (xDk s.data.toList xs 0) (Lib.bytesWorld (w1.alloc (.cells (yY xs) 234)) 5 s)):=ι (by
  have hz:(w1.alloc (.cells (yY xs) 234)).heap.size=w1.heap.size+1:=by simp
  have ho:=xMx.start (w1.alloc (.cells (yY xs) 234)) s;rw[hz] at ho
  refine⟨?_,ho,(B1.o.alloc B1.o.size (.cells (yY xs) 234)).trans ⟨rfl,rfl,rfl,by rw[Lib.bytesWorld_size];omega,λk hk=>Lib.bytesWorld_at_old _ _ s k (by have:=B1.o.size;omega)⟩,B1.o.size,Nat.lt_succ_self _,by rw[Lib.bytesWorld_size,hz];omega⟩;rw[Lib.bytesWorld_at_old _ _ _ _ ω]
  exact xL _ _)
 have HG:Hid (w.heap.size<=w1.heap.size):=ι B1.o.size;go_upto_region 5 with fail
 have hcap:s.size<=grownCap (w1.alloc (.cells (yY xs) 234)) s.size 0 5:=grownCap_ge _ _ _ _;generalize grownCap _ _ _ _=cap at hcap⊢;generalize Lib.bytesWorld (w1.alloc (.cells (yY xs) 234)) 5 s=w2 at HT⊢;clear hst hsz xJp HO HI HSZ B1;generalize w1.heap.size=g1 at HT HG⊢
 go_wp2_with fail
 go_loopw [13] (λrv wr=>∃k off c2:Nat,off=min (64*k) s.size/\64*k<s.size+64/\(∃A:Option Addr,rv=.slice A (s.size-off) c2/\s.size-off<=c2/\(off<s.size->A=some ⟨g1+1,off,none⟩))/\Hid (TuI w g1 (g1+1) (qR xs k) (xDk s.data.toList xs k) wr)) (λrv _=>match rv with|.slice _ m _=>m|_=>0)
 case atStart=>exact⟨0,0,cap,σ,ω,⟨_,rfl,hcap,λ_=>rfl⟩,HT⟩
 case round=>
  obtain⟨k,off,c2,hoff,hk,⟨A,rfl,hc2,hA⟩,hr⟩:=hrel;clear HT
  by_cases hlt:64*k<s.size
  ·obtain rfl:off=64*k:=by omega
   obtain rfl:=hA ω;clear hA;have hpos:0<s.size-64*k:=by omega
   obtain⟨m,hm⟩:∃m,s.size-64*k=m:=⟨_,rfl⟩;have HTSk:=ι (HTS.o k);rw[hm] at hpos HTSk hc2⊢;have HMS:Hid (64*k+m=s.size):=ι ω;have HKL:=ι hlt;clear hoff hk hm hlt;go_upto_region 8 with fail
   have hsz:(min 64 (m:Int))=((min 64 m:Nat):Int):=by omega
   rw[hsz];obtain⟨z,hz⟩:∃z,min 64 m=z:=⟨_,rfl⟩;have HTSz:=ι (HTSk.o z hz.symm);have HZM:Hid (z<=m/\z<=64/\0<z/\(z=64∨z=m)):=ι ω;rw[hz];clear hsz hz HTSk;have hxl:=HXL.o k;have hxu:=HXU.o k;have hll:=HTL.o k;have HXSk:=ι (HXS.o k);obtain⟨xk1,hxk1⟩:∃x,qR xs (k+1)=x:=⟨_,rfl⟩
   obtain⟨lk1,hlk1⟩:∃x,xDk s.data.toList xs (k+1)=x:=⟨_,rfl⟩;rw[hxk1] at HXSk;rw[hlk1] at HTSz;have HXK:=ι hxk1;have HLK:=ι hlk1;clear hxk1 hlk1;generalize qR xs k=xk at hr hxl hxu HXSk HTSz;generalize xDk s.data.toList xs k=l0 at hr HTSz hll;have HF:=ι (λW=>xI8 xk W hxl hxu)
   have HFL:=ι (xC8 xk);generalize xA7 xk=fo at HF HFL HTSz;have HIk:Hid ((Tryz.prog.info? 234).map (·.size)=some (yY xk).size):=ι (by rw[zA,hxl];kernel_rfl);have HI8:Hid ((Tryz.prog.info? 237).map (·.size)=some (yJ fo).size):=ι (by rw[uZ,HFL.o];kernel_rfl)
   have HO8:Hid ((yJ (xQ 64)).size=(yJ fo).size):=ι (by rw[uZ,uZ,HFL.o,zC]);have H18:Hid ((yJ fo).all (·.oneCell')=true):=ι (Array.all_eq_true_iff_forall_mem.2 (λv hv=>xJv fo v (by simpa using hv)));have HXL16:=ι hxl;have HLL:=ι hll;clear hxl hxu hll;refine wp_region_lit ?_
   refine wpList_load_row rfl _ _ rfl g1 rfl _ (yY xk) (0,0) _ hr.o.st Tryz.underlying234 rfl HIk.o ?_;go_wp2_with fail
   refine(HF.o _).mono ?_
   rename World=>wq
   rintro e w4 ⟨rfl,hb4⟩;have H4:=ι (hr.o.below hb4);clear hb4 hr HF
   have hst:(storeCells ⟨w4.heap.size,0,none⟩ (yJ fo).toList).run Tryz.prog (w4.alloc (.cells #[.int .u8 0,.int .u8 0,.int .u8 0,.int .u8 0,.int .u8 0,.int .u8 0,.int .u8 0,.int .u8 0,.int .u8 0,.int .u8 0,.int .u8 0,.int .u8 0,.int .u8 0,.int .u8 0,.int .u8 0,.int .u8 0,.int .u8 0,.int .u8 0,.int .u8 0,.int .u8 0,.int .u8 0,.int .u8 0,.int .u8 0,.int .u8 0,.int .u8 0,.int .u8 0,.int .u8 0,.int .u8 0,.int .u8 0,.int .u8 0,.int .u8 0,.int .u8 0,.int .u8 0,.int .u8 0,.int .u8 0,.int .u8 0,.int .u8 0,.int .u8 0,.int .u8 0,.int .u8 0,.int .u8 0,.int .u8 0,.int .u8 0,.int .u8 0,.int .u8 0,.int .u8 0,.int .u8 0,.int .u8 0,.int .u8 0,.int .u8 0,.int .u8 0,.int .u8 0,.int .u8 0,.int .u8 0,.int .u8 0,.int .u8 0,.int .u8 0,.int .u8 0,.int .u8 0,.int .u8 0,.int .u8 0,.int .u8 0,.int .u8 0,.int .u8 0] 237))=.ok () (w4.alloc (.cells (yJ fo) 237)):=run_storeCells_new w4 _ _ _ HI8.o HO8.o H18.o
   have hsz8:(yJ fo).size=64:=by rw[uZ,HFL.o]
   have H5:Hid (TuI w g1 (g1+1) xk (xTt l0 (64*k) fo 0) (w4.alloc (.cells (yJ fo) 237))/\(w4.alloc (.cells (yJ fo) 237)).heap[w4.heap.size]?=some (.cells (yJ fo) 237 (0,0))):=ι ⟨H4.o.alloc _,xL _ _⟩;have HG3:Hid (g1+1<w4.heap.size):=ι H4.o.hi;go_upto_region 9 with fail
   generalize w4.alloc (.cells (yJ fo) 237)=w5 at H5⊢;clear hst hsz8 H4;generalize w4.heap.size=g3 at H5 HG3⊢;go_wp2_with fail
   go_loopw [38] (λiv W=>∃i:Nat,i<=z/\iv=.int .i64 i/\Hid (TuI w g1 (g1+1) xk (xTt l0 (64*k) fo i) W/\W.heap[g3]?=some (.cells (yJ fo) 237 (0,0)))) (λiv _=>z- (intOf iv).toNat)
   case atStart=>exact⟨0,Nat.zero_le _,rfl,H5⟩
   case round=>
    clear H5
    rename World=>wi
    obtain⟨i,hi,rfl,hr⟩:=hrel
    by_cases hlt:i<z
    ·have HXI:Hid (xTt l0 (64*k) fo (i+1)=(xTt l0 (64*k) fo i).set (64*k+i) (oct (bits .xor .u8 (((xTt l0 (64*k) fo i).getD (64*k+i) 0).toNat:Int) ((fo.getD i 0).toNat:Int)))):=ι rfl;have hil:=xIm l0 (64*k) fo i;generalize xTt l0 (64*k) fo i=li at hr HXI hil
     have HPL:Hid (64*k+i<li.length):=ι (by rw[hil,HLL.o];have:=HMS.o;have:=HZM.o;omega);have HIF:Hid (i<fo.length):=ι (by rw[HFL.o];have:=HZM.o;omega);have HIM:Hid (i<m):=ι (by have:=HZM.o;omega);obtain⟨a,ha⟩:∃a:Int,((li.getD (64*k+i) 0).toNat:Int)=a:=⟨_,rfl⟩
     obtain⟨c,hc⟩:∃c:Int,((fo.getD i 0).toNat:Int)=c:=⟨_,rfl⟩;rw[ha,hc] at HXI;have HA:=ι ha;have HCc:=ι hc;obtain⟨v,hv⟩:∃v,bits .xor .u8 a c=v:=⟨_,rfl⟩;have HV:Hid (0<=v/\v<256):=ι (hv▸xB3 _ _ _);rw[hv] at HXI;have HVE:=ι hv
     have ra:0<=a/\a<256:=by rw[<-ha];have:=(li.getD (64*k+i) 0).toNat_lt;omega
     have rc:0<=c/\c<256:=by rw[<-hc];have:=(fo.getD i 0).toNat_lt;omega
     obtain⟨ra0,ra1⟩:=ra;obtain⟨rc0,rc1⟩:=rc;have him:=HIM.o;have hi64:i<64:=by rw[<-HFL.o];exact HIF.o
     clear ha hc hv hil;go_upto_region 12 with fail
     refine RG.yT 10 (λL W=>Hid (TuI w g1 (g1+1) xk (if L 9 then li.set (64*k+i) (oct v) else li) W/\W.heap[g3]?=some (.cells (yJ fo) 237 (0,0)))) (λL L' W h hI=>by rw[<-h 9 δ];exact hI) κ κ rfl (ι ⟨hr.o.1.drew,hr.o.2⟩) ?_;iterate 3 refine RG.cS ?_
     apply RG.xR
     ·rfl
     ·rfl
     ·intro L w9 h0 hcl xN hw9;have e1:=hcl.not 6 (i:=9) h0 κ;have hs9:=hw9.o.1;rw[e1,if_neg σ] at hs9;have q:=hs9.o.cell (64*k+i) HPL.o;rw[HA.o] at q;clear e1 hs9;repeat go_step
      with_reducible refine RG.xD ?_
      exact⟨xN,hw9⟩
     ·rfl
     iterate 2 refine RG.cS ?_
     apply RG.xR
     ·rfl
     ·rfl
     ·intro L w9 h0 hcl xN hw9;have q:=xA hw9.o.2 i;rw[qN HIF.o,HCc.o] at q;repeat go_step
      with_reducible refine RG.xD ?_
      exact⟨xN,hw9⟩
     ·rfl
     refine RG.cS ?_;rw[HVE.o];refine RG.cS ?_;apply RG.xR
     ·rfl
     ·rfl
     ·intro L w9 h0 hcl xN hw9;have hs9:=hw9.o.1;rw[h0,if_neg σ] at hs9;have q1:=hs9.o.cell (64*k+i) HPL.o;have q2:=hs9.o.free (64*k+i) HPL.o;generalize ((li.getD (64*k+i) 0).toNat:Int)=old at q1
      have hp:Hid (TuI w g1 (g1+1) xk (li.set (64*k+i) (oct v)) (w9.setCell ⟨g1+1,64*k+i,none⟩ (.int .u8 v))/\(w9.setCell ⟨g1+1,64*k+i,none⟩ (.int .u8 v)).heap[g3]?=some (.cells (yJ fo) 237 (0,0))):=ι ⟨hs9.put HPL.o HV.o.1 HV.o.2,yA hw9.o.2 (p:=⟨g1+1,64*k+i,none⟩) (by have:=HG3.o;simp;omega) _⟩
      clear hs9;repeat go_step
      with_reducible refine RG.xD ?_
      refine⟨xN,?_⟩;show Hid (TuI w g1 (g1+1) xk (if (true:Bool)=true then li.set (64*k+i) (oct v) else li) _/\_);rw[if_pos rfl];with_reducible exact hp
     ·rfl
     refine RG.yI (λw9 hw9=>?_);rw[if_pos rfl,<-HXI.o] at hw9;go_wp2;exact⟨⟨i+1,ω,by go_num,hw9⟩,by simp[intOf];omega⟩
    ·have hie:i=z:=by omega
     have HR:Hid (TuI w g1 (g1+1) xk lk1 wi):=ι (by rw[HTSz.o,<-hie];exact hr.o.1);have hneg:¬((i:Int)<(z:Int)):=by omega
     clear hr hlt hi hie;have q1:=xA HR.o.st 12;rw[uO (by rw[HXL16.o];decide)] at q1;have q2:=xC HR.o.st 12;obtain⟨y,hy⟩:∃y,xk.getD 12 0=y:=⟨_,rfl⟩;rw[hy] at q1 HXSk
     have HN:Hid (TuI w g1 (g1+1) xk1 lk1 (wi.setCell ⟨g1,12,none⟩ (.int .u32 ((y+1) % 4294967296)))):=ι (by rw[HXSk.o];exact HR.o.step _);clear HR hy;have hzm:=HZM.o.1;go_wp2
     refine⟨⟨k+1,64*k+z,c2-z,by have:=HMS.o;have:=HZM.o;omega,by have:=HKL.o;omega,⟨_,by rw[show s.size- (64*k+z)=m-z by have:=HMS.o;omega],by have:=HMS.o;omega,λhlt=>if_neg (by have:=HMS.o;omega)⟩,ι (by rw[HXK.o,HLK.o];exact HN.o)⟩,?_⟩;show m-z<m;have:=HZM.o;omega
  ·have hoff2:off=s.size:=by omega
   have HPk:=ι (HP.o k ω);have HTLk:=HTL.o k;have hz0:s.size-off=0:=by omega
   rw[hz0];generalize xDk s.data.toList xs k=lf at hr HPk HTLk;have ht:=hr.o.o.text s.size cap HTLk;have HBl:=ι hr.o.bel;clear hr hA hc2 hk hlt HTLk hoff2 hz0 hoff hsl hs;rw[<-HPk.o] at ht;go_wp2;go_ret2;exact⟨rfl,HBl.o⟩
end Go.Proofs.SH
namespace Mailsack
def xTn (ad text:ByteArray):Bs:=qZ (qZ ad.data.toList++text.data.toList)++vV ad.size 8++vV text.size 8
def tH (key xE ad text:ByteArray):ByteArray:=tagP ((bsA (xDn key xE 0)).extract 0 32) (bsA (xTn ad text))
theorem xBk (key xE ad text:ByteArray):(tH key xE ad text).size=16:=xV6 _ _
def xKz (key xE ad s:ByteArray):ByteArray:=bsA (xHg key xE 1 s)++tH key xE ad (bsA (xHg key xE 1 s))
theorem xRq (key xE ad s:ByteArray):(xKz key xE ad s).size=s.size+16:=by rw[xKz,ByteArray.size_append,xBk,yS,xBg]
theorem yDr (n:Nat):yCa n<16:=by unfold yCa;omega
theorem xDf (l:Bs):(qZ l).length<=l.length+16:=by
 unfold qZ;rw[List.length_append,zC];have:=yDr l.length;omega
theorem yBv (ad text:ByteArray):(xTn ad text).length<=ad.size+text.size+64:=by
 unfold xTn;have h1:=xDf ad.data.toList;have h2:=xDf (qZ ad.data.toList++text.data.toList);have h3:ad.data.toList.length=ad.size:=by simp
 have h4:text.data.toList.length=text.size:=by simp
 rw[List.length_append] at h2;rw[List.length_append,List.length_append,xCn,xCn];omega
end Mailsack
namespace Go.Proofs.SH
open Go.RowKit Mailsack MM BB
theorem xFk {P:Program} {w:World} {ops:Array Oper} {rest:List Oper} {o:Oper} {a:Act} {Q:Exit->Act->World->Prop} (hgd:o.guard=none) (sl x:Operand) (t u:TypeId)
  (ho:o.op=.call {callee:=.builtin .append,args:=#[sl,x],argTypes:=#[t,u]})
  (base:Nat) (e:TypeId) (i:TypeInfo) (ht:P.underlying t=some (.slice e)) (hu:P.underlying u=some .string) (hi:P.info? e=some i) (hz:i.zero=some (.int .u8 0))
  (hsize:i.size=1) (hby:i.bytes=1)
  (v:Value) (n:Nat) (xs:List Value) (hs:a.eval sl=v) (hown:w.ownsRow base e 1 v n xs) (s:ByteArray) (hx:a.eval x=.string s)
  (h63:n+s.size<=maxLen) (hbytes:n+s.size<=140737488355328) (hbase:base<=w.heap.size)
  (h:∀v' w',w'.ownsRow base e 1 v' (n+s.size) (xs++Lib.strCells s)->w.grownBy w' v.ownBlock->wpList P ops Q rest (a.put o.dst v') w'):wpList P ops Q (o::rest) a w:=by
 refine wpList_plain hgd λK hK=>?_;obtain⟨v',w',hr,h2,h3,_⟩:=Lib.run_append_own_string (P:=P) w base t u o.type e i ht hu hi hz hsize hby v n xs hown s h63 hbytes hbase;unfold Oper.wp execOp
 simp only[ho,resolve,invoke,builtin,Sem.run_bind,Sem.run_pure,Result.andThen_ok,List.map_toArray,List.map_cons,List.map_nil,hs,hx,hr];exact hK _ _ (h v' w' h2 h3)
theorem xV5 (key xE ad text:ByteArray) (w:World) (hk:key.size=32) (hn:xE.size=12) (ha:ad.size<=1000000000) (ht:text.size<=1000000000):
  Calls Tryz.prog 85 #[.string key,.string xE,.string ad,.string text] w λe w'=>e=.returned (.tuple #[.string (tH key xE ad text),.bool true])/\Below w.heap.size w w':=by
 obtain⟨i0,hi,hz0,hz1,hz2⟩:=vM xSu;have HC:=ι (xOs key xE 0 w hk hn ⟨δ,δ⟩);have hsz:(bsA (xDn key xE 0)).size=64:=by rw[yS];exact xC8 _
 have HT:Hid (∀W,Calls Tryz.prog 166 #[.string ((bsA (xDn key xE 0)).extract 0 32),.string (bsA (xTn ad text))] W λe w'=>e=.returned (.tuple #[.string (tH key xE ad text),.bool true])/\Below W.heap.size W w'):=ι (λW=>yD7 _ _ W (by rw[ByteArray.size_extract,hsz];rfl) (by rw[yS];have:=yBv ad text;omega))
 generalize bsA (xDn key xE 0)=ks at HC HT hsz;have hD:Hid (xTn ad text=qZ (qZ ad.data.toList++text.data.toList)++vV ad.size 8++vV text.size 8):=ι rfl;have hL1:=xDf ad.data.toList;have hL2:=xDf (qZ ad.data.toList++text.data.toList);have hal:ad.data.toList.length=ad.size:=by simp
 have htl:text.data.toList.length=text.size:=by simp
 rw[List.length_append] at hL2;have HMK:=ι (λW:World=>made W 0 (ad.size+text.size+48) ω ω);have HLS:Hid (ad.size<=1000000000/\text.size<=1000000000/\(qZ ad.data.toList).length<=2000000000/\(qZ (qZ ad.data.toList++text.data.toList)).length<=4000000000):=ι ⟨ha,ht,ω,ω⟩
 generalize tH key xE ad text=res at HT⊢;generalize xTn ad text=dd at HT hD;clear hL1 hL2 hk hn;go_enter Tryz.func85,Tryz.ntmps85;go_wp2_with fail
 refine HC.o.mono ?_;rintro e w1 ⟨rfl,hb1⟩;have B1:=ι hb1;clear hb1 HC
 have hmk:∀W:World,(Instr.makeSlice 79 (.int .i64 0) (.int .i64 ((ad.size:Int)+(text.size:Int)+48))).run Tryz.prog W=.ok (.slice (some ⟨W.heap.size,0,none⟩) 0 (ad.size+text.size+48)) (W.alloc (.cells (yJ (xQ (ad.size+text.size+48))) 5)):=HMK.o
 have HO0:=ι (uG.room w1 (ad.size+text.size+48) w.heap.size B1.o.size ω);have B2:=ι (B1.o.alloc B1.o.size (.cells (yJ (xQ (ad.size+text.size+48))) 5));go_upto_region 5 with fail
 clear hmk HMK;refine(λ(h:∀W3,Hid (uG W3 w.heap.size (.slice (some ⟨w1.heap.size,0,none⟩) 0 (ad.size+text.size+48)) []/\Below w.heap.size w W3)->Code.wp _ _ _ _ W3)=>h _ (ι ⟨HO0.o,B2.o⟩)) ?_;clear HO0 B2 B1;generalize w1.heap.size=g;intro W2 H2;refine wp_region_lit ?_
 iterate 6 go_step
 refine xFk rfl _ _ 79 9 rfl w.heap.size 5 i0 Tryz.underlying79 Tryz.underlying9 hi hz0 hz1 hz2 _ 0 [] rfl H2.o.1 ad rfl (by unfold maxLen;omega) ω H2.o.2.size ?_;intro v3 w3 hown hgrow
 have HO3:Hid (uG w3 w.heap.size v3 ad.data.toList):=ι (by
  have h:=uG.of (l:=[]) (m:=ad.data.toList) (by rw[hal];exact hown);exact h)
 have HB3:=ι (H2.o.2.grown hgrow H2.o.2.size (λk hk=>(World.ownsRow.lt H2.o.1 k hk).1));have HA3:=ι (xMp v3 ad.data.toList w3 w.heap.size HO3.o HB3.o.size ω);clear hown hgrow H2;repeat go_step
 refine HA3.o.mono ?_;rintro e w4 ⟨v4,rfl,ho4,hx4⟩;have HO4:=ι ho4;have HB4:=ι (HB3.o.trans (hx4.below HO3.o HB3.o.size));clear ho4 hx4 HA3 HO3 HB3;go_upto_region 6 with fail
 refine wp_region_lit ?_;iterate 6 go_step
 refine xFk rfl _ _ 79 9 rfl w.heap.size 5 i0 Tryz.underlying79 Tryz.underlying9 hi hz0 hz1 hz2 v4 _ _ rfl HO4.o.row text rfl (by have:=HLS.o;unfold maxLen;omega) (by have:=HLS.o;omega) HB4.o.size ?_;intro v5 w5 hown hgrow
 have HO5:Hid (uG w5 w.heap.size v5 (qZ ad.data.toList++text.data.toList)):=ι (uG.of (by rw[htl];exact hown));have HB5:=ι (HB4.o.grown hgrow HB4.o.size (λk hk=>(World.ownsRow.lt HO4.o.row k hk).1))
 have HA5:=ι (xMp v5 _ w5 w.heap.size HO5.o HB5.o.size (by rw[List.length_append,htl];have:=HLS.o;omega));clear hown hgrow HO4 HB4;repeat go_step
 refine HA5.o.mono ?_;rintro e w6 ⟨v6,rfl,ho6,hx6⟩;have HO6:=ι ho6;have HB6:=ι (HB5.o.trans (hx6.below HO5.o HB5.o.size));clear ho6 hx6 HA5 HO5 HB5;have HS6:=ι (xPg ad.size v6 _ w6 w.heap.size HO6.o HB6.o.size (by have:=HLS.o;omega));go_wp2_with fail
 refine HS6.o.mono ?_;rintro e w7 ⟨v7,rfl,ho7,hx7⟩;have HO7:=ι ho7;have HB7:=ι (HB6.o.trans (hx7.below HO6.o HB6.o.size));clear ho7 hx7 HS6 HO6 HB6;have HS7:=ι (xPg text.size v7 _ w7 w.heap.size HO7.o HB7.o.size (by rw[List.length_append,xCn];have:=HLS.o;omega));go_wp2_with fail
 refine HS7.o.mono ?_;rintro e w8 ⟨v8,rfl,ho8,hx8⟩;have HO8:=ι ho8;have HB8:=ι (HB7.o.trans (hx8.below HO7.o HB7.o.size));clear ho8 hx8 HS7 HO7 HB7;rw[<-hD.o] at HO8;have hszi:(ks.size:Int)=64:=by omega
 clear hsz;go_upto_region 9 with fail
 refine RG.xP (λW=>Hid (uG W w.heap.size v8 dd/\Below w.heap.size w W)) κ κ (ι ⟨HO8.o.drew,HB8.o.drew⟩) ?_;clear HO8 HB8;iterate 3 refine RG.dS ?_
 apply RG.xJ
 ·intro w9 hw9;have q:(convert 79 9 v8).run Tryz.prog w9=.ok (.string (bsA dd)) w9:=hw9.o.1.text;repeat go_step
  with_reducible exact RG.xD hw9
 ·rfl
 apply RG.xJ
 ·intro w9 hw9;repeat go_step
  refine(HT.o _).mono ?_;rintro e w10 ⟨rfl,zM⟩;simp only[];repeat go_step
  with_reducible refine RG.xD ?_
  exact ι ⟨uG.below hw9.o.1 zM,hw9.o.2.trans (zM.mono hw9.o.2.size)⟩
 ·rfl
 iterate 4 refine RG.dS ?_
 refine RG.xS (λw9 hw9=>?_);go_wp2;go_ret2;exact⟨rfl,hw9.o.2⟩
theorem yDe (key xE ad s:ByteArray) (w:World) (hk:key.size=32) (hn:xE.size=12) (ha:ad.size<=1000000000) (hs:s.size<=1000000000):
  Calls Tryz.prog 188 #[.string key,.string xE,.string ad,.string s] w λe w'=>e=.returned (.tuple #[.string (xKz key xE ad s),.int .i64 0])/\Below w.heap.size w w':=by
 have HC:=ι (xE7 key xE 1 s w hk hn ⟨δ,δ⟩ ω);have hcz:(bsA (xHg key xE 1 s)).size=s.size:=by rw[yS,xBg]
 have HT:=ι (λW=>xV5 key xE ad (bsA (xHg key xE 1 s)) W hk hn ha (by rw[hcz];exact hs));have htz:=xBk key xE ad (bsA (xHg key xE 1 s));have HE:Hid (xKz key xE ad s=bsA (xHg key xE 1 s)++tH key xE ad (bsA (xHg key xE 1 s))):=ι rfl
 generalize tH key xE ad (bsA (xHg key xE 1 s))=tg at HT htz HE;generalize bsA (xHg key xE 1 s)=ct at HC HT hcz HE;have nb:¬(9223372036854775807<ct.size+tg.size):=by omega
 clear hk hn hcz htz;go_enter Tryz.func188,Tryz.ntmps188;go_wp2_with fail
 refine HC.o.mono ?_;rintro e w1 ⟨rfl,hb1⟩;have B1:=ι hb1;clear hb1 HC;go_wp2_with fail
 refine(HT.o _).mono ?_;rintro e w2 ⟨rfl,hb2⟩;have B2:=ι (B1.o.trans (hb2.mono B1.o.size));clear hb2 HT B1;go_wp2;go_ret2;rw[HE.o];exact⟨rfl,B2.o⟩
theorem xS9 (key xE ad box:ByteArray) (w:World) (hk:key.size=32) (hn:xE.size=12) (hb:box.size<16):
  Calls Tryz.prog 33 #[.string key,.string xE,.string ad,.string box] w λe w'=>e=.returned (.tuple #[.string ⟨#[]⟩,.int .i64 7])/\w'=w:=by
 have hki:(key.size:Int)=32:=by omega
 have hni:(xE.size:Int)=12:=by omega
 have hbi:(box.size:Int)<16:=by omega
 clear hk hn hb;go_enter Tryz.func33,Tryz.ntmps33;go_wp2;go_ret2;exact⟨rfl,rfl⟩
theorem xJ8 (key xE ad text given:ByteArray) (w:World) (hk:key.size=32) (hn:xE.size=12) (ha:ad.size<=1000000000) (ht:text.size<=1000000000) (hg:given.size=16) (hs:rX (tH key xE ad text) given=true):
  Calls Tryz.prog 33 #[.string key,.string xE,.string ad,.string (text++given)] w λe w'=>e=.returned (.tuple #[.string (bsA (xHg key xE 1 text)),.int .i64 0])/\Below w.heap.size w w':=by
 have HC:=ι (λW=>xE7 key xE 1 text W hk hn ⟨δ,δ⟩ ω);have HT:=ι (λW=>xV5 key xE ad text W hk hn ha ht);have htz:=xBk key xE ad text;have HM:=ι (λW=>xIx (tH key xE ad text) given W (by rw[htz];decide));rw[hs] at HM;generalize tH key xE ad text=tg at HT htz HM;clear hs
 generalize bsA (xHg key xE 1 text)=pt at HC⊢;have hki:(key.size:Int)=32:=by omega
 have hni:(xE.size:Int)=12:=by omega
 have hbs:(text++given).size=text.size+16:=by rw[ByteArray.size_append,hg]
 have hx1:(text++given).extract 0 text.size=text:=by rw[ByteArray.extract_append_eq_left rfl]
 have hx2:(text++given).extract text.size (text.size+16)=given:=by rw[<-hg];rw[ByteArray.extract_append_eq_right rfl rfl]
 generalize text++given=box at hbs hx1 hx2⊢;obtain⟨n,hnn⟩:∃n,text.size=n:=⟨_,rfl⟩;rw[hnn] at hbs hx1 hx2;have hbi:(box.size:Int)=(n:Int)+16:=by omega
 have h16:¬((n:Int)+16<16):=by omega
 clear hk hn htz hg;go_enter Tryz.func33,Tryz.ntmps33;go_upto_region 5 with fail
 refine RG.xP (λW=>Hid (Below w.heap.size w W)) κ κ (ι (Below.refl w.heap.size w).drew) ?_;iterate 12 refine RG.dS ?_
 refine RG.xS (λw1 hw1=>?_);clear h16 hbi hbs hki hni;go_wp2_with fail
 refine(HT.o _).mono ?_;rintro e w2 ⟨rfl,hb2⟩;have B2:=ι (hw1.o.trans (hb2.mono hw1.o.size));clear hb2 HT hw1;go_wp2_with fail
 refine(HM.o _).mono ?_;rintro e w3 ⟨rfl,hb3⟩;have B3:=ι (B2.o.trans (hb3.mono B2.o.size));clear hb3 HM B2;go_wp2_with fail
 refine(HC.o _).mono ?_;rintro e w4 ⟨rfl,hb4⟩;have B4:=ι (B3.o.trans (hb4.mono B3.o.size));clear hb4 HC B3;go_wp2;go_ret2;exact⟨rfl,B4.o⟩
theorem xNv (key xE ad text given:ByteArray) (w:World) (hk:key.size=32) (hn:xE.size=12) (ha:ad.size<=1000000000) (ht:text.size<=1000000000) (hg:given.size=16) (hs:rX (tH key xE ad text) given=false):
  Calls Tryz.prog 33 #[.string key,.string xE,.string ad,.string (text++given)] w λe w'=>e=.returned (.tuple #[.string ⟨#[]⟩,.int .i64 7])/\Below w.heap.size w w':=by
 have HC:=ι (λW=>xE7 key xE 1 text W hk hn ⟨δ,δ⟩ ω);have HT:=ι (λW=>xV5 key xE ad text W hk hn ha ht);have htz:=xBk key xE ad text;have HM:=ι (λW=>xIx (tH key xE ad text) given W (by rw[htz];decide));rw[hs] at HM;generalize tH key xE ad text=tg at HT htz HM;clear hs
 generalize bsA (xHg key xE 1 text)=pt at HC;have hki:(key.size:Int)=32:=by omega
 have hni:(xE.size:Int)=12:=by omega
 have hbs:(text++given).size=text.size+16:=by rw[ByteArray.size_append,hg]
 have hx1:(text++given).extract 0 text.size=text:=by rw[ByteArray.extract_append_eq_left rfl]
 have hx2:(text++given).extract text.size (text.size+16)=given:=by rw[<-hg];rw[ByteArray.extract_append_eq_right rfl rfl]
 generalize text++given=box at hbs hx1 hx2⊢;obtain⟨n,hnn⟩:∃n,text.size=n:=⟨_,rfl⟩;rw[hnn] at hbs hx1 hx2;have hbi:(box.size:Int)=(n:Int)+16:=by omega
 have h16:¬((n:Int)+16<16):=by omega
 clear hk hn htz hg;go_enter Tryz.func33,Tryz.ntmps33;go_upto_region 5 with fail
 refine RG.xP (λW=>Hid (Below w.heap.size w W)) κ κ (ι (Below.refl w.heap.size w).drew) ?_;iterate 12 refine RG.dS ?_
 refine RG.xS (λw1 hw1=>?_);clear h16 hbi hbs hki hni;go_wp2_with fail
 refine(HT.o _).mono ?_;rintro e w2 ⟨rfl,hb2⟩;have B2:=ι (hw1.o.trans (hb2.mono hw1.o.size));clear hb2 HT hw1;go_wp2_with fail
 refine(HM.o _).mono ?_;rintro e w3 ⟨rfl,hb3⟩;have B3:=ι (B2.o.trans (hb3.mono B2.o.size));clear hb3 HM B2;clear HC;go_wp2;go_ret2;exact⟨rfl,B3.o⟩
end Go.Proofs.SH