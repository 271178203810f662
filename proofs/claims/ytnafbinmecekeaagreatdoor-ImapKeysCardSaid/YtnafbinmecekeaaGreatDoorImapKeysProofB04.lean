/- Contracts of functions. Conditions: as stated. -/
import Derived.Test.YtnafbinmecekeaaGreatDoorImapKeysProofB03
open Go.Proofs.Tryz
set_option maxHeartbeats 8000000
set_option maxRecDepth 100000
namespace Mailsack
theorem xAz (op:Go.BinOp) (x y:Int):0<=Go.bits op .u8 x y/\Go.bits op .u8 x y<256:=by
 have h:=Go.wf_bits op .u8 x y;simp[Go.Lit.wf] at h;have e1:Go.IntKind.u8.min=0:=δ;have e2:Go.IntKind.u8.max=255:=δ;omega
def xKv (l:Bs) (b:Int):Nat->Bs
 |0=>l
 |k+1=>(xKv l b k).set k (oct (Go.bits .xor .u8 (((xKv l b k).getD k 0).toNat:Int) b))
theorem xIx (l:Bs) (b:Int):∀k,(xKv l b k).length=l.length
 |0=>rfl
 |k+1=>by simp[xKv,xIx l b k]
def xJs (key s:Bs):Bs:=key++(xP (64+s.length)).drop key.length
def xBg (key:Bs) (b:Int) (s:Bs):Bs:=(xKv (xJs key s) b 64).take 64++s
theorem xLw (key:Bs) (b:Int) (s:Bs) (h:key.length<=64):(xBg key b s).length=64+s.length:=by
 unfold xBg xJs;rw[List.length_append,List.length_take,xIx,List.length_append,List.length_drop,yO];omega
end Mailsack
namespace Go.Proofs.SH
open Go.RowKit Mailsack MM BB
theorem wK.putV {W:World} {g:Nat} {l:Bs} (h:wK W g l) (i:Nat) {z:Int} (h0:0<=z) (h1:z<256):wK (W.setCell ⟨g,i,none⟩ (.int .u8 z)) g (l.set i (oct z)):=by
 have:=h.put i z
 rwa [show z % 256=z by omega] at this
theorem xPs (key s:ByteArray) (b:Int) (w:World) (hk:key.size<=64) (hs:s.size<=1099511627776):
  Calls prog 328 #[.string key,.int .u8 b,.string s] w λe w'=>e=.returned (.string ⟨(xBg key.data.toList b s.data.toList).toArray⟩)/\ψ w w':=by
 have hkl:key.data.toList.length=key.size:=σ;have hsl:s.data.toList.length=s.size:=σ
 have hmk:∀W:World,(Instr.makeSlice 125 (.int .i64 64) (.int .i64 (64+(s.size:Int)))).run prog W=.ok (.slice (some ⟨W.heap.size,0,none⟩) 64 (64+s.size)) (W.alloc (.cells (yE (xP (64+s.size))) 5)):=λW=>made W 64 (64+s.size) ω ω
 have HB0:Hid (wK (w.alloc (.cells (yE (xP (64+s.size))) 5)) w.heap.size (xP (64+s.size))):=ι (xM _ _);have HW0:=ι (φ w (.cells (yE (xP (64+s.size))) 5));go_enter func328,ntmps328;go_upto_region 2 with fail
 refine wp_region_lit ?_;iterate 6 go_step
 refine Lib.wpList_copy_run _ rfl _ _ _ _ rfl _ _ rfl rfl (copied HB0.o _ _ _ _ ω (by rw[yO];omega)) ?_
 have HB1:Hid (wK ((w.alloc (.cells (yE (xP (64+s.size))) 5)).setRow w.heap.size (yE (key.data.toList++(xP (64+s.size)).drop key.size))) w.heap.size (xKv (xJs key.data.toList s.data.toList) b 0)):=ι (by
  have h:=HB0.o.row (key.data.toList++(xP (64+s.size)).drop key.size);unfold xKv xJs;rw[hkl,hsl];exact h)
 have HW1:=ι (below_setRow HW0.o ν (yE (key.data.toList++(xP (64+s.size)).drop key.size)));clear hmk HB0 HW0;generalize (w.alloc (.cells (yE (xP (64+s.size))) 5)).setRow w.heap.size (yE (key.data.toList++(xP (64+s.size)).drop key.size))=w1 at HB1 HW1⊢
 have HL:Hid ((xJs key.data.toList s.data.toList).length=64+s.size):=ι (by unfold xJs;rw[List.length_append,List.length_drop,yO];omega);have HXL:=ι (λk=>xIx (xJs key.data.toList s.data.toList) b k)
 have HP:Hid (∀n,n=64->xBg key.data.toList b s.data.toList=(xKv (xJs key.data.toList s.data.toList) b n).take n++s.data.toList):=ι (λn hn=>by subst hn;rfl);generalize xJs key.data.toList s.data.toList=l at HB1 HL HXL HP;clear hkl;go_wp2_with fail
 go_loopw [18] (λiv wr=>∃k:Nat,k<=64/\iv=.int .i64 k/\Hid (wK wr w.heap.size (xKv l b k)/\ψ w wr)) (λiv _=>64- (intOf iv).toNat)
 case atStart=>exact⟨0,δ,rfl,ι ⟨HB1.o,HW1.o⟩⟩
 case round=>
  obtain⟨k,hk,rfl,hr⟩:=hrel;clear HB1 HW1
  by_cases hlt:k<64
  ·have q0:=hr.o.1.cell (i:=k) (by rw[HXL.o k,HL.o];omega);have q1:=hr.o.1.free k;have hu:=xAz .xor (((xKv l b k).getD k 0).toNat:Int) b
   have HK:Hid (wK (wr.setCell ⟨w.heap.size,k,none⟩ (.int .u8 (bits .xor .u8 (((xKv l b k).getD k 0).toNat:Int) b))) w.heap.size (xKv l b (k+1))):=ι (wK.putV hr.o.1 k hu.1 hu.2)
   have HKW:=ι (hr.o.2.setCell (p:=⟨w.heap.size,k,none⟩) ν (.int .u8 (bits .xor .u8 (((xKv l b k).getD k 0).toNat:Int) b)));clear hr hu;generalize (((xKv l b k).getD k 0).toNat:Int)=x at q0 HK HKW;go_wp2;exact⟨⟨k+1,ω,by go_num,ι ⟨HK.o,HKW.o⟩⟩,by simp[intOf];omega⟩
  ·have hke:k=64:=ω;have HPk:=ι (HP.o k hke);clear HP;obtain⟨i0,hi,hz0,hz1,hz2⟩:=jA xSk
   have HO:Hid (uG wr w.heap.size (.slice (some ⟨w.heap.size,0,none⟩) k (64+s.size)) ((xKv l b k).take k)):=ι (by
    have h:=uG.head hr.o.1 k w.heap.size ν (by rw[HXL.o,HL.o];omega) (by rw[HXL.o,HL.o];omega);rw[HXL.o,HL.o] at h;exact h)
   have HTL:Hid (((xKv l b k).take k).length=k):=ι (by rw[List.length_take,HXL.o,HL.o];omega);have HBW:=ι hr.o.2;clear hr;generalize (xKv l b k).take k=hd at HO HTL HPk;subst hke;clear hk hlt
   have HO2:Hid (wr.ownsRow w.heap.size 5 1 (.slice (some ⟨w.heap.size,0,none⟩) 64 (64+s.size)) 64 (hd.map λc=>Value.int .u8 (c.toNat:Int))):=ι (by have h:=HO.o.row;rw[HTL.o] at h;exact h);have HS:=ι hs
   go_wp2_with (at_builtin;refine xFf rfl _ _ 125 9 rfl w.heap.size 5 i0 underlying125 underlying9 hi hz0 hz1 hz2 w.heap.size 64 (64+s.size) _ rfl HO2.o s rfl (by have:=HS.o;unfold maxLen;omega) (by have:=HS.o;omega) HBW.o.size ?_;intro v3 w3 hown hgrow hloc;have h7:=uG.text (l:=hd++s.data.toList) (uG.of (by rw[HTL.o,hsl];exact hown));have h8:=ι (HBW.o.grown hgrow HBW.o.size (λk hk=>by injection hk with hk;omega));clear hown hgrow hloc)
   rw[<-HPk.o];go_ret;exact⟨rfl,h8.o⟩
end Go.Proofs.SH
namespace Mailsack
def bsA (l:Bs):ByteArray:=⟨l.toArray⟩
def jI (key:ByteArray):ByteArray:=if 64<key.size then bsA (xH7 key) else key
def xTi (key s:ByteArray):Bs:=xH7 (bsA (xBg (jI key).data.toList 92 (xH7 (bsA (xBg (jI key).data.toList 54 s.data.toList)))))
theorem yN (l:Bs):(bsA l).size=l.length:=by simp[bsA,ByteArray.size]
theorem xCu (key:ByteArray):(jI key).size<=64:=by
 unfold jI;split
 ·rw[yN,xB3];decide
 ·omega
theorem xF7 (key s:ByteArray):(xTi key s).length=32:=xB3 _
end Mailsack
namespace Go.Proofs.SH
open Go.RowKit Mailsack MM BB
theorem xF4 (key s:ByteArray) (w:World) (hk:key.size<=1099511627776) (hs:s.size<=1099511627776) (hT:vT w):
  Calls prog 254 #[.string key,.string s] w λe w'=>e=.returned (xR (xTi key s))/\ψ w w':=by
 have HT:=ι hT;have HM:Hid (∀W,Calls prog 328 #[.string (jI key),.int .u8 54,.string s] W λe w'=>e=.returned (.string (bsA (xBg (jI key).data.toList 54 s.data.toList)))/\ψ W w'):=ι (λW=>xPs (jI key) s 54 W (xCu key) hs)
 have HS:Hid (∀W,vT W->Calls prog 263 #[.string (bsA (xBg (jI key).data.toList 54 s.data.toList))] W λe w'=>e=.returned (.string (bsA (xH7 (bsA (xBg (jI key).data.toList 54 s.data.toList)))))/\ψ W w'):=ι (λW hW=>xFn _ W (by
  rw[yN,xLw _ _ _ (by have:=xCu key;simpa using this)];have:s.data.toList.length=s.size:=σ;omega) hW)
 have HM2:Hid (∀W,Calls prog 328 #[.string (jI key),.int .u8 92,.string (bsA (xH7 (bsA (xBg (jI key).data.toList 54 s.data.toList))))] W λe w'=>e=.returned (.string (bsA (xBg (jI key).data.toList 92 (xH7 (bsA (xBg (jI key).data.toList 54 s.data.toList))))))/\ψ W w'):=ι (λW=>xPs (jI key) _ 92 W (xCu key) (by rw[yN,xB3];decide))
 have HS2:Hid (∀W,vT W->Calls prog 263 #[.string (bsA (xBg (jI key).data.toList 92 (xH7 (bsA (xBg (jI key).data.toList 54 s.data.toList)))))] W λe w'=>e=.returned (xR (xTi key s))/\ψ W w'):=ι (λW hW=>xFn _ W (by
  rw[yN,xLw _ _ _ (by have:=xCu key;simpa using this),xB3]
  decide) hW)
 have HK:Hid (∀W,vT W->Calls prog 263 #[.string key] W λe w'=>e=.returned (.string (bsA (xH7 key)))/\ψ W w'):=ι (λW hW=>xFn key W ω hW);generalize bsA (xBg (jI key).data.toList 54 s.data.toList)=x1 at HM HS HM2 HS2;generalize bsA (xH7 x1)=x2 at HS HM2 HS2
 generalize bsA (xBg (jI key).data.toList 92 (xH7 x1))=x3 at HM2 HS2;clear hT hs
 by_cases h:64<key.size
 ·have hkey:Hid (jI key=bsA (xH7 key)):=ι (by unfold jI;rw[if_pos h]);rw[<-hkey.o] at HK;generalize jI key=k1 at HM HM2 HK;go_enter func254,ntmps254;go_wp2_with fail
  refine(HK.o _ HT.o).mono ?_;rintro e w1 ⟨rfl,hb1⟩;have B1:=ι hb1;clear hb1 h hk;go_wp2_with fail
  refine(HM.o _).mono ?_;rintro e w2 ⟨rfl,hb2⟩;have B2:=ι (B1.o.trans (hb2.mono B1.o.size));clear hb2 B1;go_wp2_with fail
  refine(HS.o _ (HT.o.below B2.o ν)).mono ?_;rintro e w3 ⟨rfl,hb3⟩;have B3:=ι (B2.o.trans (hb3.mono B2.o.size));clear hb3 B2;go_wp2_with fail
  refine(HM2.o _).mono ?_;rintro e w4 ⟨rfl,hb4⟩;have B4:=ι (B3.o.trans (hb4.mono B3.o.size));clear hb4 B3;go_wp2_with fail
  refine(HS2.o _ (HT.o.below B4.o ν)).mono ?_;rintro e w5 ⟨rfl,hb5⟩;go_wp2;go_ret;exact⟨rfl,B4.o.trans (hb5.mono B4.o.size)⟩
 ·have hkey:jI key=key:=by unfold jI;rw[if_neg h]
  rw[hkey] at HM HM2;have B1:=ι (Below.refl w.heap.size w);clear hkey HK;go_enter func254,ntmps254;go_wp2_with fail
  refine(HM.o _).mono ?_;rintro e w2 ⟨rfl,hb2⟩;have B2:=ι (B1.o.trans (hb2.mono B1.o.size));clear hb2 B1 h hk;go_wp2_with fail
  refine(HS.o _ (HT.o.below B2.o ν)).mono ?_;rintro e w3 ⟨rfl,hb3⟩;have B3:=ι (B2.o.trans (hb3.mono B2.o.size));clear hb3 B2;go_wp2_with fail
  refine(HM2.o _).mono ?_;rintro e w4 ⟨rfl,hb4⟩;have B4:=ι (B3.o.trans (hb4.mono B3.o.size));clear hb4 B3;go_wp2_with fail
  refine(HS2.o _ (HT.o.below B4.o ν)).mono ?_;rintro e w5 ⟨rfl,hb5⟩;go_wp2;go_ret;exact⟨rfl,B4.o.trans (hb5.mono B4.o.size)⟩
def xGg (a b:ByteArray):Nat->Int
 |0=>0
 |k+1=>bits .or .u8 (xGg a b k) (bits .xor .u8 (yQ a k) (yQ b k))
def rX (a b:ByteArray):Bool:=decide (a.size=b.size)&&(xGg a b a.size==0)
theorem xOh (a b:ByteArray):∀k,0<=xGg a b k/\xGg a b k<256
 |0=>by unfold xGg;exact⟨δ,δ⟩
 |_+1=>xAz _ _ _
theorem xJ6 (a b:ByteArray) (w:World) (ha:a.size<=1099511627776):
  Calls prog 165 #[.string a,.string b] w λe w'=>e=.returned (.bool (rX a b))/\ψ w w':=by
 by_cases h:a.size=b.size
 ·have HP:Hid (∀n,n=a.size->rX a b=(xGg a b n==0)):=ι (λn hn=>by unfold rX;rw[hn];simp[h]);have h2:((a.size:Int)!=(b.size:Int))=false:=by simp[h]
  have hbs:b.size=a.size:=h.symm;have HBS:=ι hbs;clear h hbs;go_enter func165,ntmps165;go_wp2_with fail
  clear h2
  go_loopw [5,14] (λdv iv wr=>∃k:Nat,k<=a.size/\iv=.int .i64 k/\dv=.int .u8 (xGg a b k)/\Hid (ψ w wr)) (λ_ iv _=>a.size- (intOf iv).toNat)
  case atStart=>exact⟨0,Nat.zero_le _,rfl,rfl,ι (Below.refl _ _)⟩
  case round=>
   obtain⟨k,hk,rfl,rfl,hb⟩:=hrel
   by_cases hlt:k<a.size
   ·have i0:=λw=>zL (P:=prog) underlying9 a (k:Int) k rfl hlt w;have i1:=λw=>zL (P:=prog) underlying9 b (k:Int) k rfl (by rw[HBS.o];exact hlt) w;have r0:=yR a k;have r1:=yR b k;have rd:=xOh a b k
    have HK:Hid (bits .or .u8 (xGg a b k) (bits .xor .u8 (yQ a k) (yQ b k))=xGg a b (k+1)):=ι rfl;generalize yQ a k=x at i0 r0 HK;generalize yQ b k=y at i1 r1 HK;generalize xGg a b k=d at rd HK⊢;obtain⟨r00,r01⟩:=r0;obtain⟨r10,r11⟩:=r1;obtain⟨rd0,rd1⟩:=rd
    go_upto_region 7 with fail
    go_quiet (fail)
    clear i0 i1;rw[HK.o];have HB:=ι (below_drewN hb.o nq);go_wp2;exact⟨⟨k+1,ω,by go_num,rfl,HB⟩,by simp[intOf];omega⟩
   ·have hke:k=a.size:=ω;have HPk:=ι (HP.o k hke);clear HP;generalize xGg a b k=d at HPk⊢;subst hke;clear hk hlt;go_wp2;go_ret;exact⟨by rw[HPk.o];rfl,hb.o⟩
 ·have HP:Hid (rX a b=false):=ι (by unfold rX;simp[h]);have h2:((a.size:Int)!=(b.size:Int))=true:=by simp;omega
  have h3:((a.size:Int)≠(b.size:Int)):=ω;clear h;go_enter func165,ntmps165;go_wp2;go_ret;exact⟨by rw[HP.o];rfl,Below.refl _ _⟩
end Go.Proofs.SH
namespace Mailsack
def xAv (ex info:ByteArray):Nat->ByteArray
 |0=>⟨#[]⟩
 |k+1=>bsA (xTi ex (xAv ex info k++info++bsA [oct (k+1)]))
def xGe (ex info:ByteArray):Nat->Bs
 |0=>[]
 |k+1=>xGe ex info k++(xAv ex info (k+1)).data.toList
def xK7 (secret xI info:ByteArray) (n:Nat):Bs:=(xGe (bsA (xTi xI secret)) info ((n+31) / 32)).take n
theorem xDz (ex info:ByteArray) (k:Nat):(xAv ex info (k+1)).size=32:=by
 unfold xAv;rw[yN,xF7]
theorem yAk (ex info:ByteArray):∀k,(xAv ex info k).size<=32
 |0=>by unfold xAv;decide
 |k+1=>by rw[xDz];exact Nat.le_refl _
theorem xD2 (ex info:ByteArray):∀k,(xGe ex info k).length=32*k
 |0=>rfl
 |k+1=>by
  have h:(xAv ex info (k+1)).data.toList.length=32:=by
   have:=xDz ex info k;simpa using this
  unfold xGe;rw[List.length_append,xD2 ex info k,h];omega
theorem xGd (secret xI info:ByteArray) (n:Nat):(xK7 secret xI info n).length=n:=by
 unfold xK7;rw[List.length_take,xD2];omega
end Mailsack
namespace Go.Proofs.SH
open Go.RowKit Mailsack MM BB
theorem uG.at {w:World} {base:Nat} {v:Value} {l:Bs} (h:uG w base v l) (h0:0<l.length):∃g cap,v=.slice (some ⟨g,0,none⟩) l.length cap/\l.length<=cap:=by
 rcases h.2 with ⟨_,h2⟩|⟨g,cap,cur,h1,_,_,h2,_⟩
 ·omega
 ·exact⟨g,cap,h1,h2⟩
theorem uG.part {w:World} {base g n cap:Nat} {l:Bs} (h:uG w base (.slice (some ⟨g,0,none⟩) l.length cap) l) (hn:n<=l.length):(convert 125 9 (.slice (some ⟨g,0,none⟩) n cap)).run prog w=.ok (xR (l.take n)) w:=by
 have h1:=run_convert_bytes_back (P:=prog) w 125 9 5 ⟨g,0,none⟩ cap (l.take n) underlying125 underlying5 underlying9 (λj hj=>by
  have hj':j<l.length:=by rw[List.length_take] at hj;omega
  have:=World.ownsRow.cells h (g:=g) rfl j _ (by simp[hj'];rfl);rw[this,List.getElem_take])
 rw[List.length_take,Nat.min_eq_left hn] at h1;exact h1
theorem xXi (c:Int) (hc:0<=c) (hc2:c<256) (W:World):(convert 125 9 (.slice (some ⟨W.heap.size,0,none⟩) 1 1)).run prog (W.alloc (.cells #[.int .u8 c] 5))=.ok (.string (bsA [oct c])) (W.alloc (.cells #[.int .u8 c] 5)):=by
 refine run_convert_bytes_back (P:=prog) (W.alloc (.cells #[.int .u8 c] 5)) _ _ 5 ⟨W.heap.size,0,none⟩ 1 [oct c] underlying125 underlying5 underlying9 (λj hj=>?_);have hj0:j=0:=by simpa using hj
 subst hj0;have:=cell_one_new W (.int .u8 c) 5 0 _ rfl;rw[this];simp[qK];omega
theorem xK6 (secret xI info:ByteArray) (n:Nat) (w:World) (h1:secret.size<=1099511627776) (h2:xI.size<=1099511627776) (h3:info.size<=1000000) (hn:n<=8160) (hT:vT w):
  Calls prog 163 #[.string secret,.string xI,.string info,.int .i64 n] w λe w'=>e=.returned (.tuple #[xR (xK7 secret xI info n),.int .i64 0])/\ψ w w':=by
 have HT:=ι hT;have HE:Hid (∀W,vT W->Calls prog 254 #[.string xI,.string secret] W λe w'=>e=.returned (.string (bsA (xTi xI secret)))/\ψ W w'):=ι (λW hW=>xF4 xI secret W h2 h1 hW);have HP:Hid (xK7 secret xI info n=(xGe (bsA (xTi xI secret)) info ((n+31) / 32)).take n):=ι rfl
 have hex:(bsA (xTi xI secret)).size=32:=by rw[yN,xF7]
 have HX:=ι hex;generalize bsA (xTi xI secret)=ex at HE HP hex HX;have HMK:=ι (λW:World=>made W 0 (n+32) ω ω);obtain⟨i0,hi,hz0,hz1,hz2⟩:=jA xSk;have HN:=ι hn;clear hex h1 h2;go_enter func163,ntmps163;go_wp2_with fail
 refine(HE.o _ HT.o).mono ?_;rintro e w1 ⟨rfl,hb1⟩;have B1:=ι hb1;clear hb1 HE;have hmk:∀W:World,(Instr.makeSlice 125 (.int .i64 0) (.int .i64 ((n:Int)+32))).run prog W=.ok (.slice (some ⟨W.heap.size,0,none⟩) 0 (n+32)) (W.alloc (.cells (yE (xP (n+32))) 5)):=HMK.o
 have HO0:=ι (uG.room w1 (n+32) w.heap.size B1.o.size ω);have B2:=ι (B1.o.alloc B1.o.size (.cells (yE (xP (n+32))) 5));go_wp2_with fail
 clear hmk HMK
 go_loopw [11,12,13] (λov lv cv wr=>∃(k g cap:Nat),32*k<n+32/\ov=.slice (some ⟨g,0,none⟩) (32*k) cap/\32*k<=cap/\lv=.string (xAv ex info k)/\cv=.int .u8 (((k:Int)+1) % 256)/\Hid (uG wr w.heap.size (.slice (some ⟨g,0,none⟩) (32*k) cap) (xGe ex info k))/\Hid (ψ w wr)) (λov _ _ _=>match ov with|.slice _ m _=>n+32-m|_=>0)
 case atStart=>exact⟨0,w1.heap.size,n+32,ω,rfl,ω,rfl,rfl,HO0,B2⟩
 case round=>
  obtain⟨k,g,cap,hk,rfl,hcap,rfl,rfl,ho,hb⟩:=hrel;clear HO0 B2
  by_cases hlt:32*k<n
  ·have HKS:Hid (xAv ex info (k+1)=bsA (xTi ex (xAv ex info k++info++bsA [oct ((k:Int)+1)]))):=ι rfl;have HOS:Hid (xGe ex info (k+1)=xGe ex info k++(xAv ex info (k+1)).data.toList):=ι rfl;have HKZ:=ι (xDz ex info k);have hKl:=yAk ex info k;have HOL:=ι (xD2 ex info k)
   have hc:((k:Int)+1) % 256=(k:Int)+1:=ω;rw[hc];have hcv:=xXi ((k:Int)+1) ω ω;have hcb:(bsA [oct ((k:Int)+1)]).size=1:=by rw[yN];rfl
   generalize bsA [oct ((k:Int)+1)]=cb at hcv HKS hcb;have nb1:¬(9223372036854775807<(xAv ex info k).size+info.size):=ω;have nb2:¬(9223372036854775807<(xAv ex info k++info).size+cb.size):=by rw[ByteArray.size_append];omega
   have HS:Hid (∀W,vT W->Calls prog 254 #[.string ex,.string (xAv ex info k++info++cb)] W λe w'=>e=.returned (.string (xAv ex info (k+1)))/\ψ W w'):=ι (λW hW=>by
    rw[HKS.o];exact xF4 ex _ W (by rw[HX.o];decide) (by rw[ByteArray.size_append,ByteArray.size_append];omega) hW)
   have HKW:=ι hlt;generalize xAv ex info k=l0 at nb1 nb2 HS HKS⊢;obtain⟨l1,hl1⟩:∃l1,xAv ex info (k+1)=l1:=⟨_,rfl⟩;rw[hl1] at HS HKS HKZ HOS;have HL1:=ι hl1;clear hl1;generalize xGe ex info k=acc at ho HOS HOL;clear hKl hcb h3 hn;go_wp2_with fail
   refine(HS.o _ ((HT.o.below (hb.o.alloc hb.o.size (.cells #[.int .u8 ((k:Int)+1)] 5)) ν))).mono ?_;rintro e w3 ⟨rfl,hb3⟩;have HO3:=ι ((ho.o.alloc (.cells #[.int .u8 ((k:Int)+1)] 5)).below hb3)
   have HB3:=ι ((hb.o.alloc hb.o.size (.cells #[.int .u8 ((k:Int)+1)] 5)).trans (hb3.mono (hb.o.alloc hb.o.size (.cells #[.int .u8 ((k:Int)+1)] 5)).size));clear hb3 nb1 nb2 hcv HS hb ho
   have HO2:Hid (w3.ownsRow w.heap.size 5 1 (.slice (some ⟨g,0,none⟩) (32*k) cap) (32*k) (acc.map λc=>Value.int .u8 (c.toNat:Int))):=ι (by have h:=HO3.o.row;rw[HOL.o] at h;exact h)
   go_wp2_with (at_builtin;refine xFf rfl _ _ 125 9 rfl w.heap.size 5 i0 underlying125 underlying9 hi hz0 hz1 hz2 g (32*k) cap _ rfl HO2.o l1 rfl (by have:=HKZ.o;have:=HN.o;have:=HKW.o;unfold maxLen;omega) (by have:=HKZ.o;have:=HN.o;have:=HKW.o;omega) HB3.o.size ?_;intro v4 w4 hown hgrow hloc;have h7:=ι (uG.of (l:=acc) (m:=l1.data.toList) (by rw[HOL.o,show l1.data.toList.length=l1.size by simp];exact hown));have h8:=ι (HB3.o.grown hgrow HB3.o.size (λq hq=>World.ownsRow.lt HO2.o q hq |>.1));clear hown hgrow hloc)
   have hlen:(acc++l1.data.toList).length=32*(k+1):=by
    rw[List.length_append,HOL.o,show l1.data.toList.length=l1.size by simp,HKZ.o];omega
   obtain⟨g4,cap4,hv4,hcap4⟩:=uG.at h7.o (by rw[hlen];omega);rw[hlen] at hv4 hcap4;subst hv4;exact⟨⟨k+1,g4,cap4,ω,rfl,hcap4,by rw[HL1.o],by rw[show((k:Int)+1+1)=(((k+1:Nat):Int)+1) by omega],ι (by rw[HOS.o];exact h7.o),h8⟩,by show n+32-32*(k+1)<n+32-32*k;omega⟩
  ·have HOL:=ι (xD2 ex info k)
   have HPk:Hid (xK7 secret xI info n=(xGe ex info k).take n):=ι (by
    have hke:(n+31) / 32=k:=ω;rw[HP.o,hke])
   clear HP;generalize xGe ex info k=acc at ho HOL HPk
   have ht:(convert 125 9 (.slice (some ⟨g,0,none⟩) n cap)).run prog wr=.ok (xR (xK7 secret xI info n)) wr:=by
    rw[HPk.o];have h:=ho.o;rw[<-HOL.o] at h;exact uG.part h (by rw[HOL.o];omega)
   go_wp2;go_ret2;exact⟨rfl,hb.o⟩
end Go.Proofs.SH
namespace Mailsack
def xGf (xs:List Int):List Int:=pY (pY (pY (pY (pY (pY (pY (pY (xs) 0 4 8 12) 1 5 9 13) 2 6 10 14) 3 7 11 15) 0 5 10 15) 1 6 11 12) 2 7 8 13) 3 4 9 14
theorem xOf (xs:List Int):(xGf xs).length=16:=jX _ _ _ _ _
theorem xXe {xs:List Int} (h:jH xs):jH (xGf xs):=jG (jG (jG (jG (jG (jG (jG (jG h _ _ _ _) _ _ _ _) _ _ _ _) _ _ _ _) _ _ _ _) _ _ _ _) _ _ _ _) _ _ _ _
def jN (ws:List Int):Nat->List Int
 |0=>ws
 |k+1=>xGf (jN ws k)
theorem xMb {ws:List Int} (h:ws.length=16):∀k,(jN ws k).length=16
 |0=>h
 |_+1=>xOf _
theorem xIj {ws:List Int} (h:jH ws):∀k,jH (jN ws k)
 |0=>h
 |k+1=>xXe (xIj h k)
def xY9 (l:Bs) (i:Nat) (x:Int):Nat->Bs
 |0=>l
 |j+1=>(xY9 l i x j).set (4*i+j) (oct (x / 2^(8*j)))
def xTh (ws xs:List Int):Nat->Bs
 |0=>xP 64
 |i+1=>xY9 (xTh ws xs i) i ((xs.getD i 0+ws.getD i 0) % 4294967296) 4
def xA4 (ws:List Int):Bs:=xTh ws (jN ws 10) 16
theorem xJi (l:Bs) (i:Nat) (x:Int):∀j,(xY9 l i x j).length=l.length
 |0=>rfl
 |j+1=>by simp[xY9,xJi l i x j]
theorem xF3 (ws xs:List Int):∀i,(xTh ws xs i).length=64
 |0=>yO 64
 |i+1=>by unfold xTh;rw[xJi,xF3 ws xs i]
theorem xBy (ws:List Int):(xA4 ws).length=64:=xF3 _ _ _
end Mailsack
namespace Go.Proofs.SH
open Go.RowKit Mailsack MM BB
structure FnI (w:World) (ws xs:List Int) (W:World):Prop where
 b1:W.heap[w.heap.size]?=some (.cells (yV ws) 311 (0,0))
 b2:W.heap[w.heap.size+1]?=some (.cells (yE (xP 64)) 314 (0,0))
 b3:W.heap[w.heap.size+2]?=some (.cells (yV xs) 311 (0,0))
 bel:ψ w W
theorem FnI.turned {w:World} {ws xs ys:List Int} {W W':World} (h:FnI w ws xs W) (hst:W'.heap[w.heap.size+2]?=some (.cells (yV ys) 311 (0,0))) (hg:W.grownBy W' (some (w.heap.size+2))):FnI w ws ys W':=
 ⟨vR h.b1 hg σ,vR h.b2 hg σ,hst,h.bel.grown hg h.bel.size (λk hk=>by injection hk with hk;omega)⟩
theorem xIg (ws:List Int) (w:World) (hl:ws.length=16) (hu:jH ws):
  Calls prog 260 #[.agg (yV ws)] w λe w'=>e=.returned (.agg (yE (xA4 ws)))/\ψ w w':=by
 have HL:=ι (λk=>xMb hl k);have HU:=ι (λk=>xIj hu k);have HI:Hid ((prog.info? 311).map (·.size)=some (yV ws).size):=ι (by rw[yY,hl];kernel_rfl);have HZ:Hid ((yV (List.replicate 16 0)).size=(yV ws).size):=ι (by rw[yY,yY,hl,List.length_replicate])
 have HB:Hid (FnI w ws (jN ws 0) ((((w.alloc (.cells (yV ws) 311)).alloc (.cells (yE (xP 64)) 314)).alloc (.cells (yV (List.replicate 16 0)) 311)).setRow (w.heap.size+1+1) (yV ws))):=ι (by
  have h0:=xM ((w.alloc (.cells (yV ws) 311)).alloc (.cells (yE (xP 64)) 314)) (.cells (yV (List.replicate 16 0)) 311);simp only[vD] at h0;refine⟨?_,?_,setRow_heap _ _ _ _ _ _ h0,below_setRow (((φ w _).alloc σ _).alloc (by simp;omega) _) ω _⟩
  ·rw[setRow_other _ _ _ _ ω];exact xO (zV _ _ _) _
  ·rw[setRow_other _ _ _ _ ω];exact xO (zK _ _ _) _)
 have HDS:Hid (∀k,jN ws (k+1)=xGf (jN ws k)):=ι (λk=>rfl);go_enter func260,ntmps260;go_upto_region 1 with fail
 refine wp_region_lit ?_;refine wpList_load_row rfl _ _ rfl w.heap.size rfl _ (yV ws) (0,0) _ (zV _ _ _) underlying311 rfl HI.o ?_;iterate 3 go_step
 refine wpList_store_row rfl _ _ _ rfl (w.heap.size+1+1) (yV ws) rfl rfl _ (yV (List.replicate 16 0)) (by have h:=xM ((w.alloc (.cells (yV ws) 311)).alloc (.cells (yE (xP 64)) 314)) (.cells (yV (List.replicate 16 0)) 311);simp only[vD] at h;exact h) HI.o HZ.o (tZ ws) ?_
 refine(λ(h:∀W3,Hid (FnI w ws (jN ws 0) W3)->wpList _ _ _ _ _ W3)=>h _ HB) ?_;intro w3 hw3;clear HB HZ;go_wp2_with fail
 go_loopw [9] (λiv wr=>∃k:Nat,k<=10/\iv=.int .i64 k/\Hid (FnI w ws (jN ws k) wr)) (λiv _=>10- (intOf iv).toNat)
 case atStart=>exact⟨0,δ,rfl,hw3⟩
 case round=>
  obtain⟨k,hk,rfl,hr0⟩:=hrel;clear hw3
  by_cases hlt:k<10
  ·have hl0:=HL.o k;have hu0:=HU.o k;have HD:=HDS.o k;generalize jN ws k=x0 at hr0 hl0 hu0 HD;unfold xGf at HD
   rename World=>wr0
   go_wp2_with fail
   refine(tQ x0 (w.heap.size+2) 0 4 8 12 wr0 hr0.o.b3 hl0 hu0 δ δ δ δ δ).mono ?_;rintro e wr1 ⟨rfl,hst,hgr⟩;obtain⟨x1,hx1⟩:∃x,pY x0 0 4 8 12=x:=⟨_,rfl⟩;have hl1:x1.length=16:=hx1▸jX _ _ _ _ _;have hu1:jH x1:=hx1▸jG hu0 _ _ _ _;rw[hx1] at hst HD
   have hr1:=ι (hr0.o.turned hst hgr);clear hst hgr hx1 hr0 hl0 hu0;go_wp2_with fail
   refine(tQ x1 (w.heap.size+2) 1 5 9 13 wr1 hr1.o.b3 hl1 hu1 δ δ δ δ δ).mono ?_;rintro e wr2 ⟨rfl,hst,hgr⟩;obtain⟨x2,hx2⟩:∃x,pY x1 1 5 9 13=x:=⟨_,rfl⟩;have hl2:x2.length=16:=hx2▸jX _ _ _ _ _;have hu2:jH x2:=hx2▸jG hu1 _ _ _ _;rw[hx2] at hst HD
   have hr2:=ι (hr1.o.turned hst hgr);clear hst hgr hx2 hr1 hl1 hu1;go_wp2_with fail
   refine(tQ x2 (w.heap.size+2) 2 6 10 14 wr2 hr2.o.b3 hl2 hu2 δ δ δ δ δ).mono ?_;rintro e wr3 ⟨rfl,hst,hgr⟩;obtain⟨x3,hx3⟩:∃x,pY x2 2 6 10 14=x:=⟨_,rfl⟩;have hl3:x3.length=16:=hx3▸jX _ _ _ _ _;have hu3:jH x3:=hx3▸jG hu2 _ _ _ _;rw[hx3] at hst HD
   have hr3:=ι (hr2.o.turned hst hgr);clear hst hgr hx3 hr2 hl2 hu2;go_wp2_with fail
   refine(tQ x3 (w.heap.size+2) 3 7 11 15 wr3 hr3.o.b3 hl3 hu3 δ δ δ δ δ).mono ?_;rintro e wr4 ⟨rfl,hst,hgr⟩;obtain⟨x4,hx4⟩:∃x,pY x3 3 7 11 15=x:=⟨_,rfl⟩;have hl4:x4.length=16:=hx4▸jX _ _ _ _ _;have hu4:jH x4:=hx4▸jG hu3 _ _ _ _;rw[hx4] at hst HD
   have hr4:=ι (hr3.o.turned hst hgr);clear hst hgr hx4 hr3 hl3 hu3;go_wp2_with fail
   refine(tQ x4 (w.heap.size+2) 0 5 10 15 wr4 hr4.o.b3 hl4 hu4 δ δ δ δ δ).mono ?_;rintro e wr5 ⟨rfl,hst,hgr⟩;obtain⟨x5,hx5⟩:∃x,pY x4 0 5 10 15=x:=⟨_,rfl⟩;have hl5:x5.length=16:=hx5▸jX _ _ _ _ _;have hu5:jH x5:=hx5▸jG hu4 _ _ _ _;rw[hx5] at hst HD
   have hr5:=ι (hr4.o.turned hst hgr);clear hst hgr hx5 hr4 hl4 hu4;go_wp2_with fail
   refine(tQ x5 (w.heap.size+2) 1 6 11 12 wr5 hr5.o.b3 hl5 hu5 δ δ δ δ δ).mono ?_;rintro e wr6 ⟨rfl,hst,hgr⟩;obtain⟨x6,hx6⟩:∃x,pY x5 1 6 11 12=x:=⟨_,rfl⟩;have hl6:x6.length=16:=hx6▸jX _ _ _ _ _;have hu6:jH x6:=hx6▸jG hu5 _ _ _ _;rw[hx6] at hst HD
   have hr6:=ι (hr5.o.turned hst hgr);clear hst hgr hx6 hr5 hl5 hu5;go_wp2_with fail
   refine(tQ x6 (w.heap.size+2) 2 7 8 13 wr6 hr6.o.b3 hl6 hu6 δ δ δ δ δ).mono ?_;rintro e wr7 ⟨rfl,hst,hgr⟩;obtain⟨x7,hx7⟩:∃x,pY x6 2 7 8 13=x:=⟨_,rfl⟩;have hl7:x7.length=16:=hx7▸jX _ _ _ _ _;have hu7:jH x7:=hx7▸jG hu6 _ _ _ _;rw[hx7] at hst HD
   have hr7:=ι (hr6.o.turned hst hgr);clear hst hgr hx7 hr6 hl6 hu6;go_wp2_with fail
   refine(tQ x7 (w.heap.size+2) 3 4 9 14 wr7 hr7.o.b3 hl7 hu7 δ δ δ δ δ).mono ?_;rintro e wr8 ⟨rfl,hst,hgr⟩;obtain⟨x8,hx8⟩:∃x,pY x7 3 4 9 14=x:=⟨_,rfl⟩;have hl8:x8.length=16:=hx8▸jX _ _ _ _ _;have hu8:jH x8:=hx8▸jG hu7 _ _ _ _;rw[hx8] at hst HD
   have hr8:=ι (hr7.o.turned hst hgr);clear hst hgr hx8 hr7 hl7 hu7;have HDk:=ι HD;clear HD hl8 hu8;go_wp2;exact⟨⟨k+1,ω,by go_num,ι (by rw[HDk.o];exact hr8.o)⟩,by simp[intOf];omega⟩
  ·have hke:k=10:=ω;have HPk:Hid (∀m,m=16->xA4 ws=xTh ws (jN ws k) m):=ι (λm hm=>by rw[hke,hm];rfl);have hxl:=HL.o k;have hxu:=HU.o k;have hneg:¬((k:Int)<10):=ω;generalize jN ws k=xs at hr0 HPk hxl hxu;have HXU:=ι hxu;have HWU:=ι hu
   have HIx:Hid ((prog.info? 311).map (·.size)=some (yV xs).size):=ι (by rw[yY,hxl];kernel_rfl)
   have HO:Hid (FnI w ws xs (wr.alloc (.cells (yE (xP 64)) 314))/\(wr.alloc (.cells (yE (xP 64)) 314)).heap[wr.heap.size]?=some (.cells (yE (xTh ws xs 0)) 314 (0,0))):=ι ⟨⟨xO hr0.o.b1 _,xO hr0.o.b2 _,xO hr0.o.b3 _,hr0.o.bel.alloc hr0.o.bel.size _⟩,xM _ _⟩
   have HG:Hid (w.heap.size+2<wr.heap.size):=ι (xH hr0.o.b3);have HB3:=ι (xO hr0.o.b3 (.cells (yE (xP 64)) 314));clear HL HU HDS hke hlt hk hxu hu hr0;go_upto_region 14 with fail
   refine wp_region_lit ?_;refine wpList_load_row rfl _ _ rfl (w.heap.size+1+1) rfl _ (yV xs) (0,0) _ HB3.o underlying311 rfl HIx.o ?_;refine(λ(h:∀W3,Hid (FnI w ws xs W3/\W3.heap[wr.heap.size]?=some (.cells (yE (xTh ws xs 0)) 314 (0,0)))->wpList _ _ _ _ _ W3)=>h _ HO) ?_
   intro w4 hw4;generalize wr.heap.size=g4 at HG hw4⊢;clear HO HB3 hneg;go_wp2_with fail
   go_loopw [21] (λiv W=>∃i:Nat,i<=16/\iv=.int .i64 i/\Hid (FnI w ws xs W/\W.heap[g4]?=some (.cells (yE (xTh ws xs i)) 314 (0,0)))) (λiv _=>16- (intOf iv).toNat)
   case atStart=>exact⟨0,δ,rfl,hw4⟩
   case round=>
    clear hw4
    rename World=>wi
    obtain⟨i,hi,rfl,hr⟩:=hrel
    by_cases hlt:i<16
    ·have HOS:Hid (∀m,m=4->xTh ws xs (i+1)=xY9 (xTh ws xs i) i ((xs.getD i 0+ws.getD i 0) % 4294967296) m):=ι (λm hm=>by rw[hm];rfl);have HOL:=ι (xF3 ws xs i);have HJL:=ι (λ(l:Bs) (x:Int) (j:Nat)=>xJi l i x j);obtain⟨x,hx⟩:∃x,xs.getD i 0=x:=⟨_,rfl⟩
     obtain⟨s,hs⟩:∃s,ws.getD i 0=s:=⟨_,rfl⟩;have ux:=HXU.o i;have us:=HWU.o i;rw[hx] at ux HOS;rw[hs] at us HOS;have ix:=λW=>wV (P:=prog) underlying311 underlying228 κ (yV xs) (.int .u32 x) i hlt (by rw[uL ω,hx]) W
     have q0:wi.cell? ⟨w.heap.size,i,none⟩=some (.int .u32 s):=by rw[xA hr.o.1.b1,uL ω,hs]
     obtain⟨x0,x1⟩:=ux;obtain⟨s0,s1⟩:=us;clear hx hs;generalize xTh ws xs i=acc at hr HOS HOL;go_upto_region 18 with fail
     clear ix q0;have hz:=wF (x+s);generalize (x+s) % 4294967296=z at HOS hz⊢;obtain⟨z0,z1⟩:=hz;clear x0 x1 s0 s1;go_wp2_with fail
     go_loopw [30] (λjv W=>∃j:Nat,j<=4/\jv=.int .i64 j/\Hid (FnI w ws xs W/\W.heap[g4]?=some (.cells (yE (xY9 acc i z j)) 314 (0,0)))) (λjv _=>4- (intOf jv).toNat)
     case atStart=>exact⟨0,δ,rfl,hr⟩
     case round=>
      clear hr
      rename World=>wj
      obtain⟨j,hj,rfl,hr⟩:=hrel
      by_cases hlt2:j<4
      ·have HJS:Hid (xY9 acc i z (j+1)=(xY9 acc i z j).set (4*i+j) (oct (z / 2^(8*j)))):=ι rfl;have HJk:=HJL.o acc z j;generalize xY9 acc i z j=l at hr HJS HJk;have q1:=xA hr.o.2 (4*i+j);rw[qQ (by rw[HJk,HOL.o];omega)] at q1;have q2:=xB hr.o.2 (4*i+j)
       generalize ((l.getD (4*i+j) 0).toNat:Int)=old at q1
       have hp:Hid (FnI w ws xs (wj.setCell ⟨g4,4*i+j,none⟩ (.int .u8 (z / 2^(8*j) % 256)))/\(wj.setCell ⟨g4,4*i+j,none⟩ (.int .u8 (z / 2^(8*j) % 256))).heap[g4]?=some (.cells (yE (xY9 acc i z (j+1))) 314 (0,0))):=ι (by
        have hg:=HG.o;refine⟨⟨yC hr.o.1.b1 (p:=⟨g4,4*i+j,none⟩) (by simp;omega) _,yC hr.o.1.b2 (p:=⟨g4,4*i+j,none⟩) (by simp;omega) _,yC hr.o.1.b3 (p:=⟨g4,4*i+j,none⟩) (by simp;omega) _,hr.o.1.bel.setCell (p:=⟨g4,4*i+j,none⟩) (by simp;omega) _⟩,?_⟩
        have h:=xY hr.o.2 (4*i+j) (.int .u8 (z / 2^(8*j) % 256));rw[xD1] at h;rw[HJS.o];exact h)
       clear hr HJk;go_wp2;exact⟨⟨j+1,ω,by go_num,hp⟩,by simp[intOf];omega⟩
      ·have hje:j=4:=ω;have HOk:=ι (HOS.o j hje);have hneg:¬((j:Int)<4):=ω;clear HOS hlt2 hj hje;go_wp2;exact⟨⟨i+1,ω,by go_num,ι (by rw[HOk.o];exact hr.o)⟩,by simp[intOf];omega⟩
    ·have hie:i=16:=ω;have HPi:=ι (HPk.o i hie);have hol:=xF3 ws xs i;have hneg:¬((i:Int)<16):=ω;generalize xTh ws xs i=out at hr HPi hol;have HI8:Hid ((prog.info? 314).map (·.size)=some (yE out).size):=ι (by rw[uO,hol];kernel_rfl)
     have HZ8:Hid ((yE (xP 64)).size=(yE out).size):=ι (by rw[uO,uO,hol,yO]);have H18:Hid ((yE out).all (·.oneCell')=true):=ι (Array.all_eq_true_iff_forall_mem.2 (λv hv=>xK4 out v (by simpa using hv)));clear HPk hlt hi hie hol;go_upto_region 24 with fail
     refine wp_region_lit ?_;refine wpList_load_row rfl _ _ rfl g4 rfl _ (yE out) (0,0) _ hr.o.2 underlying314 rfl HI8.o ?_;refine wpList_store_row rfl _ _ _ rfl (w.heap.size+1) (yE out) rfl rfl _ _ hr.o.1.b2 HI8.o HZ8.o H18.o ?_;go_wp2
     refine bodyPost_ret (results_cell_row rfl _ _ (w.heap.size+1) _ _ (0,0) _ rfl (setRow_heap _ _ _ _ _ _ hr.o.1.b2) underlying314 rfl HI8.o) rfl ?_;rw[HPi.o];exact⟨rfl,below_setRow hr.o.1.bel ω _⟩
end Go.Proofs.SH
namespace Mailsack
def xOc:ByteArray:=⟨#[101,120,112,97,110,100,32,51,50,45,98,121,116,101,32,107]⟩
def pI (key xE:ByteArray) (counter:Int):List Int:=xAu ((xAu (xAu (List.replicate 16 0) 0 xOc 4) 4 key 8).set 12 counter) 13 xE 3
theorem yC4 (n:Nat):jH (List.replicate n 0):=by
 intro i;rw[List.getD_eq_getElem?_getD,List.getElem?_replicate];split<;>exact⟨δ,δ⟩
theorem xEa (key xE:ByteArray) (counter:Int):(pI key xE counter).length=16:=by
 unfold pI;rw[qG,List.length_set,qG,qG,List.length_replicate]
theorem xQr (key xE:ByteArray) {counter:Int} (h:U32 counter):jH (pI key xE counter):=xK2 ((xK2 (xK2 (yC4 16) _ _ _) _ _ _).set 12 h) _ _ _
end Mailsack
namespace Go.Proofs.SH
open Go.RowKit Mailsack MM BB
theorem results_cell_tmp {P:Program} {fn:Func} {p u:Tmp} {ty:TypeId} (h:fn.results=#[.cell p ty,.tmp u]) (tmps:Array Value) (w:World) (g:Nat) (t:TypeId) (cs:Array Value) (fr:Nat×Nat) (d:TypeDesc)
  (hp:tmps.getD p undef=.pointer (some ⟨g,0,none⟩)) (hg:w.heap[g]?=some (.cells cs t fr))
  (hu:P.underlying ty=some d) (hd:(match d with|.struct _|.array _ _=>true|_=>false)=true) (hi:(P.info? ty).map (·.size)=some cs.size):
  (results fn tmps).run P w=.ok (.tuple #[.agg cs,tmps.getD u undef]) w:=by
 have hp':tmps[p]?.getD undef=.pointer (some ⟨g,0,none⟩):=by simpa using hp
 simp[results,h,hp',asAddr,run_loadVar_row w g t ty cs fr d hg hu hd hi]
structure BegI (w:World) (xs:List Int) (W:World):Prop where
 res:W.heap[w.heap.size]?=some (.cells (yV (List.replicate 16 0)) 311 (0,0))
 st:W.heap[w.heap.size+1]?=some (.cells (yV xs) 311 (0,0))
 bel:ψ w W
theorem BegI.filled {w:World} {xs ys:List Int} {W W':World} (h:BegI w xs W) (hst:W'.heap[w.heap.size+1]?=some (.cells (yV ys) 311 (0,0))) (hg:W.grownBy W' (some (w.heap.size+1))):BegI w ys W':=
 ⟨vR h.res hg σ,hst,h.bel.grown hg h.bel.size (λk hk=>by injection hk with hk;omega)⟩
theorem xQq (key xE:ByteArray) (counter:Int) (w:World) (hk:key.size=32) (hn:xE.size=12):
  Calls prog 259 #[.string key,.string xE,.int .u32 counter] w λe w'=>e=.returned (.tuple #[.agg (yV (pI key xE counter)),.bool true])/\ψ w w':=by
 have HB:Hid (BegI w (List.replicate 16 0) ((w.alloc (.cells (yV (List.replicate 16 0)) 311)).alloc (.cells (yV (List.replicate 16 0)) 311))):=ι ⟨zV _ _ _,zK _ _ _,(φ w _).alloc σ _⟩;obtain⟨x1,hx1⟩:∃x,xAu (List.replicate 16 0) 0 xOc 4=x:=⟨_,rfl⟩
 have hl1:x1.length=16:=by rw[<-hx1,qG,List.length_replicate]
 obtain⟨x2,hx2⟩:∃x,xAu x1 4 key 8=x:=⟨_,rfl⟩;have hl2:x2.length=16:=by rw[<-hx2,qG,hl1]
 obtain⟨x3,hx3⟩:∃x,x2.set 12 counter=x:=⟨_,rfl⟩;have hl3:x3.length=16:=by rw[<-hx3,List.length_set,hl2]
 obtain⟨x4,hx4⟩:∃x,xAu x3 13 xE 3=x:=⟨_,rfl⟩;have hl4:x4.length=16:=by rw[<-hx4,qG,hl3]
 have HP:Hid (pI key xE counter=x4):=ι (by unfold pI;rw[hx1,hx2,hx3,hx4]);have F1:=ι (λW h=>tY (List.replicate 16 0) (w.heap.size+1) 0 4 16 xOc W h σ δ δ);have F2:=ι (λW h=>tY x1 (w.heap.size+1) 4 8 12 key W h ω ω δ);have F3:=ι (λW h=>tY x3 (w.heap.size+1) 13 3 3 xE W h ω ω δ)
 rw[hx1] at F1;rw[hx2] at F2;rw[hx4] at F3;have HX3:=ι hx3;have h2:((key.size:Int)!=32)=false:=by simp[hk]
 have h3:((xE.size:Int)!=12)=false:=by simp[hn]
 have HI:Hid ((prog.info? 311).map (·.size)=some (yV x4).size):=ι (by rw[yY,hl4];kernel_rfl);have HZ:Hid ((yV (List.replicate 16 0)).size=(yV x4).size):=ι (by rw[yY,yY,hl4,List.length_replicate]);have HL2:=ι hl2;clear hx1 hx2 hx3 hx4 hk hn hl1 hl3 hl4 hl2
 go_enter func259,ntmps259;go_wp2_with fail
 refine(F1.o _ HB.o.st).mono ?_;rintro e w1 ⟨rfl,hst,hgr⟩;have H1:=ι (HB.o.filled hst hgr);clear hst hgr HB F1 h2 h3;go_wp2_with fail
 refine(F2.o _ H1.o.st).mono ?_;rintro e w2 ⟨rfl,hst,hgr⟩;have H2:=ι (H1.o.filled hst hgr);clear hst hgr H1 F2;have q1:=xA H2.o.st 12;rw[uL (by rw[HL2.o];decide)] at q1;have q2:=xB H2.o.st 12;generalize x2.getD 12 0=old at q1
 have H3:Hid (BegI w x3 (w2.setCell ⟨w.heap.size+1,12,none⟩ (.int .u32 counter))):=ι (by
  refine⟨yC H2.o.res (p:=⟨w.heap.size+1,12,none⟩) σ _,?_,H2.o.bel.setCell (p:=⟨w.heap.size+1,12,none⟩) σ _⟩;have h:=xY H2.o.st 12 (.int .u32 counter);rw[xD0,HX3.o] at h;exact h)
 go_wp2_with fail
 clear q1 q2 H2;refine(F3.o _ H3.o.st).mono ?_;rintro e w4 ⟨rfl,hst,hgr⟩;have H4:=ι (H3.o.filled hst hgr);clear hst hgr H3 F3;go_upto_region 8 with fail
 refine wp_region_lit ?_;refine wpList_load_row rfl _ _ rfl (w.heap.size+1) rfl _ (yV x4) (0,0) _ H4.o.st underlying311 rfl HI.o ?_;refine wpList_store_row rfl _ _ _ rfl w.heap.size (yV x4) rfl rfl _ _ H4.o.res HI.o HZ.o (tZ x4) ?_;go_wp2
 refine bodyPost_ret (results_cell_tmp rfl _ _ w.heap.size _ _ (0,0) _ rfl (setRow_heap _ _ _ _ _ _ H4.o.res) underlying311 rfl HI.o) rfl ?_;rw[HP.o];exact⟨rfl,below_setRow H4.o.bel ν _⟩
end Go.Proofs.SH
namespace Mailsack
def xDj (key xE:ByteArray) (counter:Int):Bs:=xA4 (pI key xE counter)
end Mailsack
namespace Go.Proofs.SH
open Go.RowKit Mailsack MM BB
theorem xCd {W:World} {g:Nat} {l:Bs} {t:TypeId} (h:W.heap[g]?=some (.cells (yE l) t (0,0))) (n cap:Nat) (hn:l.length=n):(convert 125 9 (.slice (some ⟨g,0,none⟩) n cap)).run prog W=.ok (.string (bsA l)) W:=by
 subst hn
 exact run_convert_bytes_back (P:=prog) W 125 9 5 ⟨g,0,none⟩ cap l underlying125 underlying5 underlying9 (λj hj=>by
  have hadd:(⟨g,0,none⟩:Addr).add j=⟨g,j,none⟩:=by unfold Addr.add;split<;>simp_all
  rw[hadd,xA h,qQ hj,List.getD_eq_getElem?_getD,List.getElem?_eq_getElem hj]
  rfl)
theorem xOm (key xE:ByteArray) (counter:Int) (w:World) (hk:key.size=32) (hn:xE.size=12) (hc:U32 counter):
  Calls prog 255 #[.string key,.string xE,.int .u32 counter] w λe w'=>e=.returned (.tuple #[.string (bsA (xDj key xE counter)),.bool true])/\ψ w w':=by
 have HB:=ι (xQq key xE counter w hk hn);have HF:=ι (λW=>xIg (pI key xE counter) W (xEa _ _ _) (xQr _ _ hc));have hl:=xEa key xE counter;have HP:Hid (bsA (xDj key xE counter)=bsA (xA4 (pI key xE counter))):=ι rfl;have HFL:=ι (xBy (pI key xE counter))
 generalize pI key xE counter=xs at HB HF hl HP HFL;generalize xA4 xs=fo at HF HP HFL;have HI:Hid ((prog.info? 311).map (·.size)=some (yV xs).size):=ι (by rw[yY,hl];kernel_rfl)
 have HO:Hid ((yV (List.replicate 16 0)).size=(yV xs).size):=ι (by rw[yY,yY,hl,List.length_replicate]);have HI8:Hid ((prog.info? 314).map (·.size)=some (yE fo).size):=ι (by rw[uO,HFL.o];kernel_rfl);have HO8:Hid ((yE (xP 64)).size=(yE fo).size):=ι (by rw[uO,uO,HFL.o,yO])
 have H18:Hid ((yE fo).all (·.oneCell')=true):=ι (Array.all_eq_true_iff_forall_mem.2 (λv hv=>xK4 fo v (by simpa using hv)));have HSZ:Hid ((yV xs).size=16):=ι (by rw[yY,hl]);have HSZ8:Hid ((yE fo).size=64):=ι (by rw[uO,HFL.o]);clear hl hk hn hc;go_enter func255,ntmps255
 go_wp2_with fail
 refine HB.o.mono ?_;rintro e w1 ⟨rfl,hb1⟩;have B1:=ι hb1;clear hb1 HB
 have hst:(storeCells ⟨w1.heap.size,0,none⟩ (yV xs).toList).run prog (w1.alloc (.cells #[.int .u32 0,.int .u32 0,.int .u32 0,.int .u32 0,.int .u32 0,.int .u32 0,.int .u32 0,.int .u32 0,.int .u32 0,.int .u32 0,.int .u32 0,.int .u32 0,.int .u32 0,.int .u32 0,.int .u32 0,.int .u32 0] 311))=.ok () (w1.alloc (.cells (yV xs) 311)):=run_storeCells_new w1 _ _ _ HI.o HO.o (tZ xs)
 have hsz:=HSZ.o;have B2:=ι (B1.o.alloc B1.o.size (.cells (yV xs) 311));go_upto_region 4 with fail
 clear hst hsz;refine wp_region_lit ?_;refine wpList_load_row rfl _ _ rfl w1.heap.size rfl _ (yV xs) (0,0) _ (xM _ _) underlying311 rfl HI.o ?_;go_wp2_with fail
 refine(HF.o _).mono ?_;rintro e w3 ⟨rfl,hb3⟩;have B3:=ι (B2.o.trans (hb3.mono B2.o.size));clear hb3 HF B1 B2
 have hst:(storeCells ⟨w3.heap.size,0,none⟩ (yE fo).toList).run prog (w3.alloc (.cells #[.int .u8 0,.int .u8 0,.int .u8 0,.int .u8 0,.int .u8 0,.int .u8 0,.int .u8 0,.int .u8 0,.int .u8 0,.int .u8 0,.int .u8 0,.int .u8 0,.int .u8 0,.int .u8 0,.int .u8 0,.int .u8 0,.int .u8 0,.int .u8 0,.int .u8 0,.int .u8 0,.int .u8 0,.int .u8 0,.int .u8 0,.int .u8 0,.int .u8 0,.int .u8 0,.int .u8 0,.int .u8 0,.int .u8 0,.int .u8 0,.int .u8 0,.int .u8 0,.int .u8 0,.int .u8 0,.int .u8 0,.int .u8 0,.int .u8 0,.int .u8 0,.int .u8 0,.int .u8 0,.int .u8 0,.int .u8 0,.int .u8 0,.int .u8 0,.int .u8 0,.int .u8 0,.int .u8 0,.int .u8 0,.int .u8 0,.int .u8 0,.int .u8 0,.int .u8 0,.int .u8 0,.int .u8 0,.int .u8 0,.int .u8 0,.int .u8 0,.int .u8 0,.int .u8 0,.int .u8 0,.int .u8 0,.int .u8 0,.int .u8 0,.int .u8 0] 314))=.ok () (w3.alloc (.cells (yE fo) 314)):=run_storeCells_new w3 _ _ _ HI8.o HO8.o H18.o
 have hsz:=HSZ8.o;have ht:=xCd (xM w3 (.cells (yE fo) 314)) 64 64 HFL.o;have B4:=ι (B3.o.alloc B3.o.size (.cells (yE fo) 314));go_wp2;go_ret2;rw[HP.o];exact⟨rfl,B4.o⟩
end Go.Proofs.SH
namespace Mailsack
def U64 (x:Int):Prop:=0<=x/\x<18446744073709551616
theorem zH (op:Go.BinOp) (x y:Int):U64 (Go.bits op .u64 x y):=by
 have h:=Go.wf_bits op .u64 x y;simp[Go.Lit.wf] at h;have e1:Go.IntKind.u64.min=0:=δ;have e2:Go.IntKind.u64.max=18446744073709551615:=δ;unfold U64;omega
theorem xDs (x:Int):U64 (x % 18446744073709551616):=⟨ω,ω⟩
def xU3 (c0 c1 c2 c3:Int):Int:=Go.bits .or .u64 (Go.bits .or .u64 (Go.bits .or .u64 c0 (c1*256)) (c2*65536)) (c3*16777216)
def uC (s:ByteArray) (i:Nat):Int:=xU3 (yQ (s.extract i (i+4)) 0) (yQ (s.extract i (i+4)) 1) (yQ (s.extract i (i+4)) 2) (yQ (s.extract i (i+4)) 3)
theorem pJ (s:ByteArray) (i:Nat):U64 (uC s i):=by unfold uC xU3;exact zH _ _ _
structure L5 where
 a:Int
 b:Int
 c:Int
 d:Int
 e:Int
def L5.list (l:L5):List Int:=[l.a,l.b,l.c,l.d,l.e]
def L5.ok (l:L5):Prop:=U64 l.a/\U64 l.b/\U64 l.c/\U64 l.d/\U64 l.e
def zO (s:ByteArray):L5:=
 ⟨Go.bits .and .u64 (uC s 0) 67108863,Go.bits .and .u64 (uC s 3 / 4) 67108863,Go.bits .and .u64 (uC s 6 / 16) 67108863,uC s 9 / 64,uC s 12 / 256⟩
theorem xAm (s:ByteArray):(zO s).ok:=by
 have h9:=pJ s 9;have h12:=pJ s 12;refine⟨by simp only[zO];exact zH _ _ _,by simp only[zO];exact zH _ _ _,by simp only[zO];exact zH _ _ _,?_,?_⟩
 ·unfold U64 at h9;show U64 (uC s 9 / 64);unfold U64;omega
 ·unfold U64 at h12;show U64 (uC s 12 / 256);unfold U64;omega
def jJ (s:ByteArray):L5:=
 ⟨(zO s).a,Go.bits .and .u64 (zO s).b 67108611,Go.bits .and .u64 (zO s).c 67092735,Go.bits .and .u64 (zO s).d 66076671,Go.bits .and .u64 (zO s).e 1048575⟩
theorem xXp (s:ByteArray):(jJ s).ok:=⟨(xAm s).1,by simp only[jJ];exact zH _ _ _,by simp only[jJ];exact zH _ _ _,by simp only[jJ];exact zH _ _ _,by simp only[jJ];exact zH _ _ _⟩
end Mailsack
namespace Go.Proofs.SH
open Go.RowKit Mailsack MM BB
theorem kY {w W:World} (h:ψ w W) (i:Nat) (u:Value):ψ w (W.setCell ⟨w.heap.size,i,none⟩ u):=h.setCell (p:=⟨w.heap.size,i,none⟩) ν u
theorem jW (s:ByteArray) (i:Nat) (w:World) (hi:i+4<=s.size) (hs:s.size<=1099511627776):
  Calls prog 391 #[.string s,.int .i64 i] w λe w'=>e=.returned (.int .u64 (uC s i))/\ψ w w':=by
 obtain⟨z,hz⟩:∃z,uC s i=z:=⟨_,rfl⟩;rw[hz];unfold uC at hz;have hxs:(s.extract i (i+4)).size=4:=by rw[ByteArray.size_extract];omega
 go_enter func391,ntmps391;go_upto_region 2 with fail
 generalize s.extract i (i+4)=x at hz hxs⊢;have i0:=λw=>zL (P:=prog) underlying9 x 0 0 rfl ω w;have i1:=λw=>zL (P:=prog) underlying9 x 1 1 rfl ω w;have i2:=λw=>zL (P:=prog) underlying9 x 2 2 rfl ω w
 have i3:=λw=>zL (P:=prog) underlying9 x 3 3 rfl ω w;obtain⟨r00,r01⟩:=yR x 0;obtain⟨r10,r11⟩:=yR x 1;obtain⟨r20,r21⟩:=yR x 2;obtain⟨r30,r31⟩:=yR x 3;generalize yQ x 0=c0 at i0 r00 r01 hz;generalize yQ x 1=c1 at i1 r10 r11 hz;generalize yQ x 2=c2 at i2 r20 r21 hz
 generalize yQ x 3=c3 at i3 r30 r31 hz;unfold xU3 at hz;have HZ:=ι hz;clear hz hxs hi hs;refine RG.xQ (λW=>Hid (ψ w W)) κ κ (ι (Below.refl _ _).drew) ?_;iterate 18 refine RG.dS ?_
 rw[HZ.o];refine RG.dS ?_;refine RG.xS (λw9 hw9=>?_);clear i0 i1 i2 i3;go_wp2;go_ret;exact⟨rfl,hw9.o⟩
theorem xL7 (s:ByteArray) (w:World) (hs:s.size=16):
  Calls prog 330 #[.string s] w λe w'=>e=.returned (.agg #[.int .u64 (zO s).a,.int .u64 (zO s).b,.int .u64 (zO s).c,.int .u64 (zO s).d,.int .u64 (zO s).e])/\ψ w w':=by
 have W0:Hid (∀W,Calls prog 391 #[.string s,.int .i64 0] W λe w'=>e=.returned (.int .u64 (uC s 0))/\ψ W w'):=ι (λW=>jW s 0 W ω ω);have W3:Hid (∀W,Calls prog 391 #[.string s,.int .i64 3] W λe w'=>e=.returned (.int .u64 (uC s 3))/\ψ W w'):=ι (λW=>jW s 3 W ω ω)
 have W6:Hid (∀W,Calls prog 391 #[.string s,.int .i64 6] W λe w'=>e=.returned (.int .u64 (uC s 6))/\ψ W w'):=ι (λW=>jW s 6 W ω ω);have W9:Hid (∀W,Calls prog 391 #[.string s,.int .i64 9] W λe w'=>e=.returned (.int .u64 (uC s 9))/\ψ W w'):=ι (λW=>jW s 9 W ω ω)
 have W12:Hid (∀W,Calls prog 391 #[.string s,.int .i64 12] W λe w'=>e=.returned (.int .u64 (uC s 12))/\ψ W w'):=ι (λW=>jW s 12 W ω ω)
 have HP:Hid (zO s=⟨bits .and .u64 (uC s 0) 67108863,bits .and .u64 (uC s 3 / 4) 67108863,bits .and .u64 (uC s 6 / 16) 67108863,uC s 9 / 64,uC s 12 / 256⟩):=ι rfl;obtain⟨u30,u31⟩:=pJ s 3;obtain⟨u60,u61⟩:=pJ s 6;obtain⟨u90,u91⟩:=pJ s 9;obtain⟨uc0,uc1⟩:=pJ s 12;rw[HP.o]
 generalize uC s 0=x0 at W0 HP⊢;generalize uC s 3=x3 at W3 HP u30 u31⊢;generalize uC s 6=x6 at W6 HP u60 u61⊢;generalize uC s 9=x9 at W9 HP u90 u91⊢;generalize uC s 12=x12 at W12 HP uc0 uc1⊢
 have B0:=ι (φ w (.cells #[.int .u64 0,.int .u64 0,.int .u64 0,.int .u64 0,.int .u64 0] 377));have P0:=ι (xM w (.cells #[.int .u64 0,.int .u64 0,.int .u64 0,.int .u64 0,.int .u64 0] 377));clear hs HP;go_enter func330,ntmps330;go_wp2_with fail
 refine(W0.o _).mono ?_;rintro e w1 ⟨rfl,hb⟩;have B1:=ι (B0.o.trans (hb.mono B0.o.size));have P1:=ι (xD P0.o hb σ);clear hb P0 B0;go_wp2_with fail
 refine(W3.o _).mono ?_;rintro e w2 ⟨rfl,hb⟩;have B2:=ι (B1.o.trans (hb.mono B1.o.size));have P2:=ι (xD P1.o hb (xH P1.o));clear hb P1 B1;go_wp2_with fail
 refine(W6.o _).mono ?_;rintro e w3 ⟨rfl,hb⟩;have B3:=ι (B2.o.trans (hb.mono B2.o.size));have P3:=ι (xD P2.o hb (xH P2.o));clear hb P2 B2;go_wp2_with fail
 refine(W9.o _).mono ?_;rintro e w4 ⟨rfl,hb⟩;have B4:=ι (B3.o.trans (hb.mono B3.o.size));have P4:=ι (xD P3.o hb (xH P3.o));clear hb P3 B3;go_wp2_with fail
 refine(W12.o _).mono ?_;rintro e w5 ⟨rfl,hb⟩;have B5:=ι (B4.o.trans (hb.mono B4.o.size));have P5:=xD P4.o hb (xH P4.o);have f0:=xA P5 0;have f1:=xA P5 1;have f2:=xA P5 2;have f3:=xA P5 3;have f4:=xA P5 4;have y0:=xB P5 0;have y1:=xB P5 1;have y2:=xB P5 2;have y3:=xB P5 3
 have y4:=xB P5 4;clear hb P4 B4 P5;go_wp2
 refine bodyPost_ret (v:=.agg #[.int .u64 (bits .and .u64 x0 67108863),.int .u64 (bits .and .u64 (x3 / 4) 67108863),.int .u64 (bits .and .u64 (x6 / 16) 67108863),.int .u64 (x9 / 64),.int .u64 (x12 / 256)]) (by simp[results,results330,go_sem,f0,f1,f2,f3,f4]) rfl ?_
 refine⟨rfl,?_⟩;have h:=B5.o;clear f0 f1 f2 f3 f4 y0 y1 y2 y3 y4;have k0:=kY h 0 (.int .u64 (bits .and .u64 x0 67108863));have k1:=kY k0 1 (.int .u64 (bits .and .u64 (x3 / 4) 67108863));have k2:=kY k1 2 (.int .u64 (bits .and .u64 (x6 / 16) 67108863))
 have k3:=kY k2 3 (.int .u64 (x9 / 64));have k4:=kY k3 4 (.int .u64 (x12 / 256));with_reducible exact k4
theorem xD3 (s:ByteArray) (w:World) (hs:s.size=16):
  Calls prog 329 #[.string s] w λe w'=>e=.returned (.agg #[.int .u64 (jJ s).a,.int .u64 (jJ s).b,.int .u64 (jJ s).c,.int .u64 (jJ s).d,.int .u64 (jJ s).e])/\ψ w w':=by
 have HS:=ι (λW=>xL7 s W hs);have HP:Hid (jJ s=⟨(zO s).a,bits .and .u64 (zO s).b 67108611,bits .and .u64 (zO s).c 67092735,bits .and .u64 (zO s).d 66076671,bits .and .u64 (zO s).e 1048575⟩):=ι rfl;rw[HP.o];generalize zO s=q at HS HP⊢;obtain⟨a,b,c,d,e⟩:=q
 have B0:=ι (φ w (.cells #[.int .u64 0,.int .u64 0,.int .u64 0,.int .u64 0,.int .u64 0] 377));have P0:=ι (xM w (.cells #[.int .u64 0,.int .u64 0,.int .u64 0,.int .u64 0,.int .u64 0] 377));clear hs HP;go_enter func329,ntmps329;go_wp2_with fail
 refine(HS.o _).mono ?_;rintro e2 w1 ⟨rfl,hb⟩;have B1:=ι (B0.o.trans (hb.mono B0.o.size))
 have P1:=xO (xD P0.o hb σ) (.cells #[.int .u64 a,.int .u64 (bits .and .u64 b 67108611),.int .u64 (bits .and .u64 c 67092735),.int .u64 (bits .and .u64 d 66076671),.int .u64 (bits .and .u64 e 1048575)] 377)
 have B2:=ι (B1.o.alloc B1.o.size (.cells #[.int .u64 a,.int .u64 (bits .and .u64 b 67108611),.int .u64 (bits .and .u64 c 67092735),.int .u64 (bits .and .u64 d 66076671),.int .u64 (bits .and .u64 e 1048575)] 377));have f0:=xA P1 0;have f1:=xA P1 1;have f2:=xA P1 2
 have f3:=xA P1 3;have f4:=xA P1 4;have y0:=xB P1 0;have y1:=xB P1 1;have y2:=xB P1 2;have y3:=xB P1 3;have y4:=xB P1 4;clear hb P0 B0 P1 B1;go_wp2
 refine bodyPost_ret (v:=.agg #[.int .u64 a,.int .u64 (bits .and .u64 b 67108611),.int .u64 (bits .and .u64 c 67092735),.int .u64 (bits .and .u64 d 66076671),.int .u64 (bits .and .u64 e 1048575)]) (by simp[results,results329,go_sem,f0,f1,f2,f3,f4]) rfl ?_;refine⟨rfl,?_⟩
 have h:=B2.o;clear f0 f1 f2 f3 f4 y0 y1 y2 y3 y4;have k0:=kY h 0 (.int .u64 a);have k1:=kY k0 1 (.int .u64 (bits .and .u64 b 67108611));have k2:=kY k1 2 (.int .u64 (bits .and .u64 c 67092735));have k3:=kY k2 3 (.int .u64 (bits .and .u64 d 66076671))
 have k4:=kY k3 4 (.int .u64 (bits .and .u64 e 1048575));with_reducible exact k4
end Go.Proofs.SH
namespace Mailsack
def yU (ws:List Int):Prop:=∀i,U64 (ws.getD i 0)
theorem yU.set {ws:List Int} (h:yU ws) (i:Nat) {x:Int} (hx:U64 x):yU (ws.set i x):=by
 intro j;rw[List.getD_eq_getElem?_getD,List.getElem?_set];split
 ·split
  ·exact hx
  ·exact⟨δ,δ⟩
 ·have:=h j
  rwa [List.getD_eq_getElem?_getD] at this
theorem xBu (n:Nat):yU (List.replicate n 0):=by
 intro i;rw[List.getD_eq_getElem?_getD,List.getElem?_replicate];split<;>exact⟨δ,δ⟩
theorem L5.all {l:L5} (h:l.ok):yU l.list:=by
 obtain⟨h0,h1,h2,h3,h4⟩:=h;intro i
 match i with
 |0=>exact h0
 |1=>exact h1
 |2=>exact h2
 |3=>exact h3
 |4=>exact h4
 |n+5=>
  rw[List.getD_eq_getElem?_getD,List.getElem?_eq_none (by simp[L5.list])];exact⟨δ,δ⟩
theorem wrap_u64 (x:Int):U64 (Go.IntKind.u64.wrap x):=by
 rw[show Go.IntKind.u64.wrap x=x % 18446744073709551616 from by simp[Go.IntKind.wrap,Go.IntKind.signed,Go.IntKind.bits]];exact xDs x
def yM (l:List Int):Nat->List Int×Int
 |0=>(l,0)
 |i+1=>((yM l i).1.set i (Go.bits .and .u64 (Go.IntKind.u64.wrap ((yM l i).1.getD i 0+(yM l i).2)) 67108863),Go.IntKind.u64.wrap ((yM l i).1.getD i 0+(yM l i).2) / 67108864)
theorem rQ (l:List Int):∀i,(yM l i).1.length=l.length
 |0=>rfl
 |i+1=>by simp[yM,rQ l i]
theorem xD6 {l:List Int} (h:yU l):∀i,yU (yM l i).1
 |0=>h
 |i+1=>(xD6 h i).set i (zH _ _ _)
theorem xGs (l:List Int):∀i,0<=(yM l i).2/\(yM l i).2<274877906944
 |0=>⟨by simp[yM],by simp[yM]⟩
 |i+1=>by
  have ⟨h0,h1⟩:=wrap_u64 ((yM l i).1.getD i 0+(yM l i).2);simp only[yM];omega
def wX (l:List Int):List Int:=(yM l 5).1.set 0 (Go.IntKind.u64.wrap ((yM l 5).1.getD 0 0+5*(yM l 5).2))
theorem jB (l:List Int):(wX l).length=l.length:=by unfold wX;rw[List.length_set,rQ]
theorem pE {l:List Int} (h:yU l):yU (wX l):=(xD6 h 5).set 0 (wrap_u64 _)
end Mailsack
namespace Go.Proofs.SH
open Go.RowKit Mailsack MM BB
def xG (ws:List Int):Array Value:=(ws.map λx=>Value.int .u64 x).toArray
theorem xV (ws:List Int):(xG ws).size=ws.length:=by simp[xG]
theorem xB9 {ws:List Int} {i:Nat} (h:i<ws.length):(xG ws)[i]?=some (.int .u64 (ws.getD i 0)):=by
 simp[xG,List.getD_eq_getElem?_getD,List.getElem?_eq_getElem h]
theorem xQc (ws:List Int) (i:Nat) (x:Int):(xG ws).setIfInBounds i (.int .u64 x)=xG (ws.set i x):=by
 simp[xG,List.map_set]
theorem yB (ws:List Int):(xG ws).all (·.oneCell')=true:=by
 simp[xG,Value.oneCell']
def uH (W:World) (g:Nat) (ws:List Int):Prop:=W.heap[g]?=some (.cells (xG ws) 377 (0,0))
theorem uH.blk {W:World} {g:Nat} {ws:List Int} (h:uH W g ws):W.heap[g]?=some (.cells (xG ws) 377 (0,0)):=h
theorem uH.put {W:World} {g:Nat} {ws:List Int} (h:uH W g ws) (i:Nat) (x:Int):uH (W.setCell ⟨g,i,none⟩ (.int .u64 x)) g (ws.set i x):=by
 have:=xY h.blk i (.int .u64 x);rw[xQc] at this;exact this
theorem uH.far {W:World} {g:Nat} {ws:List Int} (h:uH W g ws) {p:Addr} (hp:g≠p.block) (u:Value):uH (W.setCell p u) g ws:=yC h.blk hp u
theorem uH.cell {W:World} {g:Nat} {ws:List Int} (h:uH W g ws) {i:Nat} (hi:i<ws.length):W.cell? ⟨g,i,none⟩=some (.int .u64 (ws.getD i 0)):=by rw[xA h.blk,xB9 hi]
theorem uH.free {W:World} {g:Nat} {ws:List Int} (h:uH W g ws) (i:Nat):W.frozen? ⟨g,i,none⟩=false:=xB h.blk i
theorem xBh {ws:List Int} (h:ws.length=5):(prog.info? 377).map (·.size)=some (xG ws).size:=by rw[xV,h];kernel_rfl
structure xKs (w:World) (ws:List Int) (W:World):Prop where
 st:uH W w.heap.size ws
 res:uH W (w.heap.size+1) (List.replicate 5 0)
 bel:ψ w W
theorem xKs.put {w:World} {ws:List Int} {W:World} (h:xKs w ws W) (i:Nat) (x:Int):xKs w (ws.set i x) (W.setCell ⟨w.heap.size,i,none⟩ (.int .u64 x)):=
 ⟨h.st.put i x,h.res.far (p:=⟨w.heap.size,i,none⟩) σ _,h.bel.setCell (p:=⟨w.heap.size,i,none⟩) ν _⟩
theorem xGr (ws:List Int) (w:World) (hl:ws.length=5) (hu:yU ws):
  Calls prog 392 #[.agg (xG ws)] w λe w'=>e=.returned (.agg (xG (wX ws)))/\ψ w w':=by
 have H0:Hid (xKs w (yM ws 0).1 ((w.alloc (.cells (xG ws) 377)).alloc (.cells (xG (List.replicate 5 0)) 377))):=ι ⟨zV _ _ _,zK _ _ _,(φ w _).alloc σ _⟩;have HL:Hid (∀i,(yM ws i).1.length=5):=ι (λi=>by rw[rQ,hl]);have HU:=ι (λi=>xD6 hu i);have HV:=ι (λi=>xGs ws i)
 have HS:Hid (∀i,(yM ws (i+1)).1=(yM ws i).1.set i (bits .and .u64 (IntKind.u64.wrap ((yM ws i).1.getD i 0+(yM ws i).2)) 67108863)/\(yM ws (i+1)).2=IntKind.u64.wrap ((yM ws i).1.getD i 0+(yM ws i).2) / 67108864):=ι (λi=>⟨rfl,rfl⟩)
 have HP:Hid (∀n,n=5->wX ws=(yM ws n).1.set 0 (IntKind.u64.wrap ((yM ws n).1.getD 0 0+5*(yM ws n).2))):=ι (λn hn=>by rw[hn];rfl);have HPL:Hid ((wX ws).length=5):=ι (by rw[jB,hl]);clear hl hu;go_enter func392,ntmps392;go_wp2_with fail
 go_loopw [3,5] (λov iv wr=>∃i:Nat,i<=5/\iv=.int .i64 i/\ov=.int .u64 (yM ws i).2/\Hid (xKs w (yM ws i).1 wr)) (λ_ iv _=>5- (intOf iv).toNat)
 case atStart=>exact⟨0,δ,rfl,rfl,H0⟩
 case round=>
  clear H0;obtain⟨i,hi,rfl,rfl,hr⟩:=hrel;obtain⟨v0,v1⟩:=HV.o i
  by_cases hlt:i<5
  ·have hl:=HL.o i;obtain⟨u0,u1⟩:=HU.o i i;have hl5:=HL.o i;obtain⟨s1,s2⟩:=HS.o i;obtain⟨x1,hx1⟩:∃x,(yM ws (i+1)).1=x:=⟨_,rfl⟩;obtain⟨o1,ho1⟩:∃x,(yM ws (i+1)).2=x:=⟨_,rfl⟩;rw[hx1] at s1;rw[ho1] at s2;have HX1:=ι hx1;have HO1:=ι ho1;clear hx1 ho1
   generalize (yM ws i).2=o at v0 v1 s1 s2⊢;generalize (yM ws i).1=xs at hr hl5 u0 u1 s1 s2;have q0:=hr.o.st.cell (i:=i) ω;have q1:=hr.o.st.free i;obtain⟨x,hx⟩:∃x,xs.getD i 0=x:=⟨_,rfl⟩;rw[hx] at q0 u0 u1 s1 s2;obtain⟨z,hz⟩:∃z,IntKind.u64.wrap (x+o)=z:=⟨_,rfl⟩;rw[hz] at s1 s2
   have hzr:=wrap_u64 (x+o);rw[hz] at hzr;obtain⟨z0,z1⟩:=hzr;have HZ:=ι hz;have hlx:xs.length=5:=hl5;have HA:Hid (xKs w (xs.set i z) (wr.setCell ⟨w.heap.size,i,none⟩ (.int .u64 z))):=ι (hr.o.put i z)
   have HB:Hid (xKs w x1 ((wr.setCell ⟨w.heap.size,i,none⟩ (.int .u64 z)).setCell ⟨w.heap.size,i,none⟩ (.int .u64 (bits .and .u64 z 67108863)))):=ι (by
    have h:=HA.o.put i (bits .and .u64 z 67108863);rw[List.set_set,<-s1] at h;exact h)
   have HS2:=ι s2
   have HQ:Hid (∀W,Hid (xKs w (xs.set i z) W)->W.cell? ⟨w.heap.size,i,none⟩=some (.int .u64 z)/\W.frozen? ⟨w.heap.size,i,none⟩=false):=ι (λW h=>by
    have q:=h.o.st.cell (i:=i) (by rw[List.length_set];omega);rw[List.getD_eq_getElem?_getD,List.getElem?_set_self ω] at q;exact⟨q,h.o.st.free i⟩)
   clear hx hz s1 s2 hr hlx hl5;go_upto_region 6 with fail
   rw[HZ.o];clear q0 q1 u0 u1
   revert HB
   refine(λ(h:∀W3,Hid (xKs w (xs.set i z) W3)->Hid (xKs w x1 (W3.setCell ⟨w.heap.size,i,none⟩ (.int .u64 (bits .and .u64 z 67108863))))->Code.wp _ _ _ _ W3)=>h _ HA) ?_;clear HA;intro w3 hw3 HB;obtain⟨q0,q1⟩:=HQ.o w3 hw3;clear HQ;go_wp2;refine⟨⟨i+1,ω,?_,?_,?_⟩,?_⟩
   ·exact congrArg (Value.int .i64) ω
   ·rw[HO1.o,HS2.o]
   ·rw[HX1.o];exact HB
   ·simp[intOf];omega
  ·have hi5:i=5:=ω;have hP:=HP.o i hi5;obtain⟨u0,u1⟩:=HU.o i 0;generalize (yM ws i).2=o at v0 v1 hP⊢;have hl5:=HL.o i;generalize (yM ws i).1=xs at hr hl5 u0 u1 hP;have q0:=hr.o.st.cell (i:=0) ω;have q1:=hr.o.st.free 0;obtain⟨x,hx⟩:∃x,xs.getD 0 0=x:=⟨_,rfl⟩;rw[hx] at q0 u0 u1 hP
   obtain⟨z,hz⟩:∃z,IntKind.u64.wrap (x+5*o)=z:=⟨_,rfl⟩;rw[hz] at hP;have HZ:=ι hz;have HF:=ι hP;have HA:Hid (xKs w (xs.set 0 z) (wr.setCell ⟨w.heap.size,0,none⟩ (.int .u64 z))):=ι (hr.o.put 0 z)
   have HI:Hid ((prog.info? 377).map (·.size)=some (xG (xs.set 0 z)).size):=ι (xBh (by rw[List.length_set];exact hl5));have HZ5:Hid ((xG (List.replicate 5 0)).size=(xG (xs.set 0 z)).size):=ι (by rw[xV,xV,List.length_set,hl5];rfl);have hneg:¬((i:Int)<5):=ω
   clear hx hz hP HP hr hl5 hi5 hlt hi;go_upto_region 10 with fail
   rw[HZ.o];clear q0 q1 u0 u1 v0 v1;refine(λ(h:∀W3,Hid (xKs w (xs.set 0 z) W3)->Code.wp _ _ _ _ W3)=>h _ HA) ?_;clear HA;intro w3 hw3;refine wp_region_lit ?_;refine wpList_load_row rfl _ _ rfl w.heap.size rfl _ (xG (xs.set 0 z)) (0,0) _ hw3.o.st underlying377 rfl HI.o ?_
   refine wpList_store_row rfl _ _ _ rfl (w.heap.size+1) (xG (xs.set 0 z)) rfl rfl _ _ hw3.o.res HI.o HZ5.o (yB _) ?_;go_wp2;refine bodyPost_ret (results_cell_row rfl _ _ (w.heap.size+1) _ _ (0,0) _ rfl (setRow_heap _ _ _ _ _ _ hw3.o.res) underlying377 rfl HI.o) rfl ?_
   rw[HF.o];exact⟨rfl,below_setRow hw3.o.bel ω _⟩
end Go.Proofs.SH
namespace Mailsack
def kK (k:Nat):Nat:=if 5<=k then k-5 else k
def yK (y:Int) (k:Nat):Int:=if 5<=k then Go.IntKind.u64.wrap (y*5) else y
def xMt (x:Int) (i:Nat) (r d:List Int):Nat->List Int
 |0=>d
 |j+1=>(xMt x i r d j).set (kK (i+j)) (Go.IntKind.u64.wrap ((xMt x i r d j).getD (kK (i+j)) 0+Go.IntKind.u64.wrap (x*yK (r.getD j 0) (i+j))))
theorem xJn (x:Int) (i:Nat) (r d:List Int):∀j,(xMt x i r d j).length=d.length
 |0=>rfl
 |j+1=>by rw[xMt,List.length_set,xJn x i r d j]
theorem xVy (x:Int) (i:Nat) (r:List Int) {d:List Int} (h:yU d):∀j,yU (xMt x i r d j)
 |0=>h
 |j+1=>(xVy x i r h j).set _ (wrap_u64 _)
def xNz (h r:List Int):Nat->List Int
 |0=>List.replicate 5 0
 |i+1=>xMt (h.getD i 0) i r (xNz h r i) 5
theorem xJq (h r:List Int):∀i,(xNz h r i).length=5
 |0=>by simp[xNz]
 |i+1=>by rw[xNz,xJn,xJq h r i]
theorem xVz (h r:List Int):∀i,yU (xNz h r i)
 |0=>xBu 5
 |i+1=>xVy _ _ _ (xVz h r i) 5
def xSc (c:List Int):List Int:=(c.set 1 (Go.IntKind.u64.wrap (c.getD 1 0+c.getD 0 0 / 67108864))).set 0 (Go.bits .and .u64 (c.getD 0 0) 67108863)
theorem xPp (c:List Int):(xSc c).length=c.length:=by simp[xSc]
theorem mulE_u {c:List Int} (h:yU c):yU (xSc c):=(h.set 1 (wrap_u64 _)).set 0 (zH _ _ _)
def xZs (h r:List Int):List Int:=xSc (wX (xNz h r 5))
theorem xJp (h r:List Int):(xZs h r).length=5:=by rw[xZs,xPp,jB,xJq]
theorem mulP_u (h r:List Int):yU (xZs h r):=mulE_u (pE (xVz h r 5))
end Mailsack
namespace Go.Proofs.SH
open Go.RowKit Mailsack MM BB
structure xKq (w:World) (hs rs d:List Int) (W:World):Prop where
 bh:uH W w.heap.size hs
 br:uH W (w.heap.size+1) rs
 bz:uH W (w.heap.size+1+1) (List.replicate 5 0)
 bd:uH W (w.heap.size+1+1+1) d
 bel:ψ w W
theorem xKq.put {w:World} {hs rs d:List Int} {W:World} (h:xKq w hs rs d W) (i:Nat) (x:Int):xKq w hs rs (d.set i x) (W.setCell ⟨w.heap.size+1+1+1,i,none⟩ (.int .u64 x)):=
 ⟨h.bh.far (p:=⟨w.heap.size+1+1+1,i,none⟩) (by simp only[];omega) _,h.br.far (p:=⟨w.heap.size+1+1+1,i,none⟩) (by simp only[];omega) _,h.bz.far (p:=⟨w.heap.size+1+1+1,i,none⟩) (by simp only[];omega) _,h.bd.put i x,h.bel.setCell (p:=⟨w.heap.size+1+1+1,i,none⟩) (by simp only[];omega) _⟩
theorem xKq.below {w:World} {hs rs d:List Int} {W W':World} (h:xKq w hs rs d W) (hb:ψ W W'):xKq w hs rs d W':=
 ⟨xD h.bh hb (xH h.bh),xD h.br hb (xH h.br),xD h.bz hb (xH h.bz),xD h.bd hb (xH h.bd),h.bel.trans (hb.mono h.bel.size)⟩
theorem xKq.row {w:World} {hs rs d:List Int} {W:World} (h:xKq w hs rs d W) (c:List Int):xKq w hs rs c (W.setRow (w.heap.size+1+1+1) (xG c)):=
 ⟨by unfold uH;rw[setRow_other _ _ _ _ ω];exact h.bh,by unfold uH;rw[setRow_other _ _ _ _ ω];exact h.br,by unfold uH;rw[setRow_other _ _ _ _ ω];exact h.bz,setRow_heap _ _ _ _ _ _ h.bd,below_setRow h.bel ω _⟩
theorem xVx (hs rs:List Int) (w:World) (hl:hs.length=5) (hu:yU hs) (rl:rs.length=5) (ru:yU rs):
  Calls prog 332 #[.agg (xG hs),.agg (xG rs)] w λe w'=>e=.returned (.agg (xG (xZs hs rs)))/\ψ w w':=by
 have H0:Hid (xKq w hs rs (xNz hs rs 0) ((((w.alloc (.cells (xG hs) 377)).alloc (.cells (xG rs) 377)).alloc (.cells (xG (List.replicate 5 0)) 377)).alloc (.cells (xG (List.replicate 5 0)) 377))):=ι (by
  have h0:=xM ((w.alloc (.cells (xG hs) 377)).alloc (.cells (xG rs) 377)) (.cells (xG (List.replicate 5 0)) 377);simp only[vD] at h0
  have h1:=xM (((w.alloc (.cells (xG hs) 377)).alloc (.cells (xG rs) 377)).alloc (.cells (xG (List.replicate 5 0)) 377)) (.cells (xG (List.replicate 5 0)) 377);simp only[vD] at h1
  exact⟨xO (xO (zV _ _ _) _) _,xO (xO (zK _ _ _) _) _,xO h0 _,h1,(((φ w _).alloc σ _).alloc (by simp;omega) _).alloc (by simp;omega) _⟩)
 have HI:Hid ((prog.info? 377).map (·.size)=some (xG hs).size):=ι (xBh hl);have HJ:Hid ((prog.info? 377).map (·.size)=some (xG rs).size):=ι (xBh rl);have HPI:Hid (∀n,n=5->xZs hs rs=xSc (wX (xNz hs rs n))):=ι (λn hn=>by rw[hn];rfl)
 have HPS:Hid (∀i n,n=5->xNz hs rs (i+1)=xMt (hs.getD i 0) i rs (xNz hs rs i) n):=ι (λi n hn=>by rw[hn];rfl);have HL:=ι (λi=>xJq hs rs i);have HU:=ι (λi=>xVz hs rs i);go_enter func332,ntmps332;go_upto_region 2 with fail
 refine(λ(h:∀W3,Hid (xKq w hs rs (xNz hs rs 0) W3)->Code.wp _ _ _ _ W3)=>h _ H0) ?_;clear H0;intro w3 hw3;refine wp_region_lit ?_;refine wpList_load_row rfl _ _ rfl w.heap.size rfl _ (xG hs) (0,0) _ hw3.o.bh underlying377 rfl HI.o ?_;go_wp2_with fail
 go_loopw [12] (λiv W=>∃i:Nat,i<=5/\iv=.int .i64 i/\Hid (xKq w hs rs (xNz hs rs i) W)) (λiv _=>5- (intOf iv).toNat)
 case atStart=>exact⟨0,δ,rfl,hw3⟩
 case round=>
  clear hw3
  rename World=>wi
  obtain⟨i,hi,rfl,hr⟩:=hrel
  by_cases hlt:i<5
  ·have HS:=ι (HPS.o i);have hl0:=HL.o i;have hu0:=HU.o i;obtain⟨x,hx⟩:∃x,hs.getD i 0=x:=⟨_,rfl⟩;have ux:=hu i;rw[hx] at ux HS;have ix:=λW=>wV (P:=prog) underlying377 underlying212 κ (xG hs) (.int .u64 x) i hlt (by rw[xB9 ω,hx]) W
   obtain⟨d1,hd1⟩:∃d,xNz hs rs (i+1)=d:=⟨_,rfl⟩;rw[hd1] at HS;have HD1:=ι hd1;clear hd1;generalize xNz hs rs i=d0 at hr hl0 hu0 HS;have HT0:Hid (xKq w hs rs (xMt x i rs d0 0) wi):=ι hr.o
   have HTS:Hid (∀j,xMt x i rs d0 (j+1)=(xMt x i rs d0 j).set (kK (i+j)) (IntKind.u64.wrap ((xMt x i rs d0 j).getD (kK (i+j)) 0+IntKind.u64.wrap (x*yK (rs.getD j 0) (i+j))))):=ι (λj=>rfl);have HTL:Hid (∀j,(xMt x i rs d0 j).length=5):=ι (λj=>by rw[xJn,hl0])
   have HTU:Hid (∀j,yU (xMt x i rs d0 j)):=ι (λj=>xVy _ _ _ hu0 j);have HX:=ι ux;have HRU:=ι ru;have hrr:=hr;clear hr hx ux hl0 hu0 hu ru hl;go_upto_region 5 with fail
   clear ix;refine wp_region_lit ?_;refine wpList_load_row rfl _ _ rfl (w.heap.size+1) rfl _ (xG rs) (0,0) _ hrr.o.br underlying377 rfl HJ.o ?_;clear hrr;go_wp2_with fail
   go_loopw [17] (λjv W=>∃j:Nat,j<=5/\jv=.int .i64 j/\Hid (xKq w hs rs (xMt x i rs d0 j) W)) (λjv _=>5- (intOf jv).toNat)
   case atStart=>exact⟨0,δ,rfl,HT0⟩
   case round=>
    clear HT0
    rename World=>wj
    obtain⟨j,hj,rfl,hr⟩:=hrel
    by_cases hlt2:j<5
    ·have hTS:=HTS.o j;have hTL:=HTL.o j;obtain⟨t1,ht1⟩:∃t,xMt x i rs d0 (j+1)=t:=⟨_,rfl⟩;rw[ht1] at hTS;have HT1:=ι ht1;have hTU:=HTU.o j (kK (i+j));clear ht1;generalize xMt x i rs d0 j=t0 at hr hTS hTL hTU;obtain⟨y,hy⟩:∃y,rs.getD j 0=y:=⟨_,rfl⟩;have uy:=HRU.o j
     rw[hy] at uy hTS;have ix:=λW=>wV (P:=prog) underlying377 underlying212 κ (xG rs) (.int .u64 y) j hlt2 (by rw[xB9 ω,hy]) W;have hK:kK (i+j)<5:=by unfold kK;split<;>omega
     have q0:=hr.o.bd.cell (i:=kK (i+j)) ω;have q1:=hr.o.bd.free (kK (i+j))
     have HP:Hid (xKq w hs rs t1 (wj.setCell ⟨w.heap.size+1+1+1,kK (i+j),none⟩ (.int .u64 (IntKind.u64.wrap (t0.getD (kK (i+j)) 0+IntKind.u64.wrap (x*yK y (i+j))))))):=ι (by
      have h:=hr.o.put (kK (i+j)) (IntKind.u64.wrap (t0.getD (kK (i+j)) 0+IntKind.u64.wrap (x*yK y (i+j))));rw[<-hTS] at h;exact h)
     generalize t0.getD (kK (i+j)) 0=v at q0 hTU HP;obtain⟨v0,v1⟩:=hTU;obtain⟨y0,y1⟩:=uy;obtain⟨x0,x1⟩:=HX.o;clear hTS hTL hy hr
     by_cases h5:5<=i+j
     ·have hk5:kK (i+j)=i+j-5:=if_pos h5;have hy5:yK y (i+j)=IntKind.u64.wrap (y*5):=if_pos h5;rw[hy5] at HP;generalize kK (i+j)=kk at hk5 hK q0 q1 HP;have hii:(i:Int)+(j:Int)=(kk:Int)+5:=ω;have h5i:(5:Int)<=(kk:Int)+5:=ω;clear hk5 h5 hy5;go_wp2
      exact⟨⟨j+1,ω,by go_num,by rw[HT1.o];exact HP⟩,by simp[intOf];omega⟩
     ·have hk5:kK (i+j)=i+j:=if_neg h5;have hy5:yK y (i+j)=y:=if_neg h5;rw[hy5] at HP;generalize kK (i+j)=kk at hk5 hK q0 q1 HP;have hii:(i:Int)+(j:Int)=(kk:Int):=ω;have h5i:¬((5:Int)<=(kk:Int)):=ω;clear hk5 h5 hy5;go_wp2
      exact⟨⟨j+1,ω,by go_num,by rw[HT1.o];exact HP⟩,by simp[intOf];omega⟩
    ·have hje:j=5:=ω;have hneg:¬((j:Int)<5):=ω;have HS1:=ι (HS.o j hje);clear hje hlt2 hj HTS HTL HTU HS;go_wp2;exact⟨⟨i+1,ω,by go_num,by rw[HD1.o,HS1.o];exact hr⟩,by simp[intOf];omega⟩
  ·have hie:i=5:=ω;have hneg:¬((i:Int)<5):=ω;have HP:=ι (HPI.o i hie);have hdl:=HL.o i;have hdu:=HU.o i;generalize xNz hs rs i=d0 at hr HP hdl hdu;have HI5:Hid ((prog.info? 377).map (·.size)=some (xG d0).size):=ι (xBh hdl);have HC:=ι (λW=>xGr d0 W hdl hdu)
   obtain⟨c,hc⟩:∃c,wX d0=c:=⟨_,rfl⟩;have hcl:c.length=5:=by rw[<-hc,jB,hdl]
   have hcu:yU c:=hc▸pE hdu;rw[hc] at HC HP;clear hc hie hi hlt HL HU HPS HPI hdu;go_upto_region 15 with fail
   refine wp_region_lit ?_;refine wpList_load_row rfl _ _ rfl (w.heap.size+1+1+1) rfl _ (xG d0) (0,0) _ hr.o.bd underlying377 rfl HI5.o ?_;repeat go_step
   refine(HC.o _).mono ?_;rintro e w5 ⟨rfl,hb⟩;have h5:=hr.o.below hb;have HZ5:Hid ((xG d0).size=(xG c).size):=ι (by rw[xV,xV,hcl,hdl]);have HIc:Hid ((prog.info? 377).map (·.size)=some (xG c).size):=ι (xBh hcl);have HR:=ι (h5.row c);simp only[]
   rename ∀(a:Act) (w:World),wpList _ _ _ _ a w->_=>hk
   refine hk _ _ ?_;clear hk;refine wpList_store_row rfl _ _ _ rfl (w.heap.size+1+1+1) (xG c) rfl rfl _ _ h5.bd HIc.o HZ5.o (yB _) ?_;clear hr hb h5;refine(λ(h:∀W3,Hid (xKq w hs rs c W3)->wpList _ _ _ _ _ W3)=>h _ HR) ?_;clear HR;intro w6 hw6;obtain⟨a0,a1⟩:=hcu 0
   obtain⟨b0,b1⟩:=hcu 1;obtain⟨a,ha⟩:∃a,c.getD 0 0=a:=⟨_,rfl⟩;obtain⟨b,hbb⟩:∃b,c.getD 1 0=b:=⟨_,rfl⟩;have q0:=hw6.o.bd.cell (i:=0) ω;have q1:=hw6.o.bd.cell (i:=1) ω;have y0:=hw6.o.bd.free 0;have y1:=hw6.o.bd.free 1
   have HE:Hid (xSc c=(c.set 1 (IntKind.u64.wrap (c.getD 1 0+c.getD 0 0 / 67108864))).set 0 (bits .and .u64 (c.getD 0 0) 67108863)):=ι rfl;rw[ha] at a0 a1 q0 HE;rw[hbb] at b0 b1 q1 HE;clear ha hbb
   have HA:Hid (xKq w hs rs (xSc c) ((w6.setCell ⟨w.heap.size+1+1+1,1,none⟩ (.int .u64 (IntKind.u64.wrap (b+a / 67108864)))).setCell ⟨w.heap.size+1+1+1,0,none⟩ (.int .u64 (bits .and .u64 a 67108863)))):=ι (by rw[HE.o];exact(hw6.o.put 1 _).put 0 _)
   have hel:(xSc c).length=5:=by rw[xPp,hcl]
   have HI6:Hid ((prog.info? 377).map (·.size)=some (xG (xSc c)).size):=ι (xBh hel);have HZ6:Hid ((xG (List.replicate 5 0)).size=(xG (xSc c)).size):=ι (by rw[xV,xV,hel];rfl);clear hw6 HE hel;go_upto_region 18 with fail
   clear q0 q1 y0 y1 a0 a1 b0 b1;refine(λ(h:∀W3,Hid (xKq w hs rs (xSc c) W3)->Code.wp _ _ _ _ W3)=>h _ HA) ?_;clear HA;intro w7 hw7;refine wp_region_lit ?_;refine wpList_load_row rfl _ _ rfl (w.heap.size+1+1+1) rfl _ (xG (xSc c)) (0,0) _ hw7.o.bd underlying377 rfl HI6.o ?_
   refine wpList_store_row rfl _ _ _ rfl (w.heap.size+1+1) (xG (xSc c)) rfl rfl _ _ hw7.o.bz HI6.o HZ6.o (yB _) ?_;go_wp2;refine bodyPost_ret (results_cell_row rfl _ _ (w.heap.size+1+1) _ _ (0,0) _ rfl (setRow_heap _ _ _ _ _ _ hw7.o.bz) underlying377 rfl HI6.o) rfl ?_
   rw[HP.o];exact⟨rfl,below_setRow hw7.o.bel ω _⟩
end Go.Proofs.SH
namespace Mailsack
def xG5 (c:List Int):List Int:=c.set 0 (Go.IntKind.u64.wrap (c.getD 0 0+5))
def xIc (c d:List Int) (o:Int):List Int:=if 0<o then d else c
def rH (h:List Int):List Int:=xIc (wX (wX h)) (yM (xG5 (wX (wX h))) 5).1 (yM (xG5 (wX (wX h))) 5).2
theorem xSe (h:List Int):(rH h).length=h.length:=by
 unfold rH xIc;split
 ·rw[rQ,xG5,List.length_set,jB,jB]
 ·rw[jB,jB]
theorem xZw {h:List Int} (hh:yU h):yU (rH h):=by
 unfold rH xIc;split
 ·exact xD6 ((pE (pE hh)).set 0 (wrap_u64 _)) 5
 ·exact pE (pE hh)
end Mailsack
namespace Go.Proofs.SH
open Go.RowKit Mailsack MM BB
structure xTb (w:World) (c:List Int) (g:Nat) (d:List Int) (W:World):Prop where
 bh:uH W w.heap.size c
 bz:uH W (w.heap.size+1) (List.replicate 5 0)
 bd:uH W g d
 ge:w.heap.size+2<=g
 bel:ψ w W
theorem xTb.put {w:World} {c:List Int} {g:Nat} {d:List Int} {W:World} (h:xTb w c g d W) (i:Nat) (x:Int):xTb w c g (d.set i x) (W.setCell ⟨g,i,none⟩ (.int .u64 x)):=by
 have hg:=h.ge;exact⟨h.bh.far (p:=⟨g,i,none⟩) (by simp only[];omega) _,h.bz.far (p:=⟨g,i,none⟩) (by simp only[];omega) _,h.bd.put i x,hg,h.bel.setCell (p:=⟨g,i,none⟩) (by simp only[];omega) _⟩
theorem xW4 (hs:List Int) (w:World) (hl:hs.length=5) (hu:yU hs):
  Calls prog 334 #[.agg (xG hs)] w λe w'=>e=.returned (.agg (xG (rH hs)))/\ψ w w':=by
 have H0:Hid (xKs w hs ((w.alloc (.cells (xG hs) 377)).alloc (.cells (xG (List.replicate 5 0)) 377))):=ι ⟨zV _ _ _,zK _ _ _,(φ w _).alloc σ _⟩;have HI:Hid ((prog.info? 377).map (·.size)=some (xG hs).size):=ι (xBh hl);have HC1:=ι (λW=>xGr hs W hl hu)
 have HP:Hid (∀n,n=5->rH hs=xIc (wX (wX hs)) (yM (xG5 (wX (wX hs))) n).1 (yM (xG5 (wX (wX hs))) n).2):=ι (λn hn=>by rw[hn];rfl);obtain⟨c1,hc1⟩:∃c,wX hs=c:=⟨_,rfl⟩;have h1l:c1.length=5:=by rw[<-hc1,jB,hl]
 have h1u:yU c1:=hc1▸pE hu;rw[hc1] at HC1 HP;have HC2:=ι (λW=>xGr c1 W h1l h1u);obtain⟨c,hc⟩:∃c,wX c1=c:=⟨_,rfl⟩;have hcl:c.length=5:=by rw[<-hc,jB,h1l]
 have hcu:yU c:=hc▸pE h1u;rw[hc] at HC2 HP;have HIc:Hid ((prog.info? 377).map (·.size)=some (xG c).size):=ι (xBh hcl);have HZ1:Hid ((xG hs).size=(xG c).size):=ι (by rw[xV,xV,hl,hcl]);have HZ0:Hid ((xG (List.replicate 5 0)).size=(xG c).size):=ι (by rw[xV,xV,hcl];rfl)
 clear hc hc1 h1l h1u;go_enter func334,ntmps334;go_upto_region 1 with fail
 refine(λ(h:∀W3,Hid (xKs w hs W3)->Code.wp _ _ _ _ W3)=>h _ H0) ?_;clear H0;intro w3 hw3;refine wp_region_lit ?_;refine wpList_load_row rfl _ _ rfl w.heap.size rfl _ (xG hs) (0,0) _ hw3.o.st underlying377 rfl HI.o ?_;repeat go_step
 refine(HC1.o _).mono ?_;rintro e w4 ⟨rfl,hb⟩;have hw4:Hid (xKs w hs w4):=ι ⟨xD hw3.o.st hb (xH hw3.o.st),xD hw3.o.res hb (xH hw3.o.res),hw3.o.bel.trans (hb.mono hw3.o.bel.size)⟩;clear hw3 hb;simp only[]
 rename ∀(a:Act) (w:World),wpList _ _ _ _ a w->_=>hk
 refine hk _ _ ?_;clear hk;repeat go_step
 refine(HC2.o _).mono ?_;rintro e w5 ⟨rfl,hb⟩;have hw5:Hid (xKs w hs w5):=ι ⟨xD hw4.o.st hb (xH hw4.o.st),xD hw4.o.res hb (xH hw4.o.res),hw4.o.bel.trans (hb.mono hw4.o.bel.size)⟩;clear hw4 hb;simp only[]
 rename ∀(a:Act) (w:World),wpList _ _ _ _ a w->_=>hk
 refine hk _ _ ?_;clear hk;refine wpList_store_row rfl _ _ _ rfl w.heap.size (xG c) rfl rfl _ _ hw5.o.st HIc.o HZ1.o (yB _) ?_
 have hw6:Hid (xKs w c (w5.setRow w.heap.size (xG c))):=ι ⟨setRow_heap _ _ _ _ _ _ hw5.o.st,by unfold uH;rw[setRow_other _ _ _ _ ω];exact hw5.o.res,below_setRow hw5.o.bel ν _⟩;refine(λ(h:∀W3,Hid (xKs w c W3)->wpList _ _ _ _ _ W3)=>h _ hw6) ?_;clear hw5 hw6 HC1 HC2 HZ1
 intro w7 hw7;go_upto_region 2 with fail
 refine wp_region_lit ?_;refine wpList_load_row rfl _ _ rfl w.heap.size rfl _ (xG c) (0,0) _ hw7.o.st underlying377 rfl HIc.o ?_;iterate 3 go_step
 refine wpList_store_row rfl _ _ _ rfl w7.heap.size (xG c) rfl rfl _ (xG (List.replicate 5 0)) (xM _ _) HIc.o HZ0.o (yB _) ?_;have hz7:=xH hw7.o.res
 have hw8:Hid (xTb w c w7.heap.size c ((w7.alloc (.cells (xG (List.replicate 5 0)) 377)).setRow w7.heap.size (xG c))):=ι ⟨by unfold uH;rw[setRow_other _ _ _ _ ω];exact xO hw7.o.st _,by unfold uH;rw[setRow_other _ _ _ _ ω];exact xO hw7.o.res _,setRow_heap _ _ _ _ _ _ (xM _ _),ω,below_setRow (hw7.o.bel.alloc hw7.o.bel.size _) ω _⟩
 refine(λ(h:∀W3,Hid (xTb w c w7.heap.size c W3)->wpList _ _ _ _ _ W3)=>h _ hw8) ?_;clear hw8;generalize w7.heap.size=g at hz7⊢;clear hw7;intro w8 hw8;obtain⟨a0,a1⟩:=hcu 0;obtain⟨a,ha⟩:∃a,c.getD 0 0=a:=⟨_,rfl⟩;have q0:=hw8.o.bd.cell (i:=0) ω;have y0:=hw8.o.bd.free 0
 obtain⟨t,ht⟩:∃t,xG5 c=t:=⟨_,rfl⟩;have HA:Hid (xTb w c g (yM t 0).1 (w8.setCell ⟨g,0,none⟩ (.int .u64 (IntKind.u64.wrap (c.getD 0 0+5))))):=ι (by rw[<-ht];exact hw8.o.put 0 _);have htl:t.length=5:=by rw[<-ht,xG5,List.length_set,hcl]
 have htu:yU t:=ht▸hcu.set 0 (wrap_u64 _);have HO0:Hid ((yM t 0).2=0):=ι rfl;rw[ha] at a0 a1 q0 HA;rw[ht] at HP;have HL:Hid (∀i,(yM t i).1.length=5):=ι (λi=>by rw[rQ,htl]);have HU:=ι (λi=>xD6 htu i);have HV:=ι (λi=>xGs t i)
 have HS:Hid (∀i,(yM t (i+1)).1=(yM t i).1.set i (bits .and .u64 (IntKind.u64.wrap ((yM t i).1.getD i 0+(yM t i).2)) 67108863)/\(yM t (i+1)).2=IntKind.u64.wrap ((yM t i).1.getD i 0+(yM t i).2) / 67108864):=ι (λi=>⟨rfl,rfl⟩);clear ha ht htl htu hw8 hcu hl hu
 go_upto_region 5 with fail
 clear q0 y0 a0 a1;refine(λ(h:∀W3,Hid (xTb w c g (yM t 0).1 W3)->Code.wp _ _ _ _ W3)=>h _ HA) ?_;clear HA;intro w9 hw9;go_wp2_with fail
 go_loopw [4,14] (λov iv wr=>∃i:Nat,i<=5/\iv=.int .i64 i/\ov=.int .u64 (yM t i).2/\Hid (xTb w c g (yM t i).1 wr)) (λ_ iv _=>5- (intOf iv).toNat)
 case atStart=>exact⟨0,δ,rfl,by rw[HO0.o],hw9⟩
 case round=>
  clear hw9 HO0;obtain⟨i,hi,rfl,rfl,hr⟩:=hrel;obtain⟨v0,v1⟩:=HV.o i
  by_cases hlt:i<5
  ·have hl5:=HL.o i;obtain⟨u0,u1⟩:=HU.o i i;obtain⟨s1,s2⟩:=HS.o i;obtain⟨x1,hx1⟩:∃x,(yM t (i+1)).1=x:=⟨_,rfl⟩;obtain⟨o1,ho1⟩:∃x,(yM t (i+1)).2=x:=⟨_,rfl⟩;rw[hx1] at s1;rw[ho1] at s2;have HX1:=ι hx1;have HO1:=ι ho1;clear hx1 ho1;generalize (yM t i).2=o at v0 v1 s1 s2⊢
   generalize (yM t i).1=xs at hr hl5 u0 u1 s1 s2;have q0:=hr.o.bd.cell (i:=i) ω;have q1:=hr.o.bd.free i;obtain⟨x,hx⟩:∃x,xs.getD i 0=x:=⟨_,rfl⟩;rw[hx] at q0 u0 u1 s1 s2;obtain⟨z,hz⟩:∃z,IntKind.u64.wrap (x+o)=z:=⟨_,rfl⟩;rw[hz] at s1 s2;have hzr:=wrap_u64 (x+o);rw[hz] at hzr
   obtain⟨z0,z1⟩:=hzr;have HZ:=ι hz;have HA:Hid (xTb w c g (xs.set i z) (wr.setCell ⟨g,i,none⟩ (.int .u64 z))):=ι (hr.o.put i z)
   have HB:Hid (xTb w c g x1 ((wr.setCell ⟨g,i,none⟩ (.int .u64 z)).setCell ⟨g,i,none⟩ (.int .u64 (bits .and .u64 z 67108863)))):=ι (by
    have h:=HA.o.put i (bits .and .u64 z 67108863);rw[List.set_set,<-s1] at h;exact h)
   have HS2:=ι s2
   have HQ:Hid (∀W,Hid (xTb w c g (xs.set i z) W)->W.cell? ⟨g,i,none⟩=some (.int .u64 z)/\W.frozen? ⟨g,i,none⟩=false):=ι (λW h=>by
    have q:=h.o.bd.cell (i:=i) (by rw[List.length_set];omega);rw[List.getD_eq_getElem?_getD,List.getElem?_set_self ω] at q;exact⟨q,h.o.bd.free i⟩)
   clear hx hz s1 s2 hr hl5;go_upto_region 9 with fail
   rw[HZ.o];clear q0 q1 u0 u1
   revert HB
   refine(λ(h:∀W3,Hid (xTb w c g (xs.set i z) W3)->Hid (xTb w c g x1 (W3.setCell ⟨g,i,none⟩ (.int .u64 (bits .and .u64 z 67108863))))->Code.wp _ _ _ _ W3)=>h _ HA) ?_;clear HA;intro w3 hw3 HB;obtain⟨q0,q1⟩:=HQ.o w3 hw3;clear HQ;go_wp2;refine⟨⟨i+1,ω,?_,?_,?_⟩,?_⟩
   ·exact congrArg (Value.int .i64) ω
   ·rw[HO1.o,HS2.o]
   ·rw[HX1.o];exact HB
   ·simp[intOf];omega
  ·have hi5:i=5:=ω;have hneg:¬((i:Int)<5):=ω;have HF:=ι (HP.o i hi5);have hl5:=HL.o i;generalize (yM t i).2=o at v0 v1 HF⊢;generalize (yM t i).1=xs at hr hl5 HF;have HIx:Hid ((prog.info? 377).map (·.size)=some (xG xs).size):=ι (xBh hl5)
   have HZx:Hid ((xG (List.replicate 5 0)).size=(xG xs).size):=ι (by rw[xV,xV,hl5];rfl);have ho:Hid ((0:Int)<o∨¬(0:Int)<o):=ι ω;clear hi5 hlt hi HP HL HU HV HS hl5;rcases ho.o with hp|hp
   ·have HG:Hid (rH hs=xs):=ι (by rw[HF.o,xIc,if_pos hp]);go_upto_region 13 with fail
    refine wp_region_lit ?_;refine wpList_load_row rfl _ _ rfl g rfl _ (xG xs) (0,0) _ hr.o.bd underlying377 rfl HIx.o ?_;refine wpList_store_row rfl _ _ _ rfl (w.heap.size+1) (xG xs) rfl rfl _ _ hr.o.bz HIx.o HZx.o (yB _) ?_;go_wp2
    refine bodyPost_ret (results_cell_row rfl _ _ (w.heap.size+1) _ _ (0,0) _ rfl (setRow_heap _ _ _ _ _ _ hr.o.bz) underlying377 rfl HIx.o) rfl ?_;rw[HG.o];exact⟨rfl,below_setRow hr.o.bel ω _⟩
   ·have HG:Hid (rH hs=c):=ι (by rw[HF.o,xIc,if_neg hp]);go_upto_region 14 with fail
    refine wp_region_lit ?_;refine wpList_load_row rfl _ _ rfl w.heap.size rfl _ (xG c) (0,0) _ hr.o.bh underlying377 rfl HIc.o ?_;refine wpList_store_row rfl _ _ _ rfl (w.heap.size+1) (xG c) rfl rfl _ _ hr.o.bz HIc.o HZ0.o (yB _) ?_;go_wp2
    refine bodyPost_ret (results_cell_row rfl _ _ (w.heap.size+1) _ _ (0,0) _ rfl (setRow_heap _ _ _ _ _ _ hr.o.bz) underlying377 rfl HIc.o) rfl ?_;rw[HG.o];exact⟨rfl,below_setRow hr.o.bel ω _⟩
end Go.Proofs.SH
namespace Mailsack
def padB (s:Bs):Bs:=(s++(xP 16).drop s.length).set s.length 1
def qD (s:ByteArray):ByteArray:=if s.size=16 then s else bsA (padB s.data.toList)
theorem xZg (s:Bs) (h:s.length<=16):(padB s).length=16:=by
 unfold padB;rw[List.length_set,List.length_append,List.length_drop,yO];omega
theorem xVj (s:ByteArray) (h:s.size<=16):(qD s).size=16:=by
 unfold qD;split
 ·assumption
 ·have:=xZg s.data.toList (by simpa using h);simpa[bsA,ByteArray.size] using this
end Mailsack
namespace Go.Proofs.SH
open Go.RowKit Mailsack MM BB
theorem xSz {W:World} {g:Nat} {l:Bs} {t:TypeId} (h:W.heap[g]?=some (.cells (yE l) t (0,0))) (ty:TypeId) (dLen dCap:Nat) (s:ByteArray) (h1:s.size<=dLen) (h2:s.size<=l.length):
  (Builtin.copy_ #[125,9] ty #[.slice (some ⟨g,0,none⟩) dLen dCap,.string s]).run prog W=.ok (goInt s.size) (W.setRow g (yE (s.data.toList++l.drop s.size))):=by
 have h3:=Lib.run_copy_row_string (P:=prog) W 125 9 ty 5 g 0 dLen dCap s (yE l) _ underlying125 κ h h1 (by rw[uO];omega)
 have h4:((yE l).toList.take 0++Lib.byteCells s.data.toList++(yE l).toList.drop (0+s.size)).toArray=yE (s.data.toList++l.drop s.size):=by
  simp[yE,Lib.byteCells,List.map_drop]
 rw[h3,h4]
theorem xS1 (s:ByteArray) (w:World) (hs:s.size<=16):
  Calls prog 331 #[.string s] w λe w'=>e=.returned (.string (qD s))/\ψ w w':=by
 by_cases h16:s.size=16
 ·have HP:Hid (qD s=s):=ι (if_pos h16);have h16i:(s.size:Int)=16:=ω;clear h16 hs;go_enter func331,ntmps331;go_wp2;go_ret;rw[HP.o];exact⟨rfl,Below.refl _ _⟩
 ·have hlt:s.size<16:=ω;have hsl:s.data.toList.length=s.size:=σ;have HP:Hid (qD s=bsA (padB s.data.toList)):=ι (if_neg h16);have HB0:Hid ((w.alloc (.cells (yE (xP 16)) 435)).heap[w.heap.size]?=some (.cells (yE (xP 16)) 435 (0,0))):=ι (xM _ _)
  have HW0:=ι (φ w (.cells (yE (xP 16)) 435));have HB1:=ι (setRow_heap (w.alloc (.cells (yE (xP 16)) 435)) w.heap.size _ (yE (s.data.toList++(xP 16).drop s.size)) _ _ HB0.o);have HW1:=ι (below_setRow HW0.o ν (yE (s.data.toList++(xP 16).drop s.size)))
  have hll:(s.data.toList++(xP 16).drop s.size).length=16:=by rw[List.length_append,List.length_drop,yO,hsl];omega
  have HPB:Hid (padB s.data.toList=(s.data.toList++(xP 16).drop s.size).set s.size 1):=ι (by unfold padB;rw[hsl]);have HCP:=ι (xSz HB0.o 3 16 16 s ω (by rw[yO];omega));have h16i:¬((s.size:Int)=16):=ω;clear hs h16;go_enter func331,ntmps331;go_upto_region 4 with fail
  refine wp_region_lit ?_;iterate 6 go_step
  refine Lib.wpList_copy_run _ rfl _ _ _ _ rfl _ _ rfl rfl HCP.o ?_;clear HCP HB0 HW0;generalize (w.alloc (.cells (yE (xP 16)) 435)).setRow w.heap.size (yE (s.data.toList++(xP 16).drop s.size))=w1 at HB1 HW1⊢;generalize s.data.toList++(xP 16).drop s.size=l at HB1 hll HPB
  have q0:w1.cell? ⟨w.heap.size,s.size,none⟩=some (.int .u8 ((l.getD s.size 0).toNat:Int)):=by rw[xA HB1.o,qQ ω]
  have q1:=xB HB1.o s.size;generalize ((l.getD s.size 0).toNat:Int)=old at q0
  have HB2:Hid ((w1.setCell ⟨w.heap.size,s.size,none⟩ (.int .u8 1)).heap[w.heap.size]?=some (.cells (yE (l.set s.size 1)) 435 (0,0))):=ι (by
   have h:=xY HB1.o s.size (.int .u8 1);rw[show(Value.int .u8 1)=.int .u8 (((1:UInt8)).toNat:Int) from rfl,xQe] at h;exact h)
  have HW2:=ι (HW1.o.setCell (p:=⟨w.heap.size,s.size,none⟩) ν (.int .u8 1));have HL2:Hid ((l.set s.size 1).length=16):=ι (by rw[List.length_set];exact hll);clear HB1 HW1 hll hsl;go_upto_region 6 with fail
  clear q0 q1
  revert HW2
  refine(λ(h:∀W3,Hid (W3.heap[w.heap.size]?=some (.cells (yE (l.set s.size 1)) 435 (0,0)))->Hid (ψ w W3)->Code.wp _ _ _ _ W3)=>h _ HB2) ?_;clear HB2;intro w3 hw3 hb3;have HT:=xCd (t:=435) hw3.o 16 16 HL2.o;generalize l.set s.size 1=l2 at HPB hw3 HL2 HT;go_wp2;go_ret
  rw[HP.o,HPB.o];exact⟨rfl,hb3.o⟩
end Go.Proofs.SH
namespace Mailsack
def finA (l:List Int):Int:=Go.bits .or .u64 (Go.bits .or .u64 (l.getD 0 0) (Go.IntKind.u64.wrap (l.getD 1 0*67108864))) (Go.IntKind.u64.wrap (l.getD 2 0*4503599627370496))
def finB (l:List Int):Int:=Go.bits .or .u64 (Go.bits .or .u64 (l.getD 2 0 / 4096) (Go.IntKind.u64.wrap (l.getD 3 0*16384))) (Go.IntKind.u64.wrap (l.getD 4 0*1099511627776))
def xWs (s:ByteArray):Int:=Go.bits .or .u64 (uC s 0) (Go.IntKind.u64.wrap (uC s 4*4294967296))
def halfB (s:ByteArray):Int:=Go.bits .or .u64 (uC s 8) (Go.IntKind.u64.wrap (uC s 12*4294967296))
def lowF (l:List Int) (s:ByteArray):Int:=(finA l+xWs s) % 18446744073709551616
def xZi (l:List Int) (s:ByteArray):Int:=(finA l+xWs s) / 18446744073709551616
def xWm (l:List Int) (s:ByteArray):Int:=(finB l+halfB s+xZi l s) % 18446744073709551616
def xS3 (lo hi:Int):Nat->Bs
 |0=>xP 16
 |i+1=>((xS3 lo hi i).set i (oct (lo / 2^(8*i)))).set (8+i) (oct (hi / 2^(8*i)))
theorem xJj (lo hi:Int):∀i,(xS3 lo hi i).length=16
 |0=>yO 16
 |i+1=>by rw[xS3,List.length_set,List.length_set,xJj lo hi i]
def finP (l:List Int) (s:ByteArray):ByteArray:=bsA (xS3 (lowF l s) (xWm l s) 8)
theorem xX3 (l:List Int) (s:ByteArray):(finP l s).size=16:=by
 have:=xJj (lowF l s) (xWm l s) 8;simpa[finP,bsA,ByteArray.size] using this
end Mailsack
namespace Go.Proofs.SH
open Go.RowKit Mailsack MM BB
theorem yEf (x y c:Int) (hx:0<=x) (hy:0<=y) (hc0:0<=c) (hc:c<=1) (w:World):
  (callFunc 252 #[.int .u64 x,.int .u64 y,.int .u64 c]).run prog w=
   .ok (.value (.tuple #[.int .u64 ((x+y+c) % 18446744073709551616),.int .u64 ((x+y+c) / 18446744073709551616)])) w:=by
 rw[run_callFunc_extern func252 κ κ κ (e:=add64Entry) κ,run_add64 x y c hx hy hc0 hc]
 rfl
structure FhM (w:World) (hs:List Int) (W:World):Prop where
 bh:uH W w.heap.size hs
 bel:ψ w W
theorem FhM.below {w:World} {hs:List Int} {W W':World} (h:FhM w hs W) (hb:ψ W W'):FhM w hs W':=
 ⟨xD h.bh hb (xH h.bh),h.bel.trans (hb.mono h.bel.size)⟩
theorem xOa (hs:List Int) (s:ByteArray) (w:World) (hl:hs.length=5) (hu:yU hs) (h16:s.size=16):
  Calls prog 333 #[.agg (xG hs),.string s] w λe w'=>e=.returned (.string (finP hs s))/\ψ w w':=by
 have W0:Hid (∀W,Calls prog 391 #[.string s,.int .i64 0] W λe w'=>e=.returned (.int .u64 (uC s 0))/\ψ W w'):=ι (λW=>jW s 0 W ω ω);have W4:Hid (∀W,Calls prog 391 #[.string s,.int .i64 4] W λe w'=>e=.returned (.int .u64 (uC s 4))/\ψ W w'):=ι (λW=>jW s 4 W ω ω)
 have W8:Hid (∀W,Calls prog 391 #[.string s,.int .i64 8] W λe w'=>e=.returned (.int .u64 (uC s 8))/\ψ W w'):=ι (λW=>jW s 8 W ω ω);have W12:Hid (∀W,Calls prog 391 #[.string s,.int .i64 12] W λe w'=>e=.returned (.int .u64 (uC s 12))/\ψ W w'):=ι (λW=>jW s 12 W ω ω)
 have HF:Hid (∀n,n=8->finP hs s=bsA (xS3 (lowF hs s) (xWm hs s) n)):=ι (λn hn=>by rw[hn];rfl);obtain⟨lw,hlw⟩:∃x,lowF hs s=x:=⟨_,rfl⟩;obtain⟨hw,hhw⟩:∃x,xWm hs s=x:=⟨_,rfl⟩;obtain⟨ov,hov⟩:∃x,xZi hs s=x:=⟨_,rfl⟩;rw[hlw,hhw] at HF;unfold lowF finA xWs at hlw
 unfold xZi finA xWs at hov;have xJw:=hhw;unfold xWm finB halfB at xJw;unfold xZi finA xWs at xJw;clear hhw;obtain⟨u00,u01⟩:=pJ s 0;obtain⟨u40,u41⟩:=pJ s 4;obtain⟨u80,u81⟩:=pJ s 8;obtain⟨uc0,uc1⟩:=pJ s 12;obtain⟨y0,hy0⟩:∃x,uC s 0=x:=⟨_,rfl⟩;obtain⟨y4,hy4⟩:∃x,uC s 4=x:=⟨_,rfl⟩
 obtain⟨y8,hy8⟩:∃x,uC s 8=x:=⟨_,rfl⟩;obtain⟨y12,hy12⟩:∃x,uC s 12=x:=⟨_,rfl⟩;rw[hy0] at W0 u00 u01 hlw hov xJw;rw[hy4] at W4 u40 u41 hlw hov xJw;rw[hy8] at W8 u80 u81 xJw;rw[hy12] at W12 uc0 uc1 xJw;have HM:Hid (FhM w hs (w.alloc (.cells (xG hs) 377))):=ι ⟨xM _ _,φ w _⟩
 have HM2:Hid (FhM w hs (w.alloc (.cells (xG hs) 377)).drew):=ι ⟨HM.o.bh,HM.o.bel.drew⟩;obtain⟨a,ha⟩:∃x,hs.getD 0 0=x:=⟨_,rfl⟩;obtain⟨b,hb⟩:∃x,hs.getD 1 0=x:=⟨_,rfl⟩;obtain⟨c,hc⟩:∃x,hs.getD 2 0=x:=⟨_,rfl⟩;obtain⟨d,hd⟩:∃x,hs.getD 3 0=x:=⟨_,rfl⟩
 obtain⟨e,he⟩:∃x,hs.getD 4 0=x:=⟨_,rfl⟩;obtain⟨a0,a1⟩:=ha▸hu 0;obtain⟨b0,b1⟩:=hb▸hu 1;obtain⟨c0,c1⟩:=hc▸hu 2;obtain⟨d0,d1⟩:=hd▸hu 3;obtain⟨e0,e1⟩:=he▸hu 4
 have HQ:Hid (∀W,Hid (FhM w hs W)->W.cell? ⟨w.heap.size,0,none⟩=some (.int .u64 a)/\W.cell? ⟨w.heap.size,1,none⟩=some (.int .u64 b)/\W.cell? ⟨w.heap.size,2,none⟩=some (.int .u64 c)/\W.cell? ⟨w.heap.size,3,none⟩=some (.int .u64 d)/\W.cell? ⟨w.heap.size,4,none⟩=some (.int .u64 e)):=ι (λW h=>by
  refine⟨?_,?_,?_,?_,?_⟩
  ·rw[h.o.bh.cell (i:=0) ω,ha]
  ·rw[h.o.bh.cell (i:=1) ω,hb]
  ·rw[h.o.bh.cell (i:=2) ω,hc]
  ·rw[h.o.bh.cell (i:=3) ω,hd]
  ·rw[h.o.bh.cell (i:=4) ω,he])
 rw[ha,hb,hc] at hlw hov;rw[hc,hd,he,ha,hb] at xJw;have HLW:=ι hlw;have HOV:=ι hov;have HHW:=ι xJw;clear hlw hov xJw;clear hu hl h16 ha hb hc hd he hy0 hy4 hy8 hy12;go_enter func333,ntmps333;go_upto_region 1 with fail
 refine RG.xQ (λW=>Hid (FhM w hs W)) κ κ HM2 ?_;clear HM HM2
 iterate 11
  apply RG.xJ
  ·intro w9 hw9;obtain⟨q0,q1,q2,q3,q4⟩:=HQ.o w9 hw9;repeat go_step
   exact RG.xC hw9
  ·rfl
 apply RG.xJ
 ·intro w9 hw9;repeat go_step
  refine(W0.o _).mono ?_;rintro e w10 ⟨rfl,zF⟩;simp only[];repeat go_step
  refine RG.xC ?_;exact ι (hw9.o.below zF)
 ·rfl
 refine RG.dS ?_;apply RG.xJ
 ·intro w9 hw9;repeat go_step
  refine(W4.o _).mono ?_;rintro e w10 ⟨rfl,zF⟩;simp only[];repeat go_step
  refine RG.xC ?_;exact ι (hw9.o.below zF)
 ·rfl
 iterate 2 refine RG.dS ?_
 obtain⟨lo,hlo⟩:∃x,bits .or .u64 (bits .or .u64 a (IntKind.u64.wrap (b*67108864))) (IntKind.u64.wrap (c*4503599627370496))=x:=⟨_,rfl⟩;obtain⟨lo0,lo1⟩:=hlo▸zH .or (bits .or .u64 a (IntKind.u64.wrap (b*67108864))) (IntKind.u64.wrap (c*4503599627370496))
 obtain⟨ha,hha⟩:∃x,bits .or .u64 y0 (IntKind.u64.wrap (y4*4294967296))=x:=⟨_,rfl⟩;obtain⟨ha0,ha1⟩:=hha▸zH .or y0 (IntKind.u64.wrap (y4*4294967296));rw[hlo,hha];have HLO:=ι hlo;have HHA:=ι hha;clear hlo hha;have hlw:=HLW.o;have hov:=HOV.o;have xJw:=HHW.o
 rw[HLO.o,HHA.o] at hlw hov xJw;rw[hov] at xJw;clear HLW HOV HHW HLO HHA;have HHW:=ι xJw;have hl0:=xDs (lo+ha);rw[hlw] at hl0;obtain⟨l0,l1⟩:=hl0;have ho0:0<=ov:=ω;have ho1:ov<=1:=ω
 have A1:Hid (∀W,(callFunc 252 #[.int .u64 lo,.int .u64 ha,.int .u64 0]).run prog W=.ok (.value (.tuple #[.int .u64 lw,.int .u64 ov])) W):=ι (λW=>by
  have h:=yEf lo ha 0 lo0 ha0 δ δ W;rw[Int.add_zero,hlw,hov] at h;exact h)
 clear xJw hlw hov;apply RG.xJ
 ·intro w9 hw9;have q9:=A1.o w9;repeat go_step
  exact RG.xC hw9
 ·rfl
 iterate 5 refine RG.dS ?_
 refine RG.xS (λw9 hw9=>?_);clear W0 W4 A1 lo0 lo1 ha0 ha1 a0 a1 b0 b1 u00 u01 u40 u41;go_upto_region 2 with fail
 have HM2:Hid (FhM w hs w9.drew):=ι ⟨hw9.o.bh,hw9.o.bel.drew⟩;refine RG.xQ (λW=>Hid (FhM w hs W)) κ κ HM2 ?_;clear HM2 hw9
 iterate 12
  apply RG.xJ
  ·intro w9 hw9;obtain⟨q0,q1,q2,q3,q4⟩:=HQ.o w9 hw9;repeat go_step
   exact RG.xC hw9
  ·rfl
 apply RG.xJ
 ·intro w9 hw9;repeat go_step
  refine(W8.o _).mono ?_;rintro e w10 ⟨rfl,zF⟩;simp only[];repeat go_step
  refine RG.xC ?_;exact ι (hw9.o.below zF)
 ·rfl
 refine RG.dS ?_;apply RG.xJ
 ·intro w9 hw9;repeat go_step
  refine(W12.o _).mono ?_;rintro e w10 ⟨rfl,zF⟩;simp only[];repeat go_step
  refine RG.xC ?_;exact ι (hw9.o.below zF)
 ·rfl
 iterate 3 refine RG.dS ?_
 obtain⟨lo2,hlo⟩:∃x,bits .or .u64 (bits .or .u64 (c / 4096) (IntKind.u64.wrap (d*16384))) (IntKind.u64.wrap (e*1099511627776))=x:=⟨_,rfl⟩;obtain⟨lo0,lo1⟩:=hlo▸zH .or (bits .or .u64 (c / 4096) (IntKind.u64.wrap (d*16384))) (IntKind.u64.wrap (e*1099511627776))
 obtain⟨hb,hhb⟩:∃x,bits .or .u64 y8 (IntKind.u64.wrap (y12*4294967296))=x:=⟨_,rfl⟩;obtain⟨hb0,hb1⟩:=hhb▸zH .or y8 (IntKind.u64.wrap (y12*4294967296));rw[hlo,hhb];have xJw:=HHW.o;rw[hlo,hhb] at xJw;clear hlo hhb HHW;have hh0:=xDs (lo2+hb+ov);rw[xJw] at hh0;obtain⟨h0,h1⟩:=hh0
 obtain⟨ov2,hov2⟩:∃x,(lo2+hb+ov) / 18446744073709551616=x:=⟨_,rfl⟩
 have A2:Hid (∀W,(callFunc 252 #[.int .u64 lo2,.int .u64 hb,.int .u64 ov]).run prog W=.ok (.value (.tuple #[.int .u64 hw,.int .u64 ov2])) W):=ι (λW=>by
  have h:=yEf lo2 hb ov lo0 hb0 ho0 ho1 W;rw[xJw,hov2] at h;exact h)
 clear xJw hov2;apply RG.xJ
 ·intro w9 hw9;have q9:=A2.o w9;repeat go_step
  exact RG.xC hw9
 ·rfl
 iterate 5 refine RG.dS ?_
 refine RG.xS (λw9 hw9=>?_);clear W8 W12 A2 lo0 lo1 hb0 hb1 c0 c1 d0 d1 e0 e1 u80 u81 uc0 uc1 HQ ho0 ho1
 have HO0:Hid (FhM w hs (w9.alloc (.cells (yE (xP 16)) 435))/\(w9.alloc (.cells (yE (xP 16)) 435)).heap[w9.heap.size]?=some (.cells (yE (xS3 lw hw 0)) 435 (0,0))/\w.heap.size<w9.heap.size):=ι ⟨⟨xO hw9.o.bh _,hw9.o.bel.alloc hw9.o.bel.size _⟩,xM _ _,xH hw9.o.bh⟩
 have HOS:Hid (∀i,xS3 lw hw (i+1)=((xS3 lw hw i).set i (oct (lw / 2^(8*i)))).set (8+i) (oct (hw / 2^(8*i)))):=ι (λi=>rfl);have HOL:=ι (λi=>xJj lw hw i);go_upto_region 4 with fail
 refine(λ(h:∀W3,Hid (FhM w hs W3/\W3.heap[w9.heap.size]?=some (.cells (yE (xS3 lw hw 0)) 435 (0,0))/\w.heap.size<w9.heap.size)->Code.wp _ _ _ _ W3)=>h _ HO0) ?_;clear HO0 hw9;generalize w9.heap.size=g;intro w3 hw3;go_wp2_with fail
 go_loopw [53] (λiv W=>∃i:Nat,i<=8/\iv=.int .i64 i/\Hid (FhM w hs W/\W.heap[g]?=some (.cells (yE (xS3 lw hw i)) 435 (0,0))/\w.heap.size<g)) (λiv _=>8- (intOf iv).toNat)
 case atStart=>exact⟨0,δ,rfl,hw3⟩
 case round=>
  clear hw3
  rename World=>wi
  obtain⟨i,hi,rfl,hr⟩:=hrel
  by_cases hlt:i<8
  ·have HS1:=ι (HOS.o i);have hol:=HOL.o i;generalize xS3 lw hw i=l at hr HS1 hol;have hg:=hr.o.2.2;have q0:=xA hr.o.2.1 i;rw[qQ ω] at q0;have q1:=xB hr.o.2.1 i;generalize ((l.getD i 0).toNat:Int)=old at q0
   have HA:Hid (FhM w hs (wi.setCell ⟨g,i,none⟩ (.int .u8 (lw / 2^(8*i) % 256)))/\(wi.setCell ⟨g,i,none⟩ (.int .u8 (lw / 2^(8*i) % 256))).heap[g]?=some (.cells (yE (l.set i (oct (lw / 2^(8*i))))) 435 (0,0))):=ι (by
    refine⟨⟨hr.o.1.bh.far (p:=⟨g,i,none⟩) (by simp only[];omega) _,hr.o.1.bel.setCell (p:=⟨g,i,none⟩) (by simp only[];omega) _⟩,?_⟩;have h:=xY hr.o.2.1 i (.int .u8 (lw / 2^(8*i) % 256));rw[xD1] at h;exact h)
   have HG:=ι hg;have HL1:Hid ((l.set i (oct (lw / 2^(8*i)))).length=16):=ι (by rw[List.length_set];exact hol);clear hr hol hg;generalize l.set i (oct (lw / 2^(8*i)))=l1 at HA HS1 HL1;go_upto_region 8 with fail
   clear q0 q1;refine(λ(h:∀W3,Hid (FhM w hs W3/\W3.heap[g]?=some (.cells (yE l1) 435 (0,0)))->Code.wp _ _ _ _ W3)=>h _ HA) ?_;clear HA;intro wk hk;have q0:=xA hk.o.2 (8+i);rw[qQ (by rw[HL1.o];omega)] at q0;have q1:=xB hk.o.2 (8+i)
   generalize ((l1.getD (8+i) 0).toNat:Int)=old at q0
   have HB:Hid (FhM w hs (wk.setCell ⟨g,8+i,none⟩ (.int .u8 (hw / 2^(8*i) % 256)))/\(wk.setCell ⟨g,8+i,none⟩ (.int .u8 (hw / 2^(8*i) % 256))).heap[g]?=some (.cells (yE (xS3 lw hw (i+1))) 435 (0,0))/\w.heap.size<g):=ι (by
    have hg:=HG.o;refine⟨⟨hk.o.1.bh.far (p:=⟨g,8+i,none⟩) (by simp only[];omega) _,hk.o.1.bel.setCell (p:=⟨g,8+i,none⟩) (by simp only[];omega) _⟩,?_,hg⟩;have h:=xY hk.o.2 (8+i) (.int .u8 (hw / 2^(8*i) % 256));rw[xD1] at h;rw[HS1.o];exact h)
   clear hk HL1;go_wp2;exact⟨⟨i+1,ω,by go_num,HB⟩,by simp[intOf];omega⟩
  ·have hie:i=8:=ω;have HFi:=ι (HF.o i hie);have hneg:¬((i:Int)<8):=ω;have HT:=xCd (t:=435) hr.o.2.1 16 16 (HOL.o i);clear HF HOS HOL hlt hi hie;generalize xS3 lw hw i=l at hr HFi HT;go_wp2;go_ret;rw[HFi.o];exact⟨rfl,hr.o.1.bel⟩
end Go.Proofs.SH