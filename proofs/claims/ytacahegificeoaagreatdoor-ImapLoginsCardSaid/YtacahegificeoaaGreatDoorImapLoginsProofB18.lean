/- Contracts of functions. Conditions: as stated. -/
import Derived.Test.YtacahegificeoaaGreatDoorImapLoginsProofB14
import Derived.Test.YtacahegificeoaaGreatDoorImapLoginsProofB17
set_option maxHeartbeats 8000000
set_option maxRecDepth 100000
namespace Mailsack
def xAh (pw yN:ByteArray):Nat->ByteArray
 |0=>bsA (xTz pw (yN++bsA [0,0,0,1]))
 |k+1=>bsA (xTz pw (xAh pw yN k))
def xH4 (l:Bs) (t:ByteArray):Nat->Bs
 |0=>l
 |i+1=>(xH4 l t i).set i (oct (Go.bits .xor .u8 (((xH4 l t i).getD i 0).toNat:Int) (yO t i)))
theorem xEz (l:Bs) (t:ByteArray):∀i,(xH4 l t i).length=l.length
 |0=>rfl
 |i+1=>by simp[xH4,xEz l t i]
def pJ (pw yN:ByteArray):Nat->Bs
 |0=>(xAh pw yN 0).data.toList
 |k+1=>xH4 (pJ pw yN k) (xAh pw yN (k+1)) 32
theorem xBc (pw yN:ByteArray):∀k,(xAh pw yN k).size=32
 |0=>by rw[xAh,yS,xFb]
 |k+1=>by rw[xAh,yS,xFb]
theorem xG2 (pw yN:ByteArray):∀k,(pJ pw yN k).length=32
 |0=>by have:=xBc pw yN 0;simpa[pJ] using this
 |k+1=>by rw[pJ,xEz,xG2 pw yN k]
def xH9 (pw yN:ByteArray) (rounds:Nat):ByteArray:=bsA (pJ (jJ pw) yN (rounds-1))
theorem xS3 (pw yN:ByteArray) (r:Nat):(xH9 pw yN r).size=32:=by rw[xH9,yS,xG2]
theorem yEg (pw:ByteArray):(jJ pw).size<=64:=by
 unfold jJ;split
 ·rw[yS,xB8];decide
 ·omega
end Mailsack
namespace Go.Proofs.SH
open Go.RowKit Mailsack MM BB
structure PaI (w:World) (g:Nat) (l:Bs) (W:World):Prop where
 o:xMx W g l
 bel:Below w.heap.size w W
 lo:w.heap.size<=g
 hi:g<W.heap.size
theorem PaI.below {w:World} {g:Nat} {l:Bs} {W W':World} (h:PaI w g l W) (hb:Below W.heap.size W W'):PaI w g l W':=
 ⟨h.o.keep (hb.block g h.hi),h.bel.trans (hb.mono h.bel.size),h.lo,Nat.lt_of_lt_of_le h.hi hb.size⟩
theorem PaI.drew {w:World} {g:Nat} {l:Bs} {W:World} (h:PaI w g l W):PaI w g l W.drew:=⟨⟨h.o.cell,h.o.free⟩,h.bel.drew,h.lo,h.hi⟩
theorem PaI.put {w:World} {g:Nat} {l:Bs} {W:World} (h:PaI w g l W) {p:Nat} (hp:p<l.length) {z:Int} (h0:0<=z) (h1:z<256):PaI w g (l.set p (oct z)) (W.setCell ⟨g,p,none⟩ (.int .u8 z)):=
 ⟨h.o.put hp h0 h1,h.bel.setCell (p:=⟨g,p,none⟩) h.lo _,h.lo,by rw[size_set];exact h.hi⟩
theorem yC9 (pw yN:ByteArray) (r:Int) (w:World) (h:r<1∨64<r):
  Calls Tryz.prog 32 #[.string pw,.string yN,.int .i64 r] w λe w'=>e=.returned (.tuple #[.string ⟨#[]⟩,.int .i64 1])/\w'=w:=by
 have hr:=h;go_enter Tryz.func32,Tryz.ntmps32;rcases hr with h|h
 ·go_wp2;go_ret2;exact⟨rfl,rfl⟩
 ·have h1:¬(r<1):=by omega
  go_wp2;go_ret2;exact⟨rfl,rfl⟩
theorem xLe (pw yN:ByteArray) (r:Nat) (w:World) (h0:1<=r) (h1:r<=64) (hp:pw.size<=1099511627776) (hs:yN.size<=1000000) (hT:wL w):
  Calls Tryz.prog 32 #[.string pw,.string yN,.int .i64 r] w λe w'=>e=.returned (.tuple #[.string (xH9 pw yN r),.int .i64 0])/\Below w.heap.size w w':=by
 have HT:=ι (λW (h:Below w.heap.size w W)=>hT.below h ν);have HPP:Hid (∀k,k=r-1->xH9 pw yN r=bsA (pJ (jJ pw) yN k)):=ι (λk hk=>by rw[hk];rfl);have hkl:=yEg pw
 have HKP:Hid (∀W,wL W->64<pw.size->Calls Tryz.prog 83 #[.string pw] W λe w'=>e=.returned (.string (jJ pw))/\Below W.heap.size W w'):=ι (λW hW h=>by
  unfold jJ;rw[if_pos h];exact xFq pw W ω hW)
 have HKE:Hid (pw.size<=64->jJ pw=pw):=ι (λh=>by unfold jJ;rw[if_neg ω]);generalize jJ pw=kp at HPP hkl HKP HKE
 have HM0:Hid (∀W,wL W->Calls Tryz.prog 84 #[.string kp,.string (yN++bsA [0,0,0,1])] W λe w'=>e=.returned (.string (xAh kp yN 0))/\Below W.heap.size W w'):=ι (λW hW=>by
  exact xF8 kp _ W ω (by rw[ByteArray.size_append,yS];simp;omega) hW)
 have HMK:Hid (∀k W,wL W->Calls Tryz.prog 84 #[.string kp,.string (xAh kp yN k)] W λe w'=>e=.returned (.string (xAh kp yN (k+1)))/\Below W.heap.size W w'):=ι (λk W hW=>by
  exact xF8 kp _ W ω (by rw[xBc];decide) hW)
 have HLZ:=ι (xBc kp yN);have HPL:=ι (xG2 kp yN);have nb1:¬(9223372036854775807<yN.size+4):=by omega
 obtain⟨l00,h00⟩:∃x,xAh kp yN 0=x:=⟨_,rfl⟩;have hl00:=xBc kp yN 0;rw[h00] at HM0 hl00;have HP0:Hid (l00.data.toList=pJ kp yN 0):=ι (by rw[<-h00];rfl);have H00:=ι h00;clear h00;clear hkl hT;go_enter Tryz.func32,Tryz.ntmps32;go_upto_region 3 with fail
 by_cases h64:64<pw.size
 ·have h64i:(64:Int)<(pw.size:Int):=by omega
  go_wp2_with fail
  refine(HKP.o _ (HT.o _ (Below.refl _ _)) h64).mono ?_;rintro e w1 ⟨rfl,hb1⟩;have B1:=ι hb1;clear hb1 HKP HKE h64 h64i;go_upto_region 5 with fail
  have nb2:¬(9223372036854775807<yN.size+(bsA [0,0,0,1]).size):=by rw[yS];simp;omega
  have HB4:Hid (Value.string ⟨#[0,0,0,1]⟩=.string (bsA [0,0,0,1])):=ι rfl;go_wp2_with fail
  refine(HM0.o _ (HT.o _ B1.o)).mono ?_;rintro e w2 ⟨rfl,hb2⟩;have B2:=ι (B1.o.trans (hb2.mono B1.o.size));clear hb2 HM0 nb1 nb2 HB4 B1;have xJp:=λW=>Lib.run_convert_string_bytes (P:=Tryz.prog) W 9 79 5 l00 Tryz.underlying9 Tryz.underlying79 Tryz.underlying5
  have HPI:Hid (PaI w w2.heap.size l00.data.toList (Lib.bytesWorld w2 5 l00)):=ι ⟨xMx.start w2 l00,B2.o.trans ⟨rfl,rfl,rfl,by rw[Lib.bytesWorld_size];omega,λk hk=>Lib.bytesWorld_at_old _ _ _ k (by have:=B2.o.size;omega)⟩,B2.o.size,by rw[Lib.bytesWorld_size];omega⟩
  go_upto_region 7 with fail
  have hcap:32<=grownCap w2 32 0 5:=grownCap_ge _ _ _ _;generalize grownCap w2 32 0 5=cap at hcap⊢;generalize Lib.bytesWorld w2 5 l00=w3 at HPI⊢;generalize w2.heap.size=g at HPI⊢;clear xJp hl00 B2;go_wp2_with fail
  go_loopw [8,30] (λlv iv wr=>∃k:Nat,k<=r-1/\lv=.string (xAh kp yN k)/\iv=.int .i64 k/\Hid (PaI w g (pJ kp yN k) wr)) (λ_ iv _=>r- (intOf iv).toNat)
  case atStart=>exact⟨0,Nat.zero_le _,by rw[H00.o],rfl,by rw[<-HP0.o];exact HPI⟩
  case round=>
   obtain⟨k,hk,rfl,rfl,hr⟩:=hrel;clear HPI
   by_cases hlt:k<r-1
   ·have HSk:=ι (HMK.o k wr (HT.o _ hr.o.bel));have HR:=ι (And.intro h0 (And.intro h1 (And.intro hp hs)));clear h0 h1 hp hs;go_wp2_with fail
    refine HSk.o.mono ?_;rintro e w4 ⟨rfl,hb4⟩;have H4:Hid (PaI w g (xH4 (pJ kp yN k) (xAh kp yN (k+1)) 0) w4):=ι (hr.o.below hb4);have HN:Hid (∀n,n=32->pJ kp yN (k+1)=xH4 (pJ kp yN k) (xAh kp yN (k+1)) n):=ι (λn hn=>by rw[hn];rfl);have hlz:=HLZ.o (k+1);have HPLk:=ι (HPL.o k)
    clear hb4 hr HSk;obtain⟨l1,hl1⟩:∃x,xAh kp yN (k+1)=x:=⟨_,rfl⟩;rw[hl1] at H4 HN hlz⊢;have HL1:=ι hl1;clear hl1;obtain⟨pk,hpk⟩:∃pk,pJ kp yN (k+1)=pk:=⟨_,rfl⟩;rw[hpk] at HN;have HPK:Hid (∀n,n=k+1->pJ kp yN n=pk):=ι (λn hn=>by rw[hn];exact hpk);clear hpk
    generalize pJ kp yN k=l0 at H4 HN HPLk;go_wp2_with fail
    go_loopw [37] (λjv W=>∃i:Nat,i<=32/\jv=.int .i64 i/\Hid (PaI w g (xH4 l0 l1 i) W)) (λjv _=>32- (intOf jv).toNat)
    case atStart=>exact⟨0,ω,rfl,H4⟩
    case round=>
     clear H4
     rename World=>wi
     obtain⟨i,hi,rfl,hr⟩:=hrel
     by_cases hli:i<32
     ·have HXI:Hid (xH4 l0 l1 (i+1)=(xH4 l0 l1 i).set i (oct (bits .xor .u8 (((xH4 l0 l1 i).getD i 0).toNat:Int) (yO l1 i)))):=ι rfl;have hil:=xEz l0 l1 i;generalize xH4 l0 l1 i=li at hr HXI hil;have HIF:Hid (i<li.length):=ι (by rw[hil,HPLk.o];exact hli)
      have i1:=λw=>zH (P:=Tryz.prog) Tryz.underlying9 l1 (i:Int) i rfl (by rw[hlz];exact hli) w;obtain⟨a,ha⟩:∃a:Int,((li.getD i 0).toNat:Int)=a:=⟨_,rfl⟩;obtain⟨c,hc⟩:∃c:Int,yO l1 i=c:=⟨_,rfl⟩;have rc:=yQ l1 i;rw[hc] at i1 rc;rw[ha,hc] at HXI;have HA:=ι ha
      obtain⟨v,hv⟩:∃v,bits .xor .u8 a c=v:=⟨_,rfl⟩;have HV:Hid (0<=v/\v<256):=ι (hv▸xB3 _ _ _);rw[hv] at HXI;have HVE:=ι hv;have ra:0<=a/\a<256:=by rw[<-ha];have:=(li.getD i 0).toNat_lt;omega
      obtain⟨ra0,ra1⟩:=ra;obtain⟨rc0,rc1⟩:=rc;have HLT:=ι hlt;have HK:=ι hk;have HI:=ι hi;have HLZ1:=ι hlz;clear ha hc hv hil hlt hk hlz;go_upto_region 13 with fail
      refine RG.yT 10 (λL W=>Hid (PaI w g (if L 9 then li.set i (oct v) else li) W)) (λL L' W h hI=>by rw[<-h 9 δ];exact hI) κ κ rfl (ι hr.o.drew) ?_;iterate 3 refine RG.cS ?_
      apply RG.xR
      ·rfl
      ·rfl
      ·intro L w9 h0 hcl xN hw9;have e1:=hcl.not 6 (i:=9) h0 κ;have hs9:=hw9.o;rw[e1,if_neg σ] at hs9;have q:=hs9.o.cell i HIF.o;rw[HA.o] at q;clear e1 hs9;repeat go_step
       with_reducible refine RG.xD ?_
       exact⟨xN,hw9⟩
      ·rfl
      iterate 4 refine RG.cS ?_
      rw[HVE.o];refine RG.cS ?_;apply RG.xR
      ·rfl
      ·rfl
      ·intro L w9 h0 hcl xN hw9;have hs9:=hw9.o;rw[h0,if_neg σ] at hs9;have q1:=hs9.o.cell i HIF.o;have q2:=hs9.o.free i HIF.o;generalize ((li.getD i 0).toNat:Int)=old at q1
       have hp:Hid (PaI w g (li.set i (oct v)) (w9.setCell ⟨g,i,none⟩ (.int .u8 v))):=ι (hs9.put HIF.o HV.o.1 HV.o.2);clear hs9;repeat go_step
       with_reducible refine RG.xD ?_
       refine⟨xN,?_⟩;show Hid (PaI w g (if (true:Bool)=true then li.set i (oct v) else li) _);rw[if_pos rfl];with_reducible exact hp
      ·rfl
      refine RG.yI (λw9 hw9=>?_);rw[if_pos rfl,<-HXI.o] at hw9;go_wp2;exact⟨⟨i+1,by have:=HI.o;omega,by go_num,hw9⟩,by simp[intOf];omega⟩
     ·have HXE:Hid (xH4 l0 l1 i=pk):=ι ((HN.o i ω).symm);rw[HXE.o] at hr;go_wp2;exact⟨⟨k+1,ω,by rw[HL1.o],by go_num,by rw[HPK.o _ rfl];exact hr⟩,by simp[intOf];omega⟩
   ·have HPk:=ι (HPP.o k ω);have ht:=hr.o.o.text 32 cap (HPL.o k);rw[<-HPk.o] at ht;have HBl:=ι hr.o.bel;clear hr;go_wp2;go_ret2;exact⟨rfl,HBl.o⟩
 ·have h64i:¬(64:Int)<(pw.size:Int):=by omega
  have hkp:=HKE.o ω;subst hkp;have B1:=ι (Below.refl w.heap.size w);clear HKP HKE h64;go_upto_region 5 with fail
  clear h64i;have nb2:¬(9223372036854775807<yN.size+(bsA [0,0,0,1]).size):=by rw[yS];simp;omega
  have HB4:Hid (Value.string ⟨#[0,0,0,1]⟩=.string (bsA [0,0,0,1])):=ι rfl;go_wp2_with fail
  refine(HM0.o _ (HT.o _ B1.o)).mono ?_;rintro e w2 ⟨rfl,hb2⟩;have B2:=ι (B1.o.trans (hb2.mono B1.o.size));clear hb2 HM0 nb1 nb2 HB4 B1;have xJp:=λW=>Lib.run_convert_string_bytes (P:=Tryz.prog) W 9 79 5 l00 Tryz.underlying9 Tryz.underlying79 Tryz.underlying5
  have HPI:Hid (PaI w w2.heap.size l00.data.toList (Lib.bytesWorld w2 5 l00)):=ι ⟨xMx.start w2 l00,B2.o.trans ⟨rfl,rfl,rfl,by rw[Lib.bytesWorld_size];omega,λk hk=>Lib.bytesWorld_at_old _ _ _ k (by have:=B2.o.size;omega)⟩,B2.o.size,by rw[Lib.bytesWorld_size];omega⟩
  go_upto_region 7 with fail
  have hcap:32<=grownCap w2 32 0 5:=grownCap_ge _ _ _ _;generalize grownCap w2 32 0 5=cap at hcap⊢;generalize Lib.bytesWorld w2 5 l00=w3 at HPI⊢;generalize w2.heap.size=g at HPI⊢;clear xJp hl00 B2;go_wp2_with fail
  go_loopw [8,30] (λlv iv wr=>∃k:Nat,k<=r-1/\lv=.string (xAh kp yN k)/\iv=.int .i64 k/\Hid (PaI w g (pJ kp yN k) wr)) (λ_ iv _=>r- (intOf iv).toNat)
  case atStart=>exact⟨0,Nat.zero_le _,by rw[H00.o],rfl,by rw[<-HP0.o];exact HPI⟩
  case round=>
   obtain⟨k,hk,rfl,rfl,hr⟩:=hrel;clear HPI
   by_cases hlt:k<r-1
   ·have HSk:=ι (HMK.o k wr (HT.o _ hr.o.bel));have HR:=ι (And.intro h0 (And.intro h1 (And.intro hp hs)));clear h0 h1 hp hs;go_wp2_with fail
    refine HSk.o.mono ?_;rintro e w4 ⟨rfl,hb4⟩;have H4:Hid (PaI w g (xH4 (pJ kp yN k) (xAh kp yN (k+1)) 0) w4):=ι (hr.o.below hb4);have HN:Hid (∀n,n=32->pJ kp yN (k+1)=xH4 (pJ kp yN k) (xAh kp yN (k+1)) n):=ι (λn hn=>by rw[hn];rfl);have hlz:=HLZ.o (k+1);have HPLk:=ι (HPL.o k)
    clear hb4 hr HSk;obtain⟨l1,hl1⟩:∃x,xAh kp yN (k+1)=x:=⟨_,rfl⟩;rw[hl1] at H4 HN hlz⊢;have HL1:=ι hl1;clear hl1;obtain⟨pk,hpk⟩:∃pk,pJ kp yN (k+1)=pk:=⟨_,rfl⟩;rw[hpk] at HN;have HPK:Hid (∀n,n=k+1->pJ kp yN n=pk):=ι (λn hn=>by rw[hn];exact hpk);clear hpk
    generalize pJ kp yN k=l0 at H4 HN HPLk;go_wp2_with fail
    go_loopw [37] (λjv W=>∃i:Nat,i<=32/\jv=.int .i64 i/\Hid (PaI w g (xH4 l0 l1 i) W)) (λjv _=>32- (intOf jv).toNat)
    case atStart=>exact⟨0,ω,rfl,H4⟩
    case round=>
     clear H4
     rename World=>wi
     obtain⟨i,hi,rfl,hr⟩:=hrel
     by_cases hli:i<32
     ·have HXI:Hid (xH4 l0 l1 (i+1)=(xH4 l0 l1 i).set i (oct (bits .xor .u8 (((xH4 l0 l1 i).getD i 0).toNat:Int) (yO l1 i)))):=ι rfl;have hil:=xEz l0 l1 i;generalize xH4 l0 l1 i=li at hr HXI hil;have HIF:Hid (i<li.length):=ι (by rw[hil,HPLk.o];exact hli)
      have i1:=λw=>zH (P:=Tryz.prog) Tryz.underlying9 l1 (i:Int) i rfl (by rw[hlz];exact hli) w;obtain⟨a,ha⟩:∃a:Int,((li.getD i 0).toNat:Int)=a:=⟨_,rfl⟩;obtain⟨c,hc⟩:∃c:Int,yO l1 i=c:=⟨_,rfl⟩;have rc:=yQ l1 i;rw[hc] at i1 rc;rw[ha,hc] at HXI;have HA:=ι ha
      obtain⟨v,hv⟩:∃v,bits .xor .u8 a c=v:=⟨_,rfl⟩;have HV:Hid (0<=v/\v<256):=ι (hv▸xB3 _ _ _);rw[hv] at HXI;have HVE:=ι hv;have ra:0<=a/\a<256:=by rw[<-ha];have:=(li.getD i 0).toNat_lt;omega
      obtain⟨ra0,ra1⟩:=ra;obtain⟨rc0,rc1⟩:=rc;have HLT:=ι hlt;have HK:=ι hk;have HI:=ι hi;have HLZ1:=ι hlz;clear ha hc hv hil hlt hk hlz;go_upto_region 13 with fail
      refine RG.yT 10 (λL W=>Hid (PaI w g (if L 9 then li.set i (oct v) else li) W)) (λL L' W h hI=>by rw[<-h 9 δ];exact hI) κ κ rfl (ι hr.o.drew) ?_;iterate 3 refine RG.cS ?_
      apply RG.xR
      ·rfl
      ·rfl
      ·intro L w9 h0 hcl xN hw9;have e1:=hcl.not 6 (i:=9) h0 κ;have hs9:=hw9.o;rw[e1,if_neg σ] at hs9;have q:=hs9.o.cell i HIF.o;rw[HA.o] at q;clear e1 hs9;repeat go_step
       with_reducible refine RG.xD ?_
       exact⟨xN,hw9⟩
      ·rfl
      iterate 4 refine RG.cS ?_
      rw[HVE.o];refine RG.cS ?_;apply RG.xR
      ·rfl
      ·rfl
      ·intro L w9 h0 hcl xN hw9;have hs9:=hw9.o;rw[h0,if_neg σ] at hs9;have q1:=hs9.o.cell i HIF.o;have q2:=hs9.o.free i HIF.o;generalize ((li.getD i 0).toNat:Int)=old at q1
       have hp:Hid (PaI w g (li.set i (oct v)) (w9.setCell ⟨g,i,none⟩ (.int .u8 v))):=ι (hs9.put HIF.o HV.o.1 HV.o.2);clear hs9;repeat go_step
       with_reducible refine RG.xD ?_
       refine⟨xN,?_⟩;show Hid (PaI w g (if (true:Bool)=true then li.set i (oct v) else li) _);rw[if_pos rfl];with_reducible exact hp
      ·rfl
      refine RG.yI (λw9 hw9=>?_);rw[if_pos rfl,<-HXI.o] at hw9;go_wp2;exact⟨⟨i+1,by have:=HI.o;omega,by go_num,hw9⟩,by simp[intOf];omega⟩
     ·have HXE:Hid (xH4 l0 l1 i=pk):=ι ((HN.o i ω).symm);rw[HXE.o] at hr;go_wp2;exact⟨⟨k+1,ω,by rw[HL1.o],by go_num,by rw[HPK.o _ rfl];exact hr⟩,by simp[intOf];omega⟩
   ·have HPk:=ι (HPP.o k ω);have ht:=hr.o.o.text 32 cap (HPL.o k);rw[<-HPk.o] at ht;have HBl:=ι hr.o.bel;clear hr;go_wp2;go_ret2;exact⟨rfl,HBl.o⟩
end Go.Proofs.SH
namespace Mailsack
def xY8 (l:Bs):Bs:=((l.set 0 (oct (Go.bits .and .u8 ((l.getD 0 0).toNat:Int) 248))).set 31 (oct (Go.bits .and .u8 ((l.getD 31 0).toNat:Int) 127))).set 31 (oct (Go.bits .or .u8 (Go.bits .and .u8 ((l.getD 31 0).toNat:Int) 127) 64))
def xDa (s:ByteArray):ByteArray:=bsA (xY8 s.data.toList)
theorem xTa (l:Bs):(xY8 l).length=l.length:=by simp[xY8]
theorem xOr (s:ByteArray):(xDa s).size=s.size:=by rw[xDa,yS,xTa];rfl
def xK5:ByteArray:=bsA ((xQ 32).set 0 9)
theorem xTh:xK5.size=32:=by rw[xK5,yS];rfl
end Mailsack
namespace Go.Proofs.FE
open Go.RowKit Mailsack MM BB SH
section
variable {P:Program}
theorem xEv (w:World) (b off:Nat) (ty:TypeId) (cs:Array Value) (d:TypeDesc) (hc:∀j v,cs.toList[j]?=some v->w.cell? ⟨b,off+j,none⟩=some v)
  (hu:P.underlying ty=some d) (hd:(match d with|.struct _|.array _ _=>true|_=>false)=true) (hi:(P.info? ty).map (·.size)=some cs.size):
  (loadVar ty ⟨b,off,none⟩).run P w=.ok (.agg cs) w:=by
 have hl:(loadCells ⟨b,off,none⟩ cs.toList.length).run P w=.ok cs.toList.toArray w:=
  run_loadCells_list (P:=P) w ⟨b,off,none⟩ cs.toList (λj v hv=>by
   have hadd:(⟨b,off,none⟩:Addr).add j=⟨b,off+j,none⟩:=by unfold Addr.add;split<;>simp_all
   rw[hadd];exact hc j v hv)
 cases hq:P.info? ty with
 |none=>simp[hq] at hi
 |some i=>
  have hs:i.size=cs.size:=by simpa[hq] using hi
  have hagg:(isAgg ty).run P w=.ok true w:=by
   unfold isAgg;rw[Sem.run_bind,run_underlying hu w];cases d<;>simp_all
  simp only[Array.length_toList,Array.toArray_toList] at hl;simp[loadVar,Sem.run_bind,hagg,sizeOf,typeInfo,hq,hs,hl]
theorem zW {ops:Array Oper} {rest:List Oper} {o:Oper} {a:Act} {w:World} {Q:Exit->Act->World->Prop} (hgd:o.guard=none) (ty:TypeId) (x:Operand) (ho:o.op=.load ty x)
  (b off:Nat) (hx:a.eval x=.pointer (some ⟨b,off,none⟩)) (cs:Array Value) (d:TypeDesc) (hc:∀j v,cs.toList[j]?=some v->w.cell? ⟨b,off+j,none⟩=some v)
  (hu:P.underlying ty=some d) (hd:(match d with|.struct _|.array _ _=>true|_=>false)=true) (hi:(P.info? ty).map (·.size)=some cs.size)
  (h:wpList P ops Q rest (a.put o.dst (.agg cs)) w):wpList P ops Q (o::rest) a w:=
 wpList_plain hgd λ_ hK=>by
  unfold Oper.wp execOp;simp only[ho,hx,Instr.loadAt,Instr.sureAddr,Sem.run_bind,Sem.run_pure,Result.andThen_ok,xEv w b off ty cs d hc hu hd hi];exact hK _ _ h
theorem xDq (w:World) (g o:Nat) (t ty:TypeId) (old cells:Array Value) (hg:w.heap[g]?=some (.cells old t (0,0))) (hi:(P.info? ty).map (·.size)=some cells.size)
  (ho:o+cells.size<=old.size) (h1:cells.all (·.oneCell')=true):
  (storeVar ty ⟨g,o,none⟩ (.agg cells)).run P w=.ok () (w.setRow g (old.toList.take o++cells.toList++old.toList.drop (o+cells.size)).toArray):=by
 have:=run_storeCells_at P g o t cells.toList 0 old w hg (by simp;omega) (λv hv=>(Array.all_eq_true_iff_forall_mem.1 h1) v (by simpa using hv));cases hq:P.info? ty with
 |none=>simp[hq] at hi
 |some i=>
  have hs:cells.size=i.size:=by simp[hq] at hi;omega
  simp[storeVar,sizeOf,typeInfo,hq,Value.cells,hs,this]
theorem wX {ops:Array Oper} {rest:List Oper} {o:Oper} {a:Act} {w:World} {Q:Exit->Act->World->Prop} (hgd:o.guard=none) (ty:TypeId) (x y:Operand) (ho:o.op=.store ty x y)
  (g off:Nat) (cells:Array Value) (hx:a.eval x=.pointer (some ⟨g,off,none⟩)) (hy:a.eval y=.agg cells)
  (t:TypeId) (old:Array Value) (hg:w.heap[g]?=some (.cells old t (0,0))) (hi:(P.info? ty).map (·.size)=some cells.size)
  (hold:off+cells.size<=old.size) (h1:cells.all (·.oneCell')=true) (new:Array Value) (hn:(old.toList.take off++cells.toList++old.toList.drop (off+cells.size)).toArray=new)
  (h:wpList P ops Q rest (a.put o.dst undef) (w.setRow g new)):wpList P ops Q (o::rest) a w:=
 wpList_plain hgd λ_ hK=>by
  subst hn;unfold Oper.wp execOp;simp only[ho,hx,hy,Instr.storeAt,Instr.sureAddr,Sem.run_bind,Sem.run_pure,Result.andThen_ok,xDq w g off t ty old cells hg hi hold h1];exact hK _ _ h
end
theorem rJ (l:List Int):(xH l).toList=l.map λx=>Value.int .u64 x:=by simp[xH]
theorem xD1 {t:TypeId} {W:World} {g:Nat} {x z:List Int} (h:uU t W g (x++z)):∀j v,(xH x).toList[j]?=some v->W.cell? ⟨g,0+j,none⟩=some v:=by
 intro j v hv;rw[rJ] at hv;rw[Nat.zero_add,xA h.blk];simp only[xH,List.map_append,gA]
 rw[List.getElem?_append_left (by
  have:=(List.getElem?_eq_some_iff.1 hv).1;exact this)]
 exact hv
theorem xD0 {t:TypeId} {W:World} {g:Nat} {x z:List Int} (h:uU t W g (x++z)) (hx:x.length=5):∀j v,(xH z).toList[j]?=some v->W.cell? ⟨g,5+j,none⟩=some v:=by
 intro j v hv;rw[rJ] at hv;rw[xA h.blk];simp only[xH,List.map_append,gA];rw[List.getElem?_append_right (by simp[hx])];simpa[hx] using hv
theorem xVr (x z x':List Int) (hx:x.length=5) (hx':x'.length=5):((xH (x++z)).toList.take 0++(xH x').toList++(xH (x++z)).toList.drop (0+(xH x').size)).toArray=xH (x'++z):=by
 rw[xW,hx',rJ,rJ];simp only[List.take_zero,List.nil_append,xH,List.map_append];rw[List.drop_append_of_le_length (by simp[hx]),List.drop_of_length_le (by simp[hx])];simp
theorem xVq (x z z':List Int) (hx:x.length=5) (hz:z.length=5) (hz':z'.length=5):((xH (x++z)).toList.take 5++(xH z').toList++(xH (x++z)).toList.drop (5+(xH z').size)).toArray=xH (x++z'):=by
 rw[xW,hz',rJ,rJ];simp only[xH,List.map_append];rw[List.take_append_of_le_length (by simp[hx]),List.take_of_length_le (by simp[hx]),List.drop_of_length_le (by simp[hx,hz])];simp
theorem yB2 {x z:List Int} (h:x.length=5) (h2:z.length=5):(Tryz.prog.info? 244).map (·.size)=some (xH (x++z)).size:=by rw[xW,List.length_append,h,h2];kernel_rfl
theorem xQs (w:World):Calls Tryz.prog 88 #[] w λe w'=>e=.returned (.string xK5)/\Below w.heap.size w w':=by
 have HB:Hid (Below w.heap.size w (w.alloc (.cells (yJ ((xQ 32).set 0 9)) 251))):=ι ((Below.refl w.heap.size w).alloc ν _);have HT:=xCi (t:=251) (xL w (.cells (yJ ((xQ 32).set 0 9)) 251)) 32 32 rfl;go_enter Tryz.func88,Tryz.ntmps88;go_upto_region 3 with fail
 refine(λ(h:∀W3,Hid (Below w.heap.size w W3/\(convert 79 9 (.slice (some ⟨w.heap.size,0,none⟩) 32 32)).run Tryz.prog W3=.ok (.string xK5) W3)->Code.wp _ _ _ _ W3)=>h _ (ι ⟨HB.o,HT⟩)) ?_;clear HB HT;intro W3 H3;have ht:=H3.o.2;go_wp2;go_ret;exact⟨rfl,H3.o.1⟩
theorem xY6 (s:ByteArray) (w:World) (hs:s.size≠32):
  Calls Tryz.prog 169 #[.string s] w λe w'=>e=.returned (.tuple #[.string ⟨#[]⟩,.bool false])/\w'=w:=by
 have hsi:(s.size:Int)≠32:=by omega
 have hsb:((s.size:Int)!=32)=true:=by simp;omega
 clear hs;go_enter Tryz.func169,Tryz.ntmps169;go_wp2;go_ret2;exact⟨rfl,rfl⟩
theorem xGp (s:ByteArray) (w:World) (hs:s.size=32):
  Calls Tryz.prog 169 #[.string s] w λe w'=>e=.returned (.tuple #[.string (xDa s),.bool true])/\Below w.heap.size w w':=by
 have hsi:(s.size:Int)=32:=by omega
 have xJp:=λW=>Lib.run_convert_string_bytes (P:=Tryz.prog) W 9 79 5 s Tryz.underlying9 Tryz.underlying79 Tryz.underlying5
 have H0:Hid (PaI w w.heap.size s.data.toList (Lib.bytesWorld w 5 s)):=ι ⟨xMx.start w s,(Below.refl w.heap.size w).trans ⟨rfl,rfl,rfl,by rw[Lib.bytesWorld_size];omega,λk hk=>Lib.bytesWorld_at_old _ _ _ k hk⟩,Nat.le_refl _,by rw[Lib.bytesWorld_size];omega⟩
 have HR:Hid (xDa s=bsA (((s.data.toList.set 0 (oct (bits .and .u8 ((s.data.toList.getD 0 0).toNat:Int) 248))).set 31 (oct (bits .and .u8 ((s.data.toList.getD 31 0).toNat:Int) 127))).set 31 (oct (bits .or .u8 (bits .and .u8 ((s.data.toList.getD 31 0).toNat:Int) 127) 64)))):=ι rfl
 have hll:s.data.toList.length=32:=by simpa using hs
 obtain⟨res,hres⟩:∃x,xDa s=x:=⟨_,rfl⟩;rw[hres] at HR⊢;clear hres;go_enter Tryz.func169,Tryz.ntmps169;go_upto_region 4 with fail
 have hcap:32<=grownCap w 32 0 5:=grownCap_ge _ _ _ _;generalize grownCap w 32 0 5=cap at hcap⊢;generalize Lib.bytesWorld w 5 s=W0 at H0⊢;generalize s.data.toList=l at H0 HR hll;clear xJp hs hsi;have q0:=H0.o.o.cell 0 ω;have f0:=H0.o.o.free 0 ω;have u0:=(l.getD 0 0).toNat_lt
 have u1:=(l.getD 31 0).toNat_lt;have hz0:=xB3 .and ((l.getD 0 0).toNat:Int) 248;have H1:=ι (H0.o.put (p:=0) ω hz0.1 hz0.2)
 have hx31:(l.set 0 (oct (bits .and .u8 ((l.getD 0 0).toNat:Int) 248))).getD 31 0=l.getD 31 0:=by rw[List.getD_eq_getElem?_getD,List.getElem?_set,if_neg δ,<-List.getD_eq_getElem?_getD]
 have hl1:(l.set 0 (oct (bits .and .u8 ((l.getD 0 0).toNat:Int) 248))).length=32:=by rw[List.length_set,hll]
 generalize l.set 0 (oct (bits .and .u8 ((l.getD 0 0).toNat:Int) 248))=l1 at H1 HR hx31 hl1;obtain⟨a,ha⟩:∃a:Int,((l.getD 0 0).toNat:Int)=a:=⟨_,rfl⟩;obtain⟨b,hb⟩:∃b:Int,((l.getD 31 0).toNat:Int)=b:=⟨_,rfl⟩;have a0:0<=a:=by omega
 have a1:a<256:=by omega
 have b0:0<=b:=by omega
 have b1:b<256:=by omega
 rw[ha] at q0 H1;rw[hb] at HR;have HB:=ι hb;have HX:=ι hx31;have HL1:=ι hl1;clear hz0 u0 u1 H0 ha hb hx31 hl1 hll;go_upto_region 5 with fail
 clear q0 f0;refine(λ(h:∀W3,Hid (PaI w w.heap.size l1 W3)->Code.wp _ _ _ _ W3)=>h _ H1) ?_;clear H1;intro W1 H1;have q0:=H1.o.o.cell 31 (by rw[HL1.o];decide);rw[HX.o,HB.o] at q0;have f0:=H1.o.o.free 31 (by rw[HL1.o];decide);have hz1:=xB3 .and b 127
 have H2:=ι (H1.o.put (p:=31) (by rw[HL1.o];decide) hz1.1 hz1.2);obtain⟨c,hc⟩:∃c,bits .and .u8 b 127=c:=⟨_,rfl⟩;rw[hc] at H2 HR hz1
 have HE:Hid ((((l1.set 31 (oct c)).getD 31 0).toNat:Int)=c):=ι (by
  rw[List.getD_eq_getElem?_getD,List.getElem?_set,if_pos rfl,if_pos (by rw[HL1.o];decide)];simp only[Option.getD_some];rw[xA5];omega)
 have hl2:(l1.set 31 (oct c)).length=32:=by rw[List.length_set,HL1.o]
 generalize l1.set 31 (oct c)=l2 at H2 HR HE hl2;have HL2:=ι hl2;obtain⟨c0,c1⟩:=hz1;clear hl2 H1;go_upto_region 6 with fail
 clear q0 f0 hc;refine(λ(h:∀W3,Hid (PaI w w.heap.size l2 W3)->Code.wp _ _ _ _ W3)=>h _ H2) ?_;clear H2;intro W2 H2;have q0:=H2.o.o.cell 31 (by rw[HL2.o];decide);rw[HE.o] at q0;have f0:=H2.o.o.free 31 (by rw[HL2.o];decide);have hz2:=xB3 .or c 64
 have H3:=ι (H2.o.put (p:=31) (by rw[HL2.o];decide) hz2.1 hz2.2);have hl3:(l2.set 31 (oct (bits .or .u8 c 64))).length=32:=by rw[List.length_set,HL2.o]
 generalize l2.set 31 (oct (bits .or .u8 c 64))=l3 at H3 HR hl3;have ht:=H3.o.o.text 32 cap hl3;rw[<-HR.o] at ht;clear H2 hz2 hl3;go_wp2;go_ret2;exact⟨rfl,H3.o.bel⟩
end Go.Proofs.FE
namespace Go.Proofs.FE
open Go.RowKit Mailsack MM BB SH
theorem xI9 (ax bx:List Int) (yes:Bool) (w:World) (hl:ax.length=5) (hu:yV ax) (hl2:bx.length=5) (hu2:yV bx):
  Calls Tryz.prog 245 #[.agg (xH ax),.agg (xH bx),.bool yes] w λe w'=>e=.returned (.tuple #[.agg (xH (if yes then bx else ax)),.agg (xH (if yes then ax else bx))])/\Below w.heap.size w w':=by
 cases yes
 ·exact yD8 ax bx w hl hu hl2 hu2
 ·exact xZm ax bx w hl hu hl2 hu2
structure FoM (t:TypeId) (w:World) (ax bx rx sx:List Int) (W:World):Prop where
 ba:uU t W w.heap.size ax
 bb:uU t W (w.heap.size+1) bx
 br:uU t W (w.heap.size+2) rx
 bs:uU t W (w.heap.size+3) sx
 bel:Below w.heap.size w W
section
variable {t:TypeId} {w W W':World} {ax bx rx sx:List Int}
theorem FoM.start (ax bx rx sx:List Int):FoM t w ax bx rx sx ((((w.alloc (.cells (xH ax) t)).alloc (.cells (xH bx) t)).alloc (.cells (xH rx) t)).alloc (.cells (xH sx) t)):=by
 have h1:=zG w (.cells (xH ax) t) (.cells (xH bx) t);have h2:=yX w (.cells (xH ax) t) (.cells (xH bx) t);have h3:=xL ((w.alloc (.cells (xH ax) t)).alloc (.cells (xH bx) t)) (.cells (xH rx) t)
 have h4:=xL (((w.alloc (.cells (xH ax) t)).alloc (.cells (xH bx) t)).alloc (.cells (xH rx) t)) (.cells (xH sx) t);simp only[uX] at h3 h4
 exact⟨xK (xK h1 _) _,xK (xK h2 _) _,xK h3 _,h4,((((Below.refl w.heap.size w).alloc ν _).alloc σ _).alloc (by simp;omega) _).alloc (by simp;omega) _⟩
theorem FoM.drew (h:FoM t w ax bx rx sx W):FoM t w ax bx rx sx W.drew:=⟨h.ba,h.bb,h.br,h.bs,h.bel.drew⟩
theorem FoM.below (h:FoM t w ax bx rx sx W) (hb:Below W.heap.size W W'):FoM t w ax bx rx sx W':=⟨h.ba.below hb,h.bb.below hb,h.br.below hb,h.bs.below hb,h.bel.trans (hb.mono h.bel.size)⟩
theorem FoM.rowA (h:FoM t w ax bx rx sx W) (xs:List Int):FoM t w xs bx rx sx (W.setRow w.heap.size (xH xs)):=
 ⟨setRow_heap _ _ _ _ _ _ h.ba,(setRow_other _ _ _ _ ω).trans h.bb,(setRow_other _ _ _ _ ω).trans h.br,(setRow_other _ _ _ _ ω).trans h.bs,below_setRow h.bel ω _⟩
theorem FoM.rowB (h:FoM t w ax bx rx sx W) (xs:List Int):FoM t w ax xs rx sx (W.setRow (w.heap.size+1) (xH xs)):=
 ⟨(setRow_other _ _ _ _ ω).trans h.ba,setRow_heap _ _ _ _ _ _ h.bb,(setRow_other _ _ _ _ ω).trans h.br,(setRow_other _ _ _ _ ω).trans h.bs,below_setRow h.bel ω _⟩
theorem FoM.rowR (h:FoM t w ax bx rx sx W) (xs:List Int):FoM t w ax bx xs sx (W.setRow (w.heap.size+2) (xH xs)):=
 ⟨(setRow_other _ _ _ _ ω).trans h.ba,(setRow_other _ _ _ _ ω).trans h.bb,setRow_heap _ _ _ _ _ _ h.br,(setRow_other _ _ _ _ ω).trans h.bs,below_setRow h.bel ω _⟩
theorem FoM.rowS (h:FoM t w ax bx rx sx W) (xs:List Int):FoM t w ax bx rx xs (W.setRow (w.heap.size+3) (xH xs)):=
 ⟨(setRow_other _ _ _ _ ω).trans h.ba,(setRow_other _ _ _ _ ω).trans h.bb,(setRow_other _ _ _ _ ω).trans h.br,setRow_heap _ _ _ _ _ _ h.bs,below_setRow h.bel ω _⟩
end
theorem xLq (x1 z1 x2 z2:List Int) (yes:Bool) (w:World) (lx1:x1.length=5) (ux1:yV x1) (lz1:z1.length=5) (uz1:yV z1) (lx2:x2.length=5) (ux2:yV x2) (lz2:z2.length=5) (uz2:yV z2):
  Calls Tryz.prog 171 #[.agg (xH (x1++z1)),.agg (xH (x2++z2)),.bool yes] w λe w'=>e=.returned (.tuple #[.agg (xH (if yes then x2++z2 else x1++z1)),.agg (xH (if yes then x1++z1 else x2++z2))])/\Below w.heap.size w w':=by
 have HX:=ι (λW=>xI9 x1 x2 yes W lx1 ux1 lx2 ux2);have HZ:=ι (λW=>xI9 z1 z2 yes W lz1 uz1 lz2 uz2)
 have HA:Hid ((if yes then x2++z2 else x1++z1)=(if yes then x2 else x1)++(if yes then z2 else z1)/\(if yes then x1++z1 else x2++z2)=(if yes then x1 else x2)++(if yes then z1 else z2)):=ι (by cases yes<;>exact⟨rfl,rfl⟩);rw[HA.o.1,HA.o.2];clear HA
 have la:(if yes then x2 else x1).length=5:=by cases yes<;>assumption
 have lb:(if yes then x1 else x2).length=5:=by cases yes<;>assumption
 have lc:(if yes then z2 else z1).length=5:=by cases yes<;>assumption
 have ld:(if yes then z1 else z2).length=5:=by cases yes<;>assumption
 generalize (if yes then x2 else x1)=a at HX la⊢;generalize (if yes then x1 else x2)=b at HX lb⊢;generalize (if yes then z2 else z1)=c at HZ lc⊢;generalize (if yes then z1 else z2)=d at HZ ld⊢
 have H0:=ι (FoM.start (w:=w) (t:=244) (x1++z1) (x2++z2) (List.replicate 10 0) (List.replicate 10 0));have I1:=ι (uF lx1);have I2:=ι (uF lx2);have I3:=ι (uF lz1);have I4:=ι (uF lz2);have Ia:=ι (uF la);have Ib:=ι (uF lb);have Ic:=ι (uF lc);have Id:=ι (uF ld)
 have HL:=ι (And.intro (And.intro lx1 (And.intro lx2 (And.intro lz1 lz2))) (And.intro la (And.intro lb (And.intro lc ld))));clear ux1 uz1 ux2 uz2 lx1 lz1 lx2 lz2 la lb lc ld;go_enter Tryz.func171,Tryz.ntmps171;go_upto_region 1 with fail
 refine(λ(h:∀W3,Hid (FoM 244 w (x1++z1) (x2++z2) (List.replicate 10 0) (List.replicate 10 0) W3)->Code.wp _ _ _ _ W3)=>h _ H0) ?_;clear H0;intro W0 H0;obtain⟨⟨lx1,lx2,lz1,lz2⟩,la,lb,lc,ld⟩:=HL.o;refine wp_region_lit ?_;iterate 3 go_step
 refine zW rfl _ _ rfl w.heap.size 0 rfl (xH x1) _ (xD1 H0.o.ba) Tryz.underlying240 rfl I1.o ?_;iterate 3 go_step
 refine zW rfl _ _ rfl (w.heap.size+1) 0 rfl (xH x2) _ (xD1 H0.o.bb) Tryz.underlying240 rfl I2.o ?_;repeat go_step
 refine(HX.o _).mono ?_;rintro e w1 ⟨rfl,hb1⟩;have H1:=ι (H0.o.below hb1);clear H0 hb1;simp only[]
 rename ∀(a:Act) (w:World),wpList _ _ _ _ a w->_=>hk
 refine hk _ _ ?_;clear hk;iterate 12 go_step
 refine wX rfl _ _ _ rfl w.heap.size 0 (xH a) rfl rfl _ _ H1.o.ba Ia.o (by rw[xW,xW,List.length_append,la,lx1,lz1];decide) (yC _) _ (xVr x1 z1 a lx1 la) ?_;have H2:=ι (H1.o.rowA (a++z1))
 refine(λ(h:∀W3,Hid (FoM 244 w (a++z1) (x2++z2) (List.replicate 10 0) (List.replicate 10 0) W3)->wpList _ _ _ _ _ W3)=>h _ H2) ?_;clear H1 H2;intro W2 H2;iterate 3 go_step
 refine wX rfl _ _ _ rfl (w.heap.size+1) 0 (xH b) rfl rfl _ _ H2.o.bb Ib.o (by rw[xW,xW,List.length_append,lb,lx2,lz2];decide) (yC _) _ (xVr x2 z2 b lx2 lb) ?_;have H3:=ι (H2.o.rowB (b++z2));go_upto_region 2 with fail
 refine(λ(h:∀W3,Hid (FoM 244 w (a++z1) (b++z2) (List.replicate 10 0) (List.replicate 10 0) W3)->Code.wp _ _ _ _ W3)=>h _ H3) ?_;clear H2 H3;intro W3 H3;refine wp_region_lit ?_;iterate 3 go_step
 refine zW rfl _ _ rfl w.heap.size 5 rfl (xH z1) _ (xD0 H3.o.ba la) Tryz.underlying240 rfl I3.o ?_;iterate 3 go_step
 refine zW rfl _ _ rfl (w.heap.size+1) 5 rfl (xH z2) _ (xD0 H3.o.bb lb) Tryz.underlying240 rfl I4.o ?_;repeat go_step
 refine(HZ.o _).mono ?_;rintro e w1 ⟨rfl,hb1⟩;have H4:=ι (H3.o.below hb1);clear H3 hb1;simp only[]
 rename ∀(a:Act) (w:World),wpList _ _ _ _ a w->_=>hk
 refine hk _ _ ?_;clear hk;iterate 12 go_step
 refine wX rfl _ _ _ rfl w.heap.size 5 (xH c) rfl rfl _ _ H4.o.ba Ic.o (by rw[xW,xW,List.length_append,la,lc,lz1];decide) (yC _) _ (xVq a z1 c la lz1 lc) ?_;have H5:=ι (H4.o.rowA (a++c))
 refine(λ(h:∀W3,Hid (FoM 244 w (a++c) (b++z2) (List.replicate 10 0) (List.replicate 10 0) W3)->wpList _ _ _ _ _ W3)=>h _ H5) ?_;clear H4 H5;intro W2 H5;iterate 3 go_step
 refine wX rfl _ _ _ rfl (w.heap.size+1) 5 (xH d) rfl rfl _ _ H5.o.bb Id.o (by rw[xW,xW,List.length_append,lb,ld,lz2];decide) (yC _) _ (xVq b z2 d lb lz2 ld) ?_;have H6:=ι (H5.o.rowB (b++d));go_upto_region 3 with fail
 refine(λ(h:∀W3,Hid (FoM 244 w (a++c) (b++d) (List.replicate 10 0) (List.replicate 10 0) W3)->Code.wp _ _ _ _ W3)=>h _ H6) ?_;clear H5 H6;intro W6 H6;have IA:=ι (yB2 la lc);have IB:=ι (yB2 lb ld)
 have ZA:Hid ((xH (List.replicate 10 0)).size=(xH (a++c)).size):=ι (by rw[xW,xW,List.length_append,la,lc];rfl);have ZB:Hid ((xH (List.replicate 10 0)).size=(xH (b++d)).size):=ι (by rw[xW,xW,List.length_append,lb,ld];rfl)
 clear HX HZ I1 I2 I3 I4 Ia Ib Ic Id lx1 lx2 lz1 lz2 la lb lc ld HL;generalize hra:a++c=ra at H6 IA ZA⊢;generalize hrb:b++d=rb at H6 IB ZB⊢;have HE:=ι (And.intro hra hrb);clear hra hrb
 refine RG.yT 4 (λL W=>Hid (FoM 244 w ra rb (if L 2 then ra else List.replicate 10 0) (if L 3 then rb else List.replicate 10 0) W)) (λL L' W h hI=>by rw[<-h 2 δ,<-h 3 δ];exact hI) κ κ rfl (ι H6.o.drew) ?_;clear H6;apply RG.xR
 ·rfl
 ·rfl
 ·intro L w9 h0 hcl xN hw9;refine wpList_load_row rfl _ _ rfl w.heap.size rfl _ (xH ra) (0,0) _ hw9.o.ba Tryz.underlying244 rfl IA.o ?_;repeat go_step
  with_reducible refine RG.xD ?_
  exact⟨xN,hw9⟩
 ·rfl
 apply RG.xR
 ·rfl
 ·rfl
 ·intro L w9 h0 hcl xN hw9;refine wpList_load_row rfl _ _ rfl (w.heap.size+1) rfl _ (xH rb) (0,0) _ hw9.o.bb Tryz.underlying244 rfl IB.o ?_;repeat go_step
  with_reducible refine RG.xD ?_
  exact⟨xN,hw9⟩
 ·rfl
 apply RG.xR
 ·rfl
 ·rfl
 ·intro L w9 h0 hcl xN hw9;have hs9:=hw9.o;rw[h0,if_neg σ] at hs9;refine wpList_store_row rfl _ _ _ rfl (w.heap.size+2) (xH ra) rfl rfl _ _ hs9.br IA.o ZA.o (yC _) ?_;repeat go_step
  with_reducible refine RG.xD ?_
  exact⟨xN,ι (hs9.rowR ra)⟩
 ·rfl
 apply RG.xR
 ·rfl
 ·rfl
 ·intro L w9 h0 hcl xN hw9;have hs9:=hw9.o;rw[h0,if_neg (c:=false=true) σ] at hs9;refine wpList_store_row rfl _ _ _ rfl (w.heap.size+3) (xH rb) rfl rfl _ _ hs9.bs IB.o ZB.o (yC _) ?_;repeat go_step
  with_reducible refine RG.xD ?_
  exact⟨xN,ι (hs9.rowS rb)⟩
 ·rfl
 refine RG.yI (λw9 hw9=>?_);rw[if_pos rfl,if_pos rfl] at hw9;go_wp2;refine bodyPost_ret (jL rfl _ _ (w.heap.size+2) (w.heap.size+3) _ _ _ _ (0,0) (0,0) _ rfl rfl hw9.o.br hw9.o.bs Tryz.underlying244 rfl IA.o IB.o) rfl ?_;rw[HE.o.1,HE.o.2];exact⟨rfl,hw9.o.bel⟩
end Go.Proofs.FE