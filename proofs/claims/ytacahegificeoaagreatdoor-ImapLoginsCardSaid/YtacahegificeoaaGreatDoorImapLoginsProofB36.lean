/- Contracts of functions. Conditions: as stated. -/
import Derived.Test.YtacahegificeoaaGreatDoorImapLoginsProofB35
import Derived.Lib.ItoaLen
set_option maxHeartbeats 8000000
set_option maxRecDepth 100000
namespace Mailsack
def xMc (secret yN:ByteArray):ByteArray:=bsA (xJy secret yN ⟨#[109,97,105,108]⟩ 44)
theorem xE6 (a b:ByteArray):(xMc a b).size=44:=by rw[xMc,yS,xGe]
def xZ2 (secret yN:ByteArray):ByteArray:=(xMc secret yN).extract 0 32
def xZ1 (secret yN:ByteArray):ByteArray:=(xMc secret yN).extract 32 44
theorem xXz (a b:ByteArray):(xZ2 a b).size=32:=by unfold xZ2;rw[ByteArray.size_extract,xE6];rfl
theorem xXy (a b:ByteArray):(xZ1 a b).size=12:=by unfold xZ1;rw[ByteArray.size_extract,xE6];rfl
def xZq (xI box:ByteArray):ByteArray:=aTx (xZ2 (kF xI (box.extract 0 32)) (box.extract 0 32++zT xI)) (xZ1 (kF xI (box.extract 0 32)) (box.extract 0 32++zT xI)) ⟨#[]⟩ (box.extract 32 box.size)
def sopA (xI box:ByteArray):Bool:=aOk (xZ2 (kF xI (box.extract 0 32)) (box.extract 0 32++zT xI)) (xZ1 (kF xI (box.extract 0 32)) (box.extract 0 32++zT xI)) ⟨#[]⟩ (box.extract 32 box.size)
def xRk (xI box:ByteArray):Int:=if xI.size≠32 then 1 else if box.size<32 then 3 else if sopA xI box=false then 7 else unE (xZq xI box)
def xYx (xI box:ByteArray):ByteArray:=if xRk xI box=0 then unT (xZq xI box) else⟨#[]⟩
theorem yD1 {s:ByteArray} (h:unE s≠0):unT s=⟨#[]⟩:=by
 unfold unE at h;unfold unT
 by_cases hk:xYv s=true
 ·rw[if_pos hk] at h;exact absurd rfl h
 ·rw[if_neg hk]
end Mailsack
namespace Go.Proofs.SE
open Go.RowKit Mailsack MM BB SH SV VA Go.Proofs.FE
structure SeT (w:World):Prop where
 sha:wL w
 cls:ClsT w
theorem SeT.below {w w':World} {B:Nat} (h:SeT w) (hb:Below B w w') (hB:w.heap.size<=B):SeT w':=⟨h.sha.below hb hB,h.cls.below hb hB⟩
theorem xT4 (secret yN:ByteArray) (w:World) (h1:secret.size<=1000000) (h2:yN.size<=1000000) (hT:wL w):
  Calls Tryz.prog 182 #[.string secret,.string yN] w λe w'=>e=.returned (.tuple #[.string (xZ2 secret yN),.string (xZ1 secret yN),.int .i64 0])/\Below w.heap.size w w':=by
 have HD:Hid (Calls Tryz.prog 89 #[.string secret,.string yN,.string ⟨#[109,97,105,108]⟩,.int .i64 44] w λe w'=>e=.returned (.tuple #[.string (xMc secret yN),.int .i64 0])/\Below w.heap.size w w'):=ι (xJx secret yN ⟨#[109,97,105,108]⟩ 44 w ω ω δ δ hT);have hz:=xE6 secret yN
 have HK:Hid (xZ2 secret yN=(xMc secret yN).extract 0 32):=ι rfl;have HN:Hid (xZ1 secret yN=(xMc secret yN).extract 32 44):=ι rfl;rw[HK.o,HN.o];clear HK HN;generalize xMc secret yN=r at HD hz⊢;clear hT h1 h2;have hzi:(r.size:Int)=44:=by omega
 go_enter Tryz.func182,Tryz.ntmps182;go_wp2_with fail
 refine HD.o.mono ?_;rintro e w1 ⟨rfl,hb1⟩;have B1:=ι hb1;clear hb1 HD;go_upto_region 4 with fail
 refine RG.xP (λW=>Hid (Below w.heap.size w W)) κ κ (ι B1.o.drew) ?_;iterate 7 refine RG.dS ?_
 refine RG.xS (λw2 hw2=>?_);have B2:=ι hw2.o;clear hw2 B1;go_wp2;go_ret3;exact⟨rfl,B2.o⟩
theorem xS0 (k:ByteArray) (w:World) (hk:k.size≠32):
  Calls Tryz.prog 34 #[.string k] w λe w'=>e=.returned (.tuple #[.string ⟨#[]⟩,.bool false])/\Below w.heap.size w w':=by
 have HP:=ι (λW=>xS1 k xK5 W hk);have HB:=ι (xQs w);clear hk;go_enter Tryz.func34,Tryz.ntmps34;go_wp2_with fail
 refine HB.o.mono ?_;rintro e w1 ⟨rfl,hb1⟩;have B1:=ι hb1;clear hb1 HB;go_wp2_with fail
 refine(HP.o _).mono ?_;rintro e w2 ⟨rfl,hb2⟩;have B2:=ι (B1.o.trans (hb2.mono B1.o.size));clear hb2 HP B1;go_wp2;go_ret2;exact⟨rfl,B2.o⟩
theorem xVc (xI box:ByteArray) (w:World) (hb:box.size<=100000) (hT:SeT w):
  Calls Tryz.prog 97 #[.string xI,.string box] w λe w'=>e=.returned (.tuple #[.string (xYx xI box),.int .i64 (xRk xI box)])/\Below w.heap.size w w':=by
 by_cases h1:xI.size≠32
 ·have HE:xRk xI box=1:=by unfold xRk;rw[if_pos h1]
  have HP:=ι (xS0 xI w h1);rw[show xYx xI box=⟨#[]⟩ by unfold xYx;rw[HE,if_neg δ],HE];clear HE h1 hb hT;go_enter Tryz.func97,Tryz.ntmps97;go_wp2_with fail
  refine HP.o.mono ?_;rintro e w1 ⟨rfl,hb1⟩;have B1:=ι hb1;clear hb1 HP;go_wp2;go_ret2;exact⟨rfl,B1.o⟩
 ·have h1:xI.size=32:=Classical.not_not.1 h1;have HPU:=ι (xHx xI w h1)
  by_cases h2:box.size<32
  ·have HE:xRk xI box=3:=by unfold xRk;rw[if_neg ω,if_pos h2]
   rw[show xYx xI box=⟨#[]⟩ by unfold xYx;rw[HE,if_neg δ],HE];have h2i:(box.size:Int)<32:=by omega
   generalize zT xI=pu at HPU;clear HE h1 h2 hb hT;go_enter Tryz.func97,Tryz.ntmps97;go_wp2_with fail
   refine HPU.o.mono ?_;rintro e w1 ⟨rfl,hb1⟩;have B1:=ι hb1;clear hb1 HPU;go_wp2;go_ret2;exact⟨rfl,B1.o⟩
  ·have h2i:¬(box.size:Int)<32:=by omega
   have h2n:¬(box.size<32):=h2;have hz0:(box.extract 0 32).size=32:=by rw[ByteArray.size_extract];omega
   have hz1:(zT xI).size=32:=xC5 _ _;have HT:=ι (λW (hb:Below w.heap.size w W)=>hT.below hb ν);have HP:=ι (λW=>xLc xI (box.extract 0 32) W h1 hz0)
   have HDE:=ι (λW (hb:Below w.heap.size w W)=>xT4 (kF xI (box.extract 0 32)) (box.extract 0 32++zT xI) W (by rw[xC5];decide) (by rw[ByteArray.size_append];omega) (HT.o W hb).sha)
   have HAO:=ι (λW=>xMn (xZ2 (kF xI (box.extract 0 32)) (box.extract 0 32++zT xI)) (xZ1 (kF xI (box.extract 0 32)) (box.extract 0 32++zT xI)) ⟨#[]⟩ (box.extract 32 box.size) W (xXz _ _) (xXy _ _) δ (by rw[ByteArray.size_extract];omega))
   have HE:Hid (xRk xI box=if sopA xI box=false then 7 else unE (xZq xI box)):=ι (by unfold xRk;rw[if_neg ω,if_neg h2]);have HS:Hid (xYx xI box=if xRk xI box=0 then unT (xZq xI box) else⟨#[]⟩):=ι rfl
   have HXS:(xZq xI box).size<=1000000:=by
    unfold xZq aTx;split
    ·rw[yS,xBg];unfold xGu;rw[ByteArray.size_extract,ByteArray.size_extract];omega
    ·decide
   have HUN:=ι (λW (hb:Below w.heap.size w W)=>xUt (xZq xI box) W HXS (HT.o W hb).cls)
   have HAE:Hid (aE (xZ2 (kF xI (box.extract 0 32)) (box.extract 0 32++zT xI)) (xZ1 (kF xI (box.extract 0 32)) (box.extract 0 32++zT xI)) ⟨#[]⟩ (box.extract 32 box.size)=if sopA xI box=true then 0 else 7):=ι rfl
   rw[HAE.o,show aTx (xZ2 (kF xI (box.extract 0 32)) (box.extract 0 32++zT xI)) (xZ1 (kF xI (box.extract 0 32)) (box.extract 0 32++zT xI)) ⟨#[]⟩ (box.extract 32 box.size)=xZq xI box from rfl] at HAO;clear HAE HXS
   have hn1:¬(9223372036854775807<(box.extract 0 32).size+(zT xI).size):=by omega
   generalize xRk xI box=se at HE HS⊢;generalize xYx xI box=st at HS⊢;generalize sopA xI box=sa at HE HAO;generalize xZq xI box=sx at HE HS HAO HUN;generalize xZ2 (kF xI (box.extract 0 32)) (box.extract 0 32++zT xI)=kk at HDE HAO
   generalize xZ1 (kF xI (box.extract 0 32)) (box.extract 0 32++zT xI)=nn at HDE HAO;generalize kF xI (box.extract 0 32)=sec at HP HDE;generalize zT xI=pu at HPU HDE hn1;clear h1 h2 hz0 hz1 hb hT HT;go_enter Tryz.func97,Tryz.ntmps97;go_wp2_with fail
   refine HPU.o.mono ?_;rintro e w1 ⟨rfl,hb1⟩;have B1:=ι hb1;clear hb1 HPU;go_upto_region 6 with fail
   refine RG.xP (λW=>Hid (Below w.heap.size w W)) κ κ (ι B1.o.drew) ?_;iterate 6 refine RG.dS ?_
   refine RG.xS (λw2 hw2=>?_);have B2:=ι hw2.o;clear hw2 B1 h2i h2n;go_wp2_with fail
   refine(HP.o _).mono ?_;rintro e w3 ⟨rfl,hb3⟩;have B3:=ι (B2.o.trans (hb3.mono B2.o.size));clear hb3 HP B2;go_wp2_with fail
   refine(HDE.o _ B3.o).mono ?_;rintro e w4 ⟨rfl,hb4⟩;have B4:=ι (B3.o.trans (hb4.mono B3.o.size));clear hb4 HDE B3;go_wp2_with fail
   refine(HAO.o _).mono ?_;rintro e w5 ⟨rfl,hb5⟩;have B5:=ι (B4.o.trans (hb5.mono B4.o.size));clear hb5 HAO B4 hn1;cases sa with
   |false=>
    rw[if_neg σ];rw[if_pos rfl] at HE;have HSS:Hid (st=⟨#[]⟩):=ι (by rw[HS.o,HE.o,if_neg δ]);clear HUN;go_wp2;go_ret2;exact⟨by rw[HSS.o,HE.o];rfl,B5.o⟩
   |true=>
    rw[if_pos rfl];go_wp2_with fail
    refine(HUN.o _ B5.o).mono ?_;rintro e w6 ⟨rfl,hb6⟩;have B6:=ι (B5.o.trans (hb6.mono B5.o.size));clear hb6 HUN B5;rw[if_neg σ] at HE
    have HSS:Hid (st=unT sx):=ι (by
     rw[HS.o,HE.o];split
     ·rfl
     ·rename_i h;exact(yD1 h).symm)
    go_wp2;go_ret2;exact⟨by rw[HSS.o,HE.o];rfl,B6.o⟩
end Go.Proofs.SE
namespace Mailsack
def xSh (kind user:Bs) (n:Int):Bs:=xM4 kind user++Go.Lib.itoa n
end Mailsack
namespace Go.Proofs.VA
open Go.RowKit Mailsack MM BB SH SV RK DS Go.Proofs.ST Go.Proofs.SE
structure VaT (w:World):Prop where
 se:SeT w
 tab : ∀ w',Below w.heap.size w w' → Lib.TabIs Tryz.prog w' "internal/strconv.uint64pow10" .u64 Lib.pow10Tab
theorem VaT.below {w w':World} (h:VaT w) (hb:Below w.heap.size w w'):VaT w':=
 ⟨h.se.below hb ν,λw2 h2=>h.tab w2 (hb.trans (h2.mono hb.size))⟩
theorem xEg (k u:ByteArray) (n:Int) (w:World) (hk:k.size<=100) (hu:u.size<=1000000) (hn:-9223372036854775808<=n/\n<=9223372036854775807) (hT:VaT w):
  Calls Tryz.prog 42 #[.string k,.string u,.int .i64 n] w λe w'=>e=.returned (xO (xSh k.data.toList u.data.toList n))/\Below w.heap.size w w':=by
 have HE:Hid (xO (xSh k.data.toList u.data.toList n)=.string (k++⟨#[47]⟩++u++⟨#[47]⟩++⟨(Lib.itoa n).toArray⟩)):=ι (by
  show Value.string _=Value.string _
  congr 1)
 have HI:=ι (Tryz.strconv_Itoa n hn.1 hn.2 w (hT.tab w (Below.refl _ _)))
 have hd:(⟨(Lib.itoa n).toArray⟩:ByteArray).size<=100:=by
  have:=Lib.itoa_length_le n hn.1 hn.2;show(Lib.itoa n).length<=100;omega
 generalize (⟨(Lib.itoa n).toArray⟩:ByteArray)=ds at HE HI hd;have n1:¬(9223372036854775807<k.size+1):=by omega
 have s1:(k++⟨#[47]⟩:ByteArray).size=k.size+1:=ByteArray.size_append;have s2:(k++⟨#[47]⟩++u:ByteArray).size=k.size+1+u.size:=by rw[ByteArray.size_append,s1]
 have s3:(k++⟨#[47]⟩++u++⟨#[47]⟩:ByteArray).size=k.size+1+u.size+1:=by rw[ByteArray.size_append,s2];rfl
 have n2:¬(9223372036854775807<(k++⟨#[47]⟩).size+u.size):=by rw[s1];omega
 have n3:¬(9223372036854775807<(k++⟨#[47]⟩++u).size+1):=by rw[s2];omega
 have n4:¬(9223372036854775807<(k++⟨#[47]⟩++u++⟨#[47]⟩).size+ds.size):=by rw[s3];omega
 have n5:¬(9223372036854775807<k.size+1+u.size+1):=by omega
 have n6:¬(9223372036854775807<k.size+1+u.size):=by omega
 have n7:¬(9223372036854775807<k.size+1+u.size+1+ds.size):=by omega
 clear hk hu hT s1 s2 s3 hd hn;go_enter Tryz.func42,Tryz.ntmps42;go_wp2_with fail
 refine HI.o.mono ?_;rintro e w1 ⟨rfl,k1,os1,hw1⟩;have B1:=ι (show Below w.heap.size w w1 by subst hw1;exact Lib.below_grow _ _ ν _ _);clear hw1 HI;go_wp2;go_ret;exact⟨by rw[HE.o];rfl,B1.o⟩
end Go.Proofs.VA
namespace Go.Proofs.VA
open Go.RowKit Mailsack MM BB SH SV RK DS IX Go.Proofs.ST
structure OpN (w:World) (va vb:Value) (D:Dk) (W:World):Prop where
 d:W.heap[w.heap.size]?=some (xX va vb)
 o:W.heap[w.heap.size+1]?=some (ixO (.slice none 0 0) (.slice none 0 0) 0)
 rd:RdD W W.heap.size va vb D
 bel:Below w.heap.size w W
theorem OpN.below {w W W':World} {va vb:Value} {D:Dk} (h:OpN w va vb D W) (hb:Below W.heap.size W W'):OpN w va vb D W':=
 ⟨xB h.d hb (xG h.d),xB h.o hb (xG h.o),(h.rd.below hb ν).more hb.size,h.bel.trans (hb.mono h.bel.size)⟩
theorem OpN.drew {w W:World} {va vb:Value} {D:Dk} (h:OpN w va vb D W):OpN w va vb D W.drew:=h.below (Below.refl _ W).drew
theorem xS7 (va vb:Value) (d:Dk) (u xI:ByteArray) (w:World) (h:RdD w w.heap.size va vb d) (hu:u.size<=1000000) (hp:xI.size<=1000000) (hT:wL w):
  Calls Tryz.prog 16 #[.agg #[va,vb],.string u,.string xI] w λe w'=>∃bv sv,e=.returned (.tuple #[.agg #[bv,sv,.int .i64 (xCw d u xI).given],.int .i64 (xSd d u xI)])/\uT w.heap.size w' bv sv (xCw d u xI)/\Below w.heap.size w w':=by
 obtain⟨A1,c1,A2,c2,rfl,rfl⟩:=yE h
 have H0:Hid (OpN w (.slice A1 d.secs.length c1) (.slice A2 d.cache.length c2) d ((w.alloc (xX (.slice A1 d.secs.length c1) (.slice A2 d.cache.length c2))).alloc (ixO (.slice none 0 0) (.slice none 0 0) 0))):=ι (by
  have hb:=((Below.refl w.heap.size w).alloc ν (xX (.slice A1 d.secs.length c1) (.slice A2 d.cache.length c2))).alloc σ (ixO (.slice none 0 0) (.slice none 0 0) 0);exact⟨zG _ _ _,yX _ _ _,(h.below hb ν).more hb.size,hb⟩)
 have HUO:=ι (λW=>pG ⟨#[120]⟩ u W δ hu);rw[show(⟨#[120]⟩:ByteArray).data.toList=[120] from rfl] at HUO;have HGE:=ι (λW (h:OpN w (.slice A1 d.secs.length c1) (.slice A2 d.cache.length c2) d W)=>xOe _ _ d (xKd [120] u.data.toList) W h.rd)
 have HIK:=ι (λW (h:OpN w (.slice A1 d.secs.length c1) (.slice A2 d.cache.length c2) d W)=>xEk xI W hp (hT.below h.bel ν));have hos:(zU d u).size<=1024:=by unfold zU;rw[yS];exact xJq _ _
 have HOE:Hid (xSd d u xI=if xI1 d u xI=true then xRg (xCv d u xI) else 3):=ι rfl;have HOI:Hid (xCw d u xI=if xI1 d u xI=true then xKu (xCv d u xI) else ix0):=ι rfl
 have HOK:Hid (xI1 d u xI=(decide (xQa d (xKd [120] u.data.toList)=0)&&decide (12<=(zU d u).size)&&aOk (zV xI) ((zU d u).extract 0 12) u ((zU d u).extract 12 (zU d u).size))):=ι rfl
 have HTX:Hid (xO (xCv d u xI)=.string (aTx (zV xI) ((zU d u).extract 0 12) u ((zU d u).extract 12 (zU d u).size))):=ι (xNe _)
 have HTL:Hid ((xCv d u xI).length<=1000000):=ι (by
  unfold xCv aTx;split
  ·rw[show ∀l:Bs,(bsA l).data.toList=l from λl=>by simp[bsA],xBg];unfold xGu;rw[ByteArray.size_extract,ByteArray.size_extract];omega
  ·simp)
 rw[show xO (xXc d (xKd [120] u.data.toList))=.string (zU d u) from rfl] at HGE
 have HAO:=ι (λW (h12:12<=(zU d u).size)=>xMn (zV xI) ((zU d u).extract 0 12) u ((zU d u).extract 12 (zU d u).size) W (xBv xI) (by rw[ByteArray.size_extract];omega) hu (by rw[ByteArray.size_extract];omega));have HTK:=ι (λW=>xWu (xCv d u xI) W HTL.o)
 have HAE:Hid (aE (zV xI) ((zU d u).extract 0 12) u ((zU d u).extract 12 (zU d u).size)=if aOk (zV xI) ((zU d u).extract 0 12) u ((zU d u).extract 12 (zU d u).size)=true then 0 else 7):=ι rfl;generalize xCv d u xI=tx at HOE HOI HTX HTL HTK;generalize xCw d u xI=oi at HOI⊢
 generalize xSd d u xI=oe at HOE⊢;generalize xI1 d u xI=ok at HOE HOI HOK;generalize zU d u=og at HGE HOK HTX HAO HAE hos;generalize aOk (zV xI) (og.extract 0 12) u (og.extract 12 og.size)=ak at HOK HAE
 generalize aE (zV xI) (og.extract 0 12) u (og.extract 12 og.size)=ae at HAO HAE;generalize aTx (zV xI) (og.extract 0 12) u (og.extract 12 og.size)=at_ at HAO HTX;generalize zV xI=ik at HIK HAO;generalize xKd [120] u.data.toList=nm at HUO HGE HOK;generalize xQa d nm=ge at HGE HOK
 clear h hu hp hT;go_enter Tryz.func16,Tryz.ntmps16;go_upto_region 1 with fail
 obtain⟨w1,hw1⟩:∃w1,(w.alloc (xX (.slice A1 d.secs.length c1) (.slice A2 d.cache.length c2))).alloc (ixO (.slice none 0 0) (.slice none 0 0) 0)=w1:=⟨_,rfl⟩;rw[hw1] at H0;simp only[ixO] at hw1;rw[hw1];clear hw1
 refine RG.xP (λW=>Hid (OpN w (.slice A1 d.secs.length c1) (.slice A2 d.cache.length c2) d W)) κ κ (ι H0.o.drew) ?_;iterate 2 refine RG.dF (λw9 hw9=>zQ hw9.o.d) ?_
 apply RG.xJ
 ·intro w9 hw9;repeat go_step
  refine(HUO.o _).mono ?_;rintro e w10 ⟨rfl,rfl⟩;simp only[];repeat go_step
  with_reducible exact RG.xD hw9
 ·rfl
 apply RG.xJ
 ·intro w9 hw9;repeat go_step
  refine(HGE.o _ hw9.o).mono ?_;rintro e w10 ⟨rfl,zM⟩;simp only[];repeat go_step
  with_reducible refine RG.xD ?_
  exact ι (hw9.o.below zM)
 ·rfl
 iterate 5 refine RG.dS ?_
 refine RG.xS (λw2 hw2=>?_);clear H0 HUO HGE
 by_cases hg:ge=0
 ·subst hg;rw[decide_eq_true rfl,Bool.true_and] at HOK
  by_cases h12:12<=og.size
  ·rw[decide_eq_true h12,Bool.true_and] at HOK;have e12:decide ((og.size:Int)<12)=false:=decide_eq_false ω;have k12:¬((og.size:Int)<12):=by omega
   go_upto_region 4 with fail
   go_wp2_with fail
   refine(HIK.o _ hw2.o).mono ?_;rintro e w3 ⟨rfl,hb3⟩;have H3:=ι (hw2.o.below hb3);clear hb3 hw2 HIK;go_upto_region 7 with fail
   have H3:=ι H3.o.drew;refine RG.xP (λW=>Hid (OpN w (.slice A1 d.secs.length c1) (.slice A2 d.cache.length c2) d W)) κ κ H3 ?_;iterate 6 refine RG.dS ?_
   apply RG.xJ
   ·intro w9 hw9;repeat go_step
    refine(HAO.o w9 h12).mono ?_;rintro e w10 ⟨rfl,zM⟩;simp only[];repeat go_step
    with_reducible refine RG.xD ?_
    exact ι (hw9.o.below zM)
   ·rfl
   iterate 5 refine RG.dS ?_
   refine RG.xS (λw4 hw4=>?_);clear H3 HAO e12 k12;cases ak with
   |false=>
    rw[if_neg σ] at HAE;rw[HOK.o,if_neg σ] at HOE HOI;have ha1:(ae==0)=false:=by rw[HAE.o];rfl
    have ha2:(ae !=0)=true:=by rw[HAE.o];rfl
    have HZ:=hw4;clear hw4 HTK;obtain⟨o0,y0,f0,o1,y1,f1,o2,y2,f2,HB⟩:=xMd HZ.o.o HZ.o.bel ω (.slice none 0 0) (.slice none 0 0) (.int .i64 0) _ rfl;clear HZ;go_wp2
    refine bodyPost_ret (v:=.tuple #[.agg #[.slice none 0 0,.slice none 0 0,.int .i64 0],.int .i64 3]) (by simp[results,Tryz.results16,go_sem,f0,f1,f2]) rfl ?_;exact⟨_,_,by rw[HOE.o,HOI.o];rfl,by rw[HOI.o];exact uT.zero _ _,HB.o⟩
   |true=>
    rw[if_pos rfl] at HAE;rw[HOK.o,if_pos rfl] at HOE HOI;have ha1:(ae==0)=true:=by rw[HAE.o];rfl
    have ha2:(ae !=0)=false:=by rw[HAE.o];rfl
    rw[HTX.o] at HTK;have H4:=hw4;clear hw4;go_upto_region 10 with fail
    go_wp2_with fail
    refine(HTK.o _).mono ?_;rintro e w5 ⟨bv,sv,rfl,ho,hb5⟩;obtain⟨A3,n3,c3,A4,n4,c4,rfl,rfl⟩:=ho.form;have H5:=ι (H4.o.below hb5);have HO:=ι (ho.less H4.o.bel.size);clear hb5 ho H4 HTK;generalize xKu tx=ti at HOI HO⊢;generalize xRg tx=te at HOE⊢
    obtain⟨o0,y0,f0,o1,y1,f1,o2,y2,f2,HB⟩:=xMd H5.o.o H5.o.bel ω (.slice A3 n3 c3) (.slice A4 n4 c4) (.int .i64 ti.given) _ rfl;have HS:=ι (HO.o.set (g:=w.heap.size+1) H5.o.o δ δ δ [.slice A3 n3 c3,.slice A4 n4 c4,.int .i64 ti.given] 0);simp only[xU,Nat.reduceAdd] at HS
    clear HO H5;go_wp2;refine bodyPost_ret (v:=.tuple #[.agg #[.slice A3 n3 c3,.slice A4 n4 c4,.int .i64 ti.given],.int .i64 te]) (by simp[results,Tryz.results16,go_sem,f0,f1,f2]) rfl ?_;exact⟨_,_,by rw[HOE.o,HOI.o],by rw[HOI.o];exact HS.o,HB.o⟩
  ·have k12:(og.size:Int)<12:=by omega
   have e12:decide ((og.size:Int)<12)=true:=decide_eq_true k12;rw[decide_eq_false h12,Bool.false_and] at HOK;rw[HOK.o,if_neg σ] at HOE HOI;have HZ:=hw2;clear hw2 HIK HAO HTK
   obtain⟨o0,y0,f0,o1,y1,f1,o2,y2,f2,HB⟩:=xMd HZ.o.o HZ.o.bel ω (.slice none 0 0) (.slice none 0 0) (.int .i64 0) _ rfl;clear HZ;go_wp2
   refine bodyPost_ret (v:=.tuple #[.agg #[.slice none 0 0,.slice none 0 0,.int .i64 0],.int .i64 3]) (by simp[results,Tryz.results16,go_sem,f0,f1,f2]) rfl ?_;exact⟨_,_,by rw[HOE.o,HOI.o];rfl,by rw[HOI.o];exact uT.zero _ _,HB.o⟩
 ·have hg1:(ge==0)=false:=by simpa using hg
  have hg2:(ge !=0)=true:=by simpa using hg
  rw[decide_eq_false hg,Bool.false_and,Bool.false_and] at HOK;rw[HOK.o,if_neg σ] at HOE HOI;have HZ:=hw2;clear hw2 HIK HAO HTK;obtain⟨o0,y0,f0,o1,y1,f1,o2,y2,f2,HB⟩:=xMd HZ.o.o HZ.o.bel ω (.slice none 0 0) (.slice none 0 0) (.int .i64 0) _ rfl;clear HZ;go_wp2
  refine bodyPost_ret (v:=.tuple #[.agg #[.slice none 0 0,.slice none 0 0,.int .i64 0],.int .i64 3]) (by simp[results,Tryz.results16,go_sem,f0,f1,f2]) rfl ?_;exact⟨_,_,by rw[HOE.o,HOI.o];rfl,by rw[HOI.o];exact uT.zero _ _,HB.o⟩
theorem xXv {W:World} {g:Nat} {A1 A2:Option Addr} {n1 c1 n2 c2:Nat} {ua ub:Value} {D:Dk} (ho:W.heap[g]?=some (xX (.slice A1 n1 c1) (.slice A2 n2 c2))) (hr:RdD W W.heap.size ua ub D):RdD ((W.setCell ⟨g,0,none⟩ ua).setCell ⟨g,1,none⟩ ub) ((W.setCell ⟨g,0,none⟩ ua).setCell ⟨g,1,none⟩ ub).heap.size ua ub D:=by
 have e0:=xY ho 0 ua;obtain⟨A3,c3,A4,c4,rfl,rfl⟩:=yE hr;have n0:=vH ho
 have n1:xTp (W.setCell ⟨g,0,none⟩ (.slice A3 D.secs.length c3)) g:=by
  simp only[List.setIfInBounds_toArray,List.set_cons_zero] at e0;exact vH e0
 have:=RdD.far (RdD.far hr (p:=⟨g,0,none⟩) n0 (.slice A3 D.secs.length c3)) (p:=⟨g,1,none⟩) n1 (.slice A4 D.cache.length c4);simpa[size_set] using this
end Go.Proofs.VA
namespace Mailsack
theorem xW4 {d:Dk} {x:Bs} (h:x∈xAe d):x.length<=24:=by
 obtain⟨t,h1,h2,rfl⟩:=xW3 h;obtain⟨i,hi⟩:=List.mem_iff_getElem?.1 h1;rw[pX] at hi;split at hi
 ·obtain⟨s,_,rfl⟩:=Option.map_eq_some_iff.1 hi;rcases xJz s with e|⟨_,h3⟩
  ·rw[e] at h2;cases h2
  ·exact h3.n2
 ·cases hi
theorem xNm (s p:Bs):Go.Lib.hasPrefix s p=decide (s.take p.length=p):=by
 unfold Go.Lib.hasPrefix;rw[Bool.eq_iff_iff,List.isPrefixOf_iff_prefix,decide_eq_true_eq,List.prefix_iff_eq_take];exact⟨λh=>h.symm,λh=>h.symm⟩
theorem xLg {l:List Bs} {k:Nat} {x:Bs} (h:l[k]?=some x) (hd:Bs):(l.take (k+1)).flatMap (numberOf hd)=(l.take k).flatMap (numberOf hd)++numberOf hd x:=by
 rw[List.take_add_one,h,List.flatMap_append];simp
theorem xDs (hd:Bs):∀(l:List Bs),(l.flatMap (numberOf hd)).length<=l.length
 |[]=>Nat.le_refl _
 |x::l=>by
  have ih:=xDs hd l
  have:(numberOf hd x).length<=1:=by
   unfold numberOf;split
   ·split<;>simp
   ·simp
  rw[List.flatMap_cons,List.length_append,List.length_cons];omega
theorem xNy (d:Dk):(xAe d).length<=1000:=by
 unfold xAe;split
 ·have h1:(Go.Lib.compact (tC (usedNames (yR (yG d).secs)))).length<=(tC (usedNames (yR (yG d).secs))).length:=by
   unfold Go.Lib.compact Go.Lib.compactUpTo;rw[List.length_map];have:=List.length_filter_le (Go.Lib.keeps (tC (usedNames (yR (yG d).secs))).toArray) (List.range (tC (usedNames (yR (yG d).secs))).length);simpa using this
  have h2:(tC (usedNames (yR (yG d).secs))).length=(usedNames (yR (yG d).secs)).length:=by unfold tC;exact List.length_mergeSort _
  have h3:(usedNames (yR (yG d).secs)).length<=32:=by
   unfold usedNames;rw[List.length_map];have:=List.length_filter_le (λt:Slot=>t.used) (yR (yG d).secs);have h4:(yR (yG d).secs).length<=32:=by unfold yR;simp;omega
   omega
  omega
 ·simp
end Mailsack
namespace Go.Proofs.VA
open Go.RowKit Go.Lib Mailsack MM BB SH SV RK DS Go.Proofs.ST
abbrev xWx (z:Int):List Value:=[.int .i64 z]
theorem xJk (z:Int):(xWx z).length=1:=rfl
theorem yAz (x:Int):∀u∈xWx x,u.oneCell'=true:=by
 intro u hu;rw[List.mem_singleton.1 hu];rfl
theorem tyInt:xYp Tryz.prog 106 3 1 8 xWx:=by
 obtain⟨i,hi,hz,hs,hb⟩:=vM xQ8;exact⟨Tryz.underlying106,⟨i,_,hi,hz,hs,hb,rfl⟩,ω,ω,xJk,yAz⟩
theorem xVb {w:World} {base:Nat} {v:Value} {xs:List Int} (h:xV 3 1 xWx w base v xs) (hl:xs.length<=1000000):
  Calls Tryz.prog 96 #[v] w λe w'=>e=.returned (.tuple #[])/\Below base w w'/\RdR 1 xWx w' w'.heap.size v (xEu xs):=by
 have hls:(xEu xs).length=xs.length:=by unfold xEu;exact List.length_mergeSort _
 rcases h.2 with ⟨hv,hn⟩|⟨g,cap,cur,h1,hb,hg,hnc,_,_,htake⟩
 ·have:xs=[]:=List.eq_nil_of_length_eq_zero hn;subst this;subst hv;refine(Tryz.slices_Sort_int_none none 0 w).mono ?_;rintro e w' ⟨rfl,rfl⟩;exact⟨rfl,Below.refl _ _,none,0,by simp[xEu],by simp[xEu],λh=>by simp[xEu] at h⟩
 ·subst h1
  have hH:Sort.Holds (Value.int .i64) w g 0 xs.toArray:=λj hj=>⟨by
   have hj2:j<xs.length:=by simpa using hj
   have:=World.ownsRow.cells h.row (g:=g) rfl (j*1+0) (.int .i64 (xs.toArray[j]!)) (flat_get xJk xs j 0 xs[j] _ (List.getElem?_eq_getElem hj2) (by rw[getElem!_pos xs.toArray j (by simpa using hj2)];rfl))
   have hadd:(⟨g,0,none⟩:Addr).add (j*1+0)=⟨g,0+j,none⟩:=by unfold Addr.add;split<;>simp_all
   rw[hadd] at this;exact this,xC hg _⟩
  refine(Tryz.slices_Sort_int g 0 cap xs w hH (xG hg) ω).mono ?_;rintro e w' ⟨rfl,n,os,rfl⟩
  have hH2:=Sort.holds_grow (Value.int .i64) _ os g 0 (xEu xs).toArray (by simpa using xG hg) (Sort.holds_putRow (Value.int .i64) (Sort.ahead w n) g 0 xs.toArray (xEu xs).toArray (Sort.holds_ahead _ _ n _ _ _ hH) (by simpa using hls))
  refine⟨rfl,xGw (Below.refl _ _) hb (xG hg),_,cap,by rw[hls],by rw[hls];exact hnc,λ_=>⟨g,0,rfl,by have:=xG hg;simp;omega,λj x hx i u hu=>?_⟩⟩;have hi:=(List.getElem?_eq_some_iff.1 hu).1;obtain rfl:i=0:=by simp at hi;omega
  obtain⟨hj,rfl⟩:=List.getElem?_eq_some_iff.1 hx;have:=(hH2 j (by simpa using hj)).1;rw[show 0+j*1+0=0+j by omega];refine this.trans ?_;rw[getElem!_pos (xEu xs).toArray j (by simpa using hj)];simpa using hu
def FarV (B:Nat) (v:Value):Prop:=∀a n c,v=.slice (some a) n c->B<=a.block
theorem xNw (va vb:Value) (d:Dk) (kd us:ByteArray) (w:World) (h:RdD w w.heap.size va vb d) (hk:kd.size<=100) (hu:us.size<=1000000):
  Calls Tryz.prog 39 #[.agg #[va,vb],.string kd,.string us] w λe w'=>∃v,e=.returned v/\RdR 1 xWx w' w'.heap.size v (qM d kd.data.toList us.data.toList)/\Below w.heap.size w w'/\FarV w.heap.size v:=by
 obtain⟨A1,c1,A2,c2,rfl,rfl⟩:=yE h;have HA:=ι ((Below.refl w.heap.size w).alloc ν (xX (.slice A1 d.secs.length c1) (.slice A2 d.cache.length c2)));have hD0:=xL w (xX (.slice A1 d.secs.length c1) (.slice A2 d.cache.length c2));obtain⟨d0,d1⟩:=zQ hD0;clear hD0
 have HNM:=ι (xW5 _ _ d _ ((h.below HA.o ν).more HA.o.size));have HNP:Hid (qM d kd.data.toList us.data.toList=xEu ((xAe d).flatMap (numberOf (xM4 kd.data.toList us.data.toList)))):=ι rfl;have HNL:=ι (λx (hx:x∈xAe d)=>xW4 hx);have HNC:=ι (xNy d)
 obtain⟨np,hnp⟩:∃np,qM d kd.data.toList us.data.toList=np:=⟨_,rfl⟩;rw[hnp] at HNP⊢;obtain⟨hp,hhp⟩:∃hp:ByteArray,kd++⟨#[47]⟩++us++⟨#[47]⟩=hp:=⟨_,rfl⟩
 have HHP:Hid (xM4 kd.data.toList us.data.toList=hp.data.toList):=ι (by
  rw[<-hhp];simp[xM4,slash,ByteArray.data_append])
 rw[HHP.o] at HNP;have n1:¬(9223372036854775807<kd.size+1):=by omega
 have n2:¬(9223372036854775807<(kd++⟨#[47]⟩).size+us.size):=by rw[ByteArray.size_append];show ¬(_<kd.size+1+us.size);omega
 have n3:¬(9223372036854775807<(kd++⟨#[47]⟩++us).size+1):=by rw[ByteArray.size_append,ByteArray.size_append];show ¬(_<kd.size+1+us.size+1);omega
 have n4:¬(9223372036854775807<kd.size+1+us.size+1):=by omega
 generalize xAe d=names at HNM HNP HNL HNC;have HHQ:=ι hhp;clear h hk hu hnp hhp HHP;go_enter Tryz.func39,Tryz.ntmps39;go_wp2_with fail
 refine HNM.o.mono ?_;rintro e w1 ⟨v1,rfl,hr1,hb1⟩;have HB1:=ι (HA.o.trans (hb1.mono HA.o.size));have HR1:=ι hr1;obtain⟨A5,c5,rfl,hc5,hcell⟩:=hr1;have HCL:=ι hcell;clear hb1 hcell hc5 HNM HA d0 d1;go_wp2_with fail
 go_loopw [7,17] (λtv iv wr=>∃k:Nat,k<=names.length/\iv=.int .i64 k/\Hid (xV 3 1 xWx wr w1.heap.size tv ((names.take k).flatMap (numberOf hp.data.toList))/\Below w1.heap.size w1 wr)) (λ_ iv _=>names.length- (intOf iv).toNat)
 case atStart=>exact⟨0,Nat.zero_le _,rfl,ι ⟨xV.nil _ _,Below.refl _ _⟩⟩
 case round=>
  obtain⟨k,hk,rfl,HI⟩:=hrel;have hnc:names.length<=1000:=HNC.o
  by_cases hlt:k<names.length
  ·obtain⟨x,hx⟩:∃x,names[k]?=some x:=⟨_,List.getElem?_eq_getElem hlt⟩;obtain⟨b,off,rfl,hbw,hcs⟩:=HCL.o ω;have q:=(HI.o.2.cell (p:=⟨b,off+k,none⟩) hbw).trans (hcs k x hx);have HXL:Hid (x.length<=24):=ι (HNL.o x (List.mem_of_getElem? hx));have HST:=ι (xLg hx hp.data.toList)
   have HNO:Hid (numberOf hp.data.toList x=if x.take hp.data.toList.length=hp.data.toList then(if kT (x.drop hp.data.toList.length)=true then[(numOf (x.drop hp.data.toList.length):Int)] else[]) else[]):=ι rfl;have HCP:=ι (λW=>Tryz.strings_CutPrefix ⟨x.toArray⟩ hp W)
   rw[show(⟨x.toArray⟩:ByteArray).data.toList=x from rfl] at HCP;have HTR:Hid (trimPrefix x hp.data.toList=if hasPrefix x hp.data.toList=true then x.drop hp.data.toList.length else x):=ι rfl;have HPT:=ι (xNm x hp.data.toList)
   have HTL:Hid (((names.take k).flatMap (numberOf hp.data.toList)).length<=1000):=ι (by have:=xDs hp.data.toList (names.take k);have:=List.length_take_le k names;omega);generalize trimPrefix x hp.data.toList=tp at HCP HTR;cases hpf:hasPrefix x hp.data.toList with
   |false=>
    rw[hpf] at HCP HTR HPT;have hne:¬(x.take hp.data.toList.length=hp.data.toList):=of_decide_eq_false HPT.o.symm;rw[if_neg hne] at HNO;rw[HNO.o,List.append_nil] at HST;clear hcs hx hpf hne HNO HPT;rw[<-HHQ.o] at HCP
    have HI2:Hid (xV 3 1 xWx wr w1.heap.size u7 ((names.take (k+1)).flatMap (numberOf hp.data.toList))/\Below w1.heap.size w1 wr):=ι (by rw[HST.o];exact HI.o);clear HI HST HTL HTR HXL HNL;go_wp2_with fail
    refine(HCP.o _).mono ?_;rintro e w3 ⟨rfl,hw3⟩;rw[hw3];clear hw3 w3 q;go_wp2;exact⟨⟨k+1,ω,by go_num,HI2⟩,by simp[intOf];omega⟩
   |true=>
    rw[hpf] at HCP HTR HPT;have hye:x.take hp.data.toList.length=hp.data.toList:=of_decide_eq_true HPT.o.symm;rw[if_pos hye] at HNO;rw[if_pos rfl] at HTR;rw[<-HTR.o] at HNO;have HPA:=ι (λW=>xVu tp W (by rw[HTR.o,List.length_drop];have:=HXL.o;omega));rw[<-HHQ.o] at HCP
    clear hcs hx hpf hye HPT HTR HXL HNL;go_wp2_with fail
    refine(HCP.o _).mono ?_;rintro e w3 ⟨rfl,hw3⟩;rw[hw3];clear hw3 w3 q HCP;go_wp2_with fail
    refine(HPA.o _).mono ?_;rintro e w3 ⟨z,rfl,hz,hw3⟩;rw[hw3];clear hw3 w3 HPA;cases hpo:kT tp with
    |false=>
     rw[hpo,if_neg σ] at HNO;rw[HNO.o,List.append_nil] at HST;have HI2:Hid (xV 3 1 xWx wr w1.heap.size u7 ((names.take (k+1)).flatMap (numberOf hp.data.toList))/\Below w1.heap.size w1 wr):=ι (by rw[HST.o];exact HI.o);clear hz hpo HI HNO HST HTL;go_wp2
     exact⟨⟨k+1,ω,by go_num,HI2⟩,by simp[intOf];omega⟩
    |true=>
     have hz2:=hz hpo;rw[hpo,if_pos rfl,<-hz2] at HNO;rw[HNO.o] at HST;have HO:=ι HI.o;generalize (names.take k).flatMap (numberOf hp.data.toList)=T at HO HST HTL
     have HAD:Hid (∀v8 w8,qP 3 1 xWx (wr.alloc (.cells #[.int .i64 z] 3)) w8 w1.heap.size u7 v8 (T++[z])->Hid (xV 3 1 xWx w8 w1.heap.size v8 ((names.take (k+1)).flatMap (numberOf hp.data.toList))/\Below w1.heap.size w1 w8)):=ι λv8 w8 h8=>ι ⟨by rw[HST.o];exact h8.own,h8.bel (HO.o.1.alloc _) ν (HO.o.2.alloc HO.o.2.size _) (by have:=HO.o.2.size;simp;omega)⟩
     clear hz hz2 hpo HI HNO;go_wp2_with (at_builtin;refine zY tyInt rfl _ _ rfl rfl rfl (HO.o.1.alloc _) (RdR.lit (m:=[z]) xJk _ _ rfl) (by have:=HTL.o;simp;omega) (by have:=HO.o.2.size;simp;omega) ?_;intro v8 w8 h8;have HA8:=HAD.o _ _ h8;clear h8)
     exact⟨⟨k+1,ω,by go_num,HA8⟩,by simp[intOf];omega⟩
  ·obtain rfl:k=names.length:=by omega
   rw[List.take_length] at HI;have HUL:Hid ((names.flatMap (numberOf hp.data.toList)).length<=1000):=ι (by have:=xDs hp.data.toList names;omega);generalize names.flatMap (numberOf hp.data.toList)=ns at HI HNP HUL;have HSS:=ι (xVb HI.o.1 (by have:=HUL.o;omega))
   have HBI:=ι HI.o.2;obtain⟨A6,c6,hu7,_⟩:=HI.o.1.form;subst hu7
   have HFV:Hid (FarV w.heap.size (.slice A6 ns.length c6)):=ι λa n c e=>by
    injection e with e1 _ _;subst e1;have:=(World.ownsRow.lt HI.o.1.row a.block rfl).1;exact Nat.le_trans HB1.o.size this
   clear HI hlt hk;go_wp2_with fail
   refine HSS.o.mono ?_;rintro e w4 ⟨rfl,hb4,hr4⟩;have H4:=ι (And.intro hr4 (HB1.o.trans ((HBI.o.trans hb4).mono HB1.o.size)));clear hb4 hr4 HSS HBI;go_wp2;go_ret;exact⟨_,rfl,by rw[HNP.o];exact H4.o.1,H4.o.2,HFV.o⟩
end Go.Proofs.VA
namespace Go.Proofs.VA
open Go.RowKit Mailsack MM BB SH SV RK DS IX Go.Proofs.ST
abbrev vO (u p o:ByteArray) (ep:Int) (bv sv:Value) (g:Int):Obj:=.cells #[.string u,.string p,.string o,.int .i64 ep,bv,sv,.int .i64 g] 30
abbrev xTv (u p o:ByteArray) (ep:Int) (bv sv:Value) (g:Int):Value:=.agg #[.string u,.string p,.string o,.int .i64 ep,bv,sv,.int .i64 g]
abbrev vJ:Obj:=vO ⟨#[]⟩ ⟨#[]⟩ ⟨#[]⟩ 0 (.slice none 0 0) (.slice none 0 0) 0
abbrev vB:Obj:=xX (.slice none 0 0) (.slice none 0 0)
structure MgN (w:World) (va vb:Value) (so:Obj) (b1 b2:Bool) (W:World):Prop where
 d:W.heap[w.heap.size]?=some (xX va vb)
 s:W.heap[w.heap.size+1]?=some so
 o1:W.heap[w.heap.size+2]?=some (if b1=true then so else vJ)
 o2:W.heap[w.heap.size+3]?=some (if b2=true then xX va vb else vB)
 bel:Below w.heap.size w W
theorem MgN.below {w W W':World} {va vb:Value} {so:Obj} {b1 b2:Bool} (h:MgN w va vb so b1 b2 W) (hb:Below W.heap.size W W'):MgN w va vb so b1 b2 W':=
 ⟨xB h.d hb (xG h.d),xB h.s hb (xG h.s),xB h.o1 hb (xG h.o1),xB h.o2 hb (xG h.o2),h.bel.trans (hb.mono h.bel.size)⟩
theorem xPw (w:World) (va vb:Value) (so:Obj):MgN w va vb so false false ((((w.alloc (xX va vb)).alloc so).alloc vJ).alloc vB):=by
 have hb:=((((Below.refl w.heap.size w).alloc ν (xX va vb)).alloc σ so).alloc (by simp;omega) vJ).alloc (by simp;omega) vB;have h1:=xL ((w.alloc (xX va vb)).alloc so) vJ;have h2:=xL (((w.alloc (xX va vb)).alloc so).alloc vJ) vB;simp only[World.size_alloc] at h1 h2
 exact⟨xK (xK (zG _ _ _) _) _,xK (xK (yX _ _ _) _) _,xK h1 _,h2,hb⟩
end Go.Proofs.VA