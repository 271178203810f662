/- Contracts of functions. Conditions: as stated. -/
import Derived.Test.YtacahegificeoaaGreatDoorImapLoginsProofB34
set_option maxHeartbeats 8000000
set_option maxRecDepth 100000
namespace Mailsack
theorem xLm {t:RdP->RdP} (ht:∀r,(t r).rest.length<=r.rest.length):∀(n:Nat) (r:RdP),(xAr t n r).rest.length<=r.rest.length
 |0,_=>Nat.le_refl _
 |n+1,r=>by
  unfold xAr;split
  ·exact Nat.le_refl _
  ·exact Nat.le_trans (xLm ht n (t r)) (ht r)
theorem xP7 (r:RdP):(xKc r).rest.length<=r.rest.length:=Nat.le_trans (vK _ _) (vK _ _)
theorem yBq (r:RdP):(xKf r).rest.length<=r.rest.length:=by
 unfold xKf xZ3;exact Nat.le_trans (xLm xLn _ _) (Nat.le_trans (vK _ _) (Nat.le_trans (vK _ _) (Nat.le_trans (vK _ _) (xP7 r))))
end Mailsack
namespace Go.Proofs.IX
open Go.RowKit Mailsack MM BB SH SV RK DS
theorem xWu (s:Bs) (w:World) (hs:s.length<=1000000):
  Calls Tryz.prog 38 #[xO s] w λe w'=>∃bv sv,e=.returned (.tuple #[.agg #[bv,sv,.int .i64 (xKu s).given],.int .i64 (xRg s)])/\uT w.heap.size w' bv sv (xKu s)/\Below w.heap.size w w':=by
 have HNU:=ι (λ(g:Nat) (r':RdP) (c:Nat) W (h:W.heap[g]?=some (rdO r')) (hl':r'.rest.length<=1000000) (hc:c<=4)=>xC4 g r' c W h hl' hc);have HTX:=ι (λ(g:Nat) (r':RdP) W (h:W.heap[g]?=some (rdO r')) (hl':r'.rest.length<=1000000)=>xL4 g r' W h hl')
 have HBX:=ι (λ(g:Nat) (r':RdP) W (h:W.heap[g]?=some (rdO r')) (hl':r'.rest.length<=1000000)=>xZz g r' W h hl');have HOK:Hid (yEi s=(!(ixR ⟨s,false⟩).bad&&decide ((ixR ⟨s,false⟩).rest=[])&&zI (ixV ⟨s,false⟩))):=ι rfl
 have HTI:Hid (xKu s=(if yEi s=true then ixV ⟨s,false⟩ else ix0)/\xRg s=if yEi s=true then 0 else 3):=ι ⟨rfl,rfl⟩
 have HIV:Hid (ixV ⟨s,false⟩=⟨xAq xMw xKf (zR (rdR ⟨s,false⟩ 4) 1) (ixR1 ⟨s,false⟩),xAq xYw xKc (zR (xZ0 ⟨s,false⟩) 1) (rdR (xZ0 ⟨s,false⟩) 1),zR ⟨s,false⟩ 4⟩/\
  ixR ⟨s,false⟩=xAr xKc (zR (xZ0 ⟨s,false⟩) 1) (rdR (xZ0 ⟨s,false⟩) 1)/\xZ0 ⟨s,false⟩=xAr xKf (zR (rdR ⟨s,false⟩ 4) 1) (ixR1 ⟨s,false⟩)/\ixR1 ⟨s,false⟩=rdR (rdR ⟨s,false⟩ 4) 1):=ι ⟨rfl,rfl,rfl,rfl⟩
 obtain⟨ti,hti⟩:∃ti,xKu s=ti:=⟨_,rfl⟩;obtain⟨te,hte⟩:∃te,xRg s=te:=⟨_,rfl⟩;rw[hti,hte];rw[hti,hte] at HTI;generalize yEi s=iok at HOK HTI;generalize ixR1 ⟨s,false⟩=r1 at HIV;generalize xZ0 ⟨s,false⟩=r2 at HIV;generalize ixR ⟨s,false⟩=r9 at HIV HOK
 generalize ixV ⟨s,false⟩=iv9 at HIV HOK HTI;have hb0:=(((Below.refl w.heap.size w).alloc ν (ixO (.slice none 0 0) (.slice none 0 0) 0)).alloc σ (rdO ⟨s,false⟩))
 have H0:Hid (((w.alloc (ixO (.slice none 0 0) (.slice none 0 0) 0)).alloc (rdO ⟨s,false⟩)).heap[w.heap.size]?=some (ixO (.slice none 0 0) (.slice none 0 0) 0)/\((w.alloc (ixO (.slice none 0 0) (.slice none 0 0) 0)).alloc (rdO ⟨s,false⟩)).heap[w.heap.size+1]?=some (rdO ⟨s,false⟩)/\Below w.heap.size w ((w.alloc (ixO (.slice none 0 0) (.slice none 0 0) 0)).alloc (rdO ⟨s,false⟩))):=ι ⟨zG _ _ _,yX _ _ _,hb0⟩
 have hs0:(⟨s,false⟩:RdP).rest.length<=1000000:=hs;clear hti hte hb0 hs;go_enter Tryz.func38,Tryz.ntmps38;go_upto_region 2 with fail
 generalize (w.alloc (.cells #[.slice none 0 0,.slice none 0 0,.int .i64 0] 28)).alloc (.cells #[xO s,.bool false] 148)=w1 at H0⊢;obtain⟨g,hg⟩:∃g,w.heap.size+1=g:=⟨_,rfl⟩;rw[hg] at H0⊢;have HN:=ι (HNU.o g ⟨s,false⟩ 4 w1 H0.o.2.1 hs0 ω);rw[show(((4:Nat)):Int)=4 from rfl] at HN
 have HL1:Hid ((rdR ⟨s,false⟩ 4).rest.length<=1000000):=ι (Nat.le_trans (vK _ _) hs0);generalize (⟨s,false⟩:RdP)=q0 at HN H0 HL1 HIV;clear hs0;go_wp2_with fail
 refine HN.o.mono ?_;rintro e w2 ⟨rfl,ht⟩;generalize zR q0 4=nv at HIV⊢
 have hT:TkI w g w2.heap.size (.slice none 0 0) (.slice none 0 0) (.slice none 0 0) (.slice none 0 0) [] [] (nv:Nat) (rdR q0 4) (w2.alloc (ixO (.slice none 0 0) (.slice none 0 0) (nv:Nat))):=by
  have hsz:=ht.tn.size;have h2:=xG H0.o.2.1;exact⟨xK (ht.tn.blk H0.o.1 ω) _,xL _ _,xK ht.b _,xV.nil _ _,λp hp=>(by cases hp),xV.nil _ _,(H0.o.2.2.trans (ht.tn.below (λk hk=>by omega) H0.o.2.2.size)).alloc (by have:=H0.o.2.2.size;omega) _,ω,ω⟩
 have HT:=ι hT;clear hT ht HN H0;generalize rdR q0 4=q1 at HT HL1 HIV;go_upto_region 3 with fail
 generalize hxb:w2.heap.size=xb at HT⊢;generalize w2.alloc (.cells #[.slice none 0 0,.slice none 0 0,.int .i64 (nv:Nat)] 28)=w3 at HT⊢;clear hxb hg;have HN:=ι (HNU.o g q1 1 w3 HT.o.rd HL1.o ω);rw[show(((1:Nat)):Int)=1 from rfl] at HN;have hc1:=xNx q1
 have HL2:Hid ((rdR q1 1).rest.length<=1000000):=ι (Nat.le_trans (vK _ _) HL1.o);go_wp2_with fail
 refine HN.o.mono ?_;rintro e w4 ⟨rfl,ht⟩;have HT4:=ι (HT.o.turn ht);rw[HIV.o.2.2.2] at HIV;generalize zR q1 1=n1 at hc1 HIV⊢;generalize rdR q1 1=q2 at HT4 HL2 HIV;clear ht HN HT HL1;go_wp2_with fail
 go_loopw [14] (λiv wr=>∃(k:Nat) (u_:Value) (bl:List wW) (rk:RdP),k<=n1/\iv=.int .i64 k/\Hid (TkI w g xb u_ (.slice none 0 0) u_ (.slice none 0 0) bl [] (nv:Nat) rk wr/\xHm xMw xKf q2 k (bl.map (·.b)) rk/\rk.rest.length<=1000000/\bl.length<=k)) (λiv _=>n1- (intOf iv).toNat)
 case atStart=>exact⟨0,_,[],q2,Nat.zero_le _,rfl,ι ⟨HT4.o,xG5 _ _ _,HL2.o,Nat.le_refl _⟩⟩
 case round=>
  obtain⟨k,u_,bl,rk,hk,rfl,HI⟩:=hrel;clear HT4
  by_cases hlt:k<n1
  case' neg=>
   obtain rfl:k=n1:=by omega
   have HE:=ι (And.intro HI.o.1 (xG7 HI.o.2.1));have HEL:=ι (And.intro HI.o.2.2.1 (show bl.length<=1000 by have:=HI.o.2.2.2;omega));clear HI;go_upto_region 8 with fail
   obtain⟨wz,hwz⟩:∃wz,wz=wr:=⟨_,rfl⟩;rw[<-hwz] at HE⊢;clear hwz
  case' pos=>
   cases hbad:rk.bad
   case false=>
    have hr:=xA HI.o.1.rd 1;simp only[gA,gB,gC] at hr;rw[hbad] at hr;have HBD:=ι hbad;have HI2:=ι HI.o.2;have HT:=ι HI.o.1;clear hbad HI;go_upto_region 6 with fail
    clear hr;have HBO:=ι (λW (h:W.heap[g]?=some (rdO rk))=>HBX.o g rk W h HI2.o.2.1);have HLB:Hid (bl.length<=300):=ι (by have:=HI2.o.2.2;omega)
    refine RG.uB [7] [3,4,5] (λL α W=>Hid ((L 3=false->TkI w g xb u_ (.slice none 0 0) u_ (.slice none 0 0) bl [] (nv:Nat) rk W)/\
     (L 3=true->L 5=false->∃p,α 3=bxV p/\p.b=xMw rk/\TkI w g xb u_ (.slice none 0 0) u_ (.slice none 0 0) bl [] (nv:Nat) (xKf rk) W/\xV 122 4 maF W w.heap.size p.mv p.b.yB/\(L 4=true->RdR 4 bxF W W.heap.size (α 4) [p]))/\
     (L 3=true->L 5=true->L 7=false->∃p,p.b=xMw rk/\TkI w g xb u_ (.slice none 0 0) (α 5) (.slice none 0 0) (bl++[p]) [] (nv:Nat) (xKf rk) W)/\
     (L 3=true->L 5=true->L 7=true->∃p,p.b=xMw rk/\TkI w g xb (α 5) (.slice none 0 0) (α 5) (.slice none 0 0) (bl++[p]) [] (nv:Nat) (xKf rk) W)))
     (λL L' α α' W hl ha h=>ι (by
      have l3:=hl 3 σ;have l4:=hl 4 σ;have l5:=hl 5 σ;have l7:=hl 7 σ;refine⟨λe=>h.o.1 (l3.trans e),λe f=>?_,λe f f7=>?_,λe f f7=>?_⟩
      ·obtain⟨p,h1,h2,h3,h4,h5⟩:=h.o.2.1 (l3.trans e) (l5.trans f);exact⟨p,by rw[<-ha 3 σ (l3.trans e)];exact h1,h2,h3,h4,λf4=>by rw[<-ha 4 σ (l4.trans f4)];exact h5 (l4.trans f4)⟩
      ·rw[<-ha 5 σ (l5.trans f)];exact h.o.2.2.1 (l3.trans e) (l5.trans f) (l7.trans f7)
      ·rw[<-ha 5 σ (l5.trans f)];exact h.o.2.2.2 (l3.trans e) (l5.trans f) (l7.trans f7))) κ κ κ (ι ⟨λ_=>HT.o.below (Below.refl _ _).drew,λe=>(by cases e),λe=>(by cases e),λe=>(by cases e)⟩) ?_
    refine RG.vS ?_;apply RG.uA
    ·rfl
    ·rfl
    ·intro α L w9 h0 hcl xN hw9;have f7:L 7=false:=hcl.not 9 (i:=7) h0 κ
     have hb:w9.heap[xb]?=some (ixO u_ (.slice none 0 0) (nv:Nat)):=by
      cases f3:L 3 with
      |false=>exact(hw9.o.1 f3).x
      |true=>
       cases f5:L 5 with
       |false=>obtain⟨p,_,_,h3,_⟩:=hw9.o.2.1 f3 f5;exact h3.x
       |true=>obtain⟨p,_,h3⟩:=hw9.o.2.2.1 f3 f5 f7;exact h3.x
     have s0:=xQn hb;clear hb;repeat go_step
     with_reducible exact RG.xD hw9
    ·intro α;rfl
    refine RG.vS ?_;apply RG.qL
    ·rfl
    ·intro α L w9 h0 hcl xN hw9;have f4:L 4=false:=hcl.not 9 (i:=4) h0 κ;have f5:L 5=false:=hcl.not 9 (i:=5) h0 κ;have hti:=hw9.o.1 h0;repeat go_step
     refine(HBO.o _ hti.rd).mono ?_;rintro e w10 ⟨A,c,rfl,hom,htu⟩;simp only[];repeat go_step
     refine⟨rfl,_,rfl,?_⟩
     exact ι ⟨λe=>by simp at e,λ_ _=>⟨⟨xMw rk,A,c⟩,RG.zF _ _ _,rfl,hti.turn htu,xV.less hom hti.bel.size,λe=>absurd (show L 4=true by simpa using e) (by rw[f4];simp)⟩,λ_ e=>absurd (show L 5=true by simpa using e) (by rw[f5];simp),λ_ e=>absurd (show L 5=true by simpa using e) (by rw[f5];simp)⟩
    ·intro b α;rfl
    apply RG.jC
    ·rfl
    ·intro α L w9 h0 hcl xN hw9
     have f3:L 3=true:=by
      have:=xN.yes 9 (i:=4) (j:=3) σ κ;simpa using this
     have f5:L 5=false:=hcl.not 9 (i:=5) h0 κ;obtain⟨p,h1,h2,h3,h4,_⟩:=hw9.o.2.1 f3 f5;refine⟨.slice (some ⟨w9.heap.size,0,none⟩) 1 1,λbv hbv=>?_⟩;rw[show α (0+1+1+1)=_ from h1];have H1:=ι h1;have H2:=ι h2;clear h1 h2;repeat go_step
     rw[<-hbv,<-show α (0+1+1+1)=_ from H1.o];with_reducible refine RG.xD ?_
     have hal:=(Below.refl w9.heap.size w9).alloc ν (.cells #[xO p.b.name,.int .i64 p.b.validity,.int .i64 p.b.next,p.mv] 68)
     exact ι ⟨λe=>absurd (show L 3=false by simpa using e) (by rw[f3];simp),λ_ _=>⟨p,H1.o,H2.o,h3.below hal,h4.below hal,λ_=>by
      rw[show RG.wF α (0+1+1+1+1) bv 4=bv from RG.zF _ _ _,hbv,uX];exact RdR.lit (m:=[p]) pQ w9 _ rfl⟩,λ_ e=>absurd (show L 5=true by simpa using e) (by rw[f5];simp),λ_ e=>absurd (show L 5=true by simpa using e) (by rw[f5];simp)⟩
    ·intro b α;rfl
    apply RG.jC
    ·rfl
    ·intro α L w9 h0 hcl xN hw9
     have f4:L 4=true:=by
      have:=xN.yes 9 (i:=5) (j:=4) σ κ;simpa using this
     have f3:L 3=true:=by
      have:=xN.yes 9 (i:=5) (j:=3) σ κ;simpa using this
     have f7:L 7=false:=hcl.not 9 (i:=7) h0 κ;obtain⟨p,h1,h2,h3,h4,h5⟩:=hw9.o.2.1 f3 h0;obtain⟨v',w',hr,ha⟩:=xCq (P:=Tryz.prog) tyBx 26 h3.bo (h5 f4) (by have:=HLB.o;simp;omega) h3.bel.size;refine⟨v',λbv hbv=>?_⟩;refine kX rfl _ _ rfl rfl rfl hr ?_;rw[<-hbv];repeat go_step
     with_reducible refine RG.xD ?_
     exact ι ⟨λe=>absurd (show L 3=false by simpa using e) (by rw[f3];simp),λ_ e=>by simp at e,λ_ _ _=>⟨p,h2,by
      rw[show RG.wF α (0+1+1+1+1+1) bv 5=bv from RG.zF _ _ _,hbv];exact h3.appB ha h4⟩,λ_ _ e=>absurd (show L 7=true by simpa using e) (by rw[f7];simp)⟩
    ·intro b α;rfl
    refine RG.vS ?_;apply RG.xF2 (v:=λ_=>undef)
    ·rfl
    ·kernel_rfl
    ·rfl
    ·intro α L w9 h0 hcl xN hw9
     have f5:L 5=true:=by
      have:=xN.yes 9 (i:=7) (j:=5) σ κ;simpa using this
     have f3:L 3=true:=by
      have:=xN.yes 9 (i:=7) (j:=3) σ κ;simpa using this
     obtain⟨p,h2,hst⟩:=hw9.o.2.2.1 f3 f5 h0;obtain⟨A,c,hgg,_⟩:=hst.bo.form;rw[show(bl++[p]).length=bl.length+1 by simp] at hgg;have HC:=ι (hst.cell 0 (α 5) (α 5) (.slice none 0 0) rfl);have hb:=hst.x;have s3:=xA hb 0;have y3:=xC hb 0;simp only[gA,gC] at s3;have HG:=ι hgg
     rw[show α (0+1+1+1+1+1)=_ from hgg];clear hst hb hgg;repeat go_step
     rw[<-show α (0+1+1+1+1+1)=_ from HG.o];with_reducible refine RG.xD ?_
     exact ι ⟨λe=>absurd (show L 3=false by simpa using e) (by rw[f3];simp),λ_ e=>absurd (show L 5=false by simpa using e) (by rw[f5];simp),λ_ _ e=>by simp at e,λ_ _ _=>⟨p,h2,HC.o⟩⟩
    ·intro α;rfl
    refine RG.pE (λα w7 hw7=>?_);obtain⟨p,hp,hti⟩:=hw7.o.2.2.2 rfl rfl rfl
    have HF:Hid (TkI w g xb (α 5) (.slice none 0 0) (α 5) (.slice none 0 0) (bl++[p]) [] (nv:Nat) (xKf rk) w7/\xHm xMw xKf q2 (k+1) ((bl++[p]).map (·.b)) (xKf rk)/\(xKf rk).rest.length<=1000000/\(bl++[p]).length<=k+1):=ι ⟨hti,by
     rw[List.map_append,List.map_cons,List.map_nil,hp];exact xG6 HI2.o.1 HBD.o,Nat.le_trans (yBq rk) HI2.o.2.1,by have:=HI2.o.2.2;simp;omega⟩
    clear hw7 hp hti HT HI2 HBO HBD HLB;go_wp2;exact⟨⟨k+1,α 5,bl++[p],xKf rk,ω,by go_num,HF⟩,by simp[intOf];omega⟩
   case' true=>
    have hr:=xA HI.o.1.rd 1;simp only[gA,gB,gC] at hr;rw[hbad] at hr;have HE:=ι (And.intro HI.o.1 (xJf HI.o.2.1 hk hbad));have HEL:=ι (And.intro HI.o.2.2.1 (show bl.length<=1000 by have:=HI.o.2.2.2;omega));clear hbad HI;go_upto_region 8 with fail
    clear hr;obtain⟨wz,hwz⟩:∃wz,wz=wr:=⟨_,rfl⟩;rw[<-hwz] at HE⊢;clear hwz
  all_goals
   have HL3:Hid (rk.rest.length<=1000000):=ι HEL.o.1;have HBL:Hid (bl.length<=1000):=ι HEL.o.2;have HN:=ι (HNU.o g rk 1 wz HE.o.1.rd HL3.o ω);rw[show(((1:Nat)):Int)=1 from rfl] at HN;have hc2:=xNx rk;rw[HE.o.2.1] at HIV;rw[HE.o.2.2] at HIV;rw[HIV.o.2.2.1] at HIV
   have HT:=ι HE.o.1;clear HE HEL HBX;go_wp2_with fail
   refine HN.o.mono ?_;rintro e wy ⟨rfl,ht⟩;have HT5:=ι (HT.o.turn ht);have HL5:Hid ((rdR rk 1).rest.length<=1000000):=ι (Nat.le_trans (vK _ _) HL3.o);clear ht HN HT HL3 HNU;generalize zR rk 1=n2 at hc2 HIV⊢;generalize rdR rk 1=q5 at HT5 HL5 HIV;go_wp2_with fail
   go_loopw [30] (λiv wr=>∃(k2:Nat) (uo:Value) (sl:List Bs) (rk2:RdP),k2<=n2/\iv=.int .i64 k2/\Hid (TkI w g xb u_ uo u_ uo bl sl (nv:Nat) rk2 wr/\xHm xYw xKc q5 k2 sl rk2/\rk2.rest.length<=1000000/\sl.length<=k2)) (λiv _=>n2- (intOf iv).toNat)
   case atStart=>exact⟨0,_,[],q5,Nat.zero_le _,rfl,ι ⟨HT5.o,xG5 _ _ _,HL5.o,Nat.le_refl _⟩⟩
   case round=>
    obtain⟨k2,uo,sl,rk2,hk2,rfl,HI⟩:=hrel;clear HT5
    by_cases hlt2:k2<n2
    case' neg=>
     obtain rfl:k2=n2:=by omega
     have HE:=ι (And.intro HI.o.1 (xG7 HI.o.2.1));have HEL:=ι (And.intro HI.o.2.2.1 (show sl.length<=1000 by have:=HI.o.2.2.2;omega));clear HI;go_upto_region 13 with fail
     obtain⟨wx,hwx⟩:∃wx,wx=wr:=⟨_,rfl⟩;rw[<-hwx] at HE⊢;clear hwx
    case' pos=>
     cases hbad:rk2.bad
     case false=>
      have hr:=xA HI.o.1.rd 1;simp only[gA,gB,gC] at hr;rw[hbad] at hr;have HBD:=ι hbad;have HI2:=ι HI.o.2;have HT:=ι HI.o.1;clear hbad HI;go_upto_region 11 with fail
      clear hr;have HXO:=ι (λW (h:W.heap[g]?=some (rdO rk2))=>HTX.o g rk2 W h HI2.o.2.1);have HLB:Hid (sl.length<=300):=ι (by have:=HI2.o.2.2;omega);have HNX:=ι (xG6 HI2.o.1 HBD.o);have HLN:=ι (Nat.le_trans (xP7 rk2) HI2.o.2.1);generalize xYw rk2=tx at HXO HNX
      generalize xKc rk2=rn at HXO HNX HLN
      refine RG.uB [3,7] [4,5] (λL α W=>Hid ((L 3=false->TkI w g xb u_ uo u_ uo bl sl (nv:Nat) rk2 W)/\
       (L 3=true->L 5=false->TkI w g xb u_ uo u_ uo bl sl (nv:Nat) rn W/\(L 4=true->RdR 1 txF W W.heap.size (α 4) [tx]))/\
       (L 3=true->L 5=true->L 7=false->TkI w g xb u_ uo u_ (α 5) bl (sl++[tx]) (nv:Nat) rn W)/\
       (L 3=true->L 5=true->L 7=true->TkI w g xb u_ (α 5) u_ (α 5) bl (sl++[tx]) (nv:Nat) rn W)))
       (λL L' α α' W hl ha h=>ι (by
        have l3:=hl 3 σ;have l4:=hl 4 σ;have l5:=hl 5 σ;have l7:=hl 7 σ;refine⟨λe=>h.o.1 (l3.trans e),λe f=>?_,λe f f7=>?_,λe f f7=>?_⟩
        ·obtain⟨h1,h2⟩:=h.o.2.1 (l3.trans e) (l5.trans f);exact⟨h1,λf4=>by rw[<-ha 4 σ (l4.trans f4)];exact h2 (l4.trans f4)⟩
        ·rw[<-ha 5 σ (l5.trans f)];exact h.o.2.2.1 (l3.trans e) (l5.trans f) (l7.trans f7)
        ·rw[<-ha 5 σ (l5.trans f)];exact h.o.2.2.2 (l3.trans e) (l5.trans f) (l7.trans f7))) κ κ κ (ι ⟨λ_=>HT.o.below (Below.refl _ _).drew,λe=>(by cases e),λe=>(by cases e),λe=>(by cases e)⟩) ?_
      refine RG.vS ?_;apply RG.uA
      ·rfl
      ·rfl
      ·intro α L w9 h0 hcl xN hw9;have f7:L 7=false:=hcl.not 9 (i:=7) h0 κ
       have hb:w9.heap[xb]?=some (ixO u_ uo (nv:Nat)):=by
        cases f3:L 3 with
        |false=>exact(hw9.o.1 f3).x
        |true=>
         cases f5:L 5 with
         |false=>exact(hw9.o.2.1 f3 f5).1.x
         |true=>exact(hw9.o.2.2.1 f3 f5 f7).x
       have s0:=xA hb 1;simp only[gA,gB,gC] at s0;clear hb;repeat go_step
       with_reducible exact RG.xD hw9
      ·intro α;rfl
      refine RG.vS ?_;apply RG.rU
      ·rfl
      ·rfl
      ·intro α L w9 h0 hcl xN hw9;have f4:L 4=false:=hcl.not 9 (i:=4) h0 κ;have f5:L 5=false:=hcl.not 9 (i:=5) h0 κ;have hti:=hw9.o.1 h0;repeat go_step
       refine(HXO.o _ hti.rd).mono ?_;rintro e w10 ⟨rfl,htu⟩;simp only[];repeat go_step
       with_reducible refine RG.xD ?_
       exact ι ⟨λe=>by simp at e,λ_ _=>⟨hti.turn htu,λe=>absurd (show L 4=true by simpa using e) (by rw[f4];simp)⟩,λ_ e=>absurd (show L 5=true by simpa using e) (by rw[f5];simp),λ_ e=>absurd (show L 5=true by simpa using e) (by rw[f5];simp)⟩
      ·intro α;rfl
      apply RG.jC
      ·rfl
      ·intro α L w9 h0 hcl xN hw9
       have f3:L 3=true:=by
        have:=xN.yes 9 (i:=4) (j:=3) σ κ;simpa using this
       have f5:L 5=false:=hcl.not 9 (i:=5) h0 κ;have hti:=(hw9.o.2.1 f3 f5).1;refine⟨.slice (some ⟨w9.heap.size,0,none⟩) 1 1,λbv hbv=>?_⟩;repeat go_step
       rw[<-hbv];with_reducible refine RG.xD ?_
       have hal:=(Below.refl w9.heap.size w9).alloc ν (.cells #[xO tx] 9)
       exact ι ⟨λe=>absurd (show L 3=false by simpa using e) (by rw[f3];simp),λ_ _=>⟨hti.below hal,λ_=>by
        rw[show RG.wF α (0+1+1+1+1) bv 4=bv from RG.zF _ _ _,hbv,uX];exact RdR.lit (m:=[tx]) xC3 w9 _ rfl⟩,λ_ e=>absurd (show L 5=true by simpa using e) (by rw[f5];simp),λ_ e=>absurd (show L 5=true by simpa using e) (by rw[f5];simp)⟩
      ·intro b α;rfl
      apply RG.jC
      ·rfl
      ·intro α L w9 h0 hcl xN hw9
       have f4:L 4=true:=by
        have:=xN.yes 9 (i:=5) (j:=4) σ κ;simpa using this
       have f3:L 3=true:=by
        have:=xN.yes 9 (i:=5) (j:=3) σ κ;simpa using this
       have f7:L 7=false:=hcl.not 9 (i:=7) h0 κ;obtain⟨h3,h5⟩:=hw9.o.2.1 f3 h0;obtain⟨v',w',hr,ha⟩:=xCq (P:=Tryz.prog) tyTx 22 h3.su (h5 f4) (by have:=HLB.o;simp;omega) h3.bel.size;refine⟨v',λbv hbv=>?_⟩;refine kX rfl _ _ rfl rfl rfl hr ?_;rw[<-hbv];repeat go_step
       with_reducible refine RG.xD ?_
       exact ι ⟨λe=>absurd (show L 3=false by simpa using e) (by rw[f3];simp),λ_ e=>by simp at e,λ_ _ _=>by
        rw[show RG.wF α (0+1+1+1+1+1) bv 5=bv from RG.zF _ _ _,hbv];exact h3.appS ha,λ_ _ e=>absurd (show L 7=true by simpa using e) (by rw[f7];simp)⟩
      ·intro b α;rfl
      refine RG.vS ?_;apply RG.xF2 (v:=λ_=>undef)
      ·rfl
      ·kernel_rfl
      ·rfl
      ·intro α L w9 h0 hcl xN hw9
       have f5:L 5=true:=by
        have:=xN.yes 9 (i:=7) (j:=5) σ κ;simpa using this
       have f3:L 3=true:=by
        have:=xN.yes 9 (i:=7) (j:=3) σ κ;simpa using this
       have hst:=hw9.o.2.2.1 f3 f5 h0;obtain⟨A,c,hgg,_⟩:=hst.su.form;rw[show(sl++[tx]).length=sl.length+1 by simp] at hgg;have HC:=ι (hst.cell 1 (α 5) u_ (α 5) rfl);have hb:=hst.x;have s3:=xA hb 1;have y3:=xC hb 1;simp only[gA,gB,gC] at s3;have HG:=ι hgg
       rw[show α (0+1+1+1+1+1)=_ from hgg];clear hst hb hgg;repeat go_step
       rw[<-show α (0+1+1+1+1+1)=_ from HG.o];with_reducible refine RG.xD ?_
       exact ι ⟨λe=>absurd (show L 3=false by simpa using e) (by rw[f3];simp),λ_ e=>absurd (show L 5=false by simpa using e) (by rw[f5];simp),λ_ _ e=>by simp at e,λ_ _ _=>HC.o⟩
      ·intro α;rfl
      refine RG.pE (λα w7 hw7=>?_);have HF:Hid (TkI w g xb u_ (α 5) u_ (α 5) bl (sl++[tx]) (nv:Nat) rn w7/\xHm xYw xKc q5 (k2+1) (sl++[tx]) rn/\rn.rest.length<=1000000/\(sl++[tx]).length<=k2+1):=ι ⟨hw7.o.2.2.2 rfl rfl rfl,HNX.o,HLN.o,by have:=HI2.o.2.2;simp;omega⟩
      clear hw7 HT HI2 HXO HBD HLB HNX HLN;go_wp2;exact⟨⟨k2+1,α 5,sl++[tx],rn,ω,by go_num,HF⟩,by simp[intOf];omega⟩
     case' true=>
      have hr:=xA HI.o.1.rd 1;simp only[gA,gB,gC] at hr;rw[hbad] at hr;have HE:=ι (And.intro HI.o.1 (xJf HI.o.2.1 hk2 hbad));have HEL:=ι (And.intro HI.o.2.2.1 (show sl.length<=1000 by have:=HI.o.2.2.2;omega));clear hbad HI;go_upto_region 13 with fail
      clear hr;obtain⟨wx,hwx⟩:∃wx,wx=wr:=⟨_,rfl⟩;rw[<-hwx] at HE⊢;clear hwx
    all_goals
     rw[HE.o.2.1] at HIV;rw[HE.o.2.2] at HIV;have HT:=ι HE.o.1;have HSL:=ι HEL.o.2;clear HE HEL;rw[HIV.o.1,HIV.o.2.1] at HOK;rw[HIV.o.1] at HTI
     have HRI:=ι (show xHk wx wx.heap.size u_ uo ⟨bl.map (·.b),sl,(nv:Nat)⟩ from⟨xK4 (HT.o.bo.rd pQ) (λp hp=>xFa ((HT.o.ma p hp).rd xC7)),xP8 (HT.o.su.rd xC3)⟩)
     have HMB:Hid (∀b∈(⟨bl.map (·.b),sl,(nv:Nat)⟩:yD).boxes,b.yB.length<=9223372036854775807):=ι (λb hb=>by
      obtain⟨p,hp,rfl⟩:=List.mem_map.1 hb;have:=(HT.o.ma p hp).row;rcases this.2 with ⟨_,h2⟩|⟨_,cap,_,_,_,_,h4,h5,_⟩
      ·omega
      ·unfold maxLen at h5;omega)
     have HRT:=ι (wE u_ uo ⟨bl.map (·.b),sl,(nv:Nat)⟩ wx HRI.o HMB.o (by show(bl.map (·.b)).length<=_;rw[List.length_map];have:=HBL.o;omega) (by show sl.length<=_;have:=HSL.o;omega));obtain⟨A7,c7,hu,_⟩:=HT.o.bo.form;obtain⟨A8,c8,huo,_⟩:=HT.o.su.form;subst hu huo
     have hrb:=HT.o.rd;have r0:=xA hrb 0;have r1:=xA hrb 1;have hxx:=HT.o.x;have x0:=xA hxx 0;have x1:=xA hxx 1;have x2:=xA hxx 2;simp only[gA,gB,gC] at x0 x1 x2;simp only[gA,gB,gC] at r0 r1;have HZ:=ι (And.intro HT.o.o HT.o.bel);clear hrb hxx HIV;obtain⟨rr,rb⟩:=rk2
     simp only at HOK r0 r1;cases rb with
     |true=>
      have HTE:Hid (ti=ix0/\te=3):=ι (by
       rw[Bool.not_true,Bool.false_and,Bool.false_and] at HOK;rw[HOK.o] at HTI;exact⟨HTI.o.1,HTI.o.2⟩)
      clear HRT HRI HTI HOK HMB HT;go_upto_region 14 with fail
      clear r0 r1 x0 x1 x2;obtain⟨o0,y0,f0,o1,y1,f1,o2,y2,f2,HB⟩:=xMd HZ.o.1 HZ.o.2 ω (.slice none 0 0) (.slice none 0 0) (.int .i64 0) _ rfl;clear HZ;go_wp2
      refine bodyPost_ret (v:=.tuple #[.agg #[.slice none 0 0,.slice none 0 0,.int .i64 0],.int .i64 3]) (by simp[results,Tryz.results38,go_sem,f0,f1,f2]) rfl ?_;exact⟨_,_,by rw[HTE.o.1,HTE.o.2];rfl,by rw[HTE.o.1];exact uT.zero _ _,HB.o⟩
     |false=>
      by_cases hre:rr=[]
      ·subst hre;cases hri:zI ⟨bl.map (·.b),sl,(nv:Nat)⟩ with
       |false=>
        have HTE:Hid (ti=ix0/\te=3):=ι (by
         rw[hri,Bool.and_false] at HOK;rw[HOK.o] at HTI;exact⟨HTI.o.1,HTI.o.2⟩)
        rw[hri] at HRT;clear HRI HTI HOK HMB hri;go_upto_region 13 with fail
        go_wp2_with fail
        refine HRT.o.mono ?_;rintro e wv ⟨rfl,hbv⟩;have HZ2:Hid (wv.heap[w.heap.size]?=some (ixO (.slice none 0 0) (.slice none 0 0) 0)/\Below w.heap.size w wv):=ι ⟨xB HZ.o.1 hbv (xG HZ.o.1),HZ.o.2.trans (hbv.mono HZ.o.2.size)⟩;clear HZ HT hbv HRT;have HZ:=HZ2;clear HZ2
        go_upto_region 14 with fail
        clear r0 r1 x0 x1 x2;obtain⟨o0,y0,f0,o1,y1,f1,o2,y2,f2,HB⟩:=xMd HZ.o.1 HZ.o.2 ω (.slice none 0 0) (.slice none 0 0) (.int .i64 0) _ rfl;clear HZ;go_wp2
        refine bodyPost_ret (v:=.tuple #[.agg #[.slice none 0 0,.slice none 0 0,.int .i64 0],.int .i64 3]) (by simp[results,Tryz.results38,go_sem,f0,f1,f2]) rfl ?_;exact⟨_,_,by rw[HTE.o.1,HTE.o.2];rfl,by rw[HTE.o.1];exact uT.zero _ _,HB.o⟩
       |true=>
        have HTE:Hid (ti=⟨bl.map (·.b),sl,(nv:Nat)⟩/\te=0):=ι (by
         rw[hri] at HOK;simp at HOK;rw[HOK.o] at HTI;exact⟨HTI.o.1,HTI.o.2⟩)
        rw[hri] at HRT;clear HRI HTI HOK HMB hri HZ;go_upto_region 13 with fail
        go_wp2_with fail
        refine HRT.o.mono ?_;rintro e wv ⟨rfl,hbv⟩;have HT2:=ι (HT.o.below hbv);clear HT hbv HRT r0 r1 x0 x1 x2;have hxx:=HT2.o.x;obtain⟨x0,x1,x2⟩:=xH1 hxx;clear hxx;go_upto_region 15 with fail
        obtain⟨o0,y0,f0,o1,y1,f1,o2,y2,f2,HB⟩:=xMd HT2.o.o HT2.o.bel ω (.slice A7 bl.length c7) (.slice A8 sl.length c8) (.int .i64 (nv:Nat)) _ rfl
        have HS1:=ι (xV.xEe HT2.o.bo (g:=w.heap.size) [.slice A7 bl.length c7,.slice A8 sl.length c8,.int .i64 (nv:Nat)] 0 (xV.neT HT2.o.bo HT2.o.o δ))
        have HS2:=ι (xV.xEe HT2.o.su (g:=w.heap.size) [.slice A7 bl.length c7,.slice A8 sl.length c8,.int .i64 (nv:Nat)] 0 (xV.neT HT2.o.su HT2.o.o δ))
        have HS3:=ι (λp hp=>xV.xEe (HT2.o.ma p hp) (g:=w.heap.size) [.slice A7 bl.length c7,.slice A8 sl.length c8,.int .i64 (nv:Nat)] 0 (xV.neT (HT2.o.ma p hp) HT2.o.o δ));simp only[xU,Nat.reduceAdd] at HS1 HS2 HS3;clear HT2;go_wp2
        refine bodyPost_ret (v:=.tuple #[.agg #[.slice A7 bl.length c7,.slice A8 sl.length c8,.int .i64 (nv:Nat)],.int .i64 0]) (by simp[results,Tryz.results38,go_sem,f0,f1,f2]) rfl ?_;refine⟨_,_,by rw[HTE.o.1,HTE.o.2],?_,HB.o⟩;rw[HTE.o.1];exact⟨⟨bl,rfl,HS1.o,HS3.o⟩,HS2.o⟩
      ·have HTE:Hid (ti=ix0/\te=3):=ι (by
        rw[decide_eq_false hre,Bool.and_false,Bool.false_and] at HOK;rw[HOK.o] at HTI;exact⟨HTI.o.1,HTI.o.2⟩)
       have e1:(rr==[])=false:=by simpa using hre
       have e2:(rr !=[])=true:=by simpa using hre
       clear HRT HRI HTI HOK HMB HT;go_upto_region 14 with fail
       clear r0 r1 x0 x1 x2;obtain⟨o0,y0,f0,o1,y1,f1,o2,y2,f2,HB⟩:=xMd HZ.o.1 HZ.o.2 ω (.slice none 0 0) (.slice none 0 0) (.int .i64 0) _ rfl;clear HZ;go_wp2
       refine bodyPost_ret (v:=.tuple #[.agg #[.slice none 0 0,.slice none 0 0,.int .i64 0],.int .i64 3]) (by simp[results,Tryz.results38,go_sem,f0,f1,f2]) rfl ?_;exact⟨_,_,by rw[HTE.o.1,HTE.o.2];rfl,by rw[HTE.o.1];exact uT.zero _ _,HB.o⟩
end Go.Proofs.IX
namespace Mailsack
def xGu (box:ByteArray):ByteArray:=box.extract 0 (box.size-16)
def xEr (box:ByteArray):ByteArray:=box.extract (box.size-16) box.size
def aOk (key xE ad box:ByteArray):Bool:=decide (16<=box.size)&&Go.Proofs.SH.rX (tH key xE ad (xGu box)) (xEr box)
def aTx (key xE ad box:ByteArray):ByteArray:=if aOk key xE ad box=true then bsA (xHg key xE 1 (xGu box)) else⟨#[]⟩
def aE (key xE ad box:ByteArray):Int:=if aOk key xE ad box=true then 0 else 7
theorem xMh {box:ByteArray} (h:16<=box.size):xGu box++xEr box=box:=by
 unfold xGu xEr;apply ByteArray.ext;rw[ByteArray.data_append,ByteArray.data_extract,ByteArray.data_extract,Array.extract_append_extract];have hs:box.data.size=box.size:=rfl;rw[show min 0 (box.size-16)=0 by omega,show max (box.size-16) box.size=box.data.size by omega];simp
def zU (d:Dk) (u:ByteArray):ByteArray:=bsA (xXc d (xKd [120] u.data.toList))
def xI1 (d:Dk) (u xI:ByteArray):Bool:=decide (xQa d (xKd [120] u.data.toList)=0)&&decide (12<=(zU d u).size)&&aOk (zV xI) ((zU d u).extract 0 12) u ((zU d u).extract 12 (zU d u).size)
def xCv (d:Dk) (u xI:ByteArray):Bs:=(aTx (zV xI) ((zU d u).extract 0 12) u ((zU d u).extract 12 (zU d u).size)).data.toList
def xCw (d:Dk) (u xI:ByteArray):yD:=if xI1 d u xI=true then xKu (xCv d u xI) else ix0
def xSd (d:Dk) (u xI:ByteArray):Int:=if xI1 d u xI=true then xRg (xCv d u xI) else 3
end Mailsack
namespace Go.Proofs.VA
open Go.RowKit Mailsack MM BB SH SV RK DS IX Go.Proofs.ST
theorem xMn (key xE ad box:ByteArray) (w:World) (hk:key.size=32) (hn:xE.size=12) (ha:ad.size<=1000000) (hb:box.size<=1000000):
  Calls Tryz.prog 33 #[.string key,.string xE,.string ad,.string box] w λe w'=>e=.returned (.tuple #[.string (aTx key xE ad box),.int .i64 (aE key xE ad box)])/\Below w.heap.size w w':=by
 by_cases h16:16<=box.size
 ·have h1:(xEr box).size=16:=by unfold xEr;rw[ByteArray.size_extract];omega
  have h2:(xGu box).size<=1000000000:=by unfold xGu;rw[ByteArray.size_extract];omega
  cases hs:rX (tH key xE ad (xGu box)) (xEr box) with
  |true=>
   have ho:aOk key xE ad box=true:=by unfold aOk;rw[hs,decide_eq_true h16];rfl
   have:=xJ8 key xE ad (xGu box) (xEr box) w hk hn ω h2 h1 hs;rw[xMh h16] at this;unfold aTx aE;rw[ho,if_pos rfl,if_pos rfl];exact this
  |false=>
   have ho:aOk key xE ad box=false:=by unfold aOk;rw[hs,Bool.and_false]
   have:=xNv key xE ad (xGu box) (xEr box) w hk hn ω h2 h1 hs;rw[xMh h16] at this;unfold aTx aE;rw[ho,if_neg σ,if_neg σ];exact this
 ·have ho:aOk key xE ad box=false:=by unfold aOk;rw[decide_eq_false h16,Bool.false_and]
  unfold aTx aE;rw[ho,if_neg σ,if_neg σ];refine(xS9 key xE ad box w hk hn ω).mono ?_;rintro e w' ⟨rfl,rfl⟩;exact⟨rfl,Below.refl _ _⟩
theorem xRp (u xI xE enc:ByteArray) (w:World) (hu:u.size<=1000) (hp:xI.size<=1000000) (hn:xE.size=12) (he:enc.size<=1000000) (hT:wL w):
  Calls Tryz.prog 102 #[.string u,.string xI,.string xE,.string enc] w λe w'=>e=.returned (.tuple #[chV (xRr u xI xE enc),.int .i64 0])/\Below w.heap.size w w':=by
 have H0:Hid ((w.alloc (chO ⟨[],[],false⟩)).heap[w.heap.size]?=some (chO ⟨[],[],false⟩)/\Below w.heap.size w (w.alloc (chO ⟨[],[],false⟩))):=ι ⟨xL _ _,(Below.refl w.heap.size w).alloc ν _⟩;have HIK:=ι (xEk xI (w.alloc (chO ⟨[],[],false⟩)) hp (hT.below H0.o.2 ν))
 have HSE:=ι (λW=>yDe (zV xI) xE u enc W (xBv xI) hn ω ω);have HUO:=ι (λW=>pG ⟨#[120]⟩ u W δ ω);rw[show(⟨#[120]⟩:ByteArray).data.toList=[120] from rfl] at HUO
 have HC:Hid (chV (xRr u xI xE enc)=.agg #[xO (xKd [120] u.data.toList),.string (xE++xKz (zV xI) xE u enc),.bool false]):=ι rfl;have hss:=xRq (zV xI) xE u enc;have hns:¬(9223372036854775807<xE.size+(xKz (zV xI) xE u enc).size):=by omega
 generalize xRr u xI xE enc=sc at HC⊢;generalize xKd [120] u.data.toList=nm at HUO HC;generalize xKz (zV xI) xE u enc=sp at HSE HC hns;generalize zV xI=ik at HIK HSE;clear hu hp hn he hT hss;go_enter Tryz.func102,Tryz.ntmps102;go_upto_region 1 with fail
 obtain⟨w1,hw1⟩:∃w1,w.alloc (chO ⟨[],[],false⟩)=w1:=⟨_,rfl⟩;rw[hw1] at H0 HIK;simp only[chO,xO] at hw1;rw[hw1];clear hw1;go_wp2_with fail
 refine HIK.o.mono ?_;rintro e w2 ⟨rfl,hb2⟩;have H2:Hid (w2.heap[w.heap.size]?=some (chO ⟨[],[],false⟩)/\Below w.heap.size w w2):=ι ⟨xB H0.o.1 hb2 (xG H0.o.1),H0.o.2.trans (hb2.mono H0.o.2.size)⟩;clear H0 HIK hb2;go_wp2_with fail
 refine(HSE.o _).mono ?_;rintro e w3 ⟨rfl,hb3⟩;have H3:Hid (w3.heap[w.heap.size]?=some (chO ⟨[],[],false⟩)/\Below w.heap.size w w3):=ι ⟨xB H2.o.1 hb3 (xG H2.o.1),H2.o.2.trans (hb3.mono H2.o.2.size)⟩;clear H2 HSE hb3;go_wp2_with fail
 refine(HUO.o _).mono ?_;rintro e w4 ⟨rfl,hw4⟩;rw[hw4];clear hw4 w4 HUO;obtain⟨o0,y0,f0,o1,y1,f1,o2,y2,f2,HB⟩:=xMd H3.o.1 H3.o.2 ω (xO nm) (.string (xE++sp)) (.bool false) _ rfl;clear H3;go_wp2
 refine bodyPost_ret (v:=.tuple #[.agg #[xO nm,.string (xE++sp),.bool false],.int .i64 0]) (by simp[results,Tryz.results102,go_sem,f0,f1,f2]) rfl ?_;exact⟨by rw[HC.o],HB.o⟩
end Go.Proofs.VA