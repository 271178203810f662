/- Contracts of functions. Conditions: as stated. -/
import Derived.Test.YtjdkeibcoiiliaaGreatDoorVaultWholeProofB11
open Go.Proofs.Tryz
set_option maxHeartbeats 8000000
set_option maxRecDepth 100000
namespace Mailsack
theorem xQ4 {t:RdP->RdP} (ht:∀r,(t r).rest.length<=r.rest.length):∀(n:Nat) (r:RdP),(xD6 t n r).rest.length<=r.rest.length
 |0,_=>Bd _
 |n+1,r=>by
  unfold xD6;split
  ·exact Bd _
  ·exact Bg (xQ4 ht n (t r)) (ht r)
theorem xUg (r:RdP):(xOx r).rest.length<=r.rest.length:=Bg (jJ _ _) (jJ _ _)
theorem yHy (r:RdP):(xP3 r).rest.length<=r.rest.length:=by
 unfold xP3 yF1;exact Bg (xQ4 xQ6 _ _) (Bg (jJ _ _) (Bg (jJ _ _) (Bg (jJ _ _) (xUg r))))
end Mailsack
namespace Go.Proofs.IX
open Go.RowKit Mailsack MM BB SH SV RK DS
theorem yCn (s:Bs) (w:World) (hs:s.length<=1000000):
  Calls prog 95 #[xR s] w λe w'=>∃bv sv,e=.returned (.tuple #[.agg #[bv,sv,.int .i64 (xKx s).given],.int .i64 (xPg s)])/\wZ w.heap.size w' bv sv (xKx s)/\ψ w w':=by
 have HNU:=ι (λ(g:Nat) (r':RdP) (c:Nat) W (h:W.heap[g]?=some (rdO r')) (hl':r'.rest.length<=1000000) (hc:c<=4)=>xEw g r' c W h hl' hc);have HTX:=ι (λ(g:Nat) (r':RdP) W (h:W.heap[g]?=some (rdO r')) (hl':r'.rest.length<=1000000)=>xPn g r' W h hl')
 have HBX:=ι (λ(g:Nat) (r':RdP) W (h:W.heap[g]?=some (rdO r')) (hl':r'.rest.length<=1000000)=>yG3 g r' W h hl');have HOK:Hid (yLc s=(!(ixR ⟨s,false⟩).bad&&decide ((ixR ⟨s,false⟩).rest=[])&&zV (ixV ⟨s,false⟩))):=ι rfl
 have HTI:Hid (xKx s=(if yLc s=true then ixV ⟨s,false⟩ else ix0)/\xPg s=if yLc s=true then 0 else 3):=ι ⟨rfl,rfl⟩
 have HIV:Hid (ixV ⟨s,false⟩=⟨xD5 xRv xP3 (vB (rdR ⟨s,false⟩ 4) 1) (ixR1 ⟨s,false⟩),xD5 yEx xOx (vB (yF0 ⟨s,false⟩) 1) (rdR (yF0 ⟨s,false⟩) 1),vB ⟨s,false⟩ 4⟩/\
  ixR ⟨s,false⟩=xD6 xOx (vB (yF0 ⟨s,false⟩) 1) (rdR (yF0 ⟨s,false⟩) 1)/\yF0 ⟨s,false⟩=xD6 xP3 (vB (rdR ⟨s,false⟩ 4) 1) (ixR1 ⟨s,false⟩)/\ixR1 ⟨s,false⟩=rdR (rdR ⟨s,false⟩ 4) 1):=ι ⟨rfl,rfl,rfl,rfl⟩
 obtain⟨ti,hti⟩:=eX (xKx s);obtain⟨te,hte⟩:=eX (xPg s);rw[hti,hte];rw[hti,hte] at HTI;generalize yLc s=iok at HOK HTI;generalize ixR1 ⟨s,false⟩=r1 at HIV;generalize yF0 ⟨s,false⟩=r2 at HIV;generalize ixR ⟨s,false⟩=r9 at HIV HOK
 generalize ixV ⟨s,false⟩=iv9 at HIV HOK HTI;have hb0:=((φ w (ixO (.slice none 0 0) (.slice none 0 0) 0)).alloc σ (rdO ⟨s,false⟩))
 have H0:Hid (((w.alloc (ixO (.slice none 0 0) (.slice none 0 0) 0)).alloc (rdO ⟨s,false⟩)).heap[w.heap.size]?=some (ixO (.slice none 0 0) (.slice none 0 0) 0)/\((w.alloc (ixO (.slice none 0 0) (.slice none 0 0) 0)).alloc (rdO ⟨s,false⟩)).heap[w.heap.size+1]?=some (rdO ⟨s,false⟩)/\ψ w ((w.alloc (ixO (.slice none 0 0) (.slice none 0 0) 0)).alloc (rdO ⟨s,false⟩))):=ι ⟨zM _ _ _,zI _ _ _,hb0⟩
 have hs0:(⟨s,false⟩:RdP).rest.length<=1000000:=hs;clear hti hte hb0 hs;go_enter func95,ntmps95;go_upto_region 2 with fail
 generalize (w.alloc (.cells #[.slice none 0 0,.slice none 0 0,.int .i64 0] 48)).alloc (.cells #[xR s,.bool false] 211)=w1 at H0⊢;obtain⟨g,hg⟩:=eX (w.heap.size+1);rw[hg] at H0⊢;have HN:=ι (HNU.o g ⟨s,false⟩ 4 w1 H0.o.2.1 hs0 ω);rw[show(((4:Nat)):Int)=4 from rfl] at HN
 have HL1:Hid ((rdR ⟨s,false⟩ 4).rest.length<=1000000):=ι (Bg (jJ _ _) hs0);generalize (⟨s,false⟩:RdP)=q0 at HN H0 HL1 HIV;clear hs0;go_wp2_with fail
 refine HN.o.mono ?_;rintro e w2 ⟨rfl,ht⟩;generalize vB q0 4=nv at HIV⊢
 have hT:TkI w g w2.heap.size (.slice none 0 0) (.slice none 0 0) (.slice none 0 0) (.slice none 0 0) [] [] (nv:Nat) (rdR q0 4) (w2.alloc (ixO (.slice none 0 0) (.slice none 0 0) (nv:Nat))):=by
  have hsz:=ht.tn.size;have h2:=xH H0.o.2.1;exact⟨xN (ht.tn.blk H0.o.1 ω) _,xJ _ _,xN ht.b _,xW.nil _ _,λp hp=>(by cases hp),xW.nil _ _,(H0.o.2.2.trans (ht.tn.below (λk hk=>by omega) H0.o.2.2.size)).alloc (by have:=H0.o.2.2.size;omega) _,ω,ω⟩
 have HT:=ι hT;clear hT ht HN H0;generalize rdR q0 4=q1 at HT HL1 HIV;go_upto_region 3 with fail
 generalize hxb:w2.heap.size=xb at HT⊢;generalize w2.alloc (.cells #[.slice none 0 0,.slice none 0 0,.int .i64 (nv:Nat)] 48)=w3 at HT⊢;clear hxb hg;have HN:=ι (HNU.o g q1 1 w3 HT.o.rd HL1.o ω);rw[show(((1:Nat)):Int)=1 from rfl] at HN;have hc1:=xSw q1
 have HL2:Hid ((rdR q1 1).rest.length<=1000000):=ι (Bg (jJ _ _) HL1.o);go_wp2_with fail
 refine HN.o.mono ?_;rintro e w4 ⟨rfl,ht⟩;have HT4:=ι (HT.o.turn ht);rw[HIV.o.2.2.2] at HIV;generalize vB q1 1=n1 at hc1 HIV⊢;generalize rdR q1 1=q2 at HT4 HL2 HIV;clear ht HN HT HL1;go_wp2_with fail
 go_loopw [14] (λiv wr=>∃(k:Nat) (u_:Value) (bl:List qB) (rk:RdP),k<=n1/\iv=.int .i64 k/\Hid (TkI w g xb u_ (.slice none 0 0) u_ (.slice none 0 0) bl [] (nv:Nat) rk wr/\xLb xRv xP3 q2 k (bl.map (·.b)) rk/\rk.rest.length<=1000000/\bl.length<=k)) (λiv _=>n1- (intOf iv).toNat)
 case atStart=>exact⟨0,_,[],q2,Bc _,rfl,ι ⟨HT4.o,xJp _ _ _,HL2.o,Bd _⟩⟩
 case round=>
  obtain⟨k,u_,bl,rk,hk,rfl,HI⟩:=hrel;clear HT4
  by_cases hlt:k<n1
  case' neg=>
   obtain rfl:k=n1:=ω;have HE:=ι (Ai HI.o.1 (xJr HI.o.2.1));have HEL:=ι (Ai HI.o.2.2.1 (show bl.length<=1000 by have:=HI.o.2.2.2;omega));clear HI;go_upto_region 8 with fail
   obtain⟨wz,hwz⟩:∃wz,wz=wr:=⟨_,rfl⟩;rw[<-hwz] at HE⊢;clear hwz
  case' pos=>
   cases hbad:rk.bad
   case false=>
    have hr:=xA HI.o.1.rd 1;simp only[gA,gB,gC] at hr;rw[hbad] at hr;have HBD:=ι hbad;have HI2:=ι HI.o.2;have HT:=ι HI.o.1;clear hbad HI;go_upto_region 6 with fail
    clear hr;have HBO:=ι (λW (h:W.heap[g]?=some (rdO rk))=>HBX.o g rk W h HI2.o.2.1);have HLB:Hid (bl.length<=300):=ι (by have:=HI2.o.2.2;omega)
    refine RG.vE [7] [3,4,5] (λL α W=>Hid ((L 3=false->TkI w g xb u_ (.slice none 0 0) u_ (.slice none 0 0) bl [] (nv:Nat) rk W)/\
     (L 3=true->L 5=false->∃p,α 3=bxV p/\p.b=xRv rk/\TkI w g xb u_ (.slice none 0 0) u_ (.slice none 0 0) bl [] (nv:Nat) (xP3 rk) W/\xW 57 4 maF W w.heap.size p.mv p.b.yL/\(L 4=true->RdR 4 bxF W W.heap.size (α 4) [p]))/\
     (L 3=true->L 5=true->L 7=false->∃p,p.b=xRv rk/\TkI w g xb u_ (.slice none 0 0) (α 5) (.slice none 0 0) (bl++[p]) [] (nv:Nat) (xP3 rk) W)/\
     (L 3=true->L 5=true->L 7=true->∃p,p.b=xRv rk/\TkI w g xb (α 5) (.slice none 0 0) (α 5) (.slice none 0 0) (bl++[p]) [] (nv:Nat) (xP3 rk) W)))
     (λL L' α α' W hl ha h=>ι (by
      have l3:=hl 3 σ;have l4:=hl 4 σ;have l5:=hl 5 σ;have l7:=hl 7 σ;refine⟨λe=>h.o.1 (l3.trans e),λe f=>?_,λe f f7=>?_,λe f f7=>?_⟩
      ·obtain⟨p,h1,h2,h3,h4,h5⟩:=h.o.2.1 (l3.trans e) (l5.trans f);exact⟨p,by rw[<-ha 3 σ (l3.trans e)];exact h1,h2,h3,h4,λf4=>by rw[<-ha 4 σ (l4.trans f4)];exact h5 (l4.trans f4)⟩
      ·rw[<-ha 5 σ (l5.trans f)];exact h.o.2.2.1 (l3.trans e) (l5.trans f) (l7.trans f7)
      ·rw[<-ha 5 σ (l5.trans f)];exact h.o.2.2.2 (l3.trans e) (l5.trans f) (l7.trans f7))) κ κ κ (ι ⟨λ_=>HT.o.below (Aq _ _).drew,λe=>(by cases e),λe=>(by cases e),λe=>(by cases e)⟩) ?_
    refine RG.vS ?_;apply RG.zR
    ·rfl
    ·rfl
    ·intro α L w9 h0 hcl xQ hw9;have f7:L 7=false:=hcl.not 9 (i:=7) h0 κ
     have hb:w9.heap[xb]?=some (ixO u_ (.slice none 0 0) (nv:Nat)):=by
      cases f3:L 3 with
      |false=>exact(hw9.o.1 f3).x
      |true=>
       cases f5:L 5 with
       |false=>obtain⟨p,_,_,h3,_⟩:=hw9.o.2.1 f3 f5;exact h3.x
       |true=>obtain⟨p,_,h3⟩:=hw9.o.2.2.1 f3 f5 f7;exact h3.x
     have s0:=xR9 hb;clear hb;repeat go_step
     exact RG.xE hw9
    ·intro α;rfl
    refine RG.vS ?_;apply RG.rT
    ·rfl
    ·intro α L w9 h0 hcl xQ hw9;have f4:L 4=false:=hcl.not 9 (i:=4) h0 κ;have f5:L 5=false:=hcl.not 9 (i:=5) h0 κ;have hti:=hw9.o.1 h0;repeat go_step
     refine(HBO.o _ hti.rd).mono ?_;rintro e w10 ⟨A,c,rfl,hom,htu⟩;simp only[];repeat go_step
     refine⟨rfl,_,rfl,?_⟩
     exact ι ⟨λe=>by simp at e,λ_ _=>⟨⟨xRv rk,A,c⟩,RG.zL _ _ _,rfl,hti.turn htu,xW.less hom hti.bel.size,λe=>absurd (show L 4=true by simpa using e) (by rw[f4];simp)⟩,λ_ e=>absurd (show L 5=true by simpa using e) (by rw[f5];simp),λ_ e=>absurd (show L 5=true by simpa using e) (by rw[f5];simp)⟩
    ·intro b α;rfl
    apply RG.qP
    ·rfl
    ·intro α L w9 h0 hcl xQ hw9
     have f3:L 3=true:=by
      have:=xQ.yes 9 (i:=4) (j:=3) σ κ;simpa using this
     have f5:L 5=false:=hcl.not 9 (i:=5) h0 κ;obtain⟨p,h1,h2,h3,h4,_⟩:=hw9.o.2.1 f3 f5;refine⟨.slice (some (θ w9.heap.size 0)) 1 1,λbv hbv=>?_⟩;rw[show α (0+1+1+1)=_ from h1];have H1:=ι h1;have H2:=ι h2;clear h1 h2;repeat go_step
     rw[<-hbv,<-show α (0+1+1+1)=_ from H1.o];refine RG.xE ?_;have hal:=φ w9 (.cells #[xR p.b.name,.int .i64 p.b.validity,.int .i64 p.b.next,p.mv] 55)
     exact ι ⟨λe=>absurd (show L 3=false by simpa using e) (by rw[f3];simp),λ_ _=>⟨p,H1.o,H2.o,h3.below hal,h4.below hal,λ_=>by
      rw[show RG.xLu α (0+1+1+1+1) bv 4=bv from RG.zL _ _ _,hbv,wY];exact RdR.lit (m:=[p]) xBk w9 _ rfl⟩,λ_ e=>absurd (show L 5=true by simpa using e) (by rw[f5];simp),λ_ e=>absurd (show L 5=true by simpa using e) (by rw[f5];simp)⟩
    ·intro b α;rfl
    apply RG.qP
    ·rfl
    ·intro α L w9 h0 hcl xQ hw9
     have f4:L 4=true:=by
      have:=xQ.yes 9 (i:=5) (j:=4) σ κ;simpa using this
     have f3:L 3=true:=by
      have:=xQ.yes 9 (i:=5) (j:=3) σ κ;simpa using this
     have f7:L 7=false:=hcl.not 9 (i:=7) h0 κ;obtain⟨p,h1,h2,h3,h4,h5⟩:=hw9.o.2.1 f3 h0;obtain⟨v',w',hr,ha⟩:=xFn (P:=prog) tyBx 46 h3.bo (h5 f4) (by have:=HLB.o;simp;omega) h3.bel.size;refine⟨v',λbv hbv=>?_⟩;refine rU rfl _ _ rfl rfl rfl hr ?_;rw[<-hbv];repeat go_step
     refine RG.xE ?_
     exact ι ⟨λe=>absurd (show L 3=false by simpa using e) (by rw[f3];simp),λ_ e=>by simp at e,λ_ _ _=>⟨p,h2,by
      rw[show RG.xLu α (0+1+1+1+1+1) bv 5=bv from RG.zL _ _ _,hbv];exact h3.appB ha h4⟩,λ_ _ e=>absurd (show L 7=true by simpa using e) (by rw[f7];simp)⟩
    ·intro b α;rfl
    refine RG.vS ?_;apply RG.xDv (v:=λ_=>undef)
    ·rfl
    ·kernel_rfl
    ·rfl
    ·intro α L w9 h0 hcl xQ hw9
     have f5:L 5=true:=by
      have:=xQ.yes 9 (i:=7) (j:=5) σ κ;simpa using this
     have f3:L 3=true:=by
      have:=xQ.yes 9 (i:=7) (j:=3) σ κ;simpa using this
     obtain⟨p,h2,hst⟩:=hw9.o.2.2.1 f3 f5 h0;obtain⟨A,c,hgg,_⟩:=hst.bo.form;rw[show(bl++[p]).length=bl.length+1 by simp] at hgg;have HC:=ι (hst.cell 0 (α 5) (α 5) (.slice none 0 0) rfl);have hb:=hst.x;have s3:=xA hb 0;have y3:=xG hb 0;simp only[gA,gC] at s3;have HG:=ι hgg
     rw[show α (0+1+1+1+1+1)=_ from hgg];clear hst hb hgg;repeat go_step
     rw[<-show α (0+1+1+1+1+1)=_ from HG.o];refine RG.xE ?_;exact ι ⟨λe=>absurd (show L 3=false by simpa using e) (by rw[f3];simp),λ_ e=>absurd (show L 5=false by simpa using e) (by rw[f5];simp),λ_ _ e=>by simp at e,λ_ _ _=>⟨p,h2,HC.o⟩⟩
    ·intro α;rfl
    refine RG.xA6 (λα w7 hw7=>?_);obtain⟨p,hp,hti⟩:=hw7.o.2.2.2 rfl rfl rfl
    have HF:Hid (TkI w g xb (α 5) (.slice none 0 0) (α 5) (.slice none 0 0) (bl++[p]) [] (nv:Nat) (xP3 rk) w7/\xLb xRv xP3 q2 (k+1) ((bl++[p]).map (·.b)) (xP3 rk)/\(xP3 rk).rest.length<=1000000/\(bl++[p]).length<=k+1):=ι ⟨hti,by
     rw[Da,Du,Ht,hp];exact xJq HI2.o.1 HBD.o,Bg (yHy rk) HI2.o.2.1,by have:=HI2.o.2.2;simp;omega⟩
    clear hw7 hp hti HT HI2 HBO HBD HLB;go_wp2;exact⟨⟨k+1,α 5,bl++[p],xP3 rk,ω,by go_num,HF⟩,by simp[intOf];omega⟩
   case' true=>
    have hr:=xA HI.o.1.rd 1;simp only[gA,gB,gC] at hr;rw[hbad] at hr;have HE:=ι (Ai HI.o.1 (xNu HI.o.2.1 hk hbad));have HEL:=ι (Ai HI.o.2.2.1 (show bl.length<=1000 by have:=HI.o.2.2.2;omega));clear hbad HI;go_upto_region 8 with fail
    clear hr;obtain⟨wz,hwz⟩:∃wz,wz=wr:=⟨_,rfl⟩;rw[<-hwz] at HE⊢;clear hwz
  all_goals
   have HL3:Hid (rk.rest.length<=1000000):=ι HEL.o.1;have HBL:Hid (bl.length<=1000):=ι HEL.o.2;have HN:=ι (HNU.o g rk 1 wz HE.o.1.rd HL3.o ω);rw[show(((1:Nat)):Int)=1 from rfl] at HN;have hc2:=xSw rk;rw[HE.o.2.1] at HIV;rw[HE.o.2.2] at HIV;rw[HIV.o.2.2.1] at HIV
   have HT:=ι HE.o.1;clear HE HEL HBX;go_wp2_with fail
   refine HN.o.mono ?_;rintro e wy ⟨rfl,ht⟩;have HT5:=ι (HT.o.turn ht);have HL5:Hid ((rdR rk 1).rest.length<=1000000):=ι (Bg (jJ _ _) HL3.o);clear ht HN HT HL3 HNU;generalize vB rk 1=n2 at hc2 HIV⊢;generalize rdR rk 1=q5 at HT5 HL5 HIV;go_wp2_with fail
   go_loopw [30] (λiv wr=>∃(k2:Nat) (uo:Value) (sl:List Bs) (rk2:RdP),k2<=n2/\iv=.int .i64 k2/\Hid (TkI w g xb u_ uo u_ uo bl sl (nv:Nat) rk2 wr/\xLb yEx xOx q5 k2 sl rk2/\rk2.rest.length<=1000000/\sl.length<=k2)) (λiv _=>n2- (intOf iv).toNat)
   case atStart=>exact⟨0,_,[],q5,Bc _,rfl,ι ⟨HT5.o,xJp _ _ _,HL5.o,Bd _⟩⟩
   case round=>
    obtain⟨k2,uo,sl,rk2,hk2,rfl,HI⟩:=hrel;clear HT5
    by_cases hlt2:k2<n2
    case' neg=>
     obtain rfl:k2=n2:=ω;have HE:=ι (Ai HI.o.1 (xJr HI.o.2.1));have HEL:=ι (Ai HI.o.2.2.1 (show sl.length<=1000 by have:=HI.o.2.2.2;omega));clear HI;go_upto_region 13 with fail
     obtain⟨wx,hwx⟩:∃wx,wx=wr:=⟨_,rfl⟩;rw[<-hwx] at HE⊢;clear hwx
    case' pos=>
     cases hbad:rk2.bad
     case false=>
      have hr:=xA HI.o.1.rd 1;simp only[gA,gB,gC] at hr;rw[hbad] at hr;have HBD:=ι hbad;have HI2:=ι HI.o.2;have HT:=ι HI.o.1;clear hbad HI;go_upto_region 11 with fail
      clear hr;have HXO:=ι (λW (h:W.heap[g]?=some (rdO rk2))=>HTX.o g rk2 W h HI2.o.2.1);have HLB:Hid (sl.length<=300):=ι (by have:=HI2.o.2.2;omega);have HNX:=ι (xJq HI2.o.1 HBD.o);have HLN:=ι (Bg (xUg rk2) HI2.o.2.1);generalize yEx rk2=tx at HXO HNX
      generalize xOx rk2=rn at HXO HNX HLN
      refine RG.vE [3,7] [4,5] (λL α W=>Hid ((L 3=false->TkI w g xb u_ uo u_ uo bl sl (nv:Nat) rk2 W)/\
       (L 3=true->L 5=false->TkI w g xb u_ uo u_ uo bl sl (nv:Nat) rn W/\(L 4=true->RdR 1 txF W W.heap.size (α 4) [tx]))/\
       (L 3=true->L 5=true->L 7=false->TkI w g xb u_ uo u_ (α 5) bl (sl++[tx]) (nv:Nat) rn W)/\
       (L 3=true->L 5=true->L 7=true->TkI w g xb u_ (α 5) u_ (α 5) bl (sl++[tx]) (nv:Nat) rn W)))
       (λL L' α α' W hl ha h=>ι (by
        have l3:=hl 3 σ;have l4:=hl 4 σ;have l5:=hl 5 σ;have l7:=hl 7 σ;refine⟨λe=>h.o.1 (l3.trans e),λe f=>?_,λe f f7=>?_,λe f f7=>?_⟩
        ·obtain⟨h1,h2⟩:=h.o.2.1 (l3.trans e) (l5.trans f);exact⟨h1,λf4=>by rw[<-ha 4 σ (l4.trans f4)];exact h2 (l4.trans f4)⟩
        ·rw[<-ha 5 σ (l5.trans f)];exact h.o.2.2.1 (l3.trans e) (l5.trans f) (l7.trans f7)
        ·rw[<-ha 5 σ (l5.trans f)];exact h.o.2.2.2 (l3.trans e) (l5.trans f) (l7.trans f7))) κ κ κ (ι ⟨λ_=>HT.o.below (Aq _ _).drew,λe=>(by cases e),λe=>(by cases e),λe=>(by cases e)⟩) ?_
      refine RG.vS ?_;apply RG.zR
      ·rfl
      ·rfl
      ·intro α L w9 h0 hcl xQ hw9;have f7:L 7=false:=hcl.not 9 (i:=7) h0 κ
       have hb:w9.heap[xb]?=some (ixO u_ uo (nv:Nat)):=by
        cases f3:L 3 with
        |false=>exact(hw9.o.1 f3).x
        |true=>
         cases f5:L 5 with
         |false=>exact(hw9.o.2.1 f3 f5).1.x
         |true=>exact(hw9.o.2.2.1 f3 f5 f7).x
       have s0:=xA hb 1;simp only[gA,gB,gC] at s0;clear hb;repeat go_step
       exact RG.xE hw9
      ·intro α;rfl
      refine RG.vS ?_;apply RG.xDu
      ·rfl
      ·rfl
      ·intro α L w9 h0 hcl xQ hw9;have f4:L 4=false:=hcl.not 9 (i:=4) h0 κ;have f5:L 5=false:=hcl.not 9 (i:=5) h0 κ;have hti:=hw9.o.1 h0;repeat go_step
       refine cM (HXO.o _ hti.rd) λw10 htu=>?_;simp only[];repeat go_step
       refine RG.xE ?_;exact ι ⟨λe=>by simp at e,λ_ _=>⟨hti.turn htu,λe=>absurd (show L 4=true by simpa using e) (by rw[f4];simp)⟩,λ_ e=>absurd (show L 5=true by simpa using e) (by rw[f5];simp),λ_ e=>absurd (show L 5=true by simpa using e) (by rw[f5];simp)⟩
      ·intro α;rfl
      apply RG.qP
      ·rfl
      ·intro α L w9 h0 hcl xQ hw9
       have f3:L 3=true:=by
        have:=xQ.yes 9 (i:=4) (j:=3) σ κ;simpa using this
       have f5:L 5=false:=hcl.not 9 (i:=5) h0 κ;have hti:=(hw9.o.2.1 f3 f5).1;refine⟨.slice (some (θ w9.heap.size 0)) 1 1,λbv hbv=>?_⟩;repeat go_step
       rw[<-hbv];refine RG.xE ?_;have hal:=φ w9 (.cells #[xR tx] 9)
       exact ι ⟨λe=>absurd (show L 3=false by simpa using e) (by rw[f3];simp),λ_ _=>⟨hti.below hal,λ_=>by
        rw[show RG.xLu α (0+1+1+1+1) bv 4=bv from RG.zL _ _ _,hbv,wY];exact RdR.lit (m:=[tx]) xIq w9 _ rfl⟩,λ_ e=>absurd (show L 5=true by simpa using e) (by rw[f5];simp),λ_ e=>absurd (show L 5=true by simpa using e) (by rw[f5];simp)⟩
      ·intro b α;rfl
      apply RG.qP
      ·rfl
      ·intro α L w9 h0 hcl xQ hw9
       have f4:L 4=true:=by
        have:=xQ.yes 9 (i:=5) (j:=4) σ κ;simpa using this
       have f3:L 3=true:=by
        have:=xQ.yes 9 (i:=5) (j:=3) σ κ;simpa using this
       have f7:L 7=false:=hcl.not 9 (i:=7) h0 κ;obtain⟨h3,h5⟩:=hw9.o.2.1 f3 h0;obtain⟨v',w',hr,ha⟩:=xFn (P:=prog) tyTx 24 h3.su (h5 f4) (by have:=HLB.o;simp;omega) h3.bel.size;refine⟨v',λbv hbv=>?_⟩;refine rU rfl _ _ rfl rfl rfl hr ?_;rw[<-hbv];repeat go_step
       refine RG.xE ?_
       exact ι ⟨λe=>absurd (show L 3=false by simpa using e) (by rw[f3];simp),λ_ e=>by simp at e,λ_ _ _=>by
        rw[show RG.xLu α (0+1+1+1+1+1) bv 5=bv from RG.zL _ _ _,hbv];exact h3.appS ha,λ_ _ e=>absurd (show L 7=true by simpa using e) (by rw[f7];simp)⟩
      ·intro b α;rfl
      refine RG.vS ?_;apply RG.xDv (v:=λ_=>undef)
      ·rfl
      ·kernel_rfl
      ·rfl
      ·intro α L w9 h0 hcl xQ hw9
       have f5:L 5=true:=by
        have:=xQ.yes 9 (i:=7) (j:=5) σ κ;simpa using this
       have f3:L 3=true:=by
        have:=xQ.yes 9 (i:=7) (j:=3) σ κ;simpa using this
       have hst:=hw9.o.2.2.1 f3 f5 h0;obtain⟨A,c,hgg,_⟩:=hst.su.form;rw[show(sl++[tx]).length=sl.length+1 by simp] at hgg;have HC:=ι (hst.cell 1 (α 5) u_ (α 5) rfl);have hb:=hst.x;have s3:=xA hb 1;have y3:=xG hb 1;simp only[gA,gB,gC] at s3;have HG:=ι hgg
       rw[show α (0+1+1+1+1+1)=_ from hgg];clear hst hb hgg;repeat go_step
       rw[<-show α (0+1+1+1+1+1)=_ from HG.o];refine RG.xE ?_;exact ι ⟨λe=>absurd (show L 3=false by simpa using e) (by rw[f3];simp),λ_ e=>absurd (show L 5=false by simpa using e) (by rw[f5];simp),λ_ _ e=>by simp at e,λ_ _ _=>HC.o⟩
      ·intro α;rfl
      refine RG.xA6 (λα w7 hw7=>?_);have HF:Hid (TkI w g xb u_ (α 5) u_ (α 5) bl (sl++[tx]) (nv:Nat) rn w7/\xLb yEx xOx q5 (k2+1) (sl++[tx]) rn/\rn.rest.length<=1000000/\(sl++[tx]).length<=k2+1):=ι ⟨hw7.o.2.2.2 rfl rfl rfl,HNX.o,HLN.o,by have:=HI2.o.2.2;simp;omega⟩
      clear hw7 HT HI2 HXO HBD HLB HNX HLN;go_wp2;exact⟨⟨k2+1,α 5,sl++[tx],rn,ω,by go_num,HF⟩,by simp[intOf];omega⟩
     case' true=>
      have hr:=xA HI.o.1.rd 1;simp only[gA,gB,gC] at hr;rw[hbad] at hr;have HE:=ι (Ai HI.o.1 (xNu HI.o.2.1 hk2 hbad));have HEL:=ι (Ai HI.o.2.2.1 (show sl.length<=1000 by have:=HI.o.2.2.2;omega));clear hbad HI;go_upto_region 13 with fail
      clear hr;obtain⟨wx,hwx⟩:∃wx,wx=wr:=⟨_,rfl⟩;rw[<-hwx] at HE⊢;clear hwx
    all_goals
     rw[HE.o.2.1] at HIV;rw[HE.o.2.2] at HIV;have HT:=ι HE.o.1;have HSL:=ι HEL.o.2;clear HE HEL;rw[HIV.o.1,HIV.o.2.1] at HOK;rw[HIV.o.1] at HTI
     have HRI:=ι (show xRk wx wx.heap.size u_ uo ⟨bl.map (·.b),sl,(nv:Nat)⟩ from⟨xOs (HT.o.bo.rd xBk) (λp hp=>xIb ((HT.o.ma p hp).rd xEz)),xUh (HT.o.su.rd xIq)⟩)
     have HMB:Hid (∀b∈(⟨bl.map (·.b),sl,(nv:Nat)⟩:yN).boxes,b.yL.length<=9223372036854775807):=ι (λb hb=>by
      obtain⟨p,hp,rfl⟩:=Ew.1 hb;have:=(HT.o.ma p hp).row;rcases this.2 with ⟨_,h2⟩|⟨_,cap,_,_,_,_,h4,h5,_⟩
      ·omega
      ·unfold maxLen at h5;omega)
     have HRT:=ι (qX u_ uo ⟨bl.map (·.b),sl,(nv:Nat)⟩ wx HRI.o HMB.o (by show(bl.map (·.b)).length<=_;rw[Bw];have:=HBL.o;omega) (by show sl.length<=_;have:=HSL.o;omega));obtain⟨A7,c7,hu,_⟩:=HT.o.bo.form;obtain⟨A8,c8,huo,_⟩:=HT.o.su.form;subst hu huo
     have hrb:=HT.o.rd;have r0:=xA hrb 0;have r1:=xA hrb 1;have hxx:=HT.o.x;have x0:=xA hxx 0;have x1:=xA hxx 1;have x2:=xA hxx 2;simp only[gA,gB,gC] at x0 x1 x2;simp only[gA,gB,gC] at r0 r1;have HZ:=ι (Ai HT.o.o HT.o.bel);clear hrb hxx HIV;obtain⟨rr,rb⟩:=rk2
     simp only at HOK r0 r1;cases rb with
     |true=>
      have HTE:Hid (ti=ix0/\te=3):=ι (by
       rw[Bool.not_true,Dy,Dy] at HOK;rw[HOK.o] at HTI;exact⟨HTI.o.1,HTI.o.2⟩)
      clear HRT HRI HTI HOK HMB HT;go_upto_region 14 with fail
      clear r0 r1 x0 x1 x2;obtain⟨o0,y0,f0,o1,y1,f1,o2,y2,f2,HB⟩:=xP2 HZ.o.1 HZ.o.2 ω (.slice none 0 0) (.slice none 0 0) (.int .i64 0) _ rfl;clear HZ;go_wp2
      refine Ak (v:=.tuple #[.agg #[.slice none 0 0,.slice none 0 0,.int .i64 0],.int .i64 3]) (by simp[results,results95,go_sem,f0,f1,f2]) rfl ?_;exact⟨_,_,by rw[HTE.o.1,HTE.o.2];rfl,by rw[HTE.o.1];exact wZ.zero _ _,HB.o⟩
     |false=>
      by_cases hre:rr=[]
      ·subst hre;cases hri:zV ⟨bl.map (·.b),sl,(nv:Nat)⟩ with
       |false=>
        have HTE:Hid (ti=ix0/\te=3):=ι (by
         rw[hri,Gq] at HOK;rw[HOK.o] at HTI;exact⟨HTI.o.1,HTI.o.2⟩)
        rw[hri] at HRT;clear HRI HTI HOK HMB hri;go_upto_region 13 with fail
        go_wp2_with fail
        refine HRT.o.mono ?_;rintro e wv ⟨rfl,hbv⟩;have HZ2:Hid (wv.heap[w.heap.size]?=some (ixO (.slice none 0 0) (.slice none 0 0) 0)/\ψ w wv):=ι ⟨xC HZ.o.1 hbv (xH HZ.o.1),bT HZ.o.2 hbv⟩;clear HZ HT hbv HRT;have HZ:=HZ2;clear HZ2
        go_upto_region 14 with fail
        clear r0 r1 x0 x1 x2;obtain⟨o0,y0,f0,o1,y1,f1,o2,y2,f2,HB⟩:=xP2 HZ.o.1 HZ.o.2 ω (.slice none 0 0) (.slice none 0 0) (.int .i64 0) _ rfl;clear HZ;go_wp2
        refine Ak (v:=.tuple #[.agg #[.slice none 0 0,.slice none 0 0,.int .i64 0],.int .i64 3]) (by simp[results,results95,go_sem,f0,f1,f2]) rfl ?_;exact⟨_,_,by rw[HTE.o.1,HTE.o.2];rfl,by rw[HTE.o.1];exact wZ.zero _ _,HB.o⟩
       |true=>
        have HTE:Hid (ti=⟨bl.map (·.b),sl,(nv:Nat)⟩/\te=0):=ι (by
         rw[hri] at HOK;simp at HOK;rw[HOK.o] at HTI;exact⟨HTI.o.1,HTI.o.2⟩)
        rw[hri] at HRT;clear HRI HTI HOK HMB hri HZ;go_upto_region 13 with fail
        go_wp2_with fail
        refine HRT.o.mono ?_;rintro e wv ⟨rfl,hbv⟩;have HT2:=ι (HT.o.below hbv);clear HT hbv HRT r0 r1 x0 x1 x2;have hxx:=HT2.o.x;obtain⟨x0,x1,x2⟩:=xAs hxx;clear hxx;go_upto_region 15 with fail
        obtain⟨o0,y0,f0,o1,y1,f1,o2,y2,f2,HB⟩:=xP2 HT2.o.o HT2.o.bel ω (.slice A7 bl.length c7) (.slice A8 sl.length c8) (.int .i64 (nv:Nat)) _ rfl
        have HS1:=ι (xW.xHf HT2.o.bo (g:=w.heap.size) [.slice A7 bl.length c7,.slice A8 sl.length c8,.int .i64 (nv:Nat)] 0 (xW.neT HT2.o.bo HT2.o.o δ))
        have HS2:=ι (xW.xHf HT2.o.su (g:=w.heap.size) [.slice A7 bl.length c7,.slice A8 sl.length c8,.int .i64 (nv:Nat)] 0 (xW.neT HT2.o.su HT2.o.o δ))
        have HS3:=ι (λp hp=>xW.xHf (HT2.o.ma p hp) (g:=w.heap.size) [.slice A7 bl.length c7,.slice A8 sl.length c8,.int .i64 (nv:Nat)] 0 (xW.neT (HT2.o.ma p hp) HT2.o.o δ));simp only[yE,Nat.reduceAdd] at HS1 HS2 HS3;clear HT2;go_wp2
        refine Ak (v:=.tuple #[.agg #[.slice A7 bl.length c7,.slice A8 sl.length c8,.int .i64 (nv:Nat)],.int .i64 0]) (by simp[results,results95,go_sem,f0,f1,f2]) rfl ?_;refine⟨_,_,by rw[HTE.o.1,HTE.o.2],?_,HB.o⟩;rw[HTE.o.1];exact⟨⟨bl,rfl,HS1.o,HS3.o⟩,HS2.o⟩
      ·have HTE:Hid (ti=ix0/\te=3):=ι (by
        rw[Cq hre,Gq,Dy] at HOK;rw[HOK.o] at HTI;exact⟨HTI.o.1,HTI.o.2⟩)
       have e1:(rr==[])=false:=by simpa using hre
       have e2:(rr !=[])=true:=by simpa using hre
       clear HRT HRI HTI HOK HMB HT;go_upto_region 14 with fail
       clear r0 r1 x0 x1 x2;obtain⟨o0,y0,f0,o1,y1,f1,o2,y2,f2,HB⟩:=xP2 HZ.o.1 HZ.o.2 ω (.slice none 0 0) (.slice none 0 0) (.int .i64 0) _ rfl;clear HZ;go_wp2
       refine Ak (v:=.tuple #[.agg #[.slice none 0 0,.slice none 0 0,.int .i64 0],.int .i64 3]) (by simp[results,results95,go_sem,f0,f1,f2]) rfl ?_;exact⟨_,_,by rw[HTE.o.1,HTE.o.2];rfl,by rw[HTE.o.1];exact wZ.zero _ _,HB.o⟩
end Go.Proofs.IX
namespace Mailsack
def xH9 (box:ByteArray):ByteArray:=box.extract 0 (box.size-16)
def xEr (box:ByteArray):ByteArray:=box.extract (box.size-16) box.size
def aOk (key xB ad box:ByteArray):Bool:=decide (16<=box.size)&&Go.Proofs.SH.xBe (kF key xB ad (xH9 box)) (xEr box)
def aTx (key xB ad box:ByteArray):ByteArray:=if aOk key xB ad box=true then bsA (wS key xB 1 (xH9 box)) else⟨#[]⟩
def aE (key xB ad box:ByteArray):Int:=if aOk key xB ad box=true then 0 else 7
theorem xRa {box:ByteArray} (h:16<=box.size):xH9 box++xEr box=box:=by
 unfold xH9 xEr;apply Ee;rw[Eu,Dh,Dh,Array.extract_append_extract];have hs:box.data.size=box.size:=rfl;rw[show min 0 (box.size-16)=0 by omega,show max (box.size-16) box.size=box.data.size by omega];simp
def uF (d:Dk) (u:ByteArray):ByteArray:=bsA (xOa d (vD [120] u.data.toList))
def xJg (d:Dk) (u xD:ByteArray):Bool:=decide (xAe d (vD [120] u.data.toList)=0)&&decide (12<=(uF d u).size)&&aOk (zC xD) ((uF d u).extract 0 12) u ((uF d u).extract 12 (uF d u).size)
def xD2 (d:Dk) (u xD:ByteArray):Bs:=(aTx (zC xD) ((uF d u).extract 0 12) u ((uF d u).extract 12 (uF d u).size)).data.toList
def xFt (d:Dk) (u xD:ByteArray):yN:=if xJg d u xD=true then xKx (xD2 d u xD) else ix0
def xPx (d:Dk) (u xD:ByteArray):Int:=if xJg d u xD=true then xPg (xD2 d u xD) else 3
end Mailsack
namespace Go.Proofs.VA
open Go.RowKit Mailsack MM BB SH SV RK DS IX Go.Proofs.ST
theorem xRf (key xB ad box:ByteArray) (w:World) (hk:key.size=32) (hn:xB.size=12) (ha:ad.size<=1000000) (hb:box.size<=1000000):
  Calls prog 92 #[.string key,.string xB,.string ad,.string box] w (pv (.tuple #[.string (aTx key xB ad box),.int .i64 (aE key xB ad box)]) w):=by
 by_cases h16:16<=box.size
 ·have h1:(xEr box).size=16:=by unfold xEr;rw[Az];omega
  have h2:(xH9 box).size<=1000000000:=by unfold xH9;rw[Az];omega
  cases hs:xBe (kF key xB ad (xH9 box)) (xEr box) with
  |true=>
   have ho:aOk key xB ad box=true:=by unfold aOk;rw[hs,Bq h16];rfl
   have:=xNn key xB ad (xH9 box) (xEr box) w hk hn ω h2 h1 hs;rw[xRa h16] at this;unfold aTx aE;rw[ho,Ah rfl,Ah rfl];exact this
  |false=>
   have ho:aOk key xB ad box=false:=by unfold aOk;rw[hs,Gq]
   have:=xSu key xB ad (xH9 box) (xEr box) w hk hn ω h2 h1 hs;rw[xRa h16] at this;unfold aTx aE;rw[ho,Ag σ,Ag σ];exact this
 ·have ho:aOk key xB ad box=false:=by unfold aOk;rw[Cq h16,Dy]
  unfold aTx aE;rw[ho,Ag σ,Ag σ];refine(xXp key xB ad box w hk hn ω).mono ?_;rintro e w' ⟨rfl,rfl⟩;exact⟨rfl,Aq _ _⟩
theorem xLm (u xD xB enc:ByteArray) (w:World) (hu:u.size<=1000) (hp:xD.size<=1000000) (hn:xB.size=12) (he:enc.size<=1000000) (hT:jE w):
  Calls prog 24 #[.string u,.string xD,.string xB,.string enc] w (pv (.tuple #[chV (xJ5 u xD xB enc),.int .i64 0]) w):=by
 have H0:Hid ((w.alloc (chO ⟨[],[],false⟩)).heap[w.heap.size]?=some (chO ⟨[],[],false⟩)/\ψ w (w.alloc (chO ⟨[],[],false⟩))):=ι ⟨xJ _ _,φ w _⟩;have HIK:=ι (xHk xD (w.alloc (chO ⟨[],[],false⟩)) hp (hT.below H0.o.2 ν));have HSE:=ι (λW=>xSf (zC xD) xB u enc W (xEp xD) hn ω ω)
 have HUO:=ι (λW=>qW ⟨#[120]⟩ u W δ ω);rw[show(⟨#[120]⟩:ByteArray).data.toList=[120] from rfl] at HUO;have HC:Hid (chV (xJ5 u xD xB enc)=.agg #[xR (vD [120] u.data.toList),.string (xB++wP (zC xD) xB u enc),.bool false]):=ι rfl;have hss:=kH (zC xD) xB u enc
 have hns:¬(9223372036854775807<xB.size+(wP (zC xD) xB u enc).size):=ω;generalize xJ5 u xD xB enc=sc at HC⊢;generalize vD [120] u.data.toList=nm at HUO HC;generalize wP (zC xD) xB u enc=sp at HSE HC hns;generalize zC xD=ik at HIK HSE;clear hu hp hn he hT hss
 go_enter func24,ntmps24;go_upto_region 1 with fail
 obtain⟨w1,hw1⟩:=eX (w.alloc (chO ⟨[],[],false⟩));rw[hw1] at H0 HIK;simp only[chO,xR] at hw1;rw[hw1];clear hw1;go_wp2_with fail
 refine HIK.o.mono ?_;rintro e w2 ⟨rfl,hb2⟩;have H2:Hid (w2.heap[w.heap.size]?=some (chO ⟨[],[],false⟩)/\ψ w w2):=ι ⟨xC H0.o.1 hb2 (xH H0.o.1),bT H0.o.2 hb2⟩;clear H0 HIK hb2;go_wp2_with fail
 refine cM (HSE.o _) λw3 hb3=>?_;have H3:Hid (w3.heap[w.heap.size]?=some (chO ⟨[],[],false⟩)/\ψ w w3):=ι ⟨xC H2.o.1 hb3 (xH H2.o.1),bT H2.o.2 hb3⟩;clear H2 HSE hb3;go_wp2_with fail
 refine cM (HUO.o _) λw4 hw4=>?_;rw[hw4];clear hw4 w4 HUO;obtain⟨o0,y0,f0,o1,y1,f1,o2,y2,f2,HB⟩:=xP2 H3.o.1 H3.o.2 ω (xR nm) (.string (xB++sp)) (.bool false) _ rfl;clear H3;go_wp2
 refine Ak (v:=.tuple #[.agg #[xR nm,.string (xB++sp),.bool false],.int .i64 0]) (by simp[results,results24,go_sem,f0,f1,f2]) rfl ?_;exact⟨by rw[HC.o],HB.o⟩
def qG:yN:=⟨[⟨pX,1,1,[]⟩],[],2⟩
theorem yHc (w:World):
  Calls prog 23 #[] w λe w'=>∃bv sv,e=.returned (.agg #[bv,sv,.int .i64 2])/\wZ w.heap.size w' bv sv qG/\ψ w w':=by
 go_enter func23,ntmps23;go_wp2;refine Ak (v:=.agg #[.slice (some (θ (w.heap.size+1) 0)) 1 1,.slice none 0 0,.int .i64 2]) (by simp[results,results23,go_sem]) rfl ?_;refine⟨_,_,rfl,⟨?_,?_⟩,(φ w _).alloc σ _⟩
 ·have hB:=xJ (w.alloc (.cells #[.slice (some (θ (w.heap.size+1) 0)) 1 1,.slice none 0 0,.int .i64 2] 48)) (.cells #[.string ⟨#[73,78,66,79,88]⟩,.int .i64 1,.int .i64 1,.slice none 0 0] 55);rw[Ec] at hB
  refine⟨[⟨⟨pX,1,1,[]⟩,none,0⟩],rfl,⟨rfl,.inr ⟨_,1,_,rfl,ω,hB,δ,δ,rfl,rfl⟩⟩,λp hp=>?_⟩;rw[Bu.1 hp];exact xW.nil _ _
 ·exact xW.nil _ _
end Go.Proofs.VA
namespace Mailsack
def xQx (secret xP:ByteArray):ByteArray:=bsA (xOk secret xP ⟨#[109,97,105,108]⟩ 44)
theorem xH2 (a b:ByteArray):(xQx a b).size=44:=by rw[xQx,yS,xK7]
def xR2 (secret xP:ByteArray):ByteArray:=(xQx secret xP).extract 0 32
def xR0 (secret xP:ByteArray):ByteArray:=(xQx secret xP).extract 32 44
theorem xR1 (a b:ByteArray):(xR2 a b).size=32:=by unfold xR2;rw[Az,xH2];rfl
theorem xQz (a b:ByteArray):(xR0 a b).size=12:=by unfold xR0;rw[Az,xH2];rfl
def xP4 (pub once s:ByteArray):Int:=if once.size≠32∨pub.size≠32 then 1 else if 700<s.size then 4 else 0
def xTw (pub once s:ByteArray):ByteArray:=xV once++wP (xR2 (uI once pub) (xV once++pub)) (xR0 (uI once pub) (xV once++pub)) ⟨#[]⟩ (xBg s)
def xKr (pub once s:ByteArray):ByteArray:=if xP4 pub once s=0 then xTw pub once s else⟨#[]⟩
def yAv (xD box:ByteArray):ByteArray:=aTx (xR2 (uI xD (box.extract 0 32)) (box.extract 0 32++xV xD)) (xR0 (uI xD (box.extract 0 32)) (box.extract 0 32++xV xD)) ⟨#[]⟩ (box.extract 32 box.size)
def sopA (xD box:ByteArray):Bool:=aOk (xR2 (uI xD (box.extract 0 32)) (box.extract 0 32++xV xD)) (xR0 (uI xD (box.extract 0 32)) (box.extract 0 32++xV xD)) ⟨#[]⟩ (box.extract 32 box.size)
def xRq (xD box:ByteArray):Int:=if xD.size≠32 then 1 else if box.size<32 then 3 else if sopA xD box=false then 7 else unE (yAv xD box)
def xZ8 (xD box:ByteArray):ByteArray:=if xRq xD box=0 then unT (yAv xD box) else⟨#[]⟩
theorem yJn {s:ByteArray} (h:unE s≠0):unT s=⟨#[]⟩:=by
 unfold unE at h;unfold unT
 by_cases hk:xZ7 s=true
 ·rw[Ah hk] at h;exact absurd rfl h
 ·rw[Ag hk]
end Mailsack
namespace Go.Proofs.SE
open Go.RowKit Mailsack MM BB SH SV VA Go.Proofs.FE
structure SeT (w:World):Prop where
 sha:jE w
 cls:yJ9 w
theorem SeT.below {w w':World} {B:Nat} (h:SeT w) (hb:Below B w w') (hB:w.heap.size<=B):SeT w':=⟨h.sha.below hb hB,h.cls.below hb hB⟩
theorem xMi (secret xP:ByteArray) (w:World) (h1:secret.size<=1000000) (h2:xP.size<=1000000) (hT:jE w):
  Calls prog 75 #[.string secret,.string xP] w (pv (.tuple #[.string (xR2 secret xP),.string (xR0 secret xP),.int .i64 0]) w):=by
 have HD:Hid (Calls prog 112 #[.string secret,.string xP,.string ⟨#[109,97,105,108]⟩,.int .i64 44] w (pv (.tuple #[.string (xQx secret xP),.int .i64 0]) w)):=ι (xOj secret xP ⟨#[109,97,105,108]⟩ 44 w ω ω δ δ hT);have hz:=xH2 secret xP
 have HK:Hid (xR2 secret xP=(xQx secret xP).extract 0 32):=ι rfl;have HN:Hid (xR0 secret xP=(xQx secret xP).extract 32 44):=ι rfl;rw[HK.o,HN.o];clear HK HN;generalize xQx secret xP=r at HD hz⊢;clear hT h1 h2;have hzi:(r.size:Int)=44:=ω;go_enter func75,ntmps75
 go_wp2_with fail
 refine HD.o.mono ?_;rintro e w1 ⟨rfl,hb1⟩;have B1:=ι hb1;clear hb1 HD;go_upto_region 4 with fail
 refine RG.xU (λW=>Hid (ψ w W)) κ κ (ι B1.o.drew) ?_;iterate 7 refine RG.dS ?_
 refine RG.xX (λw2 hw2=>?_);have B2:=ι hw2.o;clear hw2 B1;go_wp2;go_ret3;exact⟨rfl,B2.o⟩
theorem yM7 (pub once s:ByteArray) (w:World) (hT:SeT w):
  Calls prog 26 #[.string pub,.string once,.string s] w (pv (.tuple #[.string (xKr pub once s),.int .i64 (xP4 pub once s)]) w):=by
 by_cases h1:once.size≠32
 ·have HE:xP4 pub once s=1:=by unfold xP4;rw[Ah (.inl h1)]
  have HP:=ι (xLw once pub w h1);rw[show xKr pub once s=⟨#[]⟩ by unfold xKr;rw[HE,Ag δ],HE];clear HE h1 hT;go_enter func26,ntmps26;go_wp2_with fail
  refine HP.o.mono ?_;rintro e w1 ⟨rfl,hb1⟩;have B1:=ι hb1;clear hb1 HP;go_wp2;go_ret2;exact⟨rfl,B1.o⟩
 ·have h1:once.size=32:=Classical.not_not.1 h1
  by_cases h2:pub.size≠32
  ·have HE:xP4 pub once s=1:=by unfold xP4;rw[Ah (.inr h2)]
   have HP:=ι (xXj once pub w h1 h2);rw[show xKr pub once s=⟨#[]⟩ by unfold xKr;rw[HE,Ag δ],HE];clear HE h1 h2 hT;go_enter func26,ntmps26;go_wp2_with fail
   refine HP.o.mono ?_;rintro e w1 ⟨rfl,hb1⟩;have B1:=ι hb1;clear hb1 HP;go_wp2;go_ret2;exact⟨rfl,B1.o⟩
  ·have h2:pub.size=32:=Classical.not_not.1 h2;have HP:=ι (xJ9 once pub w h1 h2);have HT:=ι (λW (hb:ψ w W)=>hT.below hb ν)
   by_cases h3:700<s.size
   ·have HE:xP4 pub once s=4:=by unfold xP4;rw[Ag ω,Ah h3]
    have HD:=ι (λW (hb:ψ w W)=>yKd s W h3 (HT.o W hb).cls);rw[show xKr pub once s=⟨#[]⟩ by unfold xKr;rw[HE,Ag δ],HE];generalize uI once pub=sec at HP;clear HE h1 h2 h3 hT HT;go_enter func26,ntmps26;go_wp2_with fail
    refine HP.o.mono ?_;rintro e w1 ⟨rfl,hb1⟩;have B1:=ι hb1;clear hb1 HP;go_wp2_with fail
    refine(HD.o _ B1.o).mono ?_;rintro e w2 ⟨rfl,rfl⟩;go_wp2;go_ret2;exact⟨rfl,B1.o⟩
   ·have HE:xP4 pub once s=0:=by unfold xP4;rw[Ag ω,Ag h3]
    have HD:=ι (λW (hb:ψ w W)=>pad_ok s W ω (HT.o W hb).cls);have HPU:=ι (λW=>xDz once W h1);have HDE:=ι (λW (hb:ψ w W)=>xMi (uI once pub) (xV once++pub) W (by rw[wC];decide) (by rw[Aw,show(xV once).size=32 from wC _ _];omega) (HT.o W hb).sha)
    have HSE:=ι (λW=>xSf (xR2 (uI once pub) (xV once++pub)) (xR0 (uI once pub) (xV once++pub)) ⟨#[]⟩ (xBg s) W (xR1 _ _) (xQz _ _) δ (by
     obtain⟨c,hc,_,h,_⟩:=xDq (n:=s.size) ω;rw[xBt ω,hc,Cn];omega))
    have hz1:(xV once).size=32:=wC _ _
    have hz2:(wP (xR2 (uI once pub) (xV once++pub)) (xR0 (uI once pub) (xV once++pub)) ⟨#[]⟩ (xBg s)).size<=1000000:=by
     obtain⟨c,hc,_,h,_⟩:=xDq (n:=s.size) ω;rw[kH,xBt ω,hc,Cn];omega
    rw[show xKr pub once s=xTw pub once s by unfold xKr;rw[Ah HE],HE];have HBX:Hid (xTw pub once s=xV once++wP (xR2 (uI once pub) (xV once++pub)) (xR0 (uI once pub) (xV once++pub)) ⟨#[]⟩ (xBg s)):=ι rfl;generalize xTw pub once s=bx at HBX⊢
    generalize wP (xR2 (uI once pub) (xV once++pub)) (xR0 (uI once pub) (xV once++pub)) ⟨#[]⟩ (xBg s)=sl at HSE hz2 HBX;generalize xR2 (uI once pub) (xV once++pub)=kk at HDE HSE;generalize xR0 (uI once pub) (xV once++pub)=nn at HDE HSE;generalize uI once pub=sec at HP HDE
    generalize xV once=own at HPU HDE hz1 HBX;generalize xBg s=ps at HD HSE;have hn1:¬(9223372036854775807<own.size+pub.size):=ω;have hn2:¬(9223372036854775807<own.size+sl.size):=ω;clear HE h1 h2 h3 hT HT hz1 hz2;go_enter func26,ntmps26;go_wp2_with fail
    refine HP.o.mono ?_;rintro e w1 ⟨rfl,hb1⟩;have B1:=ι hb1;clear hb1 HP;go_wp2_with fail
    refine cM (HD.o _ B1.o) λw2 hb2=>?_;have B2:=ι (bT B1.o hb2);clear hb2 HD B1;go_wp2_with fail
    refine cM (HPU.o _) λw3 hb3=>?_;have B3:=ι (bT B2.o hb3);clear hb3 HPU B2;go_wp2_with fail
    refine cM (HDE.o _ B3.o) λw4 hb4=>?_;have B4:=ι (bT B3.o hb4);clear hb4 HDE B3;go_wp2_with fail
    refine cM (HSE.o _) λw5 hb5=>?_;have B5:=ι (bT B4.o hb5);clear hb5 HSE B4;go_wp2;go_ret2;exact⟨by rw[HBX.o];rfl,B5.o⟩
theorem xXg (k:ByteArray) (w:World) (hk:k.size≠32):
  Calls prog 61 #[.string k] w (pv (.tuple #[.string ⟨#[]⟩,.bool false]) w):=by
 have HP:=ι (λW=>xLw k xHw W hk);have HB:=ι (xWf w);clear hk;go_enter func61,ntmps61;go_wp2_with fail
 refine HB.o.mono ?_;rintro e w1 ⟨rfl,hb1⟩;have B1:=ι hb1;clear hb1 HB;go_wp2_with fail
 refine cM (HP.o _) λw2 hb2=>?_;have B2:=ι (bT B1.o hb2);clear hb2 HP B1;go_wp2;go_ret2;exact⟨rfl,B2.o⟩
theorem yAt (xD box:ByteArray) (w:World) (hb:box.size<=100000) (hT:SeT w):
  Calls prog 53 #[.string xD,.string box] w (pv (.tuple #[.string (xZ8 xD box),.int .i64 (xRq xD box)]) w):=by
 by_cases h1:xD.size≠32
 ·have HE:xRq xD box=1:=by unfold xRq;rw[Ah h1]
  have HP:=ι (xXg xD w h1);rw[show xZ8 xD box=⟨#[]⟩ by unfold xZ8;rw[HE,Ag δ],HE];clear HE h1 hb hT;go_enter func53,ntmps53;go_wp2_with fail
  refine HP.o.mono ?_;rintro e w1 ⟨rfl,hb1⟩;have B1:=ι hb1;clear hb1 HP;go_wp2;go_ret2;exact⟨rfl,B1.o⟩
 ·have h1:xD.size=32:=Classical.not_not.1 h1;have HPU:=ι (xDz xD w h1)
  by_cases h2:box.size<32
  ·have HE:xRq xD box=3:=by unfold xRq;rw[Ag ω,Ah h2]
   rw[show xZ8 xD box=⟨#[]⟩ by unfold xZ8;rw[HE,Ag δ],HE];have h2i:(box.size:Int)<32:=ω;generalize xV xD=pu at HPU;clear HE h1 h2 hb hT;go_enter func53,ntmps53;go_wp2_with fail
   refine HPU.o.mono ?_;rintro e w1 ⟨rfl,hb1⟩;have B1:=ι hb1;clear hb1 HPU;go_wp2;go_ret2;exact⟨rfl,B1.o⟩
  ·have h2i:¬(box.size:Int)<32:=ω;have h2n:¬(box.size<32):=h2;have hz0:(box.extract 0 32).size=32:=by rw[Az];omega
   have hz1:(xV xD).size=32:=wC _ _;have HT:=ι (λW (hb:ψ w W)=>hT.below hb ν);have HP:=ι (λW=>xJ9 xD (box.extract 0 32) W h1 hz0)
   have HDE:=ι (λW (hb:ψ w W)=>xMi (uI xD (box.extract 0 32)) (box.extract 0 32++xV xD) W (by rw[wC];decide) (by rw[Aw];omega) (HT.o W hb).sha)
   have HAO:=ι (λW=>xRf (xR2 (uI xD (box.extract 0 32)) (box.extract 0 32++xV xD)) (xR0 (uI xD (box.extract 0 32)) (box.extract 0 32++xV xD)) ⟨#[]⟩ (box.extract 32 box.size) W (xR1 _ _) (xQz _ _) δ (by rw[Az];omega))
   have HE:Hid (xRq xD box=if sopA xD box=false then 7 else unE (yAv xD box)):=ι (by unfold xRq;rw[Ag ω,Ag h2]);have HS:Hid (xZ8 xD box=if xRq xD box=0 then unT (yAv xD box) else⟨#[]⟩):=ι rfl
   have HXS:(yAv xD box).size<=1000000:=by
    unfold yAv aTx;split
    ·rw[yS,kP];unfold xH9;rw[Az,Az];omega
    ·decide
   have HUN:=ι (λW (hb:ψ w W)=>yA6 (yAv xD box) W HXS (HT.o W hb).cls)
   have HAE:Hid (aE (xR2 (uI xD (box.extract 0 32)) (box.extract 0 32++xV xD)) (xR0 (uI xD (box.extract 0 32)) (box.extract 0 32++xV xD)) ⟨#[]⟩ (box.extract 32 box.size)=if sopA xD box=true then 0 else 7):=ι rfl
   rw[HAE.o,show aTx (xR2 (uI xD (box.extract 0 32)) (box.extract 0 32++xV xD)) (xR0 (uI xD (box.extract 0 32)) (box.extract 0 32++xV xD)) ⟨#[]⟩ (box.extract 32 box.size)=yAv xD box from rfl] at HAO;clear HAE HXS
   have hn1:¬(9223372036854775807<(box.extract 0 32).size+(xV xD).size):=ω;generalize xRq xD box=se at HE HS⊢;generalize xZ8 xD box=st at HS⊢;generalize sopA xD box=sa at HE HAO;generalize yAv xD box=sx at HE HS HAO HUN
   generalize xR2 (uI xD (box.extract 0 32)) (box.extract 0 32++xV xD)=kk at HDE HAO;generalize xR0 (uI xD (box.extract 0 32)) (box.extract 0 32++xV xD)=nn at HDE HAO;generalize uI xD (box.extract 0 32)=sec at HP HDE;generalize xV xD=pu at HPU HDE hn1
   clear h1 h2 hz0 hz1 hb hT HT;go_enter func53,ntmps53;go_wp2_with fail
   refine HPU.o.mono ?_;rintro e w1 ⟨rfl,hb1⟩;have B1:=ι hb1;clear hb1 HPU;go_upto_region 6 with fail
   refine RG.xU (λW=>Hid (ψ w W)) κ κ (ι B1.o.drew) ?_;iterate 6 refine RG.dS ?_
   refine RG.xX (λw2 hw2=>?_);have B2:=ι hw2.o;clear hw2 B1 h2i h2n;go_wp2_with fail
   refine cM (HP.o _) λw3 hb3=>?_;have B3:=ι (bT B2.o hb3);clear hb3 HP B2;go_wp2_with fail
   refine cM (HDE.o _ B3.o) λw4 hb4=>?_;have B4:=ι (bT B3.o hb4);clear hb4 HDE B3;go_wp2_with fail
   refine cM (HAO.o _) λw5 hb5=>?_;have B5:=ι (bT B4.o hb5);clear hb5 HAO B4 hn1;cases sa with
   |false=>
    rw[Ag σ];rw[Ah rfl] at HE;have HSS:Hid (st=⟨#[]⟩):=ι (by rw[HS.o,HE.o,Ag δ]);clear HUN;go_wp2;go_ret2;exact⟨by rw[HSS.o,HE.o];rfl,B5.o⟩
   |true=>
    rw[Ah rfl];go_wp2_with fail
    refine cM (HUN.o _ B5.o) λw6 hb6=>?_;have B6:=ι (bT B5.o hb6);clear hb6 HUN B5;rw[Ag σ] at HE
    have HSS:Hid (st=unT sx):=ι (by
     rw[HS.o,HE.o];split
     ·rfl
     ·rename_i h;exact(yJn h).symm)
    go_wp2;go_ret2;exact⟨by rw[HSS.o,HE.o];rfl,B6.o⟩
end Go.Proofs.SE
namespace Go.Proofs.VA
open Go.RowKit Mailsack MM BB SH SV RK DS IX Go.Proofs.ST
structure OpN (w:World) (va vb:Value) (D:Dk) (W:World):Prop where
 d:W.heap[w.heap.size]?=some (yI va vb)
 o:W.heap[w.heap.size+1]?=some (ixO (.slice none 0 0) (.slice none 0 0) 0)
 rd:RdD W W.heap.size va vb D
 bel:ψ w W
theorem OpN.below {w W W':World} {va vb:Value} {D:Dk} (h:OpN w va vb D W) (hb:ψ W W'):OpN w va vb D W':=
 ⟨xC h.d hb (xH h.d),xC h.o hb (xH h.o),(h.rd.below hb ν).more hb.size,bT h.bel hb⟩
theorem OpN.drew {w W:World} {va vb:Value} {D:Dk} (h:OpN w va vb D W):OpN w va vb D W.drew:=h.below (Aq _ W).drew
theorem xXn (va vb:Value) (d:Dk) (u xD:ByteArray) (w:World) (h:RdD w w.heap.size va vb d) (hu:u.size<=1000000) (hp:xD.size<=1000000) (hT:jE w):
  Calls prog 51 #[.agg #[va,vb],.string u,.string xD] w λe w'=>∃bv sv,e=.returned (.tuple #[.agg #[bv,sv,.int .i64 (xFt d u xD).given],.int .i64 (xPx d u xD)])/\wZ w.heap.size w' bv sv (xFt d u xD)/\ψ w w':=by
 obtain⟨A1,c1,A2,c2,rfl,rfl⟩:=yC h
 have H0:Hid (OpN w (.slice A1 d.secs.length c1) (.slice A2 d.cache.length c2) d ((w.alloc (yI (.slice A1 d.secs.length c1) (.slice A2 d.cache.length c2))).alloc (ixO (.slice none 0 0) (.slice none 0 0) 0))):=ι (by
  have hb:=(φ w (yI (.slice A1 d.secs.length c1) (.slice A2 d.cache.length c2))).alloc σ (ixO (.slice none 0 0) (.slice none 0 0) 0);exact⟨zM _ _ _,zI _ _ _,(h.below hb ν).more hb.size,hb⟩)
 have HUO:=ι (λW=>qW ⟨#[120]⟩ u W δ hu);rw[show(⟨#[120]⟩:ByteArray).data.toList=[120] from rfl] at HUO;have HGE:=ι (λW (h:OpN w (.slice A1 d.secs.length c1) (.slice A2 d.cache.length c2) d W)=>xO8 _ _ d (vD [120] u.data.toList) W h.rd)
 have HIK:=ι (λW (h:OpN w (.slice A1 d.secs.length c1) (.slice A2 d.cache.length c2) d W)=>xHk xD W hp (hT.below h.bel ν));have hos:(uF d u).size<=1024:=by unfold uF;rw[yS];exact xO9 _ _
 have HOE:Hid (xPx d u xD=if xJg d u xD=true then xPg (xD2 d u xD) else 3):=ι rfl;have HOI:Hid (xFt d u xD=if xJg d u xD=true then xKx (xD2 d u xD) else ix0):=ι rfl
 have HOK:Hid (xJg d u xD=(decide (xAe d (vD [120] u.data.toList)=0)&&decide (12<=(uF d u).size)&&aOk (zC xD) ((uF d u).extract 0 12) u ((uF d u).extract 12 (uF d u).size))):=ι rfl
 have HTX:Hid (xR (xD2 d u xD)=.string (aTx (zC xD) ((uF d u).extract 0 12) u ((uF d u).extract 12 (uF d u).size))):=ι (xSc _)
 have HTL:Hid ((xD2 d u xD).length<=1000000):=ι (by
  unfold xD2 aTx;split
  ·rw[show ∀l:Bs,(bsA l).data.toList=l from λl=>by simp[bsA],kP];unfold xH9;rw[Az,Az];omega
  ·simp)
 rw[show xR (xOa d (vD [120] u.data.toList))=.string (uF d u) from rfl] at HGE
 have HAO:=ι (λW (h12:12<=(uF d u).size)=>xRf (zC xD) ((uF d u).extract 0 12) u ((uF d u).extract 12 (uF d u).size) W (xEp xD) (by rw[Az];omega) hu (by rw[Az];omega));have HTK:=ι (λW=>yCn (xD2 d u xD) W HTL.o)
 have HAE:Hid (aE (zC xD) ((uF d u).extract 0 12) u ((uF d u).extract 12 (uF d u).size)=if aOk (zC xD) ((uF d u).extract 0 12) u ((uF d u).extract 12 (uF d u).size)=true then 0 else 7):=ι rfl;generalize xD2 d u xD=tx at HOE HOI HTX HTL HTK;generalize xFt d u xD=oi at HOI⊢
 generalize xPx d u xD=oe at HOE⊢;generalize xJg d u xD=ok at HOE HOI HOK;generalize uF d u=og at HGE HOK HTX HAO HAE hos;generalize aOk (zC xD) (og.extract 0 12) u (og.extract 12 og.size)=ak at HOK HAE
 generalize aE (zC xD) (og.extract 0 12) u (og.extract 12 og.size)=ae at HAO HAE;generalize aTx (zC xD) (og.extract 0 12) u (og.extract 12 og.size)=at_ at HAO HTX;generalize zC xD=ik at HIK HAO;generalize vD [120] u.data.toList=nm at HUO HGE HOK;generalize xAe d nm=ge at HGE HOK
 clear h hu hp hT;go_enter func51,ntmps51;go_upto_region 1 with fail
 obtain⟨w1,hw1⟩:=eX ((w.alloc (yI (.slice A1 d.secs.length c1) (.slice A2 d.cache.length c2))).alloc (ixO (.slice none 0 0) (.slice none 0 0) 0));rw[hw1] at H0;simp only[ixO] at hw1;rw[hw1];clear hw1
 refine RG.xU (λW=>Hid (OpN w (.slice A1 d.secs.length c1) (.slice A2 d.cache.length c2) d W)) κ κ (ι H0.o.drew) ?_;iterate 2 refine RG.dF (λw9 hw9=>uQ hw9.o.d) ?_
 apply RG.xL
 ·intro w9 hw9;repeat go_step
  refine(HUO.o _).mono ?_;rintro e w10 ⟨rfl,rfl⟩;simp only[];repeat go_step
  exact RG.xE hw9
 ·rfl
 apply RG.xL
 ·intro w9 hw9;repeat go_step
  refine(HGE.o _ hw9.o).mono ?_;rintro e w10 ⟨rfl,zO⟩;simp only[];repeat go_step
  refine RG.xE ?_;exact ι (hw9.o.below zO)
 ·rfl
 iterate 5 refine RG.dS ?_
 refine RG.xX (λw2 hw2=>?_);clear H0 HUO HGE
 by_cases hg:ge=0
 ·subst hg;rw[Bq rfl,Ed] at HOK
  by_cases h12:12<=og.size
  ·rw[Bq h12,Ed] at HOK;have e12:decide ((og.size:Int)<12)=false:=Cq ω;have k12:¬((og.size:Int)<12):=ω;go_upto_region 4 with fail
   go_wp2_with fail
   refine cM (HIK.o _ hw2.o) λw3 hb3=>?_;have H3:=ι (hw2.o.below hb3);clear hb3 hw2 HIK;go_upto_region 7 with fail
   have H3:=ι H3.o.drew;refine RG.xU (λW=>Hid (OpN w (.slice A1 d.secs.length c1) (.slice A2 d.cache.length c2) d W)) κ κ H3 ?_;iterate 6 refine RG.dS ?_
   apply RG.xL
   ·intro w9 hw9;repeat go_step
    refine(HAO.o w9 h12).mono ?_;rintro e w10 ⟨rfl,zO⟩;simp only[];repeat go_step
    refine RG.xE ?_;exact ι (hw9.o.below zO)
   ·rfl
   iterate 5 refine RG.dS ?_
   refine RG.xX (λw4 hw4=>?_);clear H3 HAO e12 k12;cases ak with
   |false=>
    rw[Ag σ] at HAE;rw[HOK.o,Ag σ] at HOE HOI;have ha1:(ae==0)=false:=by rw[HAE.o];rfl
    have ha2:(ae !=0)=true:=by rw[HAE.o];rfl
    have HZ:=hw4;clear hw4 HTK;obtain⟨o0,y0,f0,o1,y1,f1,o2,y2,f2,HB⟩:=xP2 HZ.o.o HZ.o.bel ω (.slice none 0 0) (.slice none 0 0) (.int .i64 0) _ rfl;clear HZ;go_wp2
    refine Ak (v:=.tuple #[.agg #[.slice none 0 0,.slice none 0 0,.int .i64 0],.int .i64 3]) (by simp[results,results51,go_sem,f0,f1,f2]) rfl ?_;exact⟨_,_,by rw[HOE.o,HOI.o];rfl,by rw[HOI.o];exact wZ.zero _ _,HB.o⟩
   |true=>
    rw[Ah rfl] at HAE;rw[HOK.o,Ah rfl] at HOE HOI;have ha1:(ae==0)=true:=by rw[HAE.o];rfl
    have ha2:(ae !=0)=false:=by rw[HAE.o];rfl
    rw[HTX.o] at HTK;have H4:=hw4;clear hw4;go_upto_region 10 with fail
    go_wp2_with fail
    refine(HTK.o _).mono ?_;rintro e w5 ⟨bv,sv,rfl,ho,hb5⟩;obtain⟨A3,n3,c3,A4,n4,c4,rfl,rfl⟩:=ho.form;have H5:=ι (H4.o.below hb5);have HO:=ι (ho.less H4.o.bel.size);clear hb5 ho H4 HTK;generalize xKx tx=ti at HOI HO⊢;generalize xPg tx=te at HOE⊢
    obtain⟨o0,y0,f0,o1,y1,f1,o2,y2,f2,HB⟩:=xP2 H5.o.o H5.o.bel ω (.slice A3 n3 c3) (.slice A4 n4 c4) (.int .i64 ti.given) _ rfl;have HS:=ι (HO.o.set (g:=w.heap.size+1) H5.o.o δ δ δ [.slice A3 n3 c3,.slice A4 n4 c4,.int .i64 ti.given] 0);simp only[yE,Nat.reduceAdd] at HS
    clear HO H5;go_wp2;refine Ak (v:=.tuple #[.agg #[.slice A3 n3 c3,.slice A4 n4 c4,.int .i64 ti.given],.int .i64 te]) (by simp[results,results51,go_sem,f0,f1,f2]) rfl ?_;exact⟨_,_,by rw[HOE.o,HOI.o],by rw[HOI.o];exact HS.o,HB.o⟩
  ·have k12:(og.size:Int)<12:=ω;have e12:decide ((og.size:Int)<12)=true:=Bq k12;rw[Cq h12,Dy] at HOK;rw[HOK.o,Ag σ] at HOE HOI;have HZ:=hw2;clear hw2 HIK HAO HTK
   obtain⟨o0,y0,f0,o1,y1,f1,o2,y2,f2,HB⟩:=xP2 HZ.o.o HZ.o.bel ω (.slice none 0 0) (.slice none 0 0) (.int .i64 0) _ rfl;clear HZ;go_wp2
   refine Ak (v:=.tuple #[.agg #[.slice none 0 0,.slice none 0 0,.int .i64 0],.int .i64 3]) (by simp[results,results51,go_sem,f0,f1,f2]) rfl ?_;exact⟨_,_,by rw[HOE.o,HOI.o];rfl,by rw[HOI.o];exact wZ.zero _ _,HB.o⟩
 ·have hg1:(ge==0)=false:=by simpa using hg
  have hg2:(ge !=0)=true:=by simpa using hg
  rw[Cq hg,Dy,Dy] at HOK;rw[HOK.o,Ag σ] at HOE HOI;have HZ:=hw2;clear hw2 HIK HAO HTK;obtain⟨o0,y0,f0,o1,y1,f1,o2,y2,f2,HB⟩:=xP2 HZ.o.o HZ.o.bel ω (.slice none 0 0) (.slice none 0 0) (.int .i64 0) _ rfl;clear HZ;go_wp2
  refine Ak (v:=.tuple #[.agg #[.slice none 0 0,.slice none 0 0,.int .i64 0],.int .i64 3]) (by simp[results,results51,go_sem,f0,f1,f2]) rfl ?_;exact⟨_,_,by rw[HOE.o,HOI.o];rfl,by rw[HOI.o];exact wZ.zero _ _,HB.o⟩
end Go.Proofs.VA
namespace Mailsack
abbrev rP (u pw xP xB xD:ByteArray) (r:Nat):vY:=xBp u (xV xD) 0 pw xP xB r xD
def xU2 (u pw xP xB xD:ByteArray) (r:Nat):List Ch:=[xRj (rP u pw xP xB xD r),xJ5 u xD xB (bsA (kC Go.Proofs.VA.qG))]
theorem xE6 {u pw xP xB xD:ByteArray} {r:Nat} (hu:zS u=true) (hf:uR xP xB xD (r:Int)=true):uL (rP u pw xP xB xD r)=true:=by
 unfold uR at hf;simp only[Au,Be] at hf;unfold uL;simp only[rP,xBp];rw[hu,hf.1];have h1:=kH (xEx pw xP r) xB (u++xV xD) xD;have h2:(xV xD).size=32:=wC _ _;rw[hf.2] at h1;simp[h1,h2];exact .inl rfl
end Mailsack
namespace Go.Proofs.VA
open Go.RowKit Mailsack MM BB SH SV RK DS IX Go.Proofs.ST
structure AdN (w:World) (va vb:Value) (D:Dk) (s n p:ByteArray) (r:Int) (W:World):Prop where
 d:W.heap[w.heap.size]?=some (yI va vb)
 f:W.heap[w.heap.size+1]?=some (uX s n p r)
 o:W.heap[w.heap.size+2]?=some (yI (.slice none 0 0) (.slice none 0 0))
 rd:RdD W W.heap.size va vb D
 bel:ψ w W
theorem AdN.below {w W W':World} {va vb:Value} {D:Dk} {s n p:ByteArray} {r:Int} (h:AdN w va vb D s n p r W) (hb:ψ W W'):AdN w va vb D s n p r W':=
 ⟨xC h.d hb (xH h.d),xC h.f hb (xH h.f),xC h.o hb (xH h.o),(h.rd.below hb ν).more hb.size,bT h.bel hb⟩
theorem AdN.drew {w W:World} {va vb:Value} {D:Dk} {s n p:ByteArray} {r:Int} (h:AdN w va vb D s n p r W):AdN w va vb D s n p r W.drew:=h.below (Aq _ W).drew
theorem xWj {w:World} {va vb:Value} {D:Dk} (h:RdD w w.heap.size va vb D) (s n p:ByteArray) (r:Int):AdN w va vb D s n p r (((w.alloc (yI va vb)).alloc (uX s n p r)).alloc (yI (.slice none 0 0) (.slice none 0 0))):=by
 have hb:=((φ w (yI va vb)).alloc σ (uX s n p r)).alloc (by simp;omega) (yI (.slice none 0 0) (.slice none 0 0));have h1:=xJ ((w.alloc (yI va vb)).alloc (uX s n p r)) (yI (.slice none 0 0) (.slice none 0 0));rw[Ec,Ec] at h1
 exact⟨xN (zM _ _ _) _,xN (zI _ _ _) _,h1,(h.below hb ν).more hb.size,hb⟩
theorem xG8 {W:World} {g:Nat} {A1 A2:Option Addr} {n1 c1 n2 c2:Nat} {ua ub:Value} {D:Dk} (ho:W.heap[g]?=some (yI (.slice A1 n1 c1) (.slice A2 n2 c2))) (hr:RdD W W.heap.size ua ub D):RdD ((W.setCell (θ g 0) ua).setCell (θ g 1) ub) ((W.setCell (θ g 0) ua).setCell (θ g 1) ub).heap.size ua ub D:=by
 have e0:=yD ho 0 ua;obtain⟨A3,c3,A4,c4,rfl,rfl⟩:=yC hr;have n0:=wQ ho
 have n1:xU4 (W.setCell (θ g 0) (.slice A3 D.secs.length c3)) g:=by
  simp only[Ba,Bh] at e0;exact wQ e0
 have:=RdD.far (RdD.far hr (p:=θ g 0) n0 (.slice A3 D.secs.length c3)) (p:=θ g 1) n1 (.slice A4 D.cache.length c4);simpa[size_set] using this
theorem yMb (va vb:Value) (d:Dk) (u pw xP xB xD:ByteArray) (r:Int) (w:World) (h:RdD w w.heap.size va vb d) (hu:u.size<=1000) (hf:(zS u&&uR xP xB xD r)=false):
  Calls prog 5 #[.agg #[va,vb],.string u,.string pw,xDe xP xB xD r] w (pv (.tuple #[.agg #[.slice none 0 0,.slice none 0 0],.int .i64 1]) w):=by
 obtain⟨A1,c1,A2,c2,rfl,rfl⟩:=yC h;have H0:=ι (xWj h xP xB xD r);have HMK:=ι (λW=>yGx u pw xP xB xD r W ω hf);clear h hu hf;simp only[xB1,uB] at HMK;go_enter func5,ntmps5;go_upto_region 1 with fail
 obtain⟨w1,hw1⟩:=eX (((w.alloc (yI (.slice A1 d.secs.length c1) (.slice A2 d.cache.length c2))).alloc (uX xP xB xD r)).alloc (yI (.slice none 0 0) (.slice none 0 0)));rw[hw1] at H0;rw[hw1];clear hw1;have hb:=H0.o.f;obtain⟨e0,e1,e2,e3⟩:=xW9 hb;clear hb;go_wp2_with fail
 refine cM (HMK.o _) λw2 hb2=>?_;have H2:=ι (H0.o.below hb2);clear H0 HMK hb2 e0 e1 e2 e3;go_upto_region 3 with fail
 have H3:=ι (H2.o.below ((Aq _ _).alloc ν (yV uB)));obtain⟨w3,hw3⟩:=eX (w2.alloc (yV uB));rw[hw3] at H3;simp only[yV,uB] at hw3;rw[hw3];clear hw3 H2;obtain⟨o0,y0,f0,o1,y1,f1,HB⟩:=xMk H3.o.o H3.o.bel ω (.slice none 0 0) (.slice none 0 0) _ rfl;clear H3
 rw[show w.heap.size+1+1=w.heap.size+2 from rfl];go_wp2;refine Ak (v:=.tuple #[.agg #[.slice none 0 0,.slice none 0 0],.int .i64 1]) (by simp[results,results5,go_sem,f0,f1]) rfl ?_;exact⟨rfl,HB.o⟩
theorem add_ok (va vb:Value) (d:Dk) (u pw xP xB xD:ByteArray) (r:Nat) (w:World) (h:RdD w w.heap.size va vb d) (hu:zS u=true) (hf:uR xP xB xD (r:Int)=true) (hpw:pw.size<=1000) (hg:xAe d (vD [117] u.data.toList)≠0) (hcc:d.cache.length<=10000) (hT:jE w):
  Calls prog 5 #[.agg #[va,vb],.string u,.string pw,xDe xP xB xD r] w λe w'=>∃va' vb',e=.returned (.tuple #[.agg #[va',vb'],.int .i64 (xAj d (xU2 u pw xP xB xD r))])/\RdD w' w'.heap.size va' vb' (vO d (xU2 u pw xP xB xD r))/\ψ w w':=by
 obtain⟨A1,c1,A2,c2,rfl,rfl⟩:=yC h;have hr:=xE6 (pw:=pw) hu hf;have hus:u.size<=8:=(tZ hr).2.1
 have hps:xD.size=32/\xB.size=12:=by
  unfold uR at hf;simp only[Au,Be] at hf;exact⟨hf.2,(tZ hr).2.2.2.2.2.2.2.2.1⟩
 have H0:=ι (xWj h xP xB xD (r:Int));have HMK:=ι (λW (hb:ψ w W)=>yKx u pw xP xB xD r W hu hf hpw (hT.below hb ν));have HUO:=ι (λW=>qW ⟨#[117]⟩ u W δ ω);rw[show(⟨#[117]⟩:ByteArray).data.toList=[117] from rfl] at HUO
 have HGE:=ι (λW (h:AdN w (.slice A1 d.secs.length c1) (.slice A2 d.cache.length c2) d xP xB xD r W)=>xO8 _ _ d (vD [117] u.data.toList) W h.rd);have HVA:=ι (λW=>xPb (rP u pw xP xB xD r) W hr);have HNW:=ι (λW=>yHc W)
 have HSE:=ι (λW (hb:ψ w W)=>xLm u xD xB (bsA (kC qG)) W ω ω hps.2 δ (hT.below hb ν));have HPU:=ι (λW (bv sv:Value) (h:xRk W W.heap.size bv sv qG)=>xNd bv sv qG W h δ δ δ)
 have HAP:=ι (λW lv (h:AdN w (.slice A1 d.secs.length c1) (.slice A2 d.cache.length c2) d xP xB xD r W) (hl:RdR 3 chF W W.heap.size lv (xU2 u pw xP xB xD r))=>xGf _ _ lv d (xU2 u pw xP xB xD r) W h.rd hl (show 2<=500 by decide) hcc (hT.below h.bel ν))
 have HAL:Hid (xU2 u pw xP xB xD r=[xRj (rP u pw xP xB xD r),xJ5 u xD xB (bsA (kC qG))]):=ι rfl;generalize hla:xU2 u pw xP xB xD r=la at HAP HAL⊢;clear hla;generalize xAj d la=ae at HAP⊢;generalize vO d la=pd at HAP⊢;generalize xRj (rP u pw xP xB xD r)=ca at HVA HAL
 generalize xJ5 u xD xB (bsA (kC qG))=cs at HSE HAL;generalize vD [117] u.data.toList=nm at HUO HGE hg;generalize xAe d nm=ge at HGE hg;generalize xOa d nm=gp at HGE;simp only[rP] at HVA HMK;generalize xBp u (xV xD) 0 pw xP xB r xD=na at HMK HVA
 rw[show xR (kC qG)=.string (bsA (kC qG)) from rfl] at HPU;generalize bsA (kC qG)=pn at HSE HPU;rw[show putE qG=0 by decide,show qG.given=2 from rfl] at HPU;obtain⟨tu,ts,tr,te,tp,tn,tw,to_⟩:=na;obtain⟨cn,cd,cg⟩:=ca;obtain⟨sn,sd,sg⟩:=cs;simp only[chV] at HVA HSE
 simp only[xB1] at HMK HVA;have hg1:(ge==0)=false:=by simpa using hg
 have hg2:(ge !=0)=true:=by simpa using hg
 clear h hu hf hpw hg hcc hT hr hus hps;go_enter func5,ntmps5;go_upto_region 1 with fail
 obtain⟨w1,hw1⟩:=eX (((w.alloc (yI (.slice A1 d.secs.length c1) (.slice A2 d.cache.length c2))).alloc (uX xP xB xD r)).alloc (yI (.slice none 0 0) (.slice none 0 0)));rw[hw1] at H0;rw[hw1];clear hw1;have hb:=H0.o.f;obtain⟨e0,e1,e2,e3⟩:=xW9 hb;clear hb;go_wp2_with fail
 refine cM (HMK.o _ H0.o.bel) λw2 hb2=>?_;have H2:=ι (H0.o.below hb2);clear H0 HMK hb2 e0 e1 e2 e3;go_upto_region 4 with fail
 have H3:Hid (AdN w (.slice A1 d.secs.length c1) (.slice A2 d.cache.length c2) d xP xB xD r (w2.alloc (yV ⟨tu,ts,tr,te,tp,tn,tw,to_⟩))/\(w2.alloc (yV ⟨tu,ts,tr,te,tp,tn,tw,to_⟩)).heap[w2.heap.size]?=some (yV ⟨tu,ts,tr,te,tp,tn,tw,to_⟩)):=ι ⟨H2.o.below ((Aq _ _).alloc ν _),xJ _ _⟩
 obtain⟨w3,hw3⟩:=eX (w2.alloc (yV ⟨tu,ts,tr,te,tp,tn,tw,to_⟩));rw[hw3] at H3;simp only[yV] at hw3 H3;rw[hw3];clear hw3 H2;generalize w2.heap.size=g2 at H3⊢
 refine RG.xU (λW=>Hid (AdN w (.slice A1 d.secs.length c1) (.slice A2 d.cache.length c2) d xP xB xD r W/\W.heap[g2]?=some (yV ⟨tu,ts,tr,te,tp,tn,tw,to_⟩))) κ κ (ι ⟨H3.o.1.drew,H3.o.2⟩) ?_;iterate 2 refine RG.dF (λw9 hw9=>uQ hw9.o.1.d) ?_
 apply RG.xL
 ·intro w9 hw9;repeat go_step
  refine(HUO.o _).mono ?_;rintro e w10 ⟨rfl,rfl⟩;simp only[];repeat go_step
  exact RG.xE hw9
 ·rfl
 apply RG.xL
 ·intro w9 hw9;repeat go_step
  refine(HGE.o _ hw9.o.1).mono ?_;rintro e w10 ⟨rfl,zO⟩;simp only[];repeat go_step
  refine RG.xE ?_;exact ι ⟨hw9.o.1.below zO,xC hw9.o.2 zO (xH hw9.o.2)⟩
 ·rfl
 iterate 5 refine RG.dS ?_
 refine RG.xX (λw4 hw4=>?_);clear H3 HUO HGE;have H4:=hw4;clear hw4;go_upto_region 7 with fail
 have hb:=H4.o.2;obtain⟨a0,a1,a2,a3,a4,a5,a6,a7⟩:=xYs hb;clear hb;go_wp2_with fail
 refine cM (HVA.o _) λw5 hb5=>?_;have H5:=ι (H4.o.1.below hb5);clear hb5 H4 HVA a0 a1 a2 a3 a4 a5 a6 a7;go_upto_region 10 with fail
 have H6:Hid (AdN w (.slice A1 d.secs.length c1) (.slice A2 d.cache.length c2) d xP xB xD r (w5.alloc (chO ⟨cn,cd,cg⟩))/\(w5.alloc (chO ⟨cn,cd,cg⟩)).heap[w5.heap.size]?=some (chO ⟨cn,cd,cg⟩)):=ι ⟨H5.o.below ((Aq _ _).alloc ν _),xJ _ _⟩
 obtain⟨w6,hw6⟩:=eX (w5.alloc (chO ⟨cn,cd,cg⟩));rw[hw6] at H6;simp only[chO] at hw6 H6;rw[hw6];clear hw6 H5;generalize w5.heap.size=g5 at H6⊢;go_wp2_with fail
 refine(HNW.o _).mono ?_;rintro e w7 ⟨bv,sv,rfl,ho,hb7⟩;obtain⟨A3,n3,k3,A4,n4,k4,rfl,rfl⟩:=ho.form;have H7:=ι (Ai (H6.o.1.below hb7) (xC H6.o.2 hb7 (xH H6.o.2)));have HO:=ι (HPU.o w7 _ _ (ho.rd));clear hb7 ho H6 HNW HPU;go_wp2_with fail
 refine HO.o.mono ?_;rintro e w8 ⟨rfl,hb8⟩;have H8:=ι (Ai (H7.o.1.below hb8) (xC H7.o.2 hb8 (xH H7.o.2)));clear hb8 HO H7;go_upto_region 13 with fail
 have hb:=H8.o.1.f;obtain⟨e0,e1,e2,e3⟩:=xW9 hb;clear hb;go_wp2_with fail
 refine cM (HSE.o _ H8.o.1.bel) λw9 hb9=>?_
 have H9:Hid (AdN w (.slice A1 d.secs.length c1) (.slice A2 d.cache.length c2) d xP xB xD r (w9.alloc (chO ⟨sn,sd,sg⟩))/\(w9.alloc (chO ⟨sn,sd,sg⟩)).heap[g5]?=some (chO ⟨cn,cd,cg⟩)/\(w9.alloc (chO ⟨sn,sd,sg⟩)).heap[w9.heap.size]?=some (chO ⟨sn,sd,sg⟩)):=ι ⟨(H8.o.1.below hb9).below ((Aq _ _).alloc ν _),xN (xC H8.o.2 hb9 (xH H8.o.2)) _,xJ _ _⟩
 clear hb9 H8 HSE e0 e1 e2 e3;go_upto_region 16 with fail
 obtain⟨w10,yCx⟩:=eX (w9.alloc (chO ⟨sn,sd,sg⟩));rw[yCx] at H9;simp only[chO,xR] at yCx H9;rw[yCx];clear yCx;generalize w9.heap.size=g9 at H9⊢;have hb:=H9.o.1.d;obtain⟨e0,e1⟩:=uQ hb;clear hb;have hb:=H9.o.2.1;obtain⟨y0,y1,y2⟩:=xAs hb;clear hb;have hb:=H9.o.2.2
 obtain⟨z0,z1,z2⟩:=xAs hb;clear hb;go_wp2_with fail
 have HL:Hid (AdN w (.slice A1 d.secs.length c1) (.slice A2 d.cache.length c2) d xP xB xD r (w10.alloc (.cells #[xR cn,xR cd,.bool cg,xR sn,xR sd,.bool sg] 63))/\RdR 3 chF (w10.alloc (.cells #[xR cn,xR cd,.bool cg,xR sn,xR sd,.bool sg] 63)) (w10.alloc (.cells #[xR cn,xR cd,.bool cg,xR sn,xR sd,.bool sg] 63)).heap.size (.slice (some (θ w10.heap.size 0)) 2 2) la):=ι ⟨H9.o.1.below ((Aq _ _).alloc ν _),by
  rw[HAL.o,Ec];exact RdR.lit (m:=[⟨cn,cd,cg⟩,⟨sn,sd,sg⟩]) (f:=chF) (λ_=>rfl) w10 #[xR cn,xR cd,.bool cg,xR sn,xR sd,.bool sg] rfl⟩
 clear e0 e1 y0 y1 y2 z0 z1 z2 H9;refine(HAP.o _ _ HL.o.1 HL.o.2).mono ?_;rintro e w11 ⟨va',vb',rfl,hrd,hb11⟩;have H11:=ι (HL.o.1.below hb11);obtain⟨A5,k5,A6,k6,rfl,rfl⟩:=yC hrd;have HS:=ι (xG8 H11.o.o hrd);clear hb11 HL HAP HAL hrd
 obtain⟨o0,y0,f0,o1,y1,f1,HB⟩:=xMk H11.o.o H11.o.bel ω (.slice A5 pd.secs.length k5) (.slice A6 pd.cache.length k6) _ rfl;clear H11;rw[show w.heap.size+1+1=w.heap.size+2 from rfl];go_wp2
 refine Ak (v:=.tuple #[.agg #[.slice A5 pd.secs.length k5,.slice A6 pd.cache.length k6],.int .i64 ae]) (by simp[results,results5,go_sem,f0,f1]) rfl ?_;exact⟨_,_,rfl,HS.o,HB.o⟩
abbrev qE (u p o:ByteArray) (ep:Int) (bv sv:Value) (g:Int):Obj:=.cells #[.string u,.string p,.string o,.int .i64 ep,bv,sv,.int .i64 g] 50
abbrev xXa (u p o:ByteArray) (ep:Int) (bv sv:Value) (g:Int):Value:=.agg #[.string u,.string p,.string o,.int .i64 ep,bv,sv,.int .i64 g]
abbrev jK:Obj:=qE ⟨#[]⟩ ⟨#[]⟩ ⟨#[]⟩ 0 (.slice none 0 0) (.slice none 0 0) 0
abbrev wO:Obj:=yI (.slice none 0 0) (.slice none 0 0)
structure MgN (w:World) (va vb:Value) (so:Obj) (b1 b2:Bool) (W:World):Prop where
 d:W.heap[w.heap.size]?=some (yI va vb)
 s:W.heap[w.heap.size+1]?=some so
 o1:W.heap[w.heap.size+2]?=some (if b1=true then so else jK)
 o2:W.heap[w.heap.size+3]?=some (if b2=true then yI va vb else wO)
 bel:ψ w W
theorem MgN.below {w W W':World} {va vb:Value} {so:Obj} {b1 b2:Bool} (h:MgN w va vb so b1 b2 W) (hb:ψ W W'):MgN w va vb so b1 b2 W':=
 ⟨xC h.d hb (xH h.d),xC h.s hb (xH h.s),xC h.o1 hb (xH h.o1),xC h.o2 hb (xH h.o2),bT h.bel hb⟩
theorem xV3 (w:World) (va vb:Value) (so:Obj):MgN w va vb so false false ((((w.alloc (yI va vb)).alloc so).alloc jK).alloc wO):=by
 have hb:=(((φ w (yI va vb)).alloc σ so).alloc (by simp;omega) jK).alloc (by simp;omega) wO;have h1:=xJ ((w.alloc (yI va vb)).alloc so) jK;have h2:=xJ (((w.alloc (yI va vb)).alloc so).alloc jK) wO;simp only[Ec] at h1 h2
 exact⟨xN (xN (zM _ _ _) _) _,xN (xN (zI _ _ _) _) _,xN h1 _,h2,hb⟩
end Go.Proofs.VA
namespace Mailsack
theorem xZh (a b:Nat) (ha:a<256) (hb:b<256):Go.bits .xor .u8 (a:Int) (b:Int)=((a ^^^b:Nat):Int):=by
 have hx:a ^^^b<2^8:=Nat.xor_lt_two_pow ω ω
 have h1:(BitVec.ofInt 8 (a:Int)).toNat=a:=by
  rw[Ey,Fy];exact Dx ω
 have h2:(BitVec.ofInt 8 (b:Int)).toNat=b:=by
  rw[Ey,Fy];exact Dx ω
 show Go.IntKind.u8.wrap ((BitVec.ofInt 8 (a:Int) ^^^BitVec.ofInt 8 (b:Int)).toNat:Int)=_;rw[BitVec.toNat_xor,h1,h2,Go.IntKind.wrap_u8];omega
theorem yBs (n:Nat) (h:n<256):(oct (n:Int)).toNat=n:=by
 have:=wW (n:Int);omega
theorem yF6 (a b:UInt8):oct (Go.bits .xor .u8 ((oct (Go.bits .xor .u8 (a.toNat:Int) (b.toNat:Int))).toNat:Int) (b.toNat:Int))=a:=by
 have ha:=a.toNat_lt;have hb:=b.toNat_lt;have hx:a.toNat ^^^b.toNat<256:=Nat.xor_lt_two_pow (n:=8) ha hb;rw[xZh _ _ ha hb,yBs _ hx,xZh _ _ hx hb,Nat.xor_assoc,Nat.xor_self,Nat.xor_zero];exact UInt8.toNat_inj.1 (yBs _ ha)
theorem xMy (l:Bs) (off:Nat) (blk:Bs):∀i,off+i<=l.length->∀j,(xRz l off blk i).getD j 0=if off<=j/\j<off+i then oct (Go.bits .xor .u8 ((l.getD j 0).toNat:Int) ((blk.getD (j-off) 0).toNat:Int)) else l.getD j 0
 |0,_,j=>by rw[xRz,Ag ω]
 |i+1,h,j=>by
  rw[xRz,Aa,Co]
  by_cases hj:off+i=j
  ·subst hj;rw[Ah rfl,Ah (by rw[xHy];omega),Hq,xMy l off blk i ω (off+i),Ag ω,Ah ω,show off+i-off=i by omega]
  ·rw[Ag hj,<-Aa,xMy l off blk i ω j]
   by_cases h2:off<=j/\j<off+i
   ·rw[Ah h2,Ah ω]
   ·rw[Ag h2,Ag ω]
theorem xIr (l:Bs) (xs:List Int):∀k,64*k<l.length+64->∀j,(xEe l xs k).getD j 0=if j<64*k/\j<l.length then oct (Go.bits .xor .u8 ((l.getD j 0).toNat:Int) (((xAf (rH xs (j / 64))).getD (j % 64) 0).toNat:Int)) else l.getD j 0
 |0,_,j=>by rw[xEe,Ag ω]
 |k+1,h,j=>by
  rw[xEe,xMy _ _ _ _ (by rw[xFd];omega) j,xIr l xs k ω j]
  by_cases h1:64*k<=j/\j<64*k+min 64 (l.length-64*k)
  ·rw[Ah h1,Ag ω,Ah ω,show j / 64=k by omega,show j % 64=j-64*k by omega]
  ·rw[Ag h1]
   by_cases h2:j<64*k/\j<l.length
   ·rw[Ah h2,Ah ω]
   ·rw[Ag h2,Ag ω]
theorem xMm (key xB:ByteArray) (c:Int) (s:ByteArray):bsA (wS key xB c (bsA (wS key xB c s)))=s:=by
 have hl:s.data.toList.length=s.size:=σ
 have h:wS key xB c (bsA (wS key xB c s))=s.data.toList:=by
  have hsz:(bsA (wS key xB c s)).size=s.size:=by rw[yS,kP]
  have hd:(bsA (wS key xB c s)).data.toList=wS key xB c s:=by simp[bsA]
  apply Dt;intro j
  by_cases hj:j<s.size
  ·have e1:(wS key xB c (bsA (wS key xB c s)))[j]?=some ((wS key xB c (bsA (wS key xB c s))).getD j 0):=by
    rw[Aa,Af (by rw[kP,hsz];exact hj)]
    rfl
   have e2:s.data.toList[j]?=some (s.data.toList.getD j 0):=by
    rw[Aa,Af (by rw[hl];exact hj)]
    rfl
   rw[e1,e2]
   congr 1
   have g1:(wS key xB c (bsA (wS key xB c s))).getD j 0=oct (Go.bits .xor .u8 (((wS key xB c s).getD j 0).toNat:Int) (((xAf (rH (xAi key xB c) (j / 64))).getD (j % 64) 0).toNat:Int)):=by
    rw[wS,hd,hsz,xIr _ _ _ (by rw[kP];omega) j,Ah ⟨ω,by rw[kP];exact hj⟩]
   have g2:(wS key xB c s).getD j 0=oct (Go.bits .xor .u8 ((s.data.toList.getD j 0).toNat:Int) (((xAf (rH (xAi key xB c) (j / 64))).getD (j % 64) 0).toNat:Int)):=by
    rw[wS,xIr _ _ _ (by rw[hl];omega) j,Ah ⟨ω,by rw[hl];exact hj⟩]
   rw[g1,g2];exact yF6 _ _
  ·rw[Bz (by rw[kP,hsz];omega),Bz (by rw[hl];omega)]
 rw[h]
 rfl
end Mailsack
namespace Mailsack
open Go.Proofs.SH
theorem xRy (a:Nat) (ha:a<256):Go.bits .xor .u8 (a:Int) (a:Int)=0:=by
 rw[xZh _ _ ha ha,Nat.xor_self]
 rfl
theorem xMh (a:ByteArray):∀k,xH1 a a k=0
 |0=>rfl
 |k+1=>by
  rw[xH1,xMh a k];obtain⟨h0,h1⟩:=zD a k;obtain⟨n,hn⟩:=Ct h0;rw[hn,xRy n ω]
  decide
theorem xGm (a:ByteArray):xBe a a=true:=by
 unfold xBe;rw[xMh];simp
def unlK (a:vY) (pw:ByteArray):ByteArray:=xEx pw a.xP a.rounds.toNat
def w32 (wr:ByteArray):ByteArray:=wr.extract 0 32
def w16 (wr:ByteArray):ByteArray:=wr.extract 32 48
theorem yA0 {wr:ByteArray} (h:wr.size=48):w32 wr++w16 wr=wr:=by
 unfold w32 w16;rw[ByteArray.extract_append_extract];simp;rw[<-h];exact ByteArray.extract_zero_size
theorem xHz {wr:ByteArray} (h:wr.size=48):(w32 wr).size=32:=by simp[w32,Az];omega
theorem xUb {wr:ByteArray} (h:wr.size=48):(w16 wr).size=16:=by simp[w16,Az];omega
def xS7 (a:vY) (pw:ByteArray):Bool:=xBe (kF (unlK a pw) a.xB (a.user++a.pub) (w32 a.wrapped)) (w16 a.wrapped)
def qQ (a:vY) (pw:ByteArray):ByteArray:=bsA (wS (unlK a pw) a.xB 1 (w32 a.wrapped))
def yKm (a:vY) (pw:ByteArray):Bool:=xBe (kF (kV (qQ a pw)) a.xB a.pub (w32 a.old)) (w16 a.old)
def xPd (a:vY) (pw:ByteArray):ByteArray:=bsA (wS (kV (qQ a pw)) a.xB 1 (w32 a.old))
theorem xHe {a:vY} {pw:ByteArray} (h:a.wrapped.size=48):(qQ a pw).size=32:=by rw[qQ,yS,kP,xHz h]
def xKw (a:vY) (pw:ByteArray):Int:=
 if uL a=false then 1 else if xS7 a pw=false then 10 else if xBe (xV (qQ a pw)) a.pub=false then 10 else if a.old.size=0 then 0 else if yKm a pw=false then 3 else 0
def xOw (a:vY) (pw:ByteArray):List ByteArray:=if xKw a pw=0 then(if a.old.size=0 then[qQ a pw] else[qQ a pw,xPd a pw]) else[]
end Mailsack
namespace Go.Proofs.SH
open Go.RowKit Mailsack MM BB SV FE
theorem xX0 (a:vY) (pw:ByteArray) (w:World) (hu:a.user.size<=1000) (hpw:pw.size<=1000000) (hT:jE w):
  Calls prog 50 #[xB1 a,.string pw] w λe w'=>∃v,e=.returned (.tuple #[v,.int .i64 (xKw a pw)])/\RdS w' w'.heap.size v ((xOw a pw).map (·.data.toList))/\ψ w w':=by
 have HR:=ι (λW=>xGp a W ω);have H0:=ι (Ai (φ w (yV a)) (xJ w (yV a)));have HT:=ι (λW (h:ψ w W)=>hT.below h ν);obtain⟨u,s,r,ep,pb,n,wr,o⟩:=a;simp only[yV,xB1] at H0 HR hu⊢
 have HUE:Hid (xKw ⟨u,s,r,ep,pb,n,wr,o⟩ pw=if uL ⟨u,s,r,ep,pb,n,wr,o⟩=false then 1 else if xS7 ⟨u,s,r,ep,pb,n,wr,o⟩ pw=false then 10 else if xBe (xV (qQ ⟨u,s,r,ep,pb,n,wr,o⟩ pw)) pb=false then 10 else if o.size=0 then 0 else if yKm ⟨u,s,r,ep,pb,n,wr,o⟩ pw=false then 3 else 0):=ι rfl
 have HUL:Hid (xOw ⟨u,s,r,ep,pb,n,wr,o⟩ pw=if xKw ⟨u,s,r,ep,pb,n,wr,o⟩ pw=0 then(if o.size=0 then[qQ ⟨u,s,r,ep,pb,n,wr,o⟩ pw] else[qQ ⟨u,s,r,ep,pb,n,wr,o⟩ pw,xPd ⟨u,s,r,ep,pb,n,wr,o⟩ pw]) else[]):=ι rfl;clear hT;cases hr:uL ⟨u,s,r,ep,pb,n,wr,o⟩ with
 |false=>
  have e1:xKw ⟨u,s,r,ep,pb,n,wr,o⟩ pw=1:=by rw[HUE.o,hr];rfl
  have e2:xOw ⟨u,s,r,ep,pb,n,wr,o⟩ pw=[]:=by rw[HUL.o,e1];rfl
  rw[hr] at HR;rw[e1,e2];clear HUE HUL HT hr;go_enter func50,ntmps50;go_wp2_with fail
  refine cM (HR.o _) λw1 hb1=>?_;have B1:=ι (bT H0.o.1 hb1);clear hb1 HR H0;go_wp2;go_ret2;exact⟨_,rfl,(xWm.nil _ 0).rd,B1.o⟩
 |true=>
  have hl:=tZ hr;simp only at hl;rw[hr] at HR HUE;obtain⟨l1,l2,l3,l4,l5,l6,l7,l8,l9,l10,l11⟩:=hl;obtain⟨rn,hrn⟩:∃rn:Nat,r=(rn:Int):=⟨r.toNat,ω⟩;subst hrn;have HP:=ι (λW h=>xHh pw s rn W ω ω ω ω h);have hpz:=xLz pw s rn;have eK:xEx pw s rn=unlK ⟨u,s,(rn:Int),ep,pb,n,wr,o⟩ pw:=rfl
  have hws:=yA0 l10;have hw1:=xHz l10;have hw2:=xUb l10;have HOY:=λ(h:xS7 ⟨u,s,(rn:Int),ep,pb,n,wr,o⟩ pw=true)=>ι (λW=>xNn (xEx pw s rn) n (u++pb) (w32 wr) (w16 wr) W hpz l9 (by rw[Aw];omega) ω hw2 h)
  have HON:=λ(h:xS7 ⟨u,s,(rn:Int),ep,pb,n,wr,o⟩ pw=false)=>ι (λW=>xSu (xEx pw s rn) n (u++pb) (w32 wr) (w16 wr) W hpz l9 (by rw[Aw];omega) ω hw2 h);rw[hws] at HOY HON;have eP:bsA (wS (xEx pw s rn) n 1 (w32 wr))=qQ ⟨u,s,(rn:Int),ep,pb,n,wr,o⟩ pw:=rfl
  rw[eP] at HOY;have hpz2:=xHe (a:=⟨u,s,(rn:Int),ep,pb,n,wr,o⟩) (pw:=pw) l10;have nb:¬(9223372036854775807<u.size+pb.size):=ω;have HQ:Hid (yKm ⟨u,s,(rn:Int),ep,pb,n,wr,o⟩ pw=xBe (kF (kV (qQ ⟨u,s,(rn:Int),ep,pb,n,wr,o⟩ pw)) n pb (w32 o)) (w16 o)):=ι rfl
  have HQ2:Hid (xPd ⟨u,s,(rn:Int),ep,pb,n,wr,o⟩ pw=bsA (wS (kV (qQ ⟨u,s,(rn:Int),ep,pb,n,wr,o⟩ pw)) n 1 (w32 o))):=ι rfl;clear eK eP hws hw1 hw2;generalize xEx pw s rn=key at HP HOY HON;generalize qQ ⟨u,s,(rn:Int),ep,pb,n,wr,o⟩ pw=xD at HOY hpz2 HUE HUL HQ HQ2
  have HPU:=ι (λW=>xDz xD W hpz2);have yLh:(xV xD).size=32:=wC _ _;have HM:=ι (λW=>xNa (xV xD) pb W ω);cases hok:xS7 ⟨u,s,(rn:Int),ep,pb,n,wr,o⟩ pw with
  |false=>
   have HO:=HON hok;have e1:xKw ⟨u,s,(rn:Int),ep,pb,n,wr,o⟩ pw=10:=by rw[HUE.o,hok];rfl
   have e2:xOw ⟨u,s,(rn:Int),ep,pb,n,wr,o⟩ pw=[]:=by rw[HUL.o,e1];rfl
   rw[e1,e2];clear HUE HUL HQ HQ2 hr hok HON HOY l1 l2 l3 l4 l5 l6 l7 l8 l9 l10 l11 hpz hpz2 yLh HM HPU;go_enter func50,ntmps50;go_wp2_with fail
   refine cM (HR.o _) λw1 hb1=>?_;have B1:=ι (bT H0.o.1 hb1);have HK1:=ι (xC H0.o.2 hb1 (xH H0.o.2));clear hb1 HR H0;obtain⟨c0,c1,c2⟩:=xAs HK1.o;go_wp2_with fail
   clear c0 c1 c2;refine cM (HP.o _ (HT.o _ B1.o)) λw2 hb2=>?_;have B2:=ι (bT B1.o hb2);have HK2:=ι (xC HK1.o hb2 (xH HK1.o));clear hb2 HP HK1 B1;obtain⟨c0,c1,c2,c3,c4,c5,c6⟩:=xAr HK2.o;go_wp2_with fail
   clear c0 c1 c2 c3 c4 c5 c6;refine cM (HO.o _) λw3 hb3=>?_;have B3:=ι (bT B2.o hb3);have HK3:=ι (xC HK2.o hb3 (xH HK2.o));clear hb3 HO HK2 B2;go_wp2;go_ret2;exact⟨_,rfl,(xWm.nil _ 0).rd,B3.o⟩
  |true=>
   have HO:=HOY hok;rw[hok,Ag σ,Ag σ] at HUE;clear hok HON HOY hr;cases hsm:xBe (xV xD) pb with
   |false=>
    rw[hsm] at HM HUE;rw[Ah rfl] at HUE;have e2:xOw ⟨u,s,(rn:Int),ep,pb,n,wr,o⟩ pw=[]:=by rw[HUL.o,HUE.o];rfl
    rw[HUE.o,e2];clear HUE HUL HQ HQ2 hsm l1 l2 l3 l4 l5 l6 l7 l8 l9 l10 l11 hpz hpz2 yLh;generalize xV xD=pubv at HPU HM;go_enter func50,ntmps50;go_wp2_with fail
    refine cM (HR.o _) λw1 hb1=>?_;have B1:=ι (bT H0.o.1 hb1);have HK1:=ι (xC H0.o.2 hb1 (xH H0.o.2));clear hb1 HR H0;obtain⟨c0,c1,c2⟩:=xAs HK1.o;go_wp2_with fail
    clear c0 c1 c2;refine cM (HP.o _ (HT.o _ B1.o)) λw2 hb2=>?_;have B2:=ι (bT B1.o hb2);have HK2:=ι (xC HK1.o hb2 (xH HK1.o));clear hb2 HP HK1 B1;obtain⟨c0,c1,c2,c3,c4,c5,c6⟩:=xAr HK2.o;go_wp2_with fail
    clear c0 c1 c2 c3 c4 c5 c6;refine cM (HO.o _) λw3 hb3=>?_;have B3:=ι (bT B2.o hb3);have HK3:=ι (xC HK2.o hb3 (xH HK2.o));clear hb3 HO HK2 B2;go_wp2_with fail
    refine cM (HPU.o _) λw4 hb4=>?_;have B4:=ι (bT B3.o hb4);have HK4:=ι (xC HK3.o hb4 (xH HK3.o));clear hb4 HPU HK3 B3;obtain⟨c0,c1,c2,c3,c4⟩:=xZe HK4.o;go_wp2_with fail
    clear c0 c1 c2 c3 c4;refine cM (HM.o _) λw5 hb5=>?_;have B5:=ι (bT B4.o hb5);have HK5:=ι (xC HK4.o hb5 (xH HK4.o));clear hb5 HM HK4 B4;go_wp2;go_ret2;exact⟨_,rfl,(xWm.nil _ 0).rd,B5.o⟩
   |true=>
    rw[hsm] at HM HUE;rw[Ag σ] at HUE
    by_cases ho:o.size=0
    ·rw[Ah ho] at HUE;have e2:xOw ⟨u,s,(rn:Int),ep,pb,n,wr,o⟩ pw=[xD]:=by rw[HUL.o,HUE.o,Ah rfl,Ah ho]
     rw[HUE.o,e2];have i6:(o.toList==[])=true:=by rw[Br];simp;exact Ef ho
     clear HUE HUL HQ HQ2 hsm l1 l2 l3 l4 l5 l6 l7 l8 l9 l10 l11 hpz hpz2 yLh ho;generalize xV xD=pubv at HPU HM;go_enter func50,ntmps50;go_wp2_with fail
     refine cM (HR.o _) λw1 hb1=>?_;have B1:=ι (bT H0.o.1 hb1);have HK1:=ι (xC H0.o.2 hb1 (xH H0.o.2));clear hb1 HR H0;obtain⟨c0,c1,c2⟩:=xAs HK1.o;go_wp2_with fail
     clear c0 c1 c2;refine cM (HP.o _ (HT.o _ B1.o)) λw2 hb2=>?_;have B2:=ι (bT B1.o hb2);have HK2:=ι (xC HK1.o hb2 (xH HK1.o));clear hb2 HP HK1 B1;obtain⟨c0,c1,c2,c3,c4,c5,c6⟩:=xAr HK2.o;go_wp2_with fail
     clear c0 c1 c2 c3 c4 c5 c6;refine cM (HO.o _) λw3 hb3=>?_;have B3:=ι (bT B2.o hb3);have HK3:=ι (xC HK2.o hb3 (xH HK2.o));clear hb3 HO HK2 B2;go_wp2_with fail
     refine cM (HPU.o _) λw4 hb4=>?_;have B4:=ι (bT B3.o hb4);have HK4:=ι (xC HK3.o hb4 (xH HK3.o));clear hb4 HPU HK3 B3;obtain⟨c0,c1,c2,c3,c4⟩:=xZe HK4.o;go_wp2_with fail
     clear c0 c1 c2 c3 c4;refine cM (HM.o _) λw5 hb5=>?_;have B5:=ι (bT B4.o hb5);have HK5:=ι (xC HK4.o hb5 (xH HK4.o));clear hb5 HM HK4 B4;obtain⟨c0,c1,c2,c3,c4,c5,c6,c7⟩:=xYs HK5.o;have B6:=ι (B5.o.alloc B5.o.size (.cells #[.string xD] 9))
     have hk6:=xA (xJ w5 (.cells #[.string xD] 9)) 0;have HK6:=ι hk6;clear hk6;go_wp2;go_ret2;refine⟨_,rfl,⟨_,_,rfl,Bd _,λ_=>⟨_,_,rfl,σ,λj x hx=>?_⟩⟩,B6.o⟩
     have hj:j=0:=by
      have:=(Ar.1 hx).1;simpa using this
     subst hj;injection hx with hx;subst hx;exact HK6.o
    ·rw[Ag ho] at HUE
     have i6:(o.toList==[])=false:=by
      rw[Br];cases hx:(o.data.toList==[]) with
      |false=>rfl
      |true=>
       simp only[Gz] at hx;exact absurd (show o.data.size=0 by rw[<-Cu,hx];rfl) ho
     have l48:o.size=48:=ω;have hws:=yA0 l48;have hw1:=xHz l48;have hw2:=xUb l48;have HOK:=ι (λW h=>xXs xD W ω h);have hkz:=xPy xD;have HOY:=λ(h:xBe (kF (kV xD) n pb (w32 o)) (w16 o)=true)=>ι (λW=>xNn (kV xD) n pb (w32 o) (w16 o) W hkz l9 ω ω hw2 h)
     have HON:=λ(h:xBe (kF (kV xD) n pb (w32 o)) (w16 o)=false)=>ι (λW=>xSu (kV xD) n pb (w32 o) (w16 o) W hkz l9 ω ω hw2 h);rw[hws,<-HQ2.o] at HOY;rw[hws] at HON;rw[HQ.o] at HUE;have HO1:=HO
     have hE:xKw ⟨u,s,(rn:Int),ep,pb,n,wr,o⟩ pw=if xBe (kF (kV xD) n pb (w32 o)) (w16 o)=false then 3 else 0:=HUE.o;rw[hE] at HUL;rw[hE];clear hE HUE HQ hws hw1 hw2 l1 l2 l3 l4 l5 l6 l7 l8 l9 l10 l11 hsm;generalize xPd ⟨u,s,(rn:Int),ep,pb,n,wr,o⟩ pw=old at HOY HUL HQ2
     generalize xV xD=pubv at HPU HM yLh;clear HQ2 yLh hpz hkz hpz2 HO;cases hs2:xBe (kF (kV xD) n pb (w32 o)) (w16 o) with
     |false=>
      have HOP:=HON hs2;rw[hs2,Ah rfl,Ag ω] at HUL;rw[HUL.o,Ah rfl];clear hs2 HON HOY HUL;generalize kV xD=k2 at HOK HOP;have HO:=HO1;clear HO1 ho;go_enter func50,ntmps50;go_wp2_with fail
      refine cM (HR.o _) λw1 hb1=>?_;have B1:=ι (bT H0.o.1 hb1);have HK1:=ι (xC H0.o.2 hb1 (xH H0.o.2));clear hb1 HR H0;obtain⟨c0,c1,c2⟩:=xAs HK1.o;go_wp2_with fail
      clear c0 c1 c2;refine cM (HP.o _ (HT.o _ B1.o)) λw2 hb2=>?_;have B2:=ι (bT B1.o hb2);have HK2:=ι (xC HK1.o hb2 (xH HK1.o));clear hb2 HP HK1 B1;obtain⟨c0,c1,c2,c3,c4,c5,c6⟩:=xAr HK2.o;go_wp2_with fail
      clear c0 c1 c2 c3 c4 c5 c6;refine cM (HO.o _) λw3 hb3=>?_;have B3:=ι (bT B2.o hb3);have HK3:=ι (xC HK2.o hb3 (xH HK2.o));clear hb3 HO HK2 B2;go_wp2_with fail
      refine cM (HPU.o _) λw4 hb4=>?_;have B4:=ι (bT B3.o hb4);have HK4:=ι (xC HK3.o hb4 (xH HK3.o));clear hb4 HPU HK3 B3;obtain⟨c0,c1,c2,c3,c4⟩:=xZe HK4.o;go_wp2_with fail
      clear c0 c1 c2 c3 c4;refine cM (HM.o _) λw5 hb5=>?_;have B5:=ι (bT B4.o hb5);have HK5:=ι (xC HK4.o hb5 (xH HK4.o));clear hb5 HM HK4 B4;obtain⟨c0,c1,c2,c3,c4,c5,c6,c7⟩:=xYs HK5.o;go_wp2_with fail
      clear c0 c1 c2 c3 c4 c5 c6 c7;refine cM (HOK.o _ (HT.o _ B5.o)) λw6 hb6=>?_;have B6:=ι (bT B5.o hb6);have HK6:=ι (xC HK5.o hb6 (xH HK5.o));clear hb6 HOK HK5 B5;obtain⟨c0,c1,c2,c3,c4,c5,c6,c7⟩:=xYs HK6.o;go_wp2_with fail
      clear c0 c1 c2 c3 c4 c5 c6 c7;refine cM (HOP.o _) λw7 hb7=>?_;have B7:=ι (bT B6.o hb7);clear hb7 HOP B6 HK6;go_wp2;go_ret2;exact⟨_,rfl,(xWm.nil _ 0).rd,B7.o⟩
     |true=>
      have HOP:=HOY hs2;rw[hs2,show(if true=false then(3:Int) else 0)=0 from rfl,Ah rfl,Ag ho] at HUL;rw[HUL.o,show(if true=false then(3:Int) else 0)=0 from rfl];clear hs2 HON HOY HUL;generalize kV xD=k2 at HOK HOP;have HO:=HO1;clear HO1 ho
      go_enter func50,ntmps50;go_wp2_with fail
      refine cM (HR.o _) λw1 hb1=>?_;have B1:=ι (bT H0.o.1 hb1);have HK1:=ι (xC H0.o.2 hb1 (xH H0.o.2));clear hb1 HR H0;obtain⟨c0,c1,c2⟩:=xAs HK1.o;go_wp2_with fail
      clear c0 c1 c2;refine cM (HP.o _ (HT.o _ B1.o)) λw2 hb2=>?_;have B2:=ι (bT B1.o hb2);have HK2:=ι (xC HK1.o hb2 (xH HK1.o));clear hb2 HP HK1 B1;obtain⟨c0,c1,c2,c3,c4,c5,c6⟩:=xAr HK2.o;go_wp2_with fail
      clear c0 c1 c2 c3 c4 c5 c6;refine cM (HO.o _) λw3 hb3=>?_;have B3:=ι (bT B2.o hb3);have HK3:=ι (xC HK2.o hb3 (xH HK2.o));clear hb3 HO HK2 B2;go_wp2_with fail
      refine cM (HPU.o _) λw4 hb4=>?_;have B4:=ι (bT B3.o hb4);have HK4:=ι (xC HK3.o hb4 (xH HK3.o));clear hb4 HPU HK3 B3;obtain⟨c0,c1,c2,c3,c4⟩:=xZe HK4.o;go_wp2_with fail
      clear c0 c1 c2 c3 c4;refine cM (HM.o _) λw5 hb5=>?_;have B5:=ι (bT B4.o hb5);have HK5:=ι (xC HK4.o hb5 (xH HK4.o));clear hb5 HM HK4 B4;obtain⟨c0,c1,c2,c3,c4,c5,c6,c7⟩:=xYs HK5.o;go_wp2_with fail
      clear c0 c1 c2 c3 c4 c5 c6 c7;refine cM (HOK.o _ (HT.o _ B5.o)) λw6 hb6=>?_;have B6:=ι (bT B5.o hb6);have HK6:=ι (xC HK5.o hb6 (xH HK5.o));clear hb6 HOK HK5 B5;obtain⟨c0,c1,c2,c3,c4,c5,c6,c7⟩:=xYs HK6.o;go_wp2_with fail
      clear c0 c1 c2 c3 c4 c5 c6 c7;refine cM (HOP.o _) λw7 hb7=>?_;have B7:=ι (bT B6.o hb7);clear hb7 HOP B6 HK6;have B8:=ι (B7.o.alloc B7.o.size (.cells #[.string xD,.string old] 9));have hk8:=xJ w7 (.cells #[.string xD,.string old] 9)
      have HK8:=ι (Ai (xA hk8 0) (xA hk8 1));clear hk8;go_wp2;go_ret2;refine⟨_,rfl,⟨_,_,rfl,Bd _,λ_=>⟨_,_,rfl,σ,λj x hx=>?_⟩⟩,B8.o⟩
      have hj:j=0∨j=1:=by
       have:=(Ar.1 hx).1;simp at this;omega
      rcases hj with rfl|rfl
      ·injection hx with hx;subst hx;exact HK8.o.1
      ·injection hx with hx;subst hx;exact HK8.o.2
end Go.Proofs.SH
namespace Go.Proofs.VA
open Go.RowKit Mailsack MM BB SH SV RK DS IX Go.Proofs.ST
structure LgN (w:World) (va vb:Value) (so dd:Obj) (b1 b2:Bool) (W:World):Prop where
 d:W.heap[w.heap.size]?=some (yI va vb)
 o1:W.heap[w.heap.size+1]?=some (if b1=true then so else jK)
 o2:W.heap[w.heap.size+2]?=some (if b2=true then dd else wO)
 bel:ψ w W
theorem LgN.below {w W W':World} {va vb:Value} {so dd:Obj} {b1 b2:Bool} (h:LgN w va vb so dd b1 b2 W) (hb:ψ W W'):LgN w va vb so dd b1 b2 W':=
 ⟨xC h.d hb (xH h.d),xC h.o1 hb (xH h.o1),xC h.o2 hb (xH h.o2),bT h.bel hb⟩
theorem LgN.drew {w W:World} {va vb:Value} {so dd:Obj} {b1 b2:Bool} (h:LgN w va vb so dd b1 b2 W):LgN w va vb so dd b1 b2 W.drew:=h.below (Aq _ W).drew
theorem xVa (w:World) (va vb:Value) (so dd:Obj):LgN w va vb so dd false false (((w.alloc (yI va vb)).alloc jK).alloc wO):=by
 have hb:=((φ w (yI va vb)).alloc σ jK).alloc (by simp;omega) wO;have h2:=xJ ((w.alloc (yI va vb)).alloc jK) wO;simp only[Ec] at h2;exact⟨xN (zM _ _ _) _,xN (zI _ _ _) _,h2,hb⟩
theorem LgN.rM {w W:World} {va vb:Value} {so dd:Obj} {b2:Bool} {l:List Value} (h:LgN w va vb so dd false b2 W) (hl:l.length=7) (e:so=.cells l.toArray 50 (0,0)):LgN w va vb so dd true b2 (yE (w.heap.size+1) 0 l W):=by
 have h1:=h.o1;rw[Ag σ] at h1;exact⟨yH ω l 0 W h.d,by rw[Ah rfl,e];exact vC h1 hl,yH ω l 0 W h.o2,zG ω l 0 W h.bel⟩
theorem LgN.yBc {w W:World} {va vb:Value} {so dd:Obj} {b1:Bool} {l:List Value} (h:LgN w va vb so dd b1 false W) (hl:l.length=2) (e:dd=.cells l.toArray 29 (0,0)):LgN w va vb so dd b1 true (yE (w.heap.size+2) 0 l W):=by
 have h1:=h.o2;rw[Ag σ] at h1;exact⟨yH ω l 0 W h.d,yH ω l 0 W h.o1,by rw[Ah rfl,e];exact vC h1 hl,zG ω l 0 W h.bel⟩
theorem xJs (va vb:Value) (d:Dk) (u pw xB:ByteArray) (w:World) (h:RdD w w.heap.size va vb d) (hn:xB.size≠12):
  Calls prog 14 #[.agg #[va,vb],.string u,.string pw,.string xB] w (pv (.tuple #[xXa ⟨#[]⟩ ⟨#[]⟩ ⟨#[]⟩ 0 (.slice none 0 0) (.slice none 0 0) 0,.agg #[.slice none 0 0,.slice none 0 0],.int .i64 1]) w):=by
 obtain⟨A1,c1,A2,c2,rfl,rfl⟩:=yC h;have H0:=ι (xVa w (.slice A1 d.secs.length c1) (.slice A2 d.cache.length c2) jK wO);have hn1:((xB.size:Int)==12)=false:=by simp;omega
 have hn2:((xB.size:Int)!=12)=true:=by simp;omega
 clear h;go_enter func14,ntmps14;go_upto_region 2 with fail
 obtain⟨w1,hw1⟩:=eX (((w.alloc (yI (.slice A1 d.secs.length c1) (.slice A2 d.cache.length c2))).alloc jK).alloc wO);rw[hw1] at H0;simp only[qE,jK,wO] at hw1;rw[hw1];clear hw1;have h1:=H0.o.o1;have h2:=H0.o.o2;rw[Ag σ] at h1 h2
 have HP:=ι (LgN.yBc (LgN.rM H0.o (l:=[.string ⟨#[]⟩,.string ⟨#[]⟩,.string ⟨#[]⟩,.int .i64 0,.slice none 0 0,.slice none 0 0,.int .i64 0]) rfl rfl) (l:=[.slice none 0 0,.slice none 0 0]) rfl rfl);simp only[yE,Nat.reduceAdd] at HP;have o0:=xA h1 0;have o1:=xA h1 1;have o2:=xA h1 2
 have o3:=xA h1 3;have o4:=xA h1 4;have o5:=xA h1 5;have o6:=xA h1 6;have y0:=xG h1 0;have y1:=xG h1 1;have y2:=xG h1 2;have y3:=xG h1 3;have y4:=xG h1 4;have y5:=xG h1 5;have y6:=xG h1 6;have q0:=xA h2 0;have q1:=xA h2 1;have z0:=xG h2 0;have z1:=xG h2 1
 simp only[gA,gB,gC] at o0 o1 o2 o3 o4 o5 o6 q0 q1;clear h1 h2 H0;rw[show w.heap.size+1+1=w.heap.size+2 from rfl];go_wp2;have h1:=HP.o.o1;have h2:=HP.o.o2;rw[Ah rfl] at h1 h2;obtain⟨f0,f1,f2,f3,f4,f5,f6⟩:=xAr h1;obtain⟨g0,g1⟩:=uQ h2;have HB:=ι HP.o.bel
 refine Ak (v:=.tuple #[.agg #[.string ⟨#[]⟩,.string ⟨#[]⟩,.string ⟨#[]⟩,.int .i64 0,.slice none 0 0,.slice none 0 0,.int .i64 0],.agg #[.slice none 0 0,.slice none 0 0],.int .i64 1]) (by simp[results,results14,go_sem,f0,f1,f2,f3,f4,f5,f6,g0,g1]) rfl ?_
 exact⟨rfl,HB.o⟩
theorem LgN.far {w W:World} {va vb:Value} {so dd:Obj} {b1 b2:Bool} (h:LgN w va vb so dd b1 b2 W) {g:Nat} (hg:w.heap.size+3<=g) (l:List Value) (i:Nat):LgN w va vb so dd b1 b2 (yE g i l W):=
 ⟨yH ω l i W h.d,yH ω l i W h.o1,yH ω l i W h.o2,zG ω l i W h.bel⟩
structure J7 (w0:World) (so:Obj) (L:Nat->Bool) (α:Nat->Nat) (W:World):Prop where
 b:ψ w0 W
 n:L 7=true->w0.heap.size<=α 7/\W.heap[α 7]?=some (if L 8=true then so else jK)
end Go.Proofs.VA