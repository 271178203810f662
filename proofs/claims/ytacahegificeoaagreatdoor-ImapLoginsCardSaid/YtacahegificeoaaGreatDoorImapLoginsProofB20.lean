/- Contracts of functions. Conditions: as stated. -/
import Derived.Test.YtacahegificeoaaGreatDoorImapLoginsProofB19
set_option maxHeartbeats 8000000
set_option maxRecDepth 100000
namespace Mailsack
structure LdS where
 x2:List Int
 z2:List Int
 x3:List Int
 z3:List Int
 sw:Bool
structure LdOk (s:LdS):Prop where
 l1:s.x2.length=5
 u1:yV s.x2
 l2:s.z2.length=5
 u2:yV s.z2
 l3:s.x3.length=5
 u3:yV s.x3
 l4:s.z3.length=5
 u4:yV s.z3
def bitL (k:ByteArray) (t:Nat):Bool:=Go.bits .and .u8 (yO k (t / 8) / 2^(t % 8)) 1==1
def kH (s:LdS) (bit:Bool):LdS:=⟨if s.sw !=bit then s.x3 else s.x2,if s.sw !=bit then s.z3 else s.z2,if s.sw !=bit then s.x2 else s.x3,if s.sw !=bit then s.z2 else s.z3,bit⟩
def xWm (u:List Int) (s:LdS):LdS:=⟨stX2 s.x2 s.z2,stZ2 s.x2 s.z2,stX3 s.x2 s.z2 s.x3 s.z3,stZ3 u s.x2 s.z2 s.x3 s.z3,s.sw⟩
def ldI (k:ByteArray) (u:List Int):Nat->LdS
 |0=>⟨[1,0,0,0,0],List.replicate 5 0,u,[1,0,0,0,0],false⟩
 |n+1=>xWm u (kH (ldI k u n) (bitL k (254-n)))
theorem xWj {s:LdS} (h:LdOk s) (b:Bool):LdOk (kH s b):=by
 obtain⟨h1,h2,h3,h4,h5,h6,h7,h8⟩:=h;unfold kH;cases hq:(s.sw !=b)
 ·exact⟨h1,h2,h3,h4,h5,h6,h7,h8⟩
 ·exact⟨h5,h6,h7,h8,h1,h2,h3,h4⟩
theorem xWk (u:List Int) (s:LdS):LdOk (xWm u s):=⟨vE _ _,qY _ _,vE _ _,qY _ _,vE _ _,qY _ _,vE _ _,qY _ _⟩
theorem one_u:yV [1,0,0,0,0]:=xDe ⟨δ,δ⟩ ⟨δ,δ⟩ ⟨δ,δ⟩ ⟨δ,δ⟩ ⟨δ,δ⟩
theorem ldI_ok (k:ByteArray) {u:List Int} (h:u.length=5) (hu:yV u):∀n,LdOk (ldI k u n)
 |0=>⟨rfl,one_u,by simp[ldI],xBy 5,h,hu,rfl,one_u⟩
 |_+1=>xWk _ _
def yE9 (s:LdS):ByteArray:=xCa (uR (if s.sw then s.x3 else s.x2) (xHc (if s.sw then s.z3 else s.z2)))
def kF (k u:ByteArray):ByteArray:=yE9 (ldI (xDa k) (yCh u) 255)
theorem xC5 (k u:ByteArray):(kF k u).size=32:=xM8 _
def zT (k:ByteArray):ByteArray:=kF k xK5
end Mailsack
namespace Go.Proofs.FE
open Go.RowKit Mailsack MM BB SH
structure PtM (w:World) (g:Nat) (u p q:List Int) (W:World):Prop where
 bu:uU 240 W g u
 bp:uU 244 W (g+1) p
 bq:uU 244 W (g+1+1) q
 bel:Below w.heap.size w W
 ge:w.heap.size<=g
section
variable {w W W':World} {g:Nat} {u p q:List Int}
theorem PtM.below (h:PtM w g u p q W) (hb:Below W.heap.size W W'):PtM w g u p q W':=⟨h.bu.below hb,h.bp.below hb,h.bq.below hb,h.bel.trans (hb.mono h.bel.size),h.ge⟩
theorem PtM.drew (h:PtM w g u p q W):PtM w g u p q W.drew:=⟨h.bu,h.bp,h.bq,h.bel.drew,h.ge⟩
theorem PtM.rowP (h:PtM w g u p q W) (xs:List Int):PtM w g u xs q (W.setRow (g+1) (xH xs)):=by
 have hg:=h.ge;exact⟨(setRow_other _ _ _ _ ω).trans h.bu,setRow_heap _ _ _ _ _ _ h.bp,(setRow_other _ _ _ _ ω).trans h.bq,below_setRow h.bel ω _,hg⟩
theorem PtM.rowQ (h:PtM w g u p q W) (xs:List Int):PtM w g u p xs (W.setRow (g+1+1) (xH xs)):=by
 have hg:=h.ge;exact⟨(setRow_other _ _ _ _ ω).trans h.bu,(setRow_other _ _ _ _ ω).trans h.bp,setRow_heap _ _ _ _ _ _ h.bq,below_setRow h.bel ω _,hg⟩
end
theorem xS1 (k u:ByteArray) (w:World) (hk:k.size≠32):
  Calls Tryz.prog 87 #[.string k,.string u] w λe w'=>e=.returned (.tuple #[.string ⟨#[]⟩,.bool false])/\Below w.heap.size w w':=by
 have HC:=ι (xY6 k w hk);clear hk;go_enter Tryz.func87,Tryz.ntmps87;go_wp2_with fail
 refine HC.o.mono ?_;rintro e w1 ⟨rfl,rfl⟩;go_wp2;go_ret2;exact⟨rfl,Below.refl _ _⟩
theorem xLc (k u:ByteArray) (w:World) (hk:k.size=32) (hu:u.size=32):
  Calls Tryz.prog 87 #[.string k,.string u] w λe w'=>e=.returned (.tuple #[.string (kF k u),.bool true])/\Below w.heap.size w w':=by
 have HC:=ι (xGp k w hk);have HO:=ι (λW=>of_any u W hu);have HKZ:Hid ((xDa k).size=32):=ι ((xOr k).trans hk);have hsl:=yBd u;have hsu:=feOf_u u;have HP:Hid (∀n,n=255->kF k u=yE9 (ldI (xDa k) (yCh u) n)):=ι (λn hn=>by rw[hn];rfl);generalize kF k u=res at HP⊢
 generalize yCh u=su at HO hsl hsu HP;generalize xDa k=ck at HC HKZ HP;have HOK:=ι (λn=>ldI_ok ck hsl hsu n);have Iu:=zP su hsl;have Zu:=vC su hsl;have HLU:=ι hsl;have HUU:=ι hsu
 have BQ:Hid (Tryz.prog.built 244 [(0,.agg (xH su)),(1,.agg #[.int .u64 1,.int .u64 0,.int .u64 0,.int .u64 0,.int .u64 0])]=some (xH (su++[1,0,0,0,0]))):=ι (xE8 hsl (z:=[1,0,0,0,0]) rfl);clear hk hu hsl hsu;go_enter Tryz.func87,Tryz.ntmps87;go_wp2_with fail
 refine HC.o.mono ?_;rintro e w1 ⟨rfl,hb1⟩;go_wp2_with fail
 refine(HO.o _).mono ?_;rintro e w2 ⟨rfl,hb2⟩;have HB:=ι (hb1.trans (hb2.mono hb1.size));clear hb1 hb2 HC HO;have h1:=setRow_heap _ w2.heap.size _ (xH su) _ _ (xL w2 (.cells (xH (List.replicate 5 0)) 240))
 have hz1:((w2.alloc (.cells (xH (List.replicate 5 0)) 240)).setRow w2.heap.size (xH su)).heap.size=w2.heap.size+1:=by rw[setRow_size,uX]
 have hb1:Below w.heap.size w ((w2.alloc (.cells (xH (List.replicate 5 0)) 240)).setRow w2.heap.size (xH su)):=below_setRow (HB.o.alloc HB.o.size _) HB.o.size _
 have h2:=xL ((w2.alloc (.cells (xH (List.replicate 5 0)) 240)).setRow w2.heap.size (xH su)) (.cells (xH ([1,0,0,0,0]++List.replicate 5 0)) 244);rw[hz1] at h2
 have H3:Hid (uU 240 (((w2.alloc (.cells (xH (List.replicate 5 0)) 240)).setRow w2.heap.size (xH su)).alloc (.cells (xH ([1,0,0,0,0]++List.replicate 5 0)) 244)) w2.heap.size su/\uU 244 (((w2.alloc (.cells (xH (List.replicate 5 0)) 240)).setRow w2.heap.size (xH su)).alloc (.cells (xH ([1,0,0,0,0]++List.replicate 5 0)) 244)) (w2.heap.size+1) ([1,0,0,0,0]++List.replicate 5 0)/\Below w.heap.size w (((w2.alloc (.cells (xH (List.replicate 5 0)) 240)).setRow w2.heap.size (xH su)).alloc (.cells (xH ([1,0,0,0,0]++List.replicate 5 0)) 244))/\(((w2.alloc (.cells (xH (List.replicate 5 0)) 240)).setRow w2.heap.size (xH su)).alloc (.cells (xH ([1,0,0,0,0]++List.replicate 5 0)) 244)).heap.size=w2.heap.size+1+1/\w.heap.size<=w2.heap.size):=ι ⟨xK h1 _,h2,hb1.alloc (by rw[hz1];have:=HB.o.size;omega) _,by rw[uX,hz1],HB.o.size⟩
 clear h1 hz1 hb1 h2 HB;go_upto_region 8 with (refine wpList_store_row rfl _ _ _ rfl w2.heap.size (xH su) rfl rfl _ (xH (List.replicate 5 0)) (xL _ _) Iu.o Zu.o (yC _) ?_)
 refine(λ(h:∀W3,Hid (uU 240 W3 w2.heap.size su/\uU 244 W3 (w2.heap.size+1) ([1,0,0,0,0]++List.replicate 5 0)/\Below w.heap.size w W3/\W3.heap.size=w2.heap.size+1+1/\w.heap.size<=w2.heap.size)->Code.wp _ _ _ _ W3)=>h _ H3) ?_;clear H3;generalize w2.heap.size=g;intro W3 H3
 have HZ3:=ι H3.o.2.2.2.1;have h4:=xL W3 (.cells (xH (List.replicate 10 0)) 244);rw[HZ3.o] at h4
 have H4:Hid (PtM w g su ([1,0,0,0,0]++List.replicate 5 0) (List.replicate 10 0) (W3.alloc (.cells (xH (List.replicate 10 0)) 244))):=ι ⟨xK H3.o.1 _,xK H3.o.2.1 _,h4,H3.o.2.2.1.alloc H3.o.2.2.1.size _,H3.o.2.2.2.2⟩;clear h4;refine wp_region_lit ?_
 refine wpList_load_row rfl _ _ rfl g rfl _ (xH su) (0,0) _ H3.o.1 Tryz.underlying240 rfl Iu.o ?_;iterate 3 go_step
 refine wpList_buildTo rfl _ _ rfl _ rfl (xH (su++[1,0,0,0,0])) (by rw[List.map_toArray];exact BQ.o) ?_;iterate 3 go_step
 rw[HZ3.o];refine wpList_store_row rfl _ _ _ rfl (g+1+1) (xH (su++[1,0,0,0,0])) rfl rfl _ (xH (List.replicate 10 0)) H4.o.bq (yB2 HLU.o rfl) (by rw[xW,xW,List.length_append,HLU.o];rfl) (yC _) ?_;have H5:=H4.o.rowQ (su++[1,0,0,0,0])
 refine(λ(h:∀W3,Hid (PtM w g su ((ldI ck su 0).x2++(ldI ck su 0).z2) ((ldI ck su 0).x3++(ldI ck su 0).z3) W3)->wpList _ _ _ _ _ W3)=>h _ (ι H5)) ?_;clear H3 H4 H5 HZ3 BQ;intro W5 H5;have HS0:Hid ((ldI ck su 0).sw=false):=ι rfl;go_wp2_with fail
 go_loopw [11,12] (λsv tv W=>∃n m:Nat,n+m=255/\tv=.int .i64 ((m:Int)-1)/\sv=.bool (ldI ck su n).sw/\Hid (PtM w g su ((ldI ck su n).x2++(ldI ck su n).z2) ((ldI ck su n).x3++(ldI ck su n).z3) W)) (λ_ tv _=>(intOf tv+1).toNat)
 case atStart=>exact⟨0,255,rfl,rfl,by rw[HS0.o],H5⟩
 case round=>
  clear H5;obtain⟨n,m,hnm,rfl,rfl,hr⟩:=hrel;have hok:=HOK.o n
  by_cases hlt:0<m
  ·obtain⟨t,rfl⟩:∃t,m=t+1:=⟨m-1,ω⟩;have ht:(((t+1:Nat):Int))-1=(t:Int):=by omega
   rw[ht];have HN:Hid (ldI ck su (n+1)=xWm su (kH (ldI ck su n) (bitL ck t))):=ι (by rw[show t=254-n by omega];rfl);have HBT:Hid (∀q r,q=t / 8->r=t % 8->bitL ck t=(bits .and .u8 (yO ck q / 2^r) 1==1)):=ι (λq r hq hr=>by rw[hq,hr];rfl);obtain⟨q,hq⟩:∃q,q=t / 8:=⟨_,rfl⟩
   obtain⟨r,hrr⟩:∃r,r=t % 8:=⟨_,rfl⟩
   replace HBT:=ι (HBT.o q r hq hrr)
   have hq4:q<32:=by omega
   have hr8:r<8:=by omega
   have hiq:(t:Int) / 8=(q:Int):=by omega
   have hir:(t:Int) % 8=(r:Int):=by omega
   have ht0:(0:Int)<=(t:Int):=by omega
   have ht255:(t:Int)<=255:=by omega
   have ix:=λw=>zH (P:=Tryz.prog) Tryz.underlying9 ck (q:Int) q rfl (by rw[HKZ.o];exact hq4) w;obtain⟨b0,b1⟩:=yQ ck q;generalize yO ck q=c at ix b0 b1 HBT;obtain⟨bit,hbit⟩:∃bit,bitL ck t=bit:=⟨_,rfl⟩;rw[hbit] at HN HBT;clear hbit;obtain⟨sn,hsn⟩:∃s,ldI ck su (n+1)=s:=⟨_,rfl⟩
   rw[hsn] at HN;have HSN:=ι hsn;clear hsn;generalize ldI ck su n=s at hr hok HN⊢;have HNM:=ι hnm;clear hq hrr ht hnm;have hok2:=xWj hok bit
   have HSW:Hid (∀W,Calls Tryz.prog 171 #[.agg (xH (s.x2++s.z2)),.agg (xH (s.x3++s.z3)),.bool (s.sw !=bit)] W λe w'=>e=.returned (.tuple #[.agg (xH ((kH s bit).x2++(kH s bit).z2)),.agg (xH ((kH s bit).x3++(kH s bit).z3))])/\Below W.heap.size W w'):=ι (λW=>by
    have h:=xLq s.x2 s.z2 s.x3 s.z3 (s.sw !=bit) W hok.l1 hok.u1 hok.l2 hok.u2 hok.l3 hok.u3 hok.l4 hok.u4;have e1:(if (s.sw !=bit)=true then s.x3++s.z3 else s.x2++s.z2)=(kH s bit).x2++(kH s bit).z2:=by unfold kH;cases (s.sw !=bit)<;>rfl
    have e2:(if (s.sw !=bit)=true then s.x2++s.z2 else s.x3++s.z3)=(kH s bit).x3++(kH s bit).z3:=by unfold kH;cases (s.sw !=bit)<;>rfl
    rw[e1,e2] at h;exact h)
   have HSB:Hid (sn.sw=bit):=ι (by rw[HN.o];rfl);have I1:=xAt s.x2 s.z2 hok.l1 hok.l2;have I2:=xAt s.x3 s.z3 hok.l3 hok.l4;have hsn4:sn.x2.length=5/\sn.z2.length=5/\sn.x3.length=5/\sn.z3.length=5:=by rw[HN.o];exact⟨vE _ _,vE _ _,vE _ _,vE _ _⟩
   have HST:Hid (∀W,Calls Tryz.prog 172 #[.agg (xH su),.agg (xH ((kH s bit).x2++(kH s bit).z2)),.agg (xH ((kH s bit).x3++(kH s bit).z3))] W λe w'=>e=.returned (.tuple #[.agg (xH (sn.x2++sn.z2)),.agg (xH (sn.x3++sn.z3))])/\Below W.heap.size W w'):=ι (λW=>by
    rw[HN.o];exact xZp su _ _ _ _ W HLU.o HUU.o hok2.l1 hok2.u1 hok2.l2 hok2.u2 hok2.l3 hok2.u3 hok2.l4 hok2.u4)
   obtain⟨k1,k2,k3,k4⟩:=hsn4;have I5:=xAt sn.x2 sn.z2 k1 k2;have I6:=xAt sn.x3 sn.z3 k3 k4;clear HN;generalize kH s bit=s' at HSW HST hok2;have I3:=xAt s'.x2 s'.z2 hok2.l1 hok2.l2;have I4:=xAt s'.x3 s'.z3 hok2.l3 hok2.l4
   have Z1:Hid ((xH (s.x2++s.z2)).size=(xH (s'.x2++s'.z2)).size):=ι (by rw[xW,xW,List.length_append,List.length_append,hok.l1,hok.l2,hok2.l1,hok2.l2])
   have Z2:Hid ((xH (s.x3++s.z3)).size=(xH (s'.x3++s'.z3)).size):=ι (by rw[xW,xW,List.length_append,List.length_append,hok.l3,hok.l4,hok2.l3,hok2.l4])
   have Z3:Hid ((xH (s'.x2++s'.z2)).size=(xH (sn.x2++sn.z2)).size):=ι (by rw[xW,xW,List.length_append,List.length_append,k1,k2,hok2.l1,hok2.l2])
   have Z4:Hid ((xH (s'.x3++s'.z3)).size=(xH (sn.x3++sn.z3)).size):=ι (by rw[xW,xW,List.length_append,List.length_append,k3,k4,hok2.l3,hok2.l4]);clear hok hok2 k1 k2 k3 k4;generalize hp0:s.x2++s.z2=p0 at hr HSW I1 Z1;generalize hq0:s.x3++s.z3=q0 at hr HSW I2 Z2
   generalize hp1:s'.x2++s'.z2=p1 at HSW HST I3 Z1 Z3;generalize hq1:s'.x3++s'.z3=q1 at HSW HST I4 Z2 Z4;generalize hp2:sn.x2++sn.z2=p2 at HST I5 Z3;generalize hq2:sn.x3++sn.z3=q2 at HST I6 Z4;have HPQ:=ι (And.intro hp2 hq2);clear hp0 hq0 hp1 hq1 hp2 hq2
   generalize s.sw=sw at HSW⊢;go_upto_region 14 with fail
   rw[<-HBT.o];clear HBT ix b0 b1 hiq hir;refine wp_region_lit ?_;refine wpList_load_row rfl _ _ rfl (g+1) rfl _ (xH p0) (0,0) _ hr.o.bp Tryz.underlying244 rfl I1.o ?_;refine wpList_load_row rfl _ _ rfl (g+1+1) rfl _ (xH q0) (0,0) _ hr.o.bq Tryz.underlying244 rfl I2.o ?_
   repeat go_step
   refine(HSW.o _).mono ?_;rintro e w6 ⟨rfl,hb6⟩;have H6:=ι (hr.o.below hb6);clear hr hb6;simp only[]
   rename ∀(a:Act) (w:World),wpList _ _ _ _ a w->_=>hk
   refine hk _ _ ?_;clear hk;iterate 9 go_step
   refine wpList_store_row rfl _ _ _ rfl (g+1) (xH p1) rfl rfl _ _ H6.o.bp I3.o Z1.o (yC _) ?_;have H7:=ι (H6.o.rowP p1);refine wpList_store_row rfl _ _ _ rfl (g+1+1) (xH q1) rfl rfl _ _ H7.o.bq I4.o Z2.o (yC _) ?_;have H8:=ι (H7.o.rowQ q1);go_upto_region 16 with fail
   refine(λ(h:∀W3,Hid (PtM w g su p1 q1 W3)->Code.wp _ _ _ _ W3)=>h _ H8) ?_;clear H6 H7 H8;intro W8 H8;refine wp_region_lit ?_;refine wpList_load_row rfl _ _ rfl g rfl _ (xH su) (0,0) _ H8.o.bu Tryz.underlying240 rfl Iu.o ?_
   refine wpList_load_row rfl _ _ rfl (g+1) rfl _ (xH p1) (0,0) _ H8.o.bp Tryz.underlying244 rfl I3.o ?_;refine wpList_load_row rfl _ _ rfl (g+1+1) rfl _ (xH q1) (0,0) _ H8.o.bq Tryz.underlying244 rfl I4.o ?_;repeat go_step
   refine(HST.o _).mono ?_;rintro e w6 ⟨rfl,hb6⟩;have H9:=ι (H8.o.below hb6);clear H8 hb6;simp only[]
   rename ∀(a:Act) (w:World),wpList _ _ _ _ a w->_=>hk
   refine hk _ _ ?_;clear hk;iterate 9 go_step
   refine wpList_store_row rfl _ _ _ rfl (g+1) (xH p2) rfl rfl _ _ H9.o.bp I5.o Z3.o (yC _) ?_;have H10:=ι (H9.o.rowP p2);refine wpList_store_row rfl _ _ _ rfl (g+1+1) (xH q2) rfl rfl _ _ H10.o.bq I6.o Z4.o (yC _) ?_;have H11:=ι (H10.o.rowQ q2)
   refine(λ(h:∀W3,Hid (PtM w g su p2 q2 W3)->wpList _ _ _ _ _ W3)=>h _ H11) ?_;clear H9 H10 H11 HSW HST;intro W11 H11;go_wp2;refine⟨⟨n+1,t,by have:=HNM.o;omega,rfl,by rw[HSN.o,HSB.o],?_⟩,by simp[intOf]⟩;rw[HSN.o,HPQ.o.1,HPQ.o.2];exact H11
  ·obtain rfl:m=0:=by omega
   have hn:n=255:=by omega
   have HE:=ι (HP.o n hn);have hm1:((0:Nat):Int)-1=-1:=by omega
   rw[hm1];generalize ldI ck su n=s at hr hok HE⊢;have HSW:=ι (λW=>xLq s.x2 s.z2 s.x3 s.z3 s.sw W hok.l1 hok.u1 hok.l2 hok.u2 hok.l3 hok.u3 hok.l4 hok.u4);have HDE:Hid (yE9 s=xCa (uR (if s.sw then s.x3 else s.x2) (xHc (if s.sw then s.z3 else s.z2)))):=ι rfl
   have e1:(if s.sw=true then s.x3++s.z3 else s.x2++s.z2)=(if s.sw then s.x3 else s.x2)++(if s.sw then s.z3 else s.z2):=by cases s.sw<;>rfl
   rw[e1] at HSW
   have lx:(if s.sw then s.x3 else s.x2).length=5/\yV (if s.sw then s.x3 else s.x2):=by
    cases s.sw
    ·exact⟨hok.l1,hok.u1⟩
    ·exact⟨hok.l3,hok.u3⟩
   have lz:(if s.sw then s.z3 else s.z2).length=5/\yV (if s.sw then s.z3 else s.z2):=by
    cases s.sw
    ·exact⟨hok.l2,hok.u2⟩
    ·exact⟨hok.l4,hok.u4⟩
   have I1:=xAt s.x2 s.z2 hok.l1 hok.l2;have I2:=xAt s.x3 s.z3 hok.l3 hok.l4;have HZ0:Hid ((xH (s.x2++s.z2)).size=10):=ι (by rw[xW,List.length_append,hok.l1,hok.l2]);generalize (if s.sw then s.x3 else s.x2)=x at HSW HDE lx
   generalize (if s.sw then s.z3 else s.z2)=z at HSW HDE lz;have I3:=xAt x z lx.1 lz.1;have Z1:Hid ((xH (s.x2++s.z2)).size=(xH (x++z)).size):=ι (by rw[HZ0.o,xW,List.length_append,lx.1,lz.1]);have Ix:=zP x lx.1;have Iz:=zP z lz.1;have HLX:=ι lx.1
   have HIV:=ι (λW=>xSs z W lz.1 lz.2);have HMU:=ι (λW=>rH x (xHc z) W lx.1 lx.2 (xXp z) (yEy z));have HBY:=ι (λW=>xYb (uR x (xHc z)) W (vE _ _) (qY _ _));rw[<-HDE.o,<-HE.o] at HBY;generalize uR x (xHc z)=mv at HMU HBY;generalize xHc z=iv at HIV HMU
   generalize (if s.sw=true then s.x2++s.z2 else s.x3++s.z3)=y0 at HSW;generalize s.x2++s.z2=p0 at hr HSW I1 Z1;generalize s.x3++s.z3=q0 at hr HSW I2;clear HE HDE hok lx lz hn hnm hlt HP HOK e1 HZ0 hm1;generalize s.sw=sw at HSW⊢;go_upto_region 17 with fail
   refine wp_region_lit ?_;refine wpList_load_row rfl _ _ rfl (g+1) rfl _ (xH p0) (0,0) _ hr.o.bp Tryz.underlying244 rfl I1.o ?_;refine wpList_load_row rfl _ _ rfl (g+1+1) rfl _ (xH q0) (0,0) _ hr.o.bq Tryz.underlying244 rfl I2.o ?_;repeat go_step
   refine(HSW.o _).mono ?_;rintro e w6 ⟨rfl,hb6⟩;have H6:=ι (hr.o.below hb6);clear hr hb6;simp only[]
   rename ∀(a:Act) (w:World),wpList _ _ _ _ a w->_=>hk
   refine hk _ _ ?_;clear hk;iterate 9 go_step
   refine wpList_store_row rfl _ _ _ rfl (g+1) (xH (x++z)) rfl rfl _ _ H6.o.bp I3.o Z1.o (yC _) ?_;have H7:=ι (H6.o.rowP (x++z));go_upto_region 18 with fail
   refine(λ(h:∀W3,Hid (PtM w g su (x++z) q0 W3)->Code.wp _ _ _ _ W3)=>h _ H7) ?_;clear H6 H7 HSW;intro W7 H7;refine RG.xP (λW=>Hid (PtM w g su (x++z) q0 W)) κ κ (ι H7.o.drew) ?_;clear H7;refine RG.dS ?_;apply RG.xJ
   ·intro w9 hw9;refine zW rfl _ _ rfl (g+1) 0 rfl (xH x) _ (xD1 hw9.o.bp) Tryz.underlying240 rfl Ix.o ?_;repeat go_step
    with_reducible exact RG.xD hw9
   ·rfl
   refine RG.dS ?_;apply RG.xJ
   ·intro w9 hw9;refine zW rfl _ _ rfl (g+1) 5 rfl (xH z) _ (xD0 hw9.o.bp HLX.o) Tryz.underlying240 rfl Iz.o ?_;repeat go_step
    with_reducible exact RG.xD hw9
   ·rfl
   apply RG.xJ
   ·intro w9 hw9;repeat go_step
    refine(HIV.o _).mono ?_;rintro e w10 ⟨rfl,zM⟩;simp only[];repeat go_step
    with_reducible refine RG.xD ?_
    exact ι (hw9.o.below zM)
   ·rfl
   apply RG.xJ
   ·intro w9 hw9;repeat go_step
    refine(HMU.o _).mono ?_;rintro e w10 ⟨rfl,zM⟩;simp only[];repeat go_step
    with_reducible refine RG.xD ?_
    exact ι (hw9.o.below zM)
   ·rfl
   apply RG.xJ
   ·intro w9 hw9;repeat go_step
    refine(HBY.o _).mono ?_;rintro e w10 ⟨rfl,zM⟩;simp only[];repeat go_step
    with_reducible refine RG.xD ?_
    exact ι (hw9.o.below zM)
   ·rfl
   iterate 2 refine RG.dS ?_
   refine RG.xS (λw9 hw9=>?_);go_wp2;go_ret2;exact⟨rfl,hw9.o.bel⟩
theorem xHx (k:ByteArray) (w:World) (hk:k.size=32):
  Calls Tryz.prog 34 #[.string k] w λe w'=>e=.returned (.tuple #[.string (zT k),.bool true])/\Below w.heap.size w w':=by
 have HP:Hid (∀W,Calls Tryz.prog 87 #[.string k,.string xK5] W λe w'=>e=.returned (.tuple #[.string (zT k),.bool true])/\Below W.heap.size W w'):=ι (λW=>xLc k xK5 W hk xTh);have HB:=ι (xQs w);generalize zT k=res at HP⊢;generalize xK5=bl at HP HB;clear hk
 go_enter Tryz.func34,Tryz.ntmps34;go_wp2_with fail
 refine HB.o.mono ?_;rintro e w1 ⟨rfl,hb1⟩;have H1:=ι hb1;go_wp2_with fail
 refine(HP.o _).mono ?_;rintro e w2 ⟨rfl,hb2⟩;have H2:=ι (H1.o.trans (hb2.mono H1.o.size));clear hb1 hb2 H1;go_wp2;go_ret2;exact⟨rfl,H2.o⟩
end Go.Proofs.FE
namespace Mailsack
def xK1 (n:Int):Int:=if n<0∨700<n then 0 else if 2+n<=128 then 128 else if 2+n<=256 then 256 else if 2+n<=512 then 512 else 704
end Mailsack
namespace Go.Proofs.SE
open Go.RowKit Mailsack MM BB SH
structure ClsT (w:World):Prop where
 t:∃t fr,w.heap[2]?=some (.cells #[.int .i64 128,.int .i64 256,.int .i64 512,.int .i64 704] t fr)
theorem ClsT.below {w w':World} {B:Nat} (h:ClsT w) (hb:Below B w w') (hB:w.heap.size<=B):ClsT w':=by
 obtain⟨t,fr,h1⟩:=h.t;exact⟨t,fr,xB h1 hb (Nat.lt_of_lt_of_le (xG h1) hB)⟩
theorem xY5 (n:Int) (w:World) (hC:ClsT w):
  Calls Tryz.prog 267 #[.int .i64 n] w λe w'=>e=.returned (.int .i64 (xK1 n))/\w'=w:=by
 by_cases h1:n<0
 ·have HR:Hid (xK1 n=0):=ι (by unfold xK1;rw[if_pos (.inl h1)]);rw[HR.o];go_enter Tryz.func267,Tryz.ntmps267;go_wp2;go_ret;exact⟨rfl,rfl⟩
 ·by_cases h2:700<n
  ·have HR:Hid (xK1 n=0):=ι (by unfold xK1;rw[if_pos (.inr h2)]);rw[HR.o];go_enter Tryz.func267,Tryz.ntmps267;go_wp2;go_ret;exact⟨rfl,rfl⟩
  ·have HR:Hid (xK1 n=if 2+n<=128 then 128 else if 2+n<=256 then 256 else if 2+n<=512 then 512 else 704):=ι (by unfold xK1;rw[if_neg ω]);obtain⟨c,hc⟩:∃c,xK1 n=c:=⟨_,rfl⟩;rw[hc];rw[hc] at HR;clear hc;obtain⟨t,fr,ht⟩:=hC.t
   obtain⟨cs,hcs⟩:∃cs:Array Value,#[.int .i64 128,.int .i64 256,.int .i64 512,.int .i64 704]=cs:=⟨_,rfl⟩;have HI:Hid ((Tryz.prog.info? 403).map (·.size)=some cs.size):=ι (by rw[<-hcs];kernel_rfl);rw[hcs] at ht;have HT:=ι ht
   have HX:Hid (cs[0]?=some (.int .i64 128)/\cs[1]?=some (.int .i64 256)/\cs[2]?=some (.int .i64 512)/\cs[3]?=some (.int .i64 704)):=ι (by rw[<-hcs];exact⟨rfl,rfl,rfl,rfl⟩);clear hcs;clear ht hC;go_enter Tryz.func267,Tryz.ntmps267
   go_wp2_with (refine wpList_load_row rfl _ _ rfl 2 rfl _ _ fr _ HT.o Tryz.underlying403 rfl HI.o ?_)
   go_loopw [12] (λiv W=>∃k:Nat,k<=3/\iv=.int .i64 k/\Hid ((1<=k->128<2+n)/\(2<=k->256<2+n)/\(3<=k->512<2+n))/\W=w) (λiv _=>4- (intOf iv).toNat)
   case atStart=>exact⟨0,ω,rfl,ι ⟨λh=>by omega,λh=>by omega,λh=>by omega⟩,rfl⟩
   case round=>
    obtain⟨k,hk,rfl,hu,rfl⟩:=hrel;have ix:=λ(v:Value) hv=>λW=>wQ (P:=Tryz.prog) Tryz.underlying403 Tryz.underlying3 κ cs v k ω hv W;obtain⟨u1,u2,u3⟩:=hu.o
    match k,hk with
    |0,_=>
     have i0:∀W,(Instr.index 403 (.agg cs) (.int .i64 0)).run Tryz.prog W=.ok (.int .i64 128) W:=ix _ HX.o.1;clear ix u1 u2 u3 hu
     by_cases ht:2+n<=128
     ·have HC:Hid (c=128):=ι (by rw[HR.o,if_pos ht]);go_wp2;go_ret;rw[HC.o];exact⟨rfl,rfl⟩
     ·have HN:Hid ((1<=0+1->128<2+n)/\(2<=0+1->256<2+n)/\(3<=0+1->512<2+n)):=ι ⟨λ_=>by omega,λh=>by omega,λh=>by omega⟩;go_wp2;exact⟨⟨0+1,ω,by go_num,HN,trivial⟩,by simp[intOf]⟩
    |1,_=>
     have i0:∀W,(Instr.index 403 (.agg cs) (.int .i64 1)).run Tryz.prog W=.ok (.int .i64 256) W:=ix _ HX.o.2.1;have u1:=u1 ω;clear ix u2 u3 hu
     by_cases ht:2+n<=256
     ·have HC:Hid (c=256):=ι (by rw[HR.o,if_neg ω,if_pos ht]);go_wp2;go_ret;rw[HC.o];exact⟨rfl,rfl⟩
     ·have HN:Hid ((1<=1+1->128<2+n)/\(2<=1+1->256<2+n)/\(3<=1+1->512<2+n)):=ι ⟨λ_=>by omega,λ_=>by omega,λh=>by omega⟩;go_wp2;exact⟨⟨1+1,ω,by go_num,HN,trivial⟩,by simp[intOf]⟩
    |2,_=>
     have i0:∀W,(Instr.index 403 (.agg cs) (.int .i64 2)).run Tryz.prog W=.ok (.int .i64 512) W:=ix _ HX.o.2.2.1;have u2:=u2 ω;clear ix u1 u3 hu
     by_cases ht:2+n<=512
     ·have HC:Hid (c=512):=ι (by rw[HR.o,if_neg ω,if_neg ω,if_pos ht]);go_wp2;go_ret;rw[HC.o];exact⟨rfl,rfl⟩
     ·have HN:Hid ((1<=2+1->128<2+n)/\(2<=2+1->256<2+n)/\(3<=2+1->512<2+n)):=ι ⟨λ_=>by omega,λ_=>by omega,λ_=>by omega⟩;go_wp2;exact⟨⟨2+1,ω,by go_num,HN,trivial⟩,by simp[intOf]⟩
    |3,_=>
     have i0:∀W,(Instr.index 403 (.agg cs) (.int .i64 3)).run Tryz.prog W=.ok (.int .i64 704) W:=ix _ HX.o.2.2.2;have u3:=u3 ω;clear ix u1 u2 hu;have ht:2+n<=704:=by omega
     have HC:Hid (c=704):=ι (by rw[HR.o,if_neg ω,if_neg ω,if_neg ω]);go_wp2;go_ret;rw[HC.o];exact⟨rfl,rfl⟩
end Go.Proofs.SE
namespace Mailsack
theorem yF6 {n:Nat} (h:n<=700):∃c:Nat,xK1 (n:Int)=(c:Int)/\2+n<=c/\c<=704/\128<=c:=by
 unfold xK1;rw[if_neg ω];split
 ·exact⟨128,rfl,ω,ω,ω⟩
 ·split
  ·exact⟨256,rfl,ω,ω,ω⟩
  ·split
   ·exact⟨512,rfl,ω,ω,ω⟩
   ·exact⟨704,rfl,ω,ω,ω⟩
end Mailsack
namespace Go.Proofs.BB
open Go.RowKit Mailsack MM
def encSv (l:List Bs):Array Value:=(l.map xO).toArray
theorem xM9 (l:List Bs):(encSv l).size=l.length:=by simp[encSv]
theorem xQf {l:List Bs} {i:Nat} {x:Bs} (h:l[i]?=some x):(encSv l)[i]?=some (xO x):=by
 simp[encSv,h]
theorem yBf (l:List Bs) (i:Nat) (x:Bs):(encSv l).setIfInBounds i (xO x)=encSv (l.set i x):=by
 simp[encSv,List.map_set]
theorem xXt (n:Nat):madeCells (Value.cells (.string ⟨#[]⟩)) (n*1)=encSv (List.replicate n []):=by
 apply Array.ext_getElem?;intro i
 by_cases h:i<n
 ·have:(encSv (List.replicate n []))[i]?=some (xO []):=xQf (by simp[h]);rw[this];simp[madeCells,Value.cells,h,Nat.mod_one,xO]
 ·rw[Array.getElem?_eq_none (by simp[madeCells];omega),Array.getElem?_eq_none (by rw[xM9];simp;omega)]
def kV (W:World) (g:Nat) (l:List Bs):Prop:=W.heap[g]?=some (.cells (encSv l) 9 (0,0))
theorem kV.blk {W:World} {g:Nat} {l:List Bs} (h:kV W g l):W.heap[g]?=some (.cells (encSv l) 9 (0,0)):=h
theorem kV.lt {W:World} {g:Nat} {l:List Bs} (h:kV W g l):g<W.heap.size:=xG h.blk
theorem kV.cell {W:World} {g:Nat} {l:List Bs} (h:kV W g l) {i:Nat} {x:Bs} (hi:l[i]?=some x):W.cell? ⟨g,i,none⟩=some (xO x):=by rw[xA h.blk,xQf hi]
theorem kV.free {W:World} {g:Nat} {l:List Bs} (h:kV W g l) (i:Nat):W.frozen? ⟨g,i,none⟩=false:=xC h.blk i
theorem kV.put {W:World} {g:Nat} {l:List Bs} (h:kV W g l) (i:Nat) (x:Bs):kV (W.setCell ⟨g,i,none⟩ (xO x)) g (l.set i x):=by
 have:=xY h.blk i (xO x);rw[yBf] at this;exact this
theorem kV.below {W W':World} {B g:Nat} {l:List Bs} (h:kV W g l) (hb:Below B W W') (hg:g<B):kV W' g l:=xB h.blk hb hg
theorem kV.far {W:World} {g:Nat} {l:List Bs} (h:kV W g l) {p:Addr} (hp:g≠p.block) (u:Value):kV (W.setCell p u) g l:=yA h.blk hp u
theorem kV.rd {W:World} {g:Nat} {l:List Bs} (h:kV W g l) (c:Nat) (hc:l.length<=c):RdS W (g+1) (.slice (some ⟨g,0,none⟩) l.length c) l:=
 ⟨_,c,rfl,hc,λ_=>⟨g,0,rfl,Nat.lt_succ_self g,λj x hx=>by rw[Nat.zero_add];exact h.cell hx⟩⟩
theorem madeS (W:World) (n:Nat) (hm:n<=1000000):(Instr.makeSlice 22 (.int .i64 (n:Int)) (.int .i64 (n:Int))).run Tryz.prog W=.ok (.slice (some ⟨W.heap.size,0,none⟩) n n) (W.alloc (.cells (encSv (List.replicate n [])) 9)):=by
 have hinfo:(Tryz.prog.info? 9).map (λi=>(i.zero,i.size,i.bytes))=some (some (.string ⟨#[]⟩),1,16):=by kernel_rfl
 cases hq:Tryz.prog.info? 9 with
 |none=>rw[hq] at hinfo;cases hinfo
 |some i=>
  rw[hq] at hinfo;simp only[Option.map_some,Option.some.injEq,Prod.mk.injEq] at hinfo;obtain⟨hz,hs,hb⟩:=hinfo;have h:=run_make (P:=Tryz.prog) (w:=W) 22 9 i _ Tryz.underlying22 hq hz .i64 .i64 (n:Int) (n:Int) ω ω (by rw[hb];omega) ω;simp only[Int.toNat_natCast] at h
  rw[hs,xXt] at h;exact h
end Go.Proofs.BB
namespace Mailsack
structure Wr where
 at_:Int
 data:Bs
structure Dk where
 secs:List Bs
 cache:List Wr
end Mailsack
namespace Go.Proofs.DS
open Go.RowKit Mailsack MM BB
abbrev xX (a b:Value):Obj:=.cells #[a,b] 25
end Go.Proofs.DS