/- Contracts of functions. Conditions: as stated. -/
import Derived.Test.YtnafbinmecekeaaGreatDoorImapKeysProofB08
open Go.Proofs.Tryz
set_option maxHeartbeats 8000000
set_option maxRecDepth 100000
namespace Mailsack
theorem xSs (d:Dk):(yH d).secs.length=d.secs.length/\(yH d).cache.length<=d.cache.length:=by
 unfold yH;split
 ·exact⟨qZ _ _ _ _,Nat.zero_le _⟩
 ·exact⟨rfl,Nat.le_refl _⟩
theorem xNc (d:Dk) (o:Op):(jY d o).secs.length=d.secs.length/\(jY d o).cache.length<=d.cache.length+1:=by
 unfold jY;split
 ·have:=xSs d;omega
 ·split
  ·simp[xZa]
  ·simp
theorem xV8 {l:List Op} {k:Nat} {o:Op} (h:l[k]?=some o) (d:Dk):vU d (l.take (k+1))=jY (vU d (l.take k)) o:=by
 unfold vU;rw[List.take_add_one,h,List.foldl_append]
 rfl
theorem xLa (d:Dk):∀l:List Op,(vU d l).secs.length=d.secs.length/\(vU d l).cache.length<=d.cache.length+l.length
 |[]=>⟨rfl,Nat.le_refl _⟩
 |o::l=>by
  have h1:=xNc d o;have h2:=xLa (jY d o) l;show(vU (jY d o) l).secs.length=_/\(vU (jY d o) l).cache.length<=_;simp only[List.length_cons];omega
end Mailsack
namespace Go.Proofs.DS
open Go.RowKit Mailsack MM BB SH SV RK
abbrev opF (o:Mailsack.Op):List Value:=[.bool o.flush,.int .i64 o.w.at_,xR o.w.data]
theorem xDr (o:Mailsack.Op):(opF o).length=3:=rfl
theorem yD7 (x:Mailsack.Op):∀u∈opF x,u.oneCell'=true:=by
 intro u hu;simp only[opF,List.mem_cons,List.not_mem_nil,or_false] at hu;rcases hu with rfl|rfl|rfl<;>rfl
theorem infoOp:(prog.info? 328).map (λi=>(i.zero,i.size,i.bytes))=some (some (.agg #[.bool false,.int .i64 0,.string ⟨#[]⟩]),3,32):=κ
theorem tyOp:yBw prog 241 328 3 32 opF:=by
 obtain⟨i,hi,hz,hs,hb⟩:=jA infoOp;exact⟨underlying241,⟨i,_,hi,hz,hs,hb,rfl⟩,ω,ω,xDr,yD7⟩
def xTa (W:World) (g:Nat):Prop:=∀(i:Nat) u,W.cell? ⟨g,i,none⟩=some u->(∀l,u≠xR l)/\∀z,u≠.int .i64 z
theorem vG {W:World} {g:Nat} {A1 A2:Option Addr} {n1 n2 c1 c2:Nat} (h:W.heap[g]?=some (xW (.slice A1 n1 c1) (.slice A2 n2 c2))):xTa W g:=by
 intro i u hu;rw[xA h i] at hu;rcases i with _|_|i
 ·simp at hu;subst hu;exact⟨λl e=>(by cases e),λz e=>(by cases e)⟩
 ·simp at hu;subst hu;exact⟨λl e=>(by cases e),λz e=>(by cases e)⟩
 ·simp at hu
theorem yCy {W:World} {B:Nat} {v:Value} {xs:List Bs} (h:RdS W B v xs) {p:Addr} (hg:xTa W p.block) (u:Value):RdS (W.setCell p u) B v xs:=by
 obtain⟨A,c,h1,h2,h3⟩:=h;refine⟨A,c,h1,h2,λhn=>?_⟩;obtain⟨b,off,h4,h5,h6⟩:=h3 hn;refine⟨b,off,h4,h5,λj x hx=>?_⟩;have h7:=h6 j x hx
 by_cases e:p.block=b
 ·subst e;exact absurd rfl ((hg _ _ h7).1 x)
 ·rw[<-h7];exact World.cell?_setCell_other _ _ _ _ (by rintro rfl;exact e rfl)
theorem yCx {W:World} {B:Nat} {v:Value} {xs:List Wr} (h:RdW W B v xs) {p:Addr} (hg:xTa W p.block) (u:Value):RdW (W.setCell p u) B v xs:=by
 obtain⟨A,c,h1,h2,h3⟩:=h;refine⟨A,c,h1,h2,λhn=>?_⟩;obtain⟨b,off,h4,h5,h6⟩:=h3 hn;refine⟨b,off,h4,h5,λj x hx=>?_⟩;obtain⟨h7,h8⟩:=h6 j x hx
 by_cases e:p.block=b
 ·subst e;exact absurd rfl ((hg _ _ h7).2 _)
 ·exact⟨by rw[<-h7];exact World.cell?_setCell_other _ _ _ _ (by rintro rfl;exact e rfl),by rw[<-h8];exact World.cell?_setCell_other _ _ _ _ (by rintro rfl;exact e rfl)⟩
theorem RdD.far {W:World} {B:Nat} {va vb:Value} {D:Dk} (h:RdD W B va vb D) {p:Addr} (hg:xTa W p.block) (u:Value):RdD (W.setCell p u) B va vb D:=⟨yCy h.s hg u,yCx h.c hg u,h.ls,h.lc⟩
structure RnM (w:World) (D:Dk) (va vb:Value) (W:World):Prop where
 d:W.heap[w.heap.size]?=some (xW va vb)
 o:W.heap[w.heap.size+1]?=some (xW (.slice none 0 0) (.slice none 0 0))
 rd:RdD W W.heap.size va vb D
 bel:ψ w W
theorem RnM.below {w W W':World} {va vb:Value} {D:Dk} (h:RnM w D va vb W) (hb:ψ W W'):RnM w D va vb W':=
 ⟨xD h.d hb (xH h.d),xD h.o hb (xH h.o),(h.rd.below hb ν).more hb.size,h.bel.trans (hb.mono h.bel.size)⟩
theorem xX {w:World} {B:Nat} {va vb:Value} {D:Dk} (h:RdD w B va vb D):∃A1 c1 A2 c2,va=.slice A1 D.secs.length c1/\vb=.slice A2 D.cache.length c2:=by
 obtain⟨A1,c1,e1,_⟩:=h.s;obtain⟨A2,c2,e2,_⟩:=h.c;exact⟨A1,c1,A2,c2,e1,e2⟩
theorem RnM.put {w W:World} {va vb ua ub:Value} {D D':Dk} (h:RnM w D va vb W) (hr:RdD W W.heap.size ua ub D'):RnM w D' ua ub ((W.setCell ⟨w.heap.size,0,none⟩ ua).setCell ⟨w.heap.size,1,none⟩ ub):=by
 have e1:=xY (xY h.d 0 ua) 1 ub;have e0:=xY h.d 0 ua;have e2:=yC (yC h.o (p:=⟨w.heap.size,0,none⟩) (by show w.heap.size+1≠w.heap.size;omega) ua) (p:=⟨w.heap.size,1,none⟩) (by show w.heap.size+1≠w.heap.size;omega) ub;obtain⟨A1,c1,A2,c2,rfl,rfl⟩:=xX h.rd
 obtain⟨A3,c3,A4,c4,rfl,rfl⟩:=xX hr;have n0:=vG h.d
 have n1:xTa (W.setCell ⟨w.heap.size,0,none⟩ (.slice A3 D'.secs.length c3)) w.heap.size:=by
  simp only[List.setIfInBounds_toArray,List.set_cons_zero] at e0;exact vG e0
 refine⟨by simpa using e1,e2,?_,(h.bel.setCell (p:=⟨w.heap.size,0,none⟩) ν _).setCell (p:=⟨w.heap.size,1,none⟩) ν _⟩;have:=RdD.far (RdD.far hr (p:=⟨w.heap.size,0,none⟩) n0 (.slice A3 D'.secs.length c3)) (p:=⟨w.heap.size,1,none⟩) n1 (.slice A4 D'.cache.length c4)
 simpa[size_set] using this
theorem yCr (va vb lv:Value) (d:Dk) (l:List Mailsack.Op) (m:Int) (w:World) (h:RdD w w.heap.size va vb d) (hl:RdR 3 opF w w.heap.size lv l) (hc:d.cache.length+l.length<=100000):
  Calls prog 180 #[.agg #[va,vb],lv,.int .i64 m] w λe w'=>∃va' vb',e=.returned (.agg #[va',vb'])/\RdD w' w'.heap.size va' vb' (vU d (l.take m.toNat))/\ψ w w':=by
 obtain⟨A1,c1,A2,c2,rfl,rfl⟩:=xX h;obtain⟨A3,c3,rfl,hc3,hl3⟩:=hl
 have H0:Hid (RnM w (vU d (l.take 0)) (.slice A1 d.secs.length c1) (.slice A2 d.cache.length c2) ((w.alloc (xW (.slice A1 d.secs.length c1) (.slice A2 d.cache.length c2))).alloc (xW (.slice none 0 0) (.slice none 0 0)))):=ι (by
  have hb:=(φ w (xW (.slice A1 d.secs.length c1) (.slice A2 d.cache.length c2))).alloc σ (xW (.slice none 0 0) (.slice none 0 0));exact⟨zV _ _ _,zK _ _ _,(h.below hb ν).more hb.size,hb⟩)
 have HL:=ι hl3;have HC:=ι hc;have hlb:l.length<=100000:=ω;clear h hl3 hc3 hc;go_enter func180,ntmps180;go_wp2_with fail
 generalize (w.alloc (xW (.slice A1 d.secs.length c1) (.slice A2 d.cache.length c2))).alloc (xW (.slice none 0 0) (.slice none 0 0))=w1 at H0⊢
 go_loopw [13] (λiv wr=>∃(k:Nat) (ua ub:Value),k<=l.length/\iv=.int .i64 k/\Hid (k<=m.toNat)/\Hid (RnM w (vU d (l.take k)) ua ub wr)) (λiv _=>l.length- (intOf iv).toNat)
 case atStart=>exact⟨0,_,_,Nat.zero_le _,rfl,ι (Nat.zero_le _),H0⟩
 case round=>
  obtain⟨k,ua,ub,hk,rfl,HK,HI⟩:=hrel;clear H0
  by_cases hlt:k<l.length
  ·obtain⟨x,hx⟩:∃x,l[k]?=some x:=⟨_,List.getElem?_eq_getElem hlt⟩;obtain⟨b,off,rfl,hb,hcell⟩:=HL.o ω;have q:=λi u hu=>(HI.o.bel.cell (p:=⟨b,off+k*3+i,none⟩) hb).trans (hcell k x hx i u hu);have q0:wr.cell? ⟨b,off+k*3,none⟩=some (.bool x.flush):=q 0 _ rfl
   have q1:wr.cell? ⟨b,off+k*3+1,none⟩=some (.int .i64 x.w.at_):=q 1 _ rfl;have q2:wr.cell? ⟨b,off+k*3+2,none⟩=some (xR x.w.data):=q 2 _ rfl;have HX:=ι (xV8 hx d);have HZ:=ι (xLa d (l.take k))
   have HW:=ι (HI.o.below ((Below.refl _ wr).alloc ν (.cells #[.bool x.flush,.int .i64 x.w.at_,xR x.w.data] 328)));have hbw:=xM wr (.cells #[.bool x.flush,.int .i64 x.w.at_,xR x.w.data] 328);obtain⟨x0,x1,x2⟩:=xOn hbw;clear hcell q hx hbw
   by_cases hm:m<=(k:Int)
   ·have HE:Hid (vU d (l.take k)=vU d (l.take m.toNat)):=ι (by rw[show k=m.toNat by have:=HK.o;omega]);clear HX HZ HK HI;go_upto_region 11 with fail
    have HI:=HW;clear HW q0 q1 q2 x0 x1 x2;generalize wr.alloc (.cells #[.bool x.flush,.int .i64 x.w.at_,xR x.w.data] 328)=wz at HI⊢;obtain⟨A4,c4,A5,c5,rfl,rfl⟩:=xX HI.o.rd
    have HR:Hid (RdD ((wz.setCell ⟨w.heap.size+1,0,none⟩ (.slice A4 (vU d (l.take k)).secs.length c4)).setCell ⟨w.heap.size+1,1,none⟩ (.slice A5 (vU d (l.take k)).cache.length c5)) wz.heap.size (.slice A4 (vU d (l.take k)).secs.length c4) (.slice A5 (vU d (l.take k)).cache.length c5) (vU d (l.take k))):=ι (by
     have e0:=xY HI.o.o 0 (.slice A4 (vU d (l.take k)).secs.length c4);simp only[List.setIfInBounds_toArray,List.set_cons_zero] at e0;exact RdD.far (RdD.far HI.o.rd (p:=⟨w.heap.size+1,0,none⟩) (vG HI.o.o) _) (p:=⟨w.heap.size+1,1,none⟩) (vG e0) _)
    generalize vU d (l.take k)=D at HR HE HI⊢;obtain⟨d0,d1⟩:=zG HI.o.d;obtain⟨o0,y0,f0,o1,y1,f1,HB⟩:=xIm HI.o.o HI.o.bel ω (.slice A4 D.secs.length c4) (.slice A5 D.cache.length c5) _ rfl;clear HI HL HC;go_wp2
    refine bodyPost_ret (v:=.agg #[.slice A4 D.secs.length c4,.slice A5 D.cache.length c5]) (by simp[results,results180,go_sem,f0,f1]) rfl ?_;rw[<-HE.o];exact⟨_,_,rfl,by simpa[size_set] using HR.o,HB.o⟩
   ·have HK2:Hid (k+1<=m.toNat):=ι ω;clear HI HK;obtain⟨A4,c4,A5,c5,rfl,rfl⟩:=xX HW.o.rd;obtain⟨d0,d1⟩:=zG HW.o.d;have y0:=xB HW.o.d 0;have y1:=xB HW.o.d 1;generalize vU d (l.take k)=D at HX HZ HW d0 d1 y0 y1⊢;cases hf:x.flush with
    |true=>
     have HS:Hid (jY D x=yH D):=ι (by unfold jY;rw[hf,if_pos rfl]);rw[hf] at HW d0 d1 q0 x0 x1 x2 y0 y1;clear hf;have HF:=ι (xG8 _ _ D _ HW.o.rd);go_wp2_with fail
     clear q0 q1 q2 x0 x1 x2 d0 d1 y0 y1;refine HF.o.mono ?_;rintro e w2 ⟨ua,ub,rfl,hr,_,hb⟩;obtain⟨A6,c6,A7,c7,rfl,rfl⟩:=xX hr;have h2:=HW.o.below hb;have HP:=ι (h2.put hr);obtain⟨d0,d1⟩:=zG h2.d;have y0:=xB h2.d 0;have y1:=xB h2.d 1;clear hr hb h2 HF HW;go_wp2
     exact⟨⟨k+1,_,_,ω,by go_num,HK2,by rw[HX.o,HS.o];exact HP⟩,by simp[intOf];omega⟩
    |false=>
     rw[hf] at HW d0 d1 q0 x0 x1 x2 y0 y1;have HPT:=ι (xFz _ _ D x.w _ HW.o.rd (by have:=HZ.o;have:=HC.o;simp only[List.length_take] at *;omega));cases hp:(zD D&&tK x.w D.secs.length) with
     |true=>
      have HS:Hid (jY D x=xZa D x.w):=ι (by unfold jY;rw[hf,if_neg σ,hp,if_pos rfl]);rw[hp,if_pos rfl,if_pos rfl] at HPT;clear hf hp;go_wp2_with fail
      clear q0 q1 q2 x0 x1 x2 d0 d1 y0 y1;refine HPT.o.mono ?_;rintro e w2 ⟨ua,ub,rfl,hr,hb⟩;obtain⟨A6,c6,A7,c7,rfl,rfl⟩:=xX hr;have h2:=HW.o.below hb;have ha:=φ w2 (xW (.slice A6 (xZa D x.w).secs.length c6) (.slice A7 (xZa D x.w).cache.length c7));have h3:=h2.below ha
      have HP:=ι (h3.put ((hr.below ha ν).more ha.size));have hn:=xM w2 (xW (.slice A6 (xZa D x.w).secs.length c6) (.slice A7 (xZa D x.w).cache.length c7));obtain⟨d0,d1⟩:=zG h3.d;obtain⟨e0,e1⟩:=zG hn;have y0:=xB h3.d 0;have y1:=xB h3.d 1;clear hr hb h2 HPT HW ha h3 hn;go_wp2
      exact⟨⟨k+1,_,_,ω,by go_num,HK2,by rw[HX.o,HS.o];exact HP⟩,by simp[intOf];omega⟩
     |false=>
      have HS:Hid (jY D x=D):=ι (by unfold jY;rw[hf,if_neg σ,hp,if_neg σ]);rw[hp,if_neg σ,if_neg σ] at HPT;clear hf hp;go_wp2_with fail
      clear q0 q1 q2 x0 x1 x2 d0 d1 y0 y1;refine HPT.o.mono ?_;rintro e w2 ⟨ua,ub,rfl,hr,hb⟩;obtain⟨A6,c6,A7,c7,rfl,rfl⟩:=xX hr;have h2:=HW.o.below hb;have HP:=ι (h2.below (φ w2 (xW (.slice A6 (⟨[],[]⟩:Dk).secs.length c6) (.slice A7 (⟨[],[]⟩:Dk).cache.length c7))))
      clear hr hb h2 HPT HW;go_wp2;exact⟨⟨k+1,_,_,ω,by go_num,HK2,by rw[HX.o,HS.o];exact HP⟩,by simp[intOf];omega⟩
  ·obtain rfl:k=l.length:=ω
   have HE:Hid (vU d (l.take l.length)=vU d (l.take m.toNat)):=ι (by
    have:=HK.o;rw[List.take_length,List.take_of_length_le this])
   clear HK;go_upto_region 11 with fail
   obtain⟨k,hk⟩:∃k,l.length=k:=⟨_,rfl⟩;rw[hk] at HI HE⊢;clear hk;obtain⟨wz,hwz⟩:∃wz,wz=wr:=⟨_,rfl⟩;rw[<-hwz] at HI⊢;clear hwz;obtain⟨A4,c4,A5,c5,rfl,rfl⟩:=xX HI.o.rd
   have HR:Hid (RdD ((wz.setCell ⟨w.heap.size+1,0,none⟩ (.slice A4 (vU d (l.take k)).secs.length c4)).setCell ⟨w.heap.size+1,1,none⟩ (.slice A5 (vU d (l.take k)).cache.length c5)) wz.heap.size (.slice A4 (vU d (l.take k)).secs.length c4) (.slice A5 (vU d (l.take k)).cache.length c5) (vU d (l.take k))):=ι (by
    have e0:=xY HI.o.o 0 (.slice A4 (vU d (l.take k)).secs.length c4);simp only[List.setIfInBounds_toArray,List.set_cons_zero] at e0;exact RdD.far (RdD.far HI.o.rd (p:=⟨w.heap.size+1,0,none⟩) (vG HI.o.o) _) (p:=⟨w.heap.size+1,1,none⟩) (vG e0) _)
   generalize vU d (l.take k)=D at HR HE HI⊢;obtain⟨d0,d1⟩:=zG HI.o.d;obtain⟨o0,y0,f0,o1,y1,f1,HB⟩:=xIm HI.o.o HI.o.bel ω (.slice A4 D.secs.length c4) (.slice A5 D.cache.length c5) _ rfl;clear HI HL HC;go_wp2
   refine bodyPost_ret (v:=.agg #[.slice A4 D.secs.length c4,.slice A5 D.cache.length c5]) (by simp[results,results180,go_sem,f0,f1]) rfl ?_;rw[<-HE.o];exact⟨_,_,rfl,by simpa[size_set] using HR.o,HB.o⟩
end Go.Proofs.DS
namespace Go.Proofs.BU
open Go.RowKit MM
def ByT (b:Nat) (w w':World):Prop:=∀i o,w.heap[i]?=some o->i≠b->(∀cs fr,o≠.cells cs 5 fr)->w'.heap[i]?=some o
theorem xHg (B b:Nat) (bs:List Value) (w:World) (h:Lib.IsBuilder 127 5 B b bs w):
  Calls prog 242 #[.pointer (some ⟨b,0,none⟩)] w λe w'=>e=.returned (.tuple #[])/\(Lib.BuilderAt 127 5 B b (.pointer (some ⟨b,0,none⟩)) bs w'/\Below B w w'/\∀i,i≠b->w'.heap[i]?=w.heap[i]?):=by
 rcases h with h|h
 ·refine(xAw b w h.cell0 h.shape h.frozen0).mono ?_;rintro e w' ⟨rfl,rfl⟩;exact⟨rfl,h.used _,(Below.refl B w).setCell (p:=⟨b,0,none⟩) h.1 _,λi hi=>Below.heap_setCell w ⟨b,0,none⟩ _ i hi⟩
 ·refine(xBs b w h.cell0).mono ?_;rintro e w' ⟨rfl,rfl⟩;exact⟨rfl,h,Below.refl B _,λ_ _=>rfl⟩
theorem xA7 (B b:Nat) (l:List UInt8) (s:ByteArray) (w:World) (h:Bld B b l w) (hl:l.length+s.size<=1000000000) (hB:B<=w.heap.size):
  Calls prog 153 #[.pointer (some ⟨b,0,none⟩),.string s] w λe w'=>e=.returned (.tuple #[.int .i64 s.size,.nilIface])/\Bld B b (l++s.data.toList) w'/\Below B w w'/\ByT b w w':=by
 obtain⟨i0,hi,hz0,hz1,hz2⟩:=info_parts xIe;have Hl:=ι (xGq l);go_enter func153,ntmps153;go_wp2_with fail
 refine(xHg B b _ _ h).mono ?_;rintro e w1 ⟨rfl,⟨hBb,v,hbk,hown,hne⟩,hb1,hby⟩;have xYd:=ι hown;have Hne:=ι hne;have Hbk:=ι hbk;have Hby:=ι hby
 have k1:w1.cell? ⟨b,1,none⟩=some v:=xA hbk 1;have hlt:=xH hbk;have HB1:=ι hb1;have hz:=hb1.size;clear hown hne hbk hb1 hby
 go_wp2_with (at_builtin;refine Lib.wpList_append_own_string _ rfl _ _ 125 9 rfl B 5 i0 underlying125 underlying9 hi hz0 hz1 hz2 _ _ _ rfl xYd.o s rfl ?c3 ?c4 ?c5 ?_)
 case c3=>have:=Hl.o;unfold maxLen;omega
 case c4=>have:=Hl.o;omega
 case c5=>omega
 intro v' w2 hown' hgrow _;have pk:=ι (vR Hbk.o hgrow (λe=>Hne.o e.symm));have k2:w2.cell? ⟨b,1,none⟩=some v:=xA pk.o 1;have y2:w2.frozen? ⟨b,1,none⟩=false:=xB pk.o 1
 obtain⟨ao,n',cap,rfl⟩:∃ao n' cap,v'=.slice ao n' cap:=by
  rcases hown'.2 with ⟨hv,_⟩|⟨g,cap,cur,hv,_⟩
  ·exact⟨_,_,_,hv⟩
  ·exact⟨_,_,_,hv⟩
 have xKh:=ι hown';have xHn:=ι hgrow;clear hown' hgrow;go_wp2;go_ret2;refine⟨rfl,.inr ?_,?_,λi o ho hib hty=>?_⟩
 ·refine Lib.BuilderAt.put (T:=127) (e:=5) hBb pk.o (bs':=Lib.byteCells (l++s.data.toList)) ?_ δ;rw[xEn,List.length_append];have:=xKh.o;simpa[Lib.strCells,Lib.byteCells,Lib.strCells_length] using this
 ·refine Below.setCell ?_ (p:=⟨b,1,none⟩) hBb _;exact HB1.o.grown xHn.o ω (λk hk=>(World.ownsRow.lt xYd.o k hk).1)
 ·have h1:w1.heap[i]?=some o:=(Hby.o i hib).trans ho;refine yC (vR h1 xHn.o (λe=>?_)) (p:=⟨b,1,none⟩) hib _;rcases xYd.o.2 with ⟨hv,_⟩|⟨g,cap,cur,hv,_,hg,_⟩
  ·rw[hv] at e;simp[Value.ownBlock] at e
  ·rw[hv] at e;have e':i=g:=by simpa[Value.ownBlock] using e
   subst e';rw[hg] at h1;injection h1 with h1;exact hty _ _ h1.symm
end Go.Proofs.BU
namespace Mailsack
theorem xY2 {l:List Wr} {k:Nat} {x:Wr} (h:l[k]?=some x):xIu (l.take (k+1))=xIu (l.take k)++(xGj x.at_++x.data):=by
 unfold xIu;rw[List.take_add_one,h,List.map_append,List.flatten_append];simp[xXb]
theorem xKf {n:Nat}:∀(l:List Wr),l.all (xO9 n)=true->(xIu l).length=128*l.length
 |[],_=>rfl
 |x::l,h=>by
  rw[List.all_cons,Bool.and_eq_true] at h;have ih:=xKf l h.2
  have hx:x.data.length=64:=by
   have:=h.1;unfold xO9 at this;simp at this;exact this.2
  unfold xIu at ih⊢;rw[List.map_cons,List.flatten_cons,List.length_append,ih,List.length_cons];simp[xXb,xMc,hx];omega
theorem xWd {l:List Wr} {k:Nat} {x:Wr} (h:l[k]?=some x):qL 0 (l.take (k+1))=qL 0 (l.take k)++[wOp (1+2*(k:Int)) (xGj x.at_),wOp (2+2*(k:Int)) x.data]:=by
 have hk:=(List.getElem?_eq_some_iff.1 h).1;rw[List.take_add_one,h];show qL 0 (l.take k++[x])=_;rw[xM2,List.length_take,Nat.zero_add,show min k l.length=k by omega]
theorem xO0 {l:List Wr} {k:Nat} {x:Wr} (h:l[k]?=some x):(l.take (k+1)).map (λx=>(⟨false,x⟩:Op))=(l.take k).map (λx=>(⟨false,x⟩:Op))++[⟨false,x⟩]:=by
 rw[List.take_add_one,h,List.map_append]
 rfl
end Mailsack
namespace Go.Proofs.DS
open Go.RowKit Mailsack MM BB SH SV RK BU
theorem zI.neT {α:Type} {e:TypeId} {k:Nat} {f:α->List Value} {w:World} {base:Nat} {v:Value} {l:List α} (h:zI e k f w base v l) {g:Nat} {cs:Array Value} {T:TypeId} {fr:Nat×Nat} (hb:w.heap[g]?=some (.cells cs T fr)) (hT:T≠e):v.ownBlock≠some g:=by
 rcases h.2 with ⟨h1,_⟩|⟨g',cap,cur,h1,_,h3,_⟩
 ·rw[h1];intro e;cases e
 ·rw[h1];intro e2;have:g'=g:=by simpa[Value.ownBlock] using e2
  subst this;rw[h3] at hb;injection hb with hb;injection hb with _ hb;exact hT hb.symm
theorem zI.byT {α:Type} {e:TypeId} {k:Nat} {f:α->List Value} {w w':World} {base:Nat} {v:Value} {l:List α} (h:zI e k f w base v l) {b:Nat} {cs:Array Value} {fr:Nat×Nat} (ht:ByT b w w') (hb:w.heap[b]?=some (.cells cs 127 fr)) (h1:127≠e) (h2:e≠5):zI e k f w' base v l:=by
 have hne:=zI.neT h hb h1;refine⟨h.1,?_⟩;rcases h.2 with hn|⟨g,cap,cur,k1,k2,k3,k4⟩
 ·exact .inl hn
 ·refine .inr ⟨g,cap,cur,k1,k2,ht g _ k3 (λe=>hne (by rw[k1,e];rfl)) (λcs fr e2=>?_),k4⟩;injection e2 with _ e2;exact h2 e2
theorem byT_of {b:Nat} {w w':World} (h:Lib.OthersKept 5 (some b) w w'):ByT b w w':=λi o ho hi ht=>h i o ho (λe=>hi (by injection e)) ht
theorem Bld.blk {B b:Nat} {l:Bs} {w:World} (h:Bld B b l w):∃cs,w.heap[b]?=some (.cells cs 127 (0,0)):=by
 rcases h with ⟨_,v,h,_⟩|⟨_,v,h,_⟩
 ·exact⟨_,h⟩
 ·exact⟨_,h⟩
theorem Bld.keep {B b:Nat} {l:Bs} {w w':World} (h:Bld B b l w) (hk:∀g o,w.heap[g]?=some o->(g=b∨∃cs fr,o=.cells cs 5 fr)->w'.heap[g]?=some o):Bld B b l w':=by
 have key:∀p,Lib.BuilderAt 127 5 B b p (Lib.byteCells l) w->Lib.BuilderAt 127 5 B b p (Lib.byteCells l) w':=by
  rintro p ⟨h1,v,h2,h3,h4⟩;refine⟨h1,v,hk _ _ h2 (.inl rfl),⟨h3.1,?_⟩,h4⟩;rcases h3.2 with hn|⟨g,cap,cur,k1,k2,k3,k4⟩
  ·exact .inl hn
  ·exact .inr ⟨g,cap,cur,k1,k2,hk _ _ k3 (.inr ⟨_,_,rfl⟩),k4⟩
 rcases h with h|h
 ·exact .inl (key _ h)
 ·exact .inr (key _ h)
structure PlM (w:World) (b:Nat) (va vb:Value) (bs:Bs) (W:World):Prop where
 d:W.heap[w.heap.size]?=some (xW va vb)
 bl:Bld b b bs W
 lo:w.heap.size<b
 bel:ψ w W
section
variable {w W W':World} {b:Nat} {va vb:Value} {bs bs':Bs}
theorem PlM.below (h:PlM w b va vb bs W) (hb:ψ W W'):PlM w b va vb bs W':=
 ⟨xD h.d hb (xH h.d),Bld.keep h.bl λ_ _ ho _=>xD ho hb (xH ho),h.lo,h.bel.trans (hb.mono h.bel.size)⟩
theorem PlM.app (h:PlM w b va vb bs W) {v v':Value} {l l':List Mailsack.Op} (ho:zI 328 3 opF W (w.heap.size+1) v l) (ha:xKt 328 3 opF W W' (w.heap.size+1) v v' l'):PlM w b va vb bs W':=by
 obtain⟨cs,hbk⟩:=Bld.blk h.bl;refine⟨ha.keep h.d (ho.far ω),Bld.keep h.bl λg o hg hor=>ha.keep hg ?_,h.lo,ha.bel ho ω h.bel h.bel.size⟩;rcases hor with rfl|⟨cs2,fr,rfl⟩
 ·exact zI.neT ho hbk δ
 ·exact zI.neT ho hg δ
end
theorem PlM.write {w W W':World} {b:Nat} {va vb:Value} {bs bs':Bs} (h:PlM w b va vb bs W) (hl:Bld b b bs' W') (hb:Below b W W'):PlM w b va vb bs' W':=
 ⟨xD h.d hb h.lo,hl,h.lo,h.bel.trans (hb.mono (Nat.le_of_lt h.lo))⟩
structure PlX (w:World) (b:Nat) (va vb:Value) (bs:Bs) (xb:Nat) (x:Wr) (ov:Value) (ops:List Mailsack.Op) (W:World):Prop where
 m:PlM w b va vb bs W
 x:W.heap[xb]?=some (.cells #[.int .i64 x.at_,xR x.data] 154 (0,0))
 o:zI 328 3 opF W (w.heap.size+1) ov ops
section
variable {w W W':World} {b xb:Nat} {va vb ov:Value} {bs bs':Bs} {x:Wr} {ops:List Mailsack.Op}
theorem PlX.below (h:PlX w b va vb bs xb x ov ops W) (hb:ψ W W'):PlX w b va vb bs xb x ov ops W':=⟨h.m.below hb,xD h.x hb (xH h.x),h.o.below hb⟩
theorem PlX.drew (h:PlX w b va vb bs xb x ov ops W):PlX w b va vb bs xb x ov ops W.drew:=h.below (Below.refl _ W).drew
theorem PlX.write (h:PlX w b va vb bs xb x ov ops W) (hl:Bld b b bs' W') (hb:Below b W W') (ht:ByT b W W'):PlX w b va vb bs' xb x ov ops W':=by
 obtain⟨cs,hbk⟩:=Bld.blk h.m.bl;refine⟨h.m.write hl hb,ht xb _ h.x (λe=>?_) (λcs fr e=>?_),zI.byT h.o ht hbk δ δ⟩
 ·subst e;have:=h.x;rw[hbk] at this;injection this with this;injection this with _ this;exact absurd this δ
 ·injection e with _ e;exact absurd e δ
end
theorem xBk {P:Program} {w w':World} {ops:Array Oper} {rest:List Oper} {o:Oper} {a:Act} {Q:Exit->Act->World->Prop} {t:TypeId} {v vx v':Value} (hgd:o.guard=none) (s x:Operand)
  (ho:o.op=.call {callee:=.builtin .append,args:=#[s,x],argTypes:=#[t,t]}) (hs:a.eval s=v) (hx:a.eval x=vx)
  (hr:(Builtin.append_ #[t,t] o.type #[v,vx]).run P w=.ok v' w')
  (h:wpList P ops Q rest (a.put o.dst v') w'):wpList P ops Q (o::rest) a w:=by
 refine wpList_plain hgd λK hK=>?_;unfold Oper.wp;simp[execOp,ho,resolve,invoke,builtin,hs,hx,hr,Result.andThen];exact hK _ _ h
theorem xI2 {d:Dk} {l:List Wr} (h:xBn d=false∨l.length=0):vY d l=1:=by unfold vY;rw[if_pos h]
end Go.Proofs.DS
namespace Go.Proofs.DS
open Go.RowKit Mailsack MM BB SH SV RK BU
theorem yC5 {w:World} {B:Nat} {A:Option Addr} {n c:Nat} {l:List Wr} (h:RdW w B (.slice A n c) l) {j:Nat} {x:Wr} (hx:l[j]?=some x):∃b off,A=some ⟨b,off,none⟩/\b<B/\w.cell? ⟨b,off+j*2,none⟩=some (.int .i64 x.at_)/\w.cell? ⟨b,off+j*2+1,none⟩=some (xR x.data):=by
 obtain⟨A',c',e,_,h3⟩:=h;injection e with e1 e2 e3;subst e1 e2;obtain⟨b,off,h4,h5,h6⟩:=h3 (by have:=(List.getElem?_eq_some_iff.1 hx).1;omega);exact⟨b,off,h4,h5,(h6 j x hx).1,(h6 j x hx).2⟩
theorem RdR.xPn {α:Type} {k:Nat} {f:α->List Value} (w:World) (B:Nat):RdR k f w B (.slice none 0 0) ([]:List α):=⟨none,0,rfl,Nat.le_refl _,λh=>by simp at h⟩
theorem xVh (va vb lv:Value) (d:Dk) (l:List Wr) (w:World) (h:RdD w w.heap.size va vb d) (hl:RdW w w.heap.size lv l) (hs:xBn d=false∨l.length=0):
  Calls prog 179 #[.agg #[va,vb],lv] w λe w'=>e=.returned (.tuple #[.slice none 0 0,.int .i64 1])/\ψ w w':=by
 obtain⟨A1,c1,A2,c2,rfl,rfl⟩:=xX h;obtain⟨A3,c3,rfl,_,_⟩:=hl;have HA:=ι (φ w (xW (.slice A1 d.secs.length c1) (.slice A2 d.cache.length c2)));have HS:=ι (xL4 _ _ d _ ((h.below HA.o ν).more HA.o.size));rw[show(decide (61<d.secs.length)&&zD d)=xBn d from rfl] at HS
 cases hsu:xBn d with
 |false=>
  rw[hsu] at HS;clear hs hsu h;go_enter func179,ntmps179;go_wp2_with fail
  refine HS.o.mono ?_;rintro e w1 ⟨rfl,hb⟩;have HB:=ι (HA.o.trans (hb.mono HA.o.size));clear hb HS HA;go_wp2;go_ret2;exact⟨rfl,HB.o⟩
 |true=>
  rw[hsu] at HS;have h0:l.length=0:=hs.resolve_left (by rw[hsu];simp);rw[h0];clear hs hsu h h0;go_enter func179,ntmps179;go_wp2_with fail
  refine HS.o.mono ?_;rintro e w1 ⟨rfl,hb⟩;have HB:=ι (HA.o.trans (hb.mono HA.o.size));clear hb HS HA;go_wp2;go_ret2;exact⟨rfl,HB.o⟩
theorem xZe (va vb lv:Value) (d:Dk) (l:List Wr) (w:World) (h:RdD w w.heap.size va vb d) (hl:RdW w w.heap.size lv l) (hll:l.length<=100000) (hs:xBn d=true) (h0:l.length≠0) (hT:vT w):
  Calls prog 179 #[.agg #[va,vb],lv] w λe w'=>∃ov,e=.returned (.tuple #[ov,.int .i64 (vY d l)])/\RdR 3 opF w' w'.heap.size ov (if vY d l=0 then jR l else[])/\ψ w w':=by
 obtain⟨A1,c1,A2,c2,rfl,rfl⟩:=xX h;have HWR:=ι hl;obtain⟨A3,c3,rfl,_,_⟩:=hl;have HA:=ι (φ w (xW (.slice A1 d.secs.length c1) (.slice A2 d.cache.length c2)));have HD0:=ι (xM w (xW (.slice A1 d.secs.length c1) (.slice A2 d.cache.length c2)))
 have HS:=ι (xL4 _ _ d _ ((h.below HA.o ν).more HA.o.size));rw[show(decide (61<d.secs.length)&&zD d)=xBn d from rfl,hs] at HS;have HPE:Hid (vY d l=if l.all (xO9 d.secs.length)=false then 1 else if 30<l.length then 4 else 0):=ι (by unfold vY;rw[if_neg (by rw[hs];simp[h0])])
 have HTT:=ι hT;obtain⟨pe,hpe⟩:∃pe,vY d l=pe:=⟨_,rfl⟩;obtain⟨pl,hpl⟩:∃pl,(if vY d l=0 then jR l else[])=pl:=⟨_,rfl⟩;rw[hpl,hpe];have HV:=ι (And.intro hpe hpl);clear hs h hT hpe hpl;have h0i:¬((l.length:Int)=0):=ω;have h0b:((l.length:Int)==0)=false:=by simpa using h0i
 go_enter func179,ntmps179;go_wp2_with fail
 refine HS.o.mono ?_;rintro e w1 ⟨rfl,hb⟩;have HB:=ι (And.intro (HA.o.trans (hb.mono HA.o.size)) (xD HD0.o hb (xH HD0.o)));clear hb HS HA HD0;go_wp2_with fail
 clear h0i h0b
 -- the first loop:each write goes
 go_loopw [25] (λiv wr=>∃k:Nat,k<=l.length/\iv=.int .i64 k/\Hid (ψ w wr/\wr.heap[w.heap.size]?=some (xW (.slice A1 d.secs.length c1) (.slice A2 d.cache.length c2)))/\Hid (∀r∈l.take k,xO9 d.secs.length r=true)) (λiv _=>l.length- (intOf iv).toNat)
 case atStart=>exact⟨0,Nat.zero_le _,rfl,HB,ι σ⟩
 case round=>
  obtain⟨k,hk,rfl,HI,hok⟩:=hrel;clear HB
  by_cases hlt:k<l.length
  ·obtain⟨x,hx⟩:∃x,l[k]?=some x:=⟨_,List.getElem?_eq_getElem hlt⟩;obtain⟨b,off,rfl,hbw,q0,q1⟩:=yC5 HWR.o hx;have q0:=(HI.o.1.cell (p:=⟨b,off+k*2,none⟩) hbw).trans q0;have q1:=(HI.o.1.cell (p:=⟨b,off+k*2+1,none⟩) hbw).trans q1;have HX:=ι hx
   have HF:Hid (xO9 d.secs.length x=(decide (61<=x.at_)&&decide (x.at_<d.secs.length)&&decide (x.data.length=64))):=ι rfl;have HAL:=ι (And.intro (HI.o.1.alloc HI.o.1.size (.cells #[.int .i64 x.at_,xR x.data] 154)) (xO HI.o.2 (.cells #[.int .i64 x.at_,xR x.data] 154)))
   have hbn:=xM wr (.cells #[.int .i64 x.at_,xR x.data] 154);have hbd:=HAL.o.2;obtain⟨x0,x1⟩:=zG hbn;obtain⟨d0,d1⟩:=zG hbd;obtain⟨xa,xd⟩:=x;obtain⟨sb,hsb⟩:∃sb:ByteArray,(⟨xd.toArray⟩:ByteArray)=sb:=⟨_,rfl⟩;have hsz:sb.size=xd.length:=by rw[<-hsb];rfl
   simp only at q0 q1 HF HAL x0 x1 d0 d1;simp only[xR] at q0 q1 HAL x0 x1 d0 d1;rw[hsb] at q1 HAL x1 d0 d1 x0;clear hx hbn hbd HI hsb
   by_cases g1:xa<61
   ·have HR:Hid (vY d l=1):=ι (by rw[HPE.o,if_pos (all_false HX.o (by rw[HF.o];simp;omega))]);clear HPE HF HWR;go_wp2;go_ret2;exact⟨_,by rw[<-HV.o.1,HR.o];rfl,by rw[<-HV.o.2,HR.o,if_neg ω];exact RdR.xPn _ _,HAL.o.1⟩
   ·by_cases g2:(d.secs.length:Int)<=xa
    ·have HR:Hid (vY d l=1):=ι (by rw[HPE.o,if_pos (all_false HX.o (by rw[HF.o];simp;omega))]);clear HPE HF HWR;go_wp2;go_ret2;exact⟨_,by rw[<-HV.o.1,HR.o];rfl,by rw[<-HV.o.2,HR.o,if_neg ω];exact RdR.xPn _ _,HAL.o.1⟩
    ·by_cases g3:sb.size=64
     ·have g3i:(sb.size:Int)=64:=ω;have g3b:((sb.size:Int)!=64)=false:=by simp[g3i]
      have HO:=ι (xKe HX.o (by rw[HF.o];simp;omega) hok.o);clear HF HX hok HPE;go_wp2;exact⟨⟨k+1,ω,by go_num,HAL,HO⟩,by simp[intOf];omega⟩
     ·have g3i:¬((sb.size:Int)=64):=ω;have g3b:((sb.size:Int)!=64)=true:=by simp[g3i]
      have HR:Hid (vY d l=1):=ι (by rw[HPE.o,if_pos (all_false HX.o (by rw[HF.o];simp;omega))]);clear HPE HF HWR;go_wp2;go_ret2;exact⟨_,by rw[<-HV.o.1,HR.o];rfl,by rw[<-HV.o.2,HR.o,if_neg ω];exact RdR.xPn _ _,HAL.o.1⟩
  ·obtain rfl:k=l.length:=ω;have HAL:=ι (all_true hok.o);have HLN:=ι (xKf l HAL.o);rw[HAL.o,if_neg σ] at HPE;clear hok hlt
   by_cases h30:30<l.length
   ·have HR:Hid (vY d l=4):=ι (by rw[HPE.o,if_pos h30]);have h30i:30<(l.length:Int):=ω;clear HPE HWR;go_wp2;go_ret2;exact⟨_,by rw[<-HV.o.1,HR.o];rfl,by rw[<-HV.o.2,HR.o,if_neg ω];exact RdR.xPn _ _,HI.o.1⟩
   ·have HR:Hid (vY d l=0):=ι (by rw[HPE.o,if_neg h30]);have h30i:¬(30<(l.length:Int)):=ω;rw[HR.o,if_pos rfl] at HV;clear HPE HR;obtain⟨z,hzz,hmk⟩:=madeR tyOp wr (3*l.length+6) ω;rw[show((3*l.length+6:Nat):Int)=3*(l.length:Int)+6 by omega] at hmk;have hzs:=xH HI.o.2
    have HO2:Hid (zI 328 3 opF ((wr.alloc (.cells z 328)).alloc (.cells #[.pointer none,.slice none 0 0] 127)) (w.heap.size+1) (.slice (some ⟨wr.heap.size,0,none⟩) 0 (3*l.length+6)) (qL 0 (l.take 0))/\
      PlM w (wr.heap.size+1) (.slice A1 d.secs.length c1) (.slice A2 d.cache.length c2) (xIu (l.take 0)) ((wr.alloc (.cells z 328)).alloc (.cells #[.pointer none,.slice none 0 0] 127))):=ι (by
     refine⟨(zI.room z wr _ ω ω hzz).alloc _,xO (xO HI.o.2 _) _,?_,ω,(HI.o.1.alloc HI.o.1.size _).alloc (by simp;omega) _⟩;have:=Lib.fresh_isBuilder 127 5 (wr.alloc (.cells z 328));rw[vD] at this;exact this)
    go_upto_region 13 with fail
    clear hmk hzz HI;obtain⟨bb,hbb⟩:∃bb,wr.heap.size+1=bb:=⟨_,rfl⟩;rw[hbb] at HO2⊢;generalize Value.slice (some ⟨wr.heap.size,0,none⟩) 0 (3*l.length+6)=ov at HO2⊢;generalize (wr.alloc (.cells z 328)).alloc (.cells #[.pointer none,.slice none 0 0] 127)=w2 at HO2⊢;clear hbb hzs
    go_wp2_with fail
    go_loopw [8,57] (λov iv wr=>∃k:Nat,k<=l.length/\iv=.int .i64 k/\Hid (zI 328 3 opF wr (w.heap.size+1) ov (qL 0 (l.take k))/\PlM w bb (.slice A1 d.secs.length c1) (.slice A2 d.cache.length c2) (xIu (l.take k)) wr)) (λ_ iv _=>l.length- (intOf iv).toNat)
    case atStart=>exact⟨0,Nat.zero_le _,rfl,HO2⟩
    case round=>
     obtain⟨k,hk,rfl,HI⟩:=hrel;clear HO2
     by_cases hlt:k<l.length
     ·obtain⟨x,hx⟩:∃x,l[k]?=some x:=⟨_,List.getElem?_eq_getElem hlt⟩;obtain⟨b,off,rfl,hbw,q0,q1⟩:=yC5 HWR.o hx;have q0:=(HI.o.2.bel.cell (p:=⟨b,off+k*2,none⟩) hbw).trans q0;have q1:=(HI.o.2.bel.cell (p:=⟨b,off+k*2+1,none⟩) hbw).trans q1
      have HSN:=ι (And.intro (xY2 hx) (xWd hx))
      have HG:Hid (x.data.length=64/\(xIu (l.take k)).length<=100000/\(qL 0 (l.take k)).length<=100000):=ι (by
       have g1:=List.all_eq_true.1 HAL.o x (List.mem_of_getElem? hx);have g2:=xKf (l.take k) (List.all_eq_true.2 λy hy=>List.all_eq_true.1 HAL.o y (List.mem_of_mem_take hy));have g3:=List.length_take_le k l;unfold xO9 at g1;simp at g1;exact⟨g1.2,ω,by rw[xF8];omega⟩)
      have HX2:Hid (PlX w bb (.slice A1 d.secs.length c1) (.slice A2 d.cache.length c2) (xIu (l.take k)) wr.heap.size x u8 (qL 0 (l.take k)) (wr.alloc (.cells #[.int .i64 x.at_,xR x.data] 154))):=ι ⟨HI.o.2.below ((Below.refl _ _).alloc ν _),xM _ _,HI.o.1.alloc _⟩
      generalize xIu (l.take k)=bs at HX2 HSN HG;generalize qL 0 (l.take k)=ops at HX2 HSN HG;obtain⟨xa,xd⟩:=x;simp only at q0 q1 HX2 HSN HG;clear hx HI;go_upto_region 16 with fail
      clear q0 q1;generalize wr.alloc (.cells #[.int .i64 xa,xR xd] 154)=w3 at HX2⊢;generalize wr.heap.size=xb at HX2⊢;obtain⟨x0,x1⟩:=zG HX2.o.x;have HDS:=ι (yAp xa w3);have HDL:=ι (xMc xa);generalize xGj xa=ds at HDS HDL HSN;go_wp2_with fail
      refine HDS.o.mono ?_;rintro e w4 ⟨rfl,hb4⟩;have HX4:=ι (HX2.o.below hb4);clear HX2 hb4 x0 x1 HDS
      have HWS:=ι (xA7 bb bb bs ⟨ds.toArray⟩ w4 HX4.o.m.bl (by have:=HG.o.2.1;have:=HDL.o;show bs.length+ds.toArray.size<=_;simp;omega) (Nat.le_of_lt (by obtain⟨cs,h⟩:=Bld.blk HX4.o.m.bl;exact xH h)));go_wp2_with fail
      refine HWS.o.mono ?_;rintro e w5 ⟨rfl,hl5,hb5,ht5⟩;have HX5:=ι (HX4.o.write hl5 hb5 ht5);rw[show bs++(⟨ds.toArray⟩:ByteArray).data.toList=bs++ds from rfl] at HX5;clear HX4 hl5 hb5 ht5 HWS;obtain⟨x0,x1⟩:=zG HX5.o.x
      have HWS:=ι (xA7 bb bb (bs++ds) ⟨xd.toArray⟩ w5 HX5.o.m.bl (by have:=HG.o.2.1;have:=HDL.o;have:=HG.o.1;show(bs++ds).length+xd.toArray.size<=_;simp;omega) (Nat.le_of_lt (by obtain⟨cs,h⟩:=Bld.blk HX5.o.m.bl;exact xH h)));go_wp2_with fail
      refine HWS.o.mono ?_;rintro e w6 ⟨rfl,hl6,hb6,ht6⟩;have HX6:=ι (HX5.o.write hl6 hb6 ht6);rw[show bs++ds++(⟨xd.toArray⟩:ByteArray).data.toList=bs++(ds++xd) from by rw[<-List.append_assoc]] at HX6;rw[<-HSN.o.1] at HX6;clear HX5 hl6 hb6 ht6 HWS x0 x1
      go_upto_region 19 with fail
      have HW1:=ι (λW=>xC7 (1+2*(k:Int)) ⟨ds.toArray⟩ W);have HW2:=ι (λW=>xC7 (2+2*(k:Int)) ⟨xd.toArray⟩ W);have HJL:Hid (ops.length<=100000):=ι HG.o.2.2;obtain⟨BS,hBS⟩:∃B,xIu (l.take (k+1))=B:=⟨_,rfl⟩;rw[hBS] at HX6 HSN;have b1:(k:Int)<=100000:=ω
      refine RG.uA [14] [12,13] (λL α W=>Hid (PlM w bb (.slice A1 d.secs.length c1) (.slice A2 d.cache.length c2) BS W/\W.heap[xb]?=some (.cells #[.int .i64 xa,xR xd] 154 (0,0))/\
       (L 12=true->L 13=false->RdR 3 opF W W.heap.size (α 12) [wOp (1+2*(k:Int)) ds,wOp (2+2*(k:Int)) xd])/\(L 13=false->zI 328 3 opF W (w.heap.size+1) u8 ops)/\
       (L 13=true->zI 328 3 opF W (w.heap.size+1) (α 13) (ops++[wOp (1+2*(k:Int)) ds,wOp (2+2*(k:Int)) xd]))))
       (λL L' α α' W hl ha h=>ι ⟨h.o.1,h.o.2.1,λe12 e13=>by
        have f12:L 12=true:=by rw[hl 12 σ];exact e12
        rw[<-ha 12 σ f12];exact h.o.2.2.1 f12 (by rw[hl 13 σ];exact e13),λe13=>h.o.2.2.2.1 (by rw[hl 13 σ];exact e13),λe13=>by
        have f13:L 13=true:=by rw[hl 13 σ];exact e13
        rw[<-ha 13 σ f13];exact h.o.2.2.2.2 f13⟩) κ κ κ (ι ⟨HX6.o.drew.m,HX6.o.drew.x,λe=>(by cases e),λ_=>HX6.o.drew.o,λe=>(by cases e)⟩) ?_
      iterate 5 refine RG.vS ?_
      apply RG.zC
      ·rfl
      ·rfl
      ·intro α L w9 h0 hcl xK hw9;repeat go_step
       refine(HW1.o _).mono ?_;rintro e w10 ⟨rfl,zF⟩;simp only[];repeat go_step
       refine RG.xC ?_;exact ι ⟨hw9.o.1.below zF,xD hw9.o.2.1 zF (xH hw9.o.2.1),λe f=>((hw9.o.2.2.1 e f).below zF ν).more zF.size,λe=>(hw9.o.2.2.2.1 e).below zF,λe=>(hw9.o.2.2.2.2 e).below zF⟩
      ·intro α;rfl
      iterate 5 refine RG.vF (λα L w9 h0 hcl xK hw9=>zG hw9.o.2.1) ?_
      apply RG.zC
      ·rfl
      ·rfl
      ·intro α L w9 h0 hcl xK hw9;repeat go_step
       refine(HW2.o _).mono ?_;rintro e w10 ⟨rfl,zF⟩;simp only[];repeat go_step
       refine RG.xC ?_;exact ι ⟨hw9.o.1.below zF,xD hw9.o.2.1 zF (xH hw9.o.2.1),λe f=>((hw9.o.2.2.1 e f).below zF ν).more zF.size,λe=>(hw9.o.2.2.2.1 e).below zF,λe=>(hw9.o.2.2.2.2 e).below zF⟩
      ·intro α;rfl
      apply RG.vK
      ·rfl
      ·intro α L w9 h0 hcl xK hw9;have h13:L 13=false:=hcl.not 8 (i:=13) h0 κ;refine⟨.slice (some ⟨w9.heap.size,0,none⟩) 2 2,λbv hbv=>?_⟩;repeat go_step
       rw[<-hbv];refine RG.xC ?_
       exact ι ⟨hw9.o.1.below ((Below.refl _ _).alloc ν _),xO hw9.o.2.1 _,λ_ _=>by
        rw[show RG.wO α (0+1+1+1+1+1+1+1+1+1+1+1+1) bv 12=bv from RG.uV _ _ _,hbv,vD];exact RdR.lit (m:=[wOp (1+2*(k:Int)) ds,wOp (2+2*(k:Int)) xd]) xDr w9 _ rfl,λ_=>(hw9.o.2.2.2.1 h13).alloc _,λe=>by
        have:L 13=true:=by simpa using e
        rw[h13] at this;cases this⟩
      ·intro b α;rfl
      apply RG.vK
      ·rfl
      ·intro α L w9 h0 hcl xK hw9
       have h12:L 12=true:=by
        have:=xK.yes 8 (i:=13) (j:=12) σ κ;simpa using this
       obtain⟨v',w',hr,ha⟩:=xJ7 (P:=prog) tyOp 241 (hw9.o.2.2.2.1 h0) (hw9.o.2.2.1 h12 h0) (by have:=HJL.o;simp;omega) (by have:=hw9.o.1.bel.size;have:=xH hw9.o.1.d;omega);refine⟨v',λbv hbv=>?_⟩;refine xBk rfl _ _ rfl rfl rfl hr ?_;rw[<-hbv];repeat go_step
       refine RG.xC ?_
       exact ι ⟨hw9.o.1.app (hw9.o.2.2.2.1 h0) ha,ha.keep hw9.o.2.1 (zI.neT (hw9.o.2.2.2.1 h0) hw9.o.2.1 δ),λ_ f=>by simp at f,λf=>by simp at f,λ_=>by
        rw[show RG.wO α (0+1+1+1+1+1+1+1+1+1+1+1+1+1) bv 13=bv from RG.uV _ _ _,hbv];exact ha.own⟩
      ·intro b α;rfl
      apply RG.xOx
      ·rfl
      ·kernel_rfl
      ·rfl
      ·intro α L w9 h0 hcl xK hw9;repeat go_step
       refine RG.xC ?_;exact ι ⟨hw9.o.1,hw9.o.2.1,λe f=>hw9.o.2.2.1 (by simpa using e) (by simpa using f),λe=>hw9.o.2.2.2.1 (by simpa using e),λe=>hw9.o.2.2.2.2 (by simpa using e)⟩
      ·intro α;rfl
      refine RG.qV (λα w9 hw9=>?_);have H9:Hid (zI 328 3 opF w9 (w.heap.size+1) (α 13) (qL 0 (l.take (k+1)))/\PlM w bb (.slice A1 d.secs.length c1) (.slice A2 d.cache.length c2) (xIu (l.take (k+1))) w9):=ι ⟨by rw[HSN.o.2];exact hw9.o.2.2.2.2 rfl,by rw[hBS];exact hw9.o.1⟩
      clear HX6 HW1 HW2 HJL HSN HG HDL hw9 hBS;go_wp2;exact⟨⟨k+1,ω,by go_num,H9⟩,by simp[intOf];omega⟩
     ·obtain rfl:k=l.length:=ω;rw[List.take_length] at HI;clear hlt;have HWF:=ι (λW=>xR5 W);go_upto_region 21 with fail
      go_wp2_with fail
      refine(HWF.o _).mono ?_;rintro e w3 ⟨rfl,hb3⟩;have HI3:=ι (And.intro (HI.o.1.below hb3) (HI.o.2.below hb3));clear hb3 HI;have HST:=ι (Tryz.Builder_String_k bb bb (xIu l) w3 (Lib.IsBuilderF.of HI3.o.2.bl) (by intro e;have:=HLN.o;rw[e] at this;simp at this;omega))
      go_wp2_with fail
      refine HST.o.mono ?_;rintro e w4 ⟨rfl,_,hb4,ho4⟩
      have HI4:Hid (zI 328 3 opF w4 (w.heap.size+1) u8 (qL 0 l)/\ψ w w4):=ι (by
       obtain⟨cs,hbk⟩:=Bld.blk HI3.o.2.bl;exact⟨zI.byT HI3.o.1 (byT_of ho4) hbk δ δ,HI3.o.2.bel.trans (hb4.mono (Nat.le_of_lt HI3.o.2.lo))⟩)
      clear HST hb4 ho4 HI3;have HHD:=ι (xSp l.length ⟨(xIu l).toArray⟩ w4 ω (by have:=HLN.o;show(xIu l).toArray.size<=_;simp;omega) (HTT.o.below HI4.o.2 ν));rw[show(⟨(xIu l).toArray⟩:ByteArray).data.toList=xIu l from rfl] at HHD
      obtain⟨hd,hhd⟩:∃hd,xSq l.length (xIu l)=hd:=⟨_,rfl⟩;rw[hhd] at HHD;have HHE:=ι hhd;clear hhd;have HJL:Hid ((qL 0 l).length<=1000):=ι (by rw[xF8];omega);have HWR2:=ι (λW=>xC7 0 ⟨hd.toArray⟩ W);go_wp2_with fail
      refine(HHD.o).mono ?_;rintro e w5 ⟨rfl,hb⟩;have HI5:=ι (And.intro (HI4.o.1.below hb) (HI4.o.2.trans (hb.mono HI4.o.2.size)));clear hb HI4 HHD;go_wp2_with fail
      refine(HWR2.o _).mono ?_;rintro e w6 ⟨rfl,hb⟩;have HI6:=ι (And.intro (HI5.o.1.below hb) (HI5.o.2.trans (hb.mono HI5.o.2.size)));clear hb HI5 HWR2;go_wp2_with fail
      refine(HWF.o _).mono ?_;rintro e w7 ⟨rfl,hb⟩;have HI7:=ι (And.intro (HI6.o.1.below hb) (HI6.o.2.trans (hb.mono HI6.o.2.size)));clear hb HI6 
      go_upto_region 22 with (at_builtin;refine vL tyOp rfl _ _ rfl rfl rfl (HI7.o.1.alloc _) (RdR.lit (m:=[fOp,wOp 0 hd,fOp]) xDr _ _ rfl) (by have:=HJL.o;simp;omega) (by have:=HI7.o.2.size;simp;omega) ?_;intro v8 w8 h8;have HA8:Hid (xKt 328 3 opF (w7.alloc (.cells #[.bool true,.int .i64 0,.string ⟨#[]⟩,.bool false,.int .i64 0,.string ⟨hd.toArray⟩,.bool true,.int .i64 0,.string ⟨#[]⟩] 328)) w8 (w.heap.size+1) u8 v8 (qL 0 l++[fOp,wOp 0 hd,fOp])):=ι h8;clear h8)
      have HI8:Hid (zI 328 3 opF w8 (w.heap.size+1) v8 (qL 0 l++[fOp,wOp 0 hd,fOp]++(l.take 0).map (λx=>(⟨false,x⟩:Mailsack.Op)))/\ψ w w8):=ι ⟨by simpa using HA8.o.own,HA8.o.bel (HI7.o.1.alloc _) ω (HI7.o.2.alloc HI7.o.2.size _) (by have:=HI7.o.2.size;simp;omega)⟩
      have HPL:Hid ((qL 0 l++[fOp,wOp 0 hd,fOp]).length<=1010):=ι (by have:=HJL.o;simp;omega);have HPE2:Hid (jR l=qL 0 l++[fOp,wOp 0 hd,fOp]++l.map (λx=>(⟨false,x⟩:Mailsack.Op))++[fOp,wOp 0 (xP 64),fOp]):=ι (by unfold jR;rw[HHE.o])
      generalize qL 0 l++[fOp,wOp 0 hd,fOp]=P0 at HI8 HPL HPE2;clear HA8 HI7 HJL HHE;go_wp2_with fail
      go_loopw [8,97] (λov iv wr=>∃k:Nat,k<=l.length/\iv=.int .i64 k/\Hid (zI 328 3 opF wr (w.heap.size+1) ov (P0++(l.take k).map (λx=>(⟨false,x⟩:Mailsack.Op)))/\ψ w wr)) (λ_ iv _=>l.length- (intOf iv).toNat)
      case atStart=>exact⟨0,Nat.zero_le _,rfl,HI8⟩
      case round=>
       obtain⟨k,hk,rfl,HI⟩:=hrel;clear HI8
       by_cases hlt:k<l.length
       ·obtain⟨x,hx⟩:∃x,l[k]?=some x:=⟨_,List.getElem?_eq_getElem hlt⟩;obtain⟨b,off,rfl,hbw,q0,q1⟩:=yC5 HWR.o hx;have q0:=(HI.o.2.cell (p:=⟨b,off+k*2,none⟩) hbw).trans q0;have q1:=(HI.o.2.cell (p:=⟨b,off+k*2+1,none⟩) hbw).trans q1;have HSN:=ι (xO0 hx)
        have HKL:Hid (((l.take k).map (λx=>(⟨false,x⟩:Mailsack.Op))).length<=1000):=ι (by have:=List.length_take_le k l;rw[List.length_map];omega);generalize (l.take k).map (λx=>(⟨false,x⟩:Mailsack.Op))=P1 at HI HSN HKL
        have HXA:=ι (And.intro (HI.o.1.alloc (.cells #[.int .i64 x.at_,xR x.data] 154)) (HI.o.2.alloc HI.o.2.size (.cells #[.int .i64 x.at_,xR x.data] 154)));have hxb:=xM wr (.cells #[.int .i64 x.at_,xR x.data] 154);obtain⟨x0,x1⟩:=zG hxb;clear hx hxb HI
        go_upto_region 25 with fail
        clear q0 q1;generalize wr.alloc (.cells #[.int .i64 x.at_,xR x.data] 154)=w3 at HXA x0 x1⊢
        have HAD:∀v8 w8,xKt 328 3 opF (w3.alloc (.cells #[.bool false,.int .i64 x.at_,xR x.data] 328)) w8 (w.heap.size+1) u8 v8 (P0++P1++[⟨false,x⟩])->Hid (zI 328 3 opF w8 (w.heap.size+1) v8 (P0++(l.take (k+1)).map (λx=>(⟨false,x⟩:Mailsack.Op)))/\ψ w w8):=λv8 w8 h8=>ι ⟨by rw[HSN.o,<-List.append_assoc];exact h8.own,h8.bel (HXA.o.1.alloc _) ω (HXA.o.2.alloc HXA.o.2.size _) (by have:=HXA.o.2.size;simp;omega)⟩
        have HAH:=ι HAD;clear HAD
        go_wp2_with (at_builtin;refine vL tyOp rfl _ _ rfl rfl rfl (HXA.o.1.alloc _) (RdR.lit (m:=[(⟨false,x⟩:Mailsack.Op)]) xDr _ _ rfl) (by have:=HPL.o;have:=HKL.o;simp only[List.length_append,List.length_cons,List.length_nil];omega) (by have:=HXA.o.2.size;simp;omega) ?_;intro v8 w8 h8;have HA8:=HAH.o _ _ h8;clear h8)
        exact⟨⟨k+1,ω,by go_num,HA8⟩,by simp[intOf];omega⟩
       ·obtain rfl:k=l.length:=ω;rw[List.take_length] at HI;have HKL:Hid ((P0++l.map (λx=>(⟨false,x⟩:Mailsack.Op))).length<=2000):=ι (by have:=HPL.o;simp only[List.length_append,List.length_map];omega);rw[HPE2.o] at HV
        generalize P0++l.map (λx=>(⟨false,x⟩:Mailsack.Op))=P2 at HI HKL HV;have HI3:=HI;clear HI hlt HPE2 HPL HLN HAL HWR;go_upto_region 27 with fail
        go_wp2_with fail
        refine(HWF.o _).mono ?_;rintro e w4 ⟨rfl,hb⟩;have HI4:=ι (And.intro (HI3.o.1.below hb) (HI3.o.2.trans (hb.mono HI3.o.2.size)));clear hb HI3 ;have HZZ:=ι (xKu 64 w4 ω);obtain⟨zb,hzb⟩:∃z,xP 64=z:=⟨_,rfl⟩;rw[hzb] at HZZ HV;clear hzb
        have HWR2:=ι (λW=>xC7 0 ⟨zb.toArray⟩ W);go_wp2_with fail
        refine(HZZ.o).mono ?_;rintro e w5 ⟨rfl,hb⟩;have HI5:=ι (And.intro (HI4.o.1.below hb) (HI4.o.2.trans (hb.mono HI4.o.2.size)));clear hb HI4 HZZ;go_wp2_with fail
        refine(HWR2.o _).mono ?_;rintro e w6 ⟨rfl,hb⟩;have HI6:=ι (And.intro (HI5.o.1.below hb) (HI5.o.2.trans (hb.mono HI5.o.2.size)));clear hb HI5 HWR2;go_wp2_with fail
        refine(HWF.o _).mono ?_;rintro e w7 ⟨rfl,hb⟩;have HI7:=ι (And.intro (HI6.o.1.below hb) (HI6.o.2.trans (hb.mono HI6.o.2.size)));clear hb HI6 HWF
        go_wp2_with (at_builtin;refine vL tyOp rfl _ _ rfl rfl rfl (HI7.o.1.alloc _) (RdR.lit (m:=[fOp,wOp 0 zb,fOp]) xDr _ _ rfl) (by have:=HKL.o;simp;omega) (by have:=HI7.o.2.size;simp;omega) ?_;intro v8 w8 h8;have HA8:Hid (xKt 328 3 opF (w7.alloc (.cells #[.bool true,.int .i64 0,.string ⟨#[]⟩,.bool false,.int .i64 0,.string ⟨zb.toArray⟩,.bool true,.int .i64 0,.string ⟨#[]⟩] 328)) w8 (w.heap.size+1) u8 v8 (P2++[fOp,wOp 0 zb,fOp])):=ι h8;clear h8)
        go_ret2;refine⟨v8,by rw[<-HV.o.1];rfl,?_,HA8.o.bel (HI7.o.1.alloc _) ω (HI7.o.2.alloc HI7.o.2.size _) (by have:=HI7.o.2.size;simp;omega)⟩;rw[<-HV.o.2];exact HA8.o.own.rd xDr
theorem xNr (va vb lv:Value) (d:Dk) (l:List Wr) (w:World) (h:RdD w w.heap.size va vb d) (hl:RdW w w.heap.size lv l) (hll:l.length<=100000) (hT:vT w):
  Calls prog 179 #[.agg #[va,vb],lv] w λe w'=>∃ov,e=.returned (.tuple #[ov,.int .i64 (vY d l)])/\RdR 3 opF w' w'.heap.size ov (if vY d l=0 then jR l else[])/\ψ w w':=by
 by_cases hs:xBn d=false∨l.length=0
 ·refine(xVh va vb lv d l w h hl hs).mono ?_;rintro e w' ⟨rfl,hb⟩;exact⟨_,by rw[xI2 hs],by rw[xI2 hs,if_neg ω];exact RdR.xPn _ _,hb⟩
 ·have h1:xBn d=true:=by
   cases e:xBn d with
   |true=>rfl
   |false=>exact absurd (.inl e) hs
  exact xZe va vb lv d l w h hl hll h1 (λe=>hs (.inr e)) hT
theorem xNq {d:Dk} {l:List Wr} (h:vY d l=0):(jR l).length<=100:=by
 have:l.length<=30:=by
  unfold vY at h;split at h
  ·omega
  ·split at h
   ·omega
   ·split at h<;>omega
 unfold jR;simp[xF8];omega
structure CmM (w:World) (va vb:Value) (D:Dk) (W:World):Prop where
 d:W.heap[w.heap.size]?=some (xW va vb)
 o:W.heap[w.heap.size+1]?=some (xW (.slice none 0 0) (.slice none 0 0))
 rd:RdD W W.heap.size va vb D
 bel:ψ w W
theorem CmM.below {w W W':World} {va vb:Value} {D:Dk} (h:CmM w va vb D W) (hb:ψ W W'):CmM w va vb D W':=
 ⟨xD h.d hb (xH h.d),xD h.o hb (xH h.o),(h.rd.below hb ν).more hb.size,h.bel.trans (hb.mono h.bel.size)⟩
theorem xT0 (va vb lv:Value) (d:Dk) (l:List Wr) (w:World) (h:RdD w w.heap.size va vb d) (hl:RdW w w.heap.size lv l) (hll:l.length<=100000) (hc:d.cache.length<=10000) (hT:vT w):
  Calls prog 92 #[.agg #[va,vb],lv] w λe w'=>∃va' vb',e=.returned (.tuple #[.agg #[va',vb'],.int .i64 (vY d l)])/\RdD w' w'.heap.size va' vb' (xC3 d l)/\ψ w w':=by
 obtain⟨A1,c1,A2,c2,rfl,rfl⟩:=xX h;obtain⟨A3,c3,rfl,hc3,hl3⟩:=id hl
 have H0:Hid (CmM w (.slice A1 d.secs.length c1) (.slice A2 d.cache.length c2) d ((w.alloc (xW (.slice A1 d.secs.length c1) (.slice A2 d.cache.length c2))).alloc (xW (.slice none 0 0) (.slice none 0 0)))):=ι (by
  have hb:=(φ w (xW (.slice A1 d.secs.length c1) (.slice A2 d.cache.length c2))).alloc σ (xW (.slice none 0 0) (.slice none 0 0));exact⟨zV _ _ _,zK _ _ _,(h.below hb ν).more hb.size,hb⟩)
 have HP:=ι (xNr _ _ (.slice A3 l.length c3) d l _ H0.o.rd ((hl.below H0.o.bel ν).more H0.o.bel.size) hll (hT.below H0.o.bel ν));have HCV:Hid (xC3 d l=if vY d l=0 then vU d (jR l) else⟨[],[]⟩):=ι rfl;have HOL:Hid (vY d l=0->(jR l).length<=100):=ι xNq;have HC:=ι hc
 obtain⟨cm,hcm⟩:∃c,xC3 d l=c:=⟨_,rfl⟩;rw[hcm] at HCV⊢;clear h hl hl3 hc3 hc hcm hll
 by_cases h0:vY d l=0
 ·rw[h0,if_pos rfl] at HP;rw[h0,if_pos rfl] at HCV;rw[h0];have HOL2:=ι (HOL.o h0);clear h0 HOL;go_enter func92,ntmps92;go_upto_region 1 with fail
  generalize (w.alloc (xW (.slice A1 d.secs.length c1) (.slice A2 d.cache.length c2))).alloc (xW (.slice none 0 0) (.slice none 0 0))=w1 at H0 HP⊢;obtain⟨d0,d1⟩:=zG H0.o.d;go_wp2_with fail
  refine HP.o.mono ?_;rintro e w2 ⟨ov,rfl,hro,hb⟩;obtain⟨A4,c4,rfl,hc4,ho4⟩:=id hro;have H2:=ι (H0.o.below hb);have HRO:=ι hro;clear hb H0 HP d0 d1 hro ho4 hc4
  have HR:=ι (yCr _ _ (.slice A4 (jR l).length c4) d (jR l) ((jR l).length:Int) w2 H2.o.rd HRO.o (by have:=HC.o;have:=HOL2.o;omega));rw[Int.toNat_natCast,List.take_length] at HR;rw[<-HCV.o] at HR;obtain⟨d0,d1⟩:=zG H2.o.d;go_upto_region 4 with fail
  go_wp2_with fail
  refine HR.o.mono ?_;rintro e w3 ⟨ua,ub,rfl,hr,hb⟩;obtain⟨A5,c5,A6,c6,rfl,rfl⟩:=xX hr;have H3:=ι (H2.o.below hb);have HRR:=ι hr;clear hr hb H2 HR HRO d0 d1
  have hRD:RdD ((w3.setCell ⟨w.heap.size+1,0,none⟩ (.slice A5 cm.secs.length c5)).setCell ⟨w.heap.size+1,1,none⟩ (.slice A6 cm.cache.length c6)) w3.heap.size (.slice A5 cm.secs.length c5) (.slice A6 cm.cache.length c6) cm:=by
   have e0:=xY H3.o.o 0 (.slice A5 cm.secs.length c5);simp only[List.setIfInBounds_toArray,List.set_cons_zero] at e0;exact RdD.far (RdD.far HRR.o (p:=⟨w.heap.size+1,0,none⟩) (vG H3.o.o) _) (p:=⟨w.heap.size+1,1,none⟩) (vG e0) _
  have HRD:=ι hRD;clear hRD;obtain⟨o0,y0,f0,o1,y1,f1,HB⟩:=xIm H3.o.o H3.o.bel ω (.slice A5 cm.secs.length c5) (.slice A6 cm.cache.length c6) _ rfl;clear H3 HRR;go_wp2
  refine bodyPost_ret (v:=.tuple #[.agg #[.slice A5 cm.secs.length c5,.slice A6 cm.cache.length c6],.int .i64 0]) (by simp[results,results92,go_sem,f0,f1]) rfl ?_;exact⟨_,_,rfl,by simpa[size_set] using HRD.o,HB.o⟩
 ·rw[if_neg h0] at HP HCV;obtain⟨pe,hpe⟩:∃pe,vY d l=pe:=⟨_,rfl⟩;rw[hpe] at HP h0⊢;have h0b:(pe==0)=false:=by simpa using h0
  have h0c:(pe !=0)=true:=by simpa using h0
  clear hpe HOL;go_enter func92,ntmps92;go_upto_region 1 with fail
  generalize (w.alloc (xW (.slice A1 d.secs.length c1) (.slice A2 d.cache.length c2))).alloc (xW (.slice none 0 0) (.slice none 0 0))=w1 at H0 HP⊢;obtain⟨d0,d1⟩:=zG H0.o.d;go_wp2_with fail
  refine HP.o.mono ?_;rintro e w2 ⟨ov,rfl,hro,hb⟩;have H2:=ι (H0.o.below hb);clear hb H0 HP d0 d1 hro;obtain⟨o0,y0,f0,o1,y1,f1,HB⟩:=xIm H2.o.o H2.o.bel ω (.slice none 0 0) (.slice none 0 0) _ rfl;clear H2;go_wp2
  refine bodyPost_ret (v:=.tuple #[.agg #[.slice none 0 0,.slice none 0 0],.int .i64 pe]) (by simp[results,results92,go_sem,f0,f1]) rfl ?_;refine⟨_,_,rfl,?_,HB.o⟩;rw[HCV.o];exact⟨⟨_,_,rfl,Nat.le_refl _,λh=>by simp at h⟩,RdW.xPn _ _,σ,σ⟩
end Go.Proofs.DS
namespace Mailsack
def xV4 (S:List Bs) (x:Wr):List Bs:=S.set x.at_.toNat x.data
def xD9 (S:List Bs) (C:List Wr):List Bs:=C.foldl xV4 S
theorem xBd:∀(C:List Wr) (S:List Bs),(xD9 S C).length=S.length
 |[],_=>rfl
 |x::C,S=>by
  show(xD9 (xV4 S x) C).length=_;rw[xBd C,xV4,List.length_set]
theorem xKd (S:List Bs) (A B:List Wr):xD9 S (A++B)=xD9 (xD9 S A) B:=by unfold xD9;rw[List.foldl_append]
theorem xI4 (C:List Wr) (S:List Bs):∀k,k<=C.length->rG (λ_=>true) C S k=xD9 S (C.take k)
 |0,_=>rfl
 |k+1,h=>by
  unfold rG;rw[if_pos rfl,xI4 C S k ω,List.take_add_one,List.getElem?_eq_getElem ω,xKd];show _=xV4 _ _;rw[wrD,List.getD_eq_getElem?_getD,List.getElem?_eq_getElem ω]
  rfl
theorem xM8 {d:Dk} (h:zD d=true):yH d=⟨xD9 d.secs d.cache,[]⟩:=by
 unfold yH;rw[if_pos h,xI4 _ _ _ ν,List.take_length]
theorem xFy {d:Dk}:zD d=true↔1<=d.secs.length/\d.secs.length<=1024/\(∀s∈d.secs,s.length=64)/\∀x∈d.cache,tK x d.secs.length=true:=by
 unfold zD;simp only[Bool.and_eq_true,decide_eq_true_eq,List.all_eq_true,and_assoc]
theorem yAe {x:Wr} {n:Nat}:tK x n=true↔0<=x.at_/\x.at_<n/\x.data.length=64:=by
 unfold tK;simp only[Bool.and_eq_true,decide_eq_true_eq,and_assoc]
theorem xRt {d:Dk} {x:Wr} (h:zD d=true) (hx:tK x d.secs.length=true):zD (xZa d x)=true:=by
 rw[xFy] at h⊢;obtain⟨h1,h2,h3,h4⟩:=h;refine⟨h1,h2,h3,λy hy=>?_⟩;rcases List.mem_append.1 hy with hy|hy
 ·exact h4 y hy
 ·rw[List.mem_singleton.1 hy];exact hx
theorem xMj:∀(C:List Wr) (S:List Bs),(∀s∈S,s.length=64)->(∀x∈C,x.data.length=64)->∀s∈xD9 S C,s.length=64
 |[],_,h,_=>h
 |x::C,S,h,hc=>by
  refine xMj C (xV4 S x) (λs hs=>?_) (λy hy=>hc y (List.mem_cons_of_mem _ hy));rcases List.mem_or_eq_of_mem_set hs with hs|rfl
  ·exact h s hs
  ·exact hc x (List.mem_cons_self ..)
theorem xCk {d:Dk} (h:zD d=true):zD (yH d)=true:=by
 rw[xM8 h];rw[xFy] at h⊢;obtain⟨h1,h2,h3,h4⟩:=h;refine⟨by rw[xBd];exact h1,by rw[xBd];exact h2,xMj _ _ h3 (λx hx=>(yAe.1 (h4 x hx)).2.2),σ⟩
theorem xSt {d:Dk} (h:zD d=true):(yH d).secs.length=d.secs.length:=by rw[xM8 h,xBd]
theorem rJ {α:Type} (p:α->Bool):∀(l:List α),(xQ2 p l=-1/\∀x∈l,p x=false)∨∃(i:Nat) (x:α),xQ2 p l=i/\l[i]?=some x/\p x=true/\∀(j:Nat) y,j<i->l[j]?=some y->p y=false
 |[]=>.inl ⟨rfl,σ⟩
 |x::l=>by
  unfold xQ2;cases hx:p x with
  |true=>exact .inr ⟨0,x,σ,rfl,hx,λj y hj=>by omega⟩
  |false=>
   rw[if_neg σ];rcases rJ p l with ⟨h,ha⟩|⟨i,y,h,h1,h2,h3⟩
   ·refine .inl ⟨by rw[h];rfl,λz hz=>?_⟩;rcases List.mem_cons.1 hz with rfl|hz
    ·exact hx
    ·exact ha z hz
   ·refine .inr ⟨i+1,y,by rw[h,if_neg ω];rfl,by simpa using h1,h2,λj z hj hz=>?_⟩;cases j with
    |zero=>simp at hz;subst hz;exact hx
    |succ j=>exact h3 j z ω (by simpa using hz)
theorem yDv {α:Type} {p:α->Bool} {l:List α} {i:Nat} {x:α} (h1:l[i]?=some x) (h2:p x=true) (h3:∀(j:Nat) y,j<i->l[j]?=some y->p y=false):xQ2 p l=i:=by
 rcases rJ p l with ⟨_,ha⟩|⟨k,y,h,k1,k2,k3⟩
 ·rw[ha x (List.mem_of_getElem? h1)] at h2;cases h2
 ·rw[h];rcases Nat.lt_trichotomy k i with hlt|rfl|hlt
  ·rw[h3 k y hlt k1] at k2;cases k2
  ·rfl
  ·rw[k3 i x hlt h1] at h2;cases h2
theorem xWh {α:Type} {p:α->Bool} {l:List α} (h:∀x∈l,p x=false):xQ2 p l=-1:=by
 rcases rJ p l with ⟨h1,_⟩|⟨k,y,_,k1,k2,_⟩
 ·exact h1
 ·rw[h y (List.mem_of_getElem? k1)] at k2;cases k2
structure xQx (t:Slot):Prop where
 cls:t.cls<=1
 blk:t.blk<jU t.cls
 size:t.size<=xIn t.cls
 n1:1<=t.name.length
 n2:t.name.length<=24
theorem xOp (c:Nat):xIn c<=1024:=by unfold xIn;split<;>omega
theorem xIs (c:Nat):jU c<=24:=by unfold jU;split<;>omega
theorem yAj {t:Slot} (h:t.used=true->t.name.length<=58):(xQd t).length=64:=by
 unfold xQd xS2;split
 ·rename_i hu
  have:=h hu;have e:(xZ1 t).length=6+t.name.length:=by simp[xZ1];omega
  rw[List.length_append,yO];omega
 ·simp[xP]
theorem xK8 (s:Bs):xQi s=noSlot∨(xQi s).used=true/\xQx (xQi s):=by
 unfold xQi;split
 ·rename_i h
  split
  ·rename_i h2
   right
   unfold xPk at h;simp only[Bool.and_eq_true,decide_eq_true_eq] at h;obtain⟨⟨⟨⟨⟨h0,h1⟩,h3⟩,h4⟩,h5⟩,h6⟩:=h
   have hlen:s.length=64∨(qB s).name.length>58:=by
    by_cases hx:(qB s).name.length<=58
    ·left
     rw[h2];exact yAj (λ_=>hx)
    ·right;omega
   have hnl:(qB s).name.length<=bN s 5:=by simp[qB];omega
   have h64:s.length=64:=by rcases hlen with h|h;exact h;omega
   have hn:(qB s).name.length=bN s 5:=by simp[qB,h64];omega
   exact⟨rfl,⟨h1,h3,h4,ω,ω⟩⟩
  ·exact .inl rfl
 ·exact .inl rfl
theorem rA (S:List Bs) (k:Nat):(yS S)[k]?=if k<32 then(S[61+k]?).map xQi else none:=by
 unfold yS;rw[List.getElem?_map,List.getElem?_take];split
 ·rw[List.getElem?_drop]
 ·rfl
theorem kP {S:List Bs} (h:S.length=381):(yS S).length=32:=by simp[yS,h]
theorem yAf {c b:Nat} (h:b<jU c):kN c b+countP c<=381:=by
 unfold kN countP;unfold jU at h;split<;>simp_all<;>omega
theorem xZf {s:Bs} {n:Nat} (h:s.length<=n):(xS2 s n).length=n:=by simp[xS2,yO];omega
theorem xXs {c:Nat} (h:c<=1):xIn c=countP c*64:=by
 unfold xIn countP;rcases(show c=0∨c=1 by omega) with rfl|rfl<;>rfl
theorem swap_perm (h:List Nat) (i j:Nat) (hi:i<h.length) (hj:j<h.length):((h.set i (h.getD j 0)).set j (h.getD i 0)).Perm h:=by
 rw[List.getD_eq_getElem?_getD,List.getD_eq_getElem?_getD,List.getElem?_eq_getElem hi,List.getElem?_eq_getElem hj];simp only[Option.getD_some];exact List.set_set_perm hi hj
theorem xE4 (n:Nat):∀(f i:Nat) (h:List Nat),n<=h.length->i<h.length->(vZ h n f i).Perm h
 |0,_,_,_,_=>List.Perm.refl _
 |f+1,i,h,hn,hi=>by
  unfold vZ;split
  ·exact List.Perm.refl _
  ·rename_i hj
   simp only;generalize hje:(if 2*i+2<n/\h.getD (2*i+2) 0<h.getD (2*i+1) 0 then 2*i+2 else 2*i+1)=j
   have hjl:j<h.length:=by
    rw[<-hje];split<;>omega
   split
   ·refine(xE4 n f j _ (by simpa using hn) (by simpa using hjl)).trans (swap_perm h i j hi hjl)
   ·exact List.Perm.refl _
theorem xE5 (n:Nat):∀(f i:Nat) (h:List Nat) (k:Nat),n<=k->i<n->(vZ h n f i)[k]?=h[k]?
 |0,_,_,_,_,_=>rfl
 |f+1,i,h,k,hk,hi=>by
  unfold vZ;split
  ·rfl
  ·rename_i hj
   simp only;generalize hje:(if 2*i+2<n/\h.getD (2*i+2) 0<h.getD (2*i+1) 0 then 2*i+2 else 2*i+1)=j
   have hjl:j<n:=by
    rw[<-hje];split<;>omega
   split
   ·rw[xE5 n f j _ k hk hjl,List.getElem?_set_ne ω,List.getElem?_set_ne ω]
   ·rfl
theorem xId:∀(i:Nat) (h:List Nat),i<=h.length->(xM3 h i).Perm h
 |0,_,_=>List.Perm.refl _
 |i+1,h,hi=>by
  unfold xM3;have hp:=xE4 h.length h.length i h ν ω;exact(xId i _ (by rw[hp.length_eq];omega)).trans hp
theorem xSm (h:List Nat):(xSn h).Perm h:=xId _ _ ω
theorem xPg {h:List Nat} (h0:h.length≠0):(h.getD 0 0::xH0 h).Perm h:=by
 unfold xH0;generalize hg:(h.set 0 (h.getD (h.length-1) 0)).set (h.length-1) (h.getD 0 0)=g;have hgp:g.Perm h:=by rw[<-hg];exact swap_perm h 0 (h.length-1) ω ω
 have hgl:g.length=h.length:=hgp.length_eq;have hd:=xE4 (h.length-1) (h.length-1) 0 g ω ω
 have hlast:(vZ g (h.length-1) (h.length-1) 0)[h.length-1]?=some (h.getD 0 0):=by
  by_cases h1:h.length=1
  ·have hk:vZ g (h.length-1) (h.length-1) 0=g:=by rw[h1];rfl
   rw[hk,<-hg,List.getElem?_set_self (by simp;omega)]
  ·rw[xE5 _ _ _ _ _ ν ω,<-hg,List.getElem?_set_self (by simp;omega)]
 generalize vZ g (h.length-1) (h.length-1) 0=e at hd hlast;have hel:e.length=h.length:=hd.length_eq.trans hgl;have hne:e≠[]:=by intro e0;subst e0;simp at hel;omega
 have hgl2:e.getLast hne=h.getD 0 0:=by
  rw[<-hel,<-List.getLast?_eq_getElem?,List.getLast?_eq_some_getLast hne] at hlast;injection hlast
 have hsplit:=List.dropLast_concat_getLast hne;rw[hgl2] at hsplit;refine List.Perm.trans ?_ (hd.trans hgp);refine List.Perm.trans ?_ (List.Perm.of_eq hsplit);exact(List.perm_append_singleton _ _).symm
theorem yD2 {h:List Nat} (h0:h.length≠0):(xH0 h).length+1=h.length:=by
 have:=(xPg h0).length_eq;simpa using this
theorem xI8 {n:Bs} {t:Slot}:xEh n t=true↔t.used=true/\t.name=n:=by simp[xEh]
theorem xDx (l:List Slot) (n:Bs):(rM l n=-1/\∀t∈l,t.used=true->t.name≠n)∨∃(i:Nat) (t:Slot),rM l n=i/\l[i]?=some t/\t.used=true/\t.name=n/\i<l.length:=by
 rcases rJ (xEh n) l with ⟨h,ha⟩|⟨i,t,h,h1,h2,_⟩
 ·refine .inl ⟨h,λt ht hu he=>?_⟩;have:=ha t ht;rw[xI8.2 ⟨hu,he⟩] at this;cases this
 ·obtain⟨a,b⟩:=xI8.1 h2;exact .inr ⟨i,t,h,h1,a,b,(List.getElem?_eq_some_iff.1 h1).1⟩
theorem xRi {l:List Slot} {i:Nat} {t:Slot} (h:l[i]?=some t):xHv l (i:Int)=t:=by
 unfold xHv;rw[List.getD_eq_getElem?_getD,Int.toNat_natCast,h]
 rfl
theorem xLq (s:StS) (c:Nat):(xJf s c).writes=s.writes:=by unfold xJf;split<;>rfl
theorem yDb (z:Int):oct (z % 256)=oct z:=by
 unfold oct;rw[Int.emod_emod_of_dvd z (by omega:(256:Int) ∣ 256)]
end Mailsack
namespace Go.Proofs.ST
open Go.RowKit Mailsack MM BB SH SV RK DS
abbrev qC (t:Slot):List Value:=[.bool t.used,.int .i64 t.cls,.int .i64 t.blk,.int .i64 t.size,xR t.name]
theorem zM (t:Slot):(qC t).length=5:=rfl
theorem sloF_one (x:Slot):∀u∈qC x,u.oneCell'=true:=by
 intro u hu;simp only[qC,List.mem_cons,List.not_mem_nil,or_false] at hu;rcases hu with rfl|rfl|rfl|rfl|rfl<;>rfl
abbrev xGz (t:Slot):Value:=.agg #[.bool t.used,.int .i64 t.cls,.int .i64 t.blk,.int .i64 t.size,xR t.name]
abbrev wU (t:Slot):Obj:=.cells #[.bool t.used,.int .i64 t.cls,.int .i64 t.blk,.int .i64 t.size,xR t.name] 165
theorem yDt:(prog.info? 165).map (λi=>(i.zero,i.size,i.bytes))=some (some (.agg #[.bool false,.int .i64 0,.int .i64 0,.int .i64 0,.string ⟨#[]⟩]),5,48):=κ
theorem xXj (l:List Int) (hl:∀x∈l,0<=x/\x<256) (g:Nat) (W:World) (hb:W.heap[g]?=some (.cells (l.map (Value.int .u8)).toArray 5 (0,0))):(convert 125 9 (.slice (some ⟨g,0,none⟩) l.length l.length)).run prog W=.ok (.string (bsA (l.map oct))) W:=by
 have:=run_convert_bytes_back (P:=prog) W 125 9 5 ⟨g,0,none⟩ l.length (l.map oct) underlying125 underlying5 underlying9 (λj hj=>by
  have hj2:j<l.length:=by simpa using hj
  have ha:(⟨g,0,none⟩:Addr).add j=⟨g,j,none⟩:=by unfold Addr.add;split<;>simp_all
  rw[ha,xA hb];have h1:=hl l[j] (List.getElem_mem hj2);have h2:=qK l[j];simp[hj2];omega)
 rw[List.length_map] at this;exact this
theorem xBb (c:Nat) (w:World):Calls prog 174 #[.int .i64 c] w λe w'=>e=.returned (.int .i64 (jU c))/\w'=w:=by
 by_cases h:c=0
 ·subst h;go_enter func174,ntmps174;go_wp2;go_ret;exact⟨rfl,rfl⟩
 ·have h1:¬((c:Int)=0):=ω;have h2:((c:Int)==0)=false:=by simpa using h1
  have H:Hid (jU c=12):=ι (by unfold jU;rw[if_neg h]);clear h;go_enter func174,ntmps174;go_wp2;go_ret;exact⟨by rw[H.o];rfl,rfl⟩
theorem pF (c:Nat) (w:World):Calls prog 240 #[.int .i64 c] w λe w'=>e=.returned (.int .i64 (xIn c))/\w'=w:=by
 by_cases h:c=0
 ·subst h;go_enter func240,ntmps240;go_wp2;go_ret;exact⟨rfl,rfl⟩
 ·have h1:¬((c:Int)=0):=ω;have h2:((c:Int)==0)=false:=by simpa using h1
  have H:Hid (xIn c=1024):=ι (by unfold xIn;rw[if_neg h]);clear h;go_enter func240,ntmps240;go_wp2;go_ret;exact⟨by rw[H.o];rfl,rfl⟩
theorem xFv (c b:Nat) (w:World) (hb:b<=10000):Calls prog 76 #[.int .i64 c,.int .i64 b] w λe w'=>e=.returned (.tuple #[.int .i64 (kN c b),.int .i64 (countP c)])/\w'=w:=by
 by_cases h:c=0
 ·subst h;have H:Hid ((kN 0 b:Nat)=(93:Int)+b*4/\countP 0=4):=ι ⟨by unfold kN;rw[if_pos rfl];omega,rfl⟩;go_enter func76,ntmps76;go_wp2;go_ret2;exact⟨by rw[H.o.1,H.o.2];rfl,rfl⟩
 ·have h1:¬((c:Int)=0):=ω;have h2:((c:Int)==0)=false:=by simpa using h1
  have H:Hid ((kN c b:Nat)=(189:Int)+b*16/\countP c=16):=ι ⟨by unfold kN;rw[if_neg h];omega,by unfold countP;rw[if_neg h]⟩;clear h;go_enter func76,ntmps76;go_wp2;go_ret2;exact⟨by rw[H.o.1,H.o.2];rfl,rfl⟩
theorem xIi (t:Slot) (w:World) (hc:t.cls<=255) (hb:t.blk<=255) (hs:t.size<=65535) (hn:t.name.length<=255):Calls prog 241 #[xGz t] w λe w'=>e=.returned (xR (xQd t))/\ψ w w':=by
 obtain⟨u,c,b,s,n⟩:=t;simp only at hc hb hs hn;have HB0:=ι (φ w (wU ⟨u,c,b,s,n⟩));have hbk:=xM w (wU ⟨u,c,b,s,n⟩);obtain⟨x0,x1,x2,x3,x4⟩:=xTn hbk;cases u with
 |false=>
  have HP:=ι (λW=>xNt ⟨#[]⟩ 64 W ω (by show 0<=_;omega));clear hbk;have HE:Hid (xQd ⟨false,c,b,s,n⟩=xS2 (⟨#[]⟩:ByteArray).data.toList 64):=ι rfl;obtain⟨ev,hev⟩:∃ev,xQd ⟨false,c,b,s,n⟩=ev:=⟨_,rfl⟩;rw[hev] at HE⊢;rw[<-HE.o] at HP;clear hev HE;go_enter func241,ntmps241
  go_wp2_with fail
  refine(HP.o _).mono ?_;rintro e w1 ⟨rfl,hb1⟩;have HB:=ι (HB0.o.trans (hb1.mono HB0.o.size));clear hb1 HB0 HP;go_wp2;go_ret;exact⟨rfl,HB.o⟩
 |true=>
  have m1:(c:Int) % 256=c:=ω;have m2:(b:Int) % 256=b:=ω;have m5:(n.length:Int) % 256=n.length:=ω;clear hbk;obtain⟨ev,hev⟩:∃ev,xQd ⟨true,c,b,s,n⟩=ev:=⟨_,rfl⟩;rw[hev];have HEV:=ι hev;clear hev;go_enter func241,ntmps241;go_upto_region 4 with fail
  have HCV:=ι (xXj [1,(c:Int),(b:Int),(s:Int) % 256,(s:Int) / 256,(n.length:Int)] (by
   intro x hx;simp only[List.mem_cons,List.not_mem_nil,or_false] at hx
   rcases hx with rfl|rfl|rfl|rfl|rfl|rfl<;>omega) (w.heap.size+1) ((w.alloc (wU ⟨true,c,b,s,n⟩)).alloc (.cells #[.int .u8 1,.int .u8 c,.int .u8 b,.int .u8 ((s:Int) % 256),.int .u8 ((s:Int) / 256),.int .u8 (n.length:Int)] 5)) (zK _ _ _))
  obtain⟨h6,hh6⟩:∃h6,bsA ([1,(c:Int),(b:Int),(s:Int) % 256,(s:Int) / 256,(n.length:Int)].map oct)=h6:=⟨_,rfl⟩;have hsz:h6.size=6:=by rw[<-hh6,yN];rfl
  rw[hh6] at HCV;have HBB:=ι (HB0.o.alloc HB0.o.size (.cells #[.int .u8 1,.int .u8 c,.int .u8 b,.int .u8 ((s:Int) % 256),.int .u8 ((s:Int) / 256),.int .u8 (n.length:Int)] 5))
  have hb4:=xO (xM w (wU ⟨true,c,b,s,n⟩)) (.cells #[.int .u8 1,.int .u8 c,.int .u8 b,.int .u8 ((s:Int) % 256),.int .u8 ((s:Int) / 256),.int .u8 (n.length:Int)] 5);have y4:=xA hb4 4;simp only[gA,gB,gC] at y4;obtain⟨nb,hnb⟩:∃nb:ByteArray,(⟨n.toArray⟩:ByteArray)=nb:=⟨_,rfl⟩
  have hns:nb.size=n.length:=by rw[<-hnb];rfl
  have HP:=ι (λW=>xNt (h6++nb) 64 W ω (by rw[ByteArray.size_append];omega))
  have HE:Hid (xS2 (h6++nb).data.toList 64=ev):=ι (by
   rw[<-HEV.o,<-hh6,<-hnb];unfold xQd;rw[if_pos rfl]
   congr 1
   unfold xZ1;rw[ByteArray.data_append];simp[bsA,yDb]
   rfl)
  rw[HE.o] at HP;have nb1:¬(9223372036854775807<h6.size+nb.size):=ω;rw[show xR n=.string nb from by rw[<-hnb]] at y4;have hcv:=HCV.o;clear hh6 HEV HB0 x0 x1 x2 x3 x4 hb4 hns HCV m1 m2 m5 hc hb hs hn HE;simp only[List.length_cons,List.length_nil,Nat.zero_add,Nat.reduceAdd] at hcv
  generalize (w.alloc (wU ⟨true,c,b,s,n⟩)).alloc (.cells #[.int .u8 1,.int .u8 c,.int .u8 b,.int .u8 ((s:Int) % 256),.int .u8 ((s:Int) / 256),.int .u8 (n.length:Int)] 5)=w2 at hcv y4 HBB⊢;go_wp2_with fail
  refine(HP.o _).mono ?_;rintro e w1 ⟨rfl,hb1⟩;have HB:=ι (HBB.o.trans (hb1.mono HBB.o.size));clear hb1 HBB HP hcv y4;go_wp2;go_ret;exact⟨rfl,HB.o⟩
end Go.Proofs.ST
namespace Mailsack
theorem yBj (a b:Nat) (ha:a<256) (hb:b<256):Go.bits .or .i64 (a:Int) ((b:Int)*256)=(a:Int)+256*b:=by
 have hx:b*256 |||a=b*256+a:=by
  have:=Nat.two_pow_add_eq_or_of_lt (i:=8) (b:=a) ω b;rw[show 2^8*b=b*256 by omega] at this;exact this.symm
 have h1:(BitVec.ofInt 64 (a:Int)).toNat=a:=by
  rw[BitVec.ofInt_natCast,BitVec.toNat_ofNat];exact Nat.mod_eq_of_lt ω
 have h2:(BitVec.ofInt 64 ((b:Int)*256)).toNat=b*256:=by
  rw[show(b:Int)*256=((b*256:Nat):Int) by omega,BitVec.ofInt_natCast,BitVec.toNat_ofNat];exact Nat.mod_eq_of_lt ω
 show Go.IntKind.i64.wrap ((BitVec.ofInt 64 (a:Int) |||BitVec.ofInt 64 ((b:Int)*256)).toNat:Int)=_;rw[BitVec.toNat_or,h1,h2,Nat.or_comm,hx,Go.IntKind.wrap_i64];omega
theorem xQt (s:ByteArray) (i:Nat):yQ s i=(bN s.data.toList i:Int):=rfl
end Mailsack
namespace Go.Proofs.ST
open Go.RowKit Mailsack MM BB SH SV RK DS
structure DcM (w:World) (g:Nat) (t:Slot) (W:World):Prop where
 o:W.heap[w.heap.size]?=some (wU noSlot)
 s:W.heap[g]?=some (wU t)
 bel:ψ w W
 lt:w.heap.size<g
theorem xSx (s:ByteArray) (w:World) (hs:s.size=64):
  Calls prog 149 #[.string s] w λe w'=>e=.returned (xGz (xQi s.data.toList))/\ψ w w':=by
 have i0:=λw=>zL (P:=prog) underlying9 s (0:Int) 0 rfl ω w;have i1:=λw=>zL (P:=prog) underlying9 s (1:Int) 1 rfl ω w;have i2:=λw=>zL (P:=prog) underlying9 s (2:Int) 2 rfl ω w;have i3:=λw=>zL (P:=prog) underlying9 s (3:Int) 3 rfl ω w
 have i4:=λw=>zL (P:=prog) underlying9 s (4:Int) 4 rfl ω w;have i5:=λw=>zL (P:=prog) underlying9 s (5:Int) 5 rfl ω w;rw[xQt] at i0 i1 i2 i3 i4 i5;have l0:=xT8 s.data.toList 0;have l1:=xT8 s.data.toList 1;have l2:=xT8 s.data.toList 2
 have l3:=xT8 s.data.toList 3;have l4:=xT8 s.data.toList 4;have l5:=xT8 s.data.toList 5;have xOt:Hid (xQi s.data.toList=if xPk s.data.toList=true then(if s.data.toList=xQd (qB s.data.toList) then qB s.data.toList else noSlot) else noSlot):=ι rfl
 have HOK:Hid (xPk s.data.toList=(decide (bN s.data.toList 0=1)&&decide (bN s.data.toList 1<=1)&&decide (bN s.data.toList 2<jU (bN s.data.toList 1))&&decide (bN s.data.toList 3+256*bN s.data.toList 4<=xIn (bN s.data.toList 1))&&decide (1<=bN s.data.toList 5)&&decide (bN s.data.toList 5<=24))):=ι rfl
 have HSL:Hid (qB s.data.toList=⟨true,bN s.data.toList 1,bN s.data.toList 2,bN s.data.toList 3+256*bN s.data.toList 4,(s.data.toList.drop 6).take (bN s.data.toList 5)⟩):=ι rfl;have HOR:=ι (yBj _ _ l3 l4);generalize bN s.data.toList 0=b0 at*;generalize bN s.data.toList 1=b1 at*
 generalize bN s.data.toList 2=b2 at*;generalize bN s.data.toList 3=b3 at*;generalize bN s.data.toList 4=b4 at*;generalize bN s.data.toList 5=b5 at*;obtain⟨dv,hdv⟩:∃dv,xQi s.data.toList=dv:=⟨_,rfl⟩;rw[hdv] at xOt⊢;have HSZ:=ι hs;clear hdv hs
 have HO0:=ι (And.intro (xM w (wU noSlot)) (φ w (wU noSlot)));go_enter func149,ntmps149;go_upto_region 1 with fail
 generalize hw1:w.alloc (.cells #[.bool false,.int .i64 0,.int .i64 0,.int .i64 0,.string ⟨#[]⟩] 165)=w1;have HO1:Hid (w1.heap[w.heap.size]?=some (wU noSlot)/\ψ w w1):=ι (by rw[<-hw1];exact HO0.o);clear hw1 HO0;have hor:=HOR.o;obtain⟨sz,hsz⟩:∃sz:Nat,b3+256*b4=sz:=⟨_,rfl⟩
 rw[show(b3:Int)+256*b4=(sz:Int) by omega] at hor;rw[hsz] at HOK HSL;have HSB:Hid (sz<=65535):=ι ω;clear HOR hsz;have hTT:qC ⟨true,b1,b2,sz,[]⟩=[.bool true,.int .i64 b1,.int .i64 b2,.int .i64 sz,.string ⟨#[]⟩]:=rfl;have HTT:=ι hTT;clear hTT
 refine RG.uA [16] [15] (λL α W=>Hid (W.heap[w.heap.size]?=some (wU noSlot)/\ψ w W/\(L 15=true->∃g,α 15=.pointer (some ⟨g,0,none⟩)/\w.heap.size<g/\(L 16=false->W.heap[g]?=some (wU noSlot))/\(L 16=true->W.heap[g]?=some (wU ⟨true,b1,b2,sz,[]⟩)))))
  (λL L' α α' W hl ha h=>ι ⟨h.o.1,h.o.2.1,λe15=>by
   have f15:L 15=true:=by rw[hl 15 σ];exact e15
   rw[<-ha 15 σ f15,<-hl 16 σ];exact h.o.2.2 f15⟩) κ κ κ (ι ⟨HO1.o.1,HO1.o.2.drew,λe=>(by cases e)⟩) ?_
 iterate 15 refine RG.vS ?_
 apply RG.vK
 ·rfl
 ·intro α L w9 h0 hcl xK hw9;have h16:L 16=false:=hcl.not 8 (i:=16) h0 κ;refine⟨.pointer (some ⟨w9.heap.size,0,none⟩),λbv hbv=>?_⟩;repeat go_step
  rw[<-hbv];refine RG.xC ?_
  exact ι ⟨xO hw9.o.1 _,hw9.o.2.1.alloc hw9.o.2.1.size _,λ_=>⟨w9.heap.size,by
   rw[show RG.wO α (0+1+1+1+1+1+1+1+1+1+1+1+1+1+1+1) bv 15=bv from RG.uV _ _ _,hbv],xH hw9.o.1,λ_=>xM _ _,λe=>by
    have:L 16=true:=by simpa using e
    rw[h16] at this;cases this⟩⟩
 ·intro b α;rfl
 apply RG.jK (v:=undef)
 ·rfl
 ·rfl
 ·intro α L w9 h0 hcl xK hw9
  have h15:L 15=true:=by
   have:=xK.yes 8 (i:=16) (j:=15) σ κ;simpa using this
  obtain⟨g,hg,hlt,hb,_⟩:=hw9.o.2.2 h15;have hbg:=hb h0;rw[show α (0+1+1+1+1+1+1+1+1+1+1+1+1+1+1+1)=_ from hg];obtain⟨o0,y0,f0,o1,y1,f1,o2,y2,f2,o3,y3,f3,o4,y4,f4,HB⟩:=yAq hbg hw9.o.2.1 ω (.bool true) (.int .i64 b1) (.int .i64 b2) (.int .i64 sz) (.string ⟨#[]⟩) _ rfl
  have HSS:=ι (And.intro (uI (b:=g) (l:=[.bool true,.int .i64 b1,.int .i64 b2,.int .i64 sz,.string ⟨#[]⟩]) hbg rfl) (yX (b:=g) (g:=w.heap.size) ω [.bool true,.int .i64 b1,.int .i64 b2,.int .i64 sz,.string ⟨#[]⟩] 0 _ hw9.o.1));have HG:=ι (And.intro hg hlt);clear hg hlt hb hbg
  repeat go_step
  rw[<-show α (0+1+1+1+1+1+1+1+1+1+1+1+1+1+1+1)=_ from HG.o.1];refine RG.xC ?_;exact ι ⟨HSS.o.2,HB.o,λ_=>⟨g,HG.o.1,HG.o.2,λe=>by simp at e,λ_=>HSS.o.1⟩⟩
 ·intro α;rfl
 refine RG.qV (λα w9 hw9=>?_);obtain⟨g,hg,hlt,_,hb⟩:=hw9.o.2.2 rfl;rw[show α (0+1+1+1+1+1+1+1+1+1+1+1+1+1+1+1)=_ from hg];have HD:=ι (show DcM w g ⟨true,b1,b2,sz,[]⟩ w9 from⟨hw9.o.1,hb rfl,hw9.o.2.1,hlt⟩);clear hg hlt hb hw9 HO1 hor HTT;go_wp2_with fail
 have HBL:=ι (λW=>xBb b1 W);have HCP:=ι (λW=>pF b1 W);have HCL:Hid (xIn b1<=1024/\jU b1<=24):=ι ⟨xOp _,xIs _⟩;generalize jU b1=bl at HBL HOK HCL;generalize xIn b1=cp at HCP HOK HCL
 by_cases t0:b0=1
 rotate_left
 ·have e0:¬((b0:Int)=1):=ω;have e9:((b0:Int)!=1)=true:=by simpa using e0
  have HDV:Hid (dv=noSlot):=ι (by rw[xOt.o,if_neg];rw[HOK.o];simp;omega);clear xOt HOK HSL;go_upto_region 3 with fail
  refine RG.xQ (λW=>Hid (DcM w g ⟨true,b1,b2,sz,[]⟩ W)) κ κ (ι ⟨HD.o.o,HD.o.s,HD.o.bel.drew,HD.o.lt⟩) ?_;iterate 4 refine RG.dS ?_
  iterate 3 refine RG.kS ?_
  iterate 2 refine RG.dS ?_
  iterate 6 refine RG.kS ?_
  iterate 2 refine RG.dS ?_
  iterate 6 refine RG.kS ?_
  iterate 2 refine RG.dS ?_
  iterate 2 refine RG.kS ?_
  iterate 2 refine RG.dS ?_
  iterate 2 refine RG.kS ?_
  refine RG.dS ?_;refine RG.xS (λw3 hw3=>?_);obtain⟨o0,y0,f0,o1,y1,f1,o2,y2,f2,o3,y3,f3,o4,y4,f4,HB⟩:=yAq hw3.o.o hw3.o.bel ω (.bool false) (.int .i64 0) (.int .i64 0) (.int .i64 0) (.string ⟨#[]⟩) _ rfl;clear hw3 HD;go_wp2
  refine bodyPost_ret (v:=xGz noSlot) (by simp[results,results149,go_sem,f0,f1,f2,f3,f4,noSlot]) rfl ?_;exact⟨by rw[HDV.o],HB.o⟩
 have g0:(b0:Int)=1:=ω;have g9:((b0:Int)!=1)=false:=by simp[g0]
 by_cases t1:b1<=1
 rotate_left
 ·have e0:1<(b1:Int):=ω;have HDV:Hid (dv=noSlot):=ι (by rw[xOt.o,if_neg];rw[HOK.o];simp;omega);clear xOt HOK HSL;go_upto_region 3 with fail
  refine RG.xQ (λW=>Hid (DcM w g ⟨true,b1,b2,sz,[]⟩ W)) κ κ (ι ⟨HD.o.o,HD.o.s,HD.o.bel.drew,HD.o.lt⟩) ?_;iterate 4 refine RG.dS ?_
  iterate 3
   apply RG.xJ
   ·intro w9 hw9;have hb:=hw9.o.s;have c1:=xA hb 1;have c2:=xA hb 2;have c3:=xA hb 3;simp only[gA,gB,gC] at c1 c2 c3;repeat go_step
    exact RG.xC hw9
   ·rfl
  iterate 2 refine RG.dS ?_
  iterate 6 refine RG.kS ?_
  iterate 2 refine RG.dS ?_
  iterate 6 refine RG.kS ?_
  iterate 2 refine RG.dS ?_
  iterate 2 refine RG.kS ?_
  iterate 2 refine RG.dS ?_
  iterate 2 refine RG.kS ?_
  refine RG.dS ?_;refine RG.xS (λw3 hw3=>?_);obtain⟨o0,y0,f0,o1,y1,f1,o2,y2,f2,o3,y3,f3,o4,y4,f4,HB⟩:=yAq hw3.o.o hw3.o.bel ω (.bool false) (.int .i64 0) (.int .i64 0) (.int .i64 0) (.string ⟨#[]⟩) _ rfl;clear hw3 HD;go_wp2
  refine bodyPost_ret (v:=xGz noSlot) (by simp[results,results149,go_sem,f0,f1,f2,f3,f4,noSlot]) rfl ?_;exact⟨by rw[HDV.o],HB.o⟩
 have g1:¬(1<(b1:Int)):=ω
 by_cases t2:b2<bl
 rotate_left
 ·have e0:(bl:Int)<=(b2:Int):=ω;have HDV:Hid (dv=noSlot):=ι (by rw[xOt.o,if_neg];rw[HOK.o];simp;omega);clear xOt HOK HSL;go_upto_region 3 with fail
  refine RG.xQ (λW=>Hid (DcM w g ⟨true,b1,b2,sz,[]⟩ W)) κ κ (ι ⟨HD.o.o,HD.o.s,HD.o.bel.drew,HD.o.lt⟩) ?_;iterate 4 refine RG.dS ?_
  iterate 3
   apply RG.xJ
   ·intro w9 hw9;have hb:=hw9.o.s;have c1:=xA hb 1;have c2:=xA hb 2;have c3:=xA hb 3;simp only[gA,gB,gC] at c1 c2 c3;repeat go_step
    exact RG.xC hw9
   ·rfl
  iterate 2 refine RG.dS ?_
  iterate 4
   apply RG.xJ
   ·intro w9 hw9;have hb:=hw9.o.s;have c1:=xA hb 1;have c2:=xA hb 2;have c3:=xA hb 3;simp only[gA,gB,gC] at c1 c2 c3;repeat go_step
    exact RG.xC hw9
   ·rfl
  apply RG.xJ
  ·intro w9 hw9;repeat go_step
   refine(HBL.o _).mono ?_;rintro e w10 ⟨rfl,rfl⟩;simp only[];repeat go_step
   exact RG.xC hw9
  ·rfl
  apply RG.xJ
  ·intro w9 hw9;have hb:=hw9.o.s;have c1:=xA hb 1;have c2:=xA hb 2;have c3:=xA hb 3;simp only[gA,gB,gC] at c1 c2 c3;repeat go_step
   exact RG.xC hw9
  ·rfl
  iterate 2 refine RG.dS ?_
  iterate 6 refine RG.kS ?_
  iterate 2 refine RG.dS ?_
  iterate 2 refine RG.kS ?_
  iterate 2 refine RG.dS ?_
  iterate 2 refine RG.kS ?_
  refine RG.dS ?_;refine RG.xS (λw3 hw3=>?_);obtain⟨o0,y0,f0,o1,y1,f1,o2,y2,f2,o3,y3,f3,o4,y4,f4,HB⟩:=yAq hw3.o.o hw3.o.bel ω (.bool false) (.int .i64 0) (.int .i64 0) (.int .i64 0) (.string ⟨#[]⟩) _ rfl;clear hw3 HD;go_wp2
  refine bodyPost_ret (v:=xGz noSlot) (by simp[results,results149,go_sem,f0,f1,f2,f3,f4,noSlot]) rfl ?_;exact⟨by rw[HDV.o],HB.o⟩
 have g2:¬((bl:Int)<=(b2:Int)):=ω
 by_cases t3:sz<=cp
 rotate_left
 ·have e0:(cp:Int)<(sz:Int):=ω;have HDV:Hid (dv=noSlot):=ι (by rw[xOt.o,if_neg];rw[HOK.o];simp;omega);clear xOt HOK HSL;go_upto_region 3 with fail
  refine RG.xQ (λW=>Hid (DcM w g ⟨true,b1,b2,sz,[]⟩ W)) κ κ (ι ⟨HD.o.o,HD.o.s,HD.o.bel.drew,HD.o.lt⟩) ?_;iterate 4 refine RG.dS ?_
  iterate 3
   apply RG.xJ
   ·intro w9 hw9;have hb:=hw9.o.s;have c1:=xA hb 1;have c2:=xA hb 2;have c3:=xA hb 3;simp only[gA,gB,gC] at c1 c2 c3;repeat go_step
    exact RG.xC hw9
   ·rfl
  iterate 2 refine RG.dS ?_
  iterate 4
   apply RG.xJ
   ·intro w9 hw9;have hb:=hw9.o.s;have c1:=xA hb 1;have c2:=xA hb 2;have c3:=xA hb 3;simp only[gA,gB,gC] at c1 c2 c3;repeat go_step
    exact RG.xC hw9
   ·rfl
  apply RG.xJ
  ·intro w9 hw9;repeat go_step
   refine(HBL.o _).mono ?_;rintro e w10 ⟨rfl,rfl⟩;simp only[];repeat go_step
   exact RG.xC hw9
  ·rfl
  apply RG.xJ
  ·intro w9 hw9;have hb:=hw9.o.s;have c1:=xA hb 1;have c2:=xA hb 2;have c3:=xA hb 3;simp only[gA,gB,gC] at c1 c2 c3;repeat go_step
   exact RG.xC hw9
  ·rfl
  iterate 2 refine RG.dS ?_
  iterate 4
   apply RG.xJ
   ·intro w9 hw9;have hb:=hw9.o.s;have c1:=xA hb 1;have c2:=xA hb 2;have c3:=xA hb 3;simp only[gA,gB,gC] at c1 c2 c3;repeat go_step
    exact RG.xC hw9
   ·rfl
  apply RG.xJ
  ·intro w9 hw9;repeat go_step
   refine(HCP.o _).mono ?_;rintro e w10 ⟨rfl,rfl⟩;simp only[];repeat go_step
   exact RG.xC hw9
  ·rfl
  apply RG.xJ
  ·intro w9 hw9;have hb:=hw9.o.s;have c1:=xA hb 1;have c2:=xA hb 2;have c3:=xA hb 3;simp only[gA,gB,gC] at c1 c2 c3;repeat go_step
   exact RG.xC hw9
  ·rfl
  iterate 2 refine RG.dS ?_
  iterate 2 refine RG.kS ?_
  iterate 2 refine RG.dS ?_
  iterate 2 refine RG.kS ?_
  refine RG.dS ?_;refine RG.xS (λw3 hw3=>?_);obtain⟨o0,y0,f0,o1,y1,f1,o2,y2,f2,o3,y3,f3,o4,y4,f4,HB⟩:=yAq hw3.o.o hw3.o.bel ω (.bool false) (.int .i64 0) (.int .i64 0) (.int .i64 0) (.string ⟨#[]⟩) _ rfl;clear hw3 HD;go_wp2
  refine bodyPost_ret (v:=xGz noSlot) (by simp[results,results149,go_sem,f0,f1,f2,f3,f4,noSlot]) rfl ?_;exact⟨by rw[HDV.o],HB.o⟩
 have g3:¬((cp:Int)<(sz:Int)):=ω
 by_cases t4:1<=b5
 rotate_left
 ·have e0:(b5:Int)<1:=ω;have HDV:Hid (dv=noSlot):=ι (by rw[xOt.o,if_neg];rw[HOK.o];simp;omega);clear xOt HOK HSL;go_upto_region 3 with fail
  refine RG.xQ (λW=>Hid (DcM w g ⟨true,b1,b2,sz,[]⟩ W)) κ κ (ι ⟨HD.o.o,HD.o.s,HD.o.bel.drew,HD.o.lt⟩) ?_;iterate 4 refine RG.dS ?_
  iterate 3
   apply RG.xJ
   ·intro w9 hw9;have hb:=hw9.o.s;have c1:=xA hb 1;have c2:=xA hb 2;have c3:=xA hb 3;simp only[gA,gB,gC] at c1 c2 c3;repeat go_step
    exact RG.xC hw9
   ·rfl
  iterate 2 refine RG.dS ?_
  iterate 4
   apply RG.xJ
   ·intro w9 hw9;have hb:=hw9.o.s;have c1:=xA hb 1;have c2:=xA hb 2;have c3:=xA hb 3;simp only[gA,gB,gC] at c1 c2 c3;repeat go_step
    exact RG.xC hw9
   ·rfl
  apply RG.xJ
  ·intro w9 hw9;repeat go_step
   refine(HBL.o _).mono ?_;rintro e w10 ⟨rfl,rfl⟩;simp only[];repeat go_step
   exact RG.xC hw9
  ·rfl
  apply RG.xJ
  ·intro w9 hw9;have hb:=hw9.o.s;have c1:=xA hb 1;have c2:=xA hb 2;have c3:=xA hb 3;simp only[gA,gB,gC] at c1 c2 c3;repeat go_step
   exact RG.xC hw9
  ·rfl
  iterate 2 refine RG.dS ?_
  iterate 4
   apply RG.xJ
   ·intro w9 hw9;have hb:=hw9.o.s;have c1:=xA hb 1;have c2:=xA hb 2;have c3:=xA hb 3;simp only[gA,gB,gC] at c1 c2 c3;repeat go_step
    exact RG.xC hw9
   ·rfl
  apply RG.xJ
  ·intro w9 hw9;repeat go_step
   refine(HCP.o _).mono ?_;rintro e w10 ⟨rfl,rfl⟩;simp only[];repeat go_step
   exact RG.xC hw9
  ·rfl
  apply RG.xJ
  ·intro w9 hw9;have hb:=hw9.o.s;have c1:=xA hb 1;have c2:=xA hb 2;have c3:=xA hb 3;simp only[gA,gB,gC] at c1 c2 c3;repeat go_step
   exact RG.xC hw9
  ·rfl
  iterate 2 refine RG.dS ?_
  iterate 2 refine RG.dS ?_
  iterate 2 refine RG.dS ?_
  iterate 2 refine RG.kS ?_
  refine RG.dS ?_;refine RG.xS (λw3 hw3=>?_);obtain⟨o0,y0,f0,o1,y1,f1,o2,y2,f2,o3,y3,f3,o4,y4,f4,HB⟩:=yAq hw3.o.o hw3.o.bel ω (.bool false) (.int .i64 0) (.int .i64 0) (.int .i64 0) (.string ⟨#[]⟩) _ rfl;clear hw3 HD;go_wp2
  refine bodyPost_ret (v:=xGz noSlot) (by simp[results,results149,go_sem,f0,f1,f2,f3,f4,noSlot]) rfl ?_;exact⟨by rw[HDV.o],HB.o⟩
 have g4:¬((b5:Int)<1):=ω
 by_cases t5:b5<=24
 rotate_left
 ·have e0:24<(b5:Int):=ω;have HDV:Hid (dv=noSlot):=ι (by rw[xOt.o,if_neg];rw[HOK.o];simp;omega);clear xOt HOK HSL;go_upto_region 3 with fail
  refine RG.xQ (λW=>Hid (DcM w g ⟨true,b1,b2,sz,[]⟩ W)) κ κ (ι ⟨HD.o.o,HD.o.s,HD.o.bel.drew,HD.o.lt⟩) ?_;iterate 4 refine RG.dS ?_
  iterate 3
   apply RG.xJ
   ·intro w9 hw9;have hb:=hw9.o.s;have c1:=xA hb 1;have c2:=xA hb 2;have c3:=xA hb 3;simp only[gA,gB,gC] at c1 c2 c3;repeat go_step
    exact RG.xC hw9
   ·rfl
  iterate 2 refine RG.dS ?_
  iterate 4
   apply RG.xJ
   ·intro w9 hw9;have hb:=hw9.o.s;have c1:=xA hb 1;have c2:=xA hb 2;have c3:=xA hb 3;simp only[gA,gB,gC] at c1 c2 c3;repeat go_step
    exact RG.xC hw9
   ·rfl
  apply RG.xJ
  ·intro w9 hw9;repeat go_step
   refine(HBL.o _).mono ?_;rintro e w10 ⟨rfl,rfl⟩;simp only[];repeat go_step
   exact RG.xC hw9
  ·rfl
  apply RG.xJ
  ·intro w9 hw9;have hb:=hw9.o.s;have c1:=xA hb 1;have c2:=xA hb 2;have c3:=xA hb 3;simp only[gA,gB,gC] at c1 c2 c3;repeat go_step
   exact RG.xC hw9
  ·rfl
  iterate 2 refine RG.dS ?_
  iterate 4
   apply RG.xJ
   ·intro w9 hw9;have hb:=hw9.o.s;have c1:=xA hb 1;have c2:=xA hb 2;have c3:=xA hb 3;simp only[gA,gB,gC] at c1 c2 c3;repeat go_step
    exact RG.xC hw9
   ·rfl
  apply RG.xJ
  ·intro w9 hw9;repeat go_step
   refine(HCP.o _).mono ?_;rintro e w10 ⟨rfl,rfl⟩;simp only[];repeat go_step
   exact RG.xC hw9
  ·rfl
  apply RG.xJ
  ·intro w9 hw9;have hb:=hw9.o.s;have c1:=xA hb 1;have c2:=xA hb 2;have c3:=xA hb 3;simp only[gA,gB,gC] at c1 c2 c3;repeat go_step
   exact RG.xC hw9
  ·rfl
  iterate 2 refine RG.dS ?_
  iterate 2 refine RG.dS ?_
  iterate 2 refine RG.dS ?_
  iterate 2 refine RG.dS ?_
  refine RG.dS ?_;refine RG.xS (λw3 hw3=>?_);obtain⟨o0,y0,f0,o1,y1,f1,o2,y2,f2,o3,y3,f3,o4,y4,f4,HB⟩:=yAq hw3.o.o hw3.o.bel ω (.bool false) (.int .i64 0) (.int .i64 0) (.int .i64 0) (.string ⟨#[]⟩) _ rfl;clear hw3 HD;go_wp2
  refine bodyPost_ret (v:=xGz noSlot) (by simp[results,results149,go_sem,f0,f1,f2,f3,f4,noSlot]) rfl ?_;exact⟨by rw[HDV.o],HB.o⟩
 have g5:¬(24<(b5:Int)):=ω;have HTR:Hid (dv=if s.data.toList=xQd (qB s.data.toList) then qB s.data.toList else noSlot):=ι (by rw[xOt.o,if_pos];rw[HOK.o];simp[t0,t1,t2,t3,t4,t5]);clear xOt HOK;go_upto_region 3 with fail
 refine RG.xQ (λW=>Hid (DcM w g ⟨true,b1,b2,sz,[]⟩ W)) κ κ (ι ⟨HD.o.o,HD.o.s,HD.o.bel.drew,HD.o.lt⟩) ?_;iterate 4 refine RG.dS ?_
 iterate 3
  apply RG.xJ
  ·intro w9 hw9;have hb:=hw9.o.s;have c1:=xA hb 1;have c2:=xA hb 2;have c3:=xA hb 3;simp only[gA,gB,gC] at c1 c2 c3;repeat go_step
   exact RG.xC hw9
  ·rfl
 iterate 2 refine RG.dS ?_
 iterate 4
  apply RG.xJ
  ·intro w9 hw9;have hb:=hw9.o.s;have c1:=xA hb 1;have c2:=xA hb 2;have c3:=xA hb 3;simp only[gA,gB,gC] at c1 c2 c3;repeat go_step
   exact RG.xC hw9
  ·rfl
 apply RG.xJ
 ·intro w9 hw9;repeat go_step
  refine(HBL.o _).mono ?_;rintro e w10 ⟨rfl,rfl⟩;simp only[];repeat go_step
  exact RG.xC hw9
 ·rfl
 apply RG.xJ
 ·intro w9 hw9;have hb:=hw9.o.s;have c1:=xA hb 1;have c2:=xA hb 2;have c3:=xA hb 3;simp only[gA,gB,gC] at c1 c2 c3;repeat go_step
  exact RG.xC hw9
 ·rfl
 iterate 2 refine RG.dS ?_
 iterate 4
  apply RG.xJ
  ·intro w9 hw9;have hb:=hw9.o.s;have c1:=xA hb 1;have c2:=xA hb 2;have c3:=xA hb 3;simp only[gA,gB,gC] at c1 c2 c3;repeat go_step
   exact RG.xC hw9
  ·rfl
 apply RG.xJ
 ·intro w9 hw9;repeat go_step
  refine(HCP.o _).mono ?_;rintro e w10 ⟨rfl,rfl⟩;simp only[];repeat go_step
  exact RG.xC hw9
 ·rfl
 apply RG.xJ
 ·intro w9 hw9;have hb:=hw9.o.s;have c1:=xA hb 1;have c2:=xA hb 2;have c3:=xA hb 3;simp only[gA,gB,gC] at c1 c2 c3;repeat go_step
  exact RG.xC hw9
 ·rfl
 iterate 2 refine RG.dS ?_
 iterate 2 refine RG.dS ?_
 iterate 2 refine RG.dS ?_
 iterate 2 refine RG.dS ?_
 refine RG.dS ?_;refine RG.xS (λw3 hw3=>?_);have HD3:=hw3;clear hw3 HD HBL HCP;obtain⟨nb,hnb⟩:∃nb:ByteArray,s.extract 6 (6+b5)=nb:=⟨_,rfl⟩
 have HNB:Hid (xR ((s.data.toList.drop 6).take b5)=.string nb/\nb.size=b5):=ι (by
  have hz:=HSZ.o;have h1:s.data.size=64:=hz
  constructor
  ·rw[<-hnb];show Value.string _=Value.string _
   congr 1
   apply ByteArray.ext;apply Array.ext';rw[ByteArray.data_extract,Array.toList_extract];simp[List.extract]
  ·rw[<-hnb,ByteArray.size_extract];omega)
 have hzi:(s.size:Int)=64:=by have:=HSZ.o;omega
 have hnbi:s.extract 6 (6+b5)=nb:=hnb;have hb:=HD3.o.s;obtain⟨c0,c1,c2,c3,c4⟩:=xTn hb;have y4:=xB hb 4;clear hb hnb;go_upto_region 6 with fail
 have HD4:=ι (show DcM w g ⟨true,b1,b2,sz,(s.data.toList.drop 6).take b5⟩ (w3.setCell ⟨g,4,none⟩ (.string nb)) from⟨yC HD3.o.o (p:=⟨g,4,none⟩) (by have:=HD3.o.lt;show w.heap.size≠g;omega) _,by
  have:=xY HD3.o.s 4 (.string nb);rw[this];show some (Obj.cells _ _ _)=some (wU _);simp only[wU,HNB.o.1]
  rfl,HD3.o.bel.setCell (p:=⟨g,4,none⟩) (Nat.le_of_lt HD3.o.lt) _,HD3.o.lt⟩)
 have HEN:=ι (λW=>xIi ⟨true,b1,b2,sz,(s.data.toList.drop 6).take b5⟩ W (by show b1<=255;omega) (by show b2<=255;omega) (HSB.o) (by show((s.data.toList.drop 6).take b5).length<=255;rw[List.length_take];omega));rw[<-HSL.o] at HEN
 rw[show xGz (qB s.data.toList)=.agg #[.bool true,.int .i64 b1,.int .i64 b2,.int .i64 sz,.string nb] from by rw[HSL.o];simp only[xGz,HNB.o.1]] at HEN;clear HD3 c0 c1 c2 c3 c4 y4;generalize w3.setCell ⟨g,4,none⟩ (.string nb)=w4 at HD4⊢;rw[<-HSL.o] at HD4;have hb:=HD4.o.s
 rw[HSL.o] at hb;simp only[wU,HNB.o.1] at hb;obtain⟨c0,c1,c2,c3,c4⟩:=xTn hb;clear hb
 have HSF:Hid (wU (qB s.data.toList)=.cells #[.bool true,.int .i64 b1,.int .i64 b2,.int .i64 sz,.string nb] 165/\xGz (qB s.data.toList)=.agg #[.bool true,.int .i64 b1,.int .i64 b2,.int .i64 sz,.string nb]):=ι (by rw[HSL.o];simp only[wU,xGz,HNB.o.1,and_self]);clear HSL HNB
 generalize qB s.data.toList=so at HEN HD4 HTR HSF;obtain⟨ev,hev⟩:∃ev,xQd so=ev:=⟨_,rfl⟩;rw[hev] at HEN HTR;clear hev;go_wp2_with fail
 refine(HEN.o _).mono ?_;rintro e w5 ⟨rfl,hb5⟩;clear c0 c1 c2 c3 c4
 have HD5:=ι (show ψ w w5/\w5.heap[w.heap.size]?=some (wU noSlot)/\w5.heap[g]?=some (.cells #[.bool true,.int .i64 b1,.int .i64 b2,.int .i64 sz,.string nb] 165 (0,0)) from⟨HD4.o.bel.trans (hb5.mono HD4.o.bel.size),xD HD4.o.o hb5 (xH HD4.o.o),by rw[<-HSF.o.1];exact xD HD4.o.s hb5 (xH HD4.o.s)⟩)
 clear hb5 HD4 HEN
 by_cases he:s.data.toList=ev
 ·have HDV:Hid (dv=so):=ι (by rw[HTR.o,if_pos he]);have e1:(!s.toList==ev)=false:=by rw[ByteArray.toList_eq,he];simp
  clear HTR he hnbi;go_upto_region 8 with fail
  have hb:=HD5.o.2.2;obtain⟨c0,c1,c2,c3,c4⟩:=xTn hb;clear hb;obtain⟨o0,y0,f0,o1,y1,f1,o2,y2,f2,o3,y3,f3,o4,y4,f4,HB⟩:=yAq HD5.o.2.1 HD5.o.1 ω (.bool true) (.int .i64 b1) (.int .i64 b2) (.int .i64 sz) (.string nb) _ rfl;clear HD5 e1;go_wp2
  refine bodyPost_ret (v:=.agg #[.bool true,.int .i64 b1,.int .i64 b2,.int .i64 sz,.string nb]) (by simp[results,results149,go_sem,f0,f1,f2,f3,f4]) rfl ?_;exact⟨by rw[HDV.o,HSF.o.2],HB.o⟩
 ·have HDV:Hid (dv=noSlot):=ι (by rw[HTR.o,if_neg he]);have e1:(!s.toList==ev)=true:=by rw[ByteArray.toList_eq];simpa using he
  clear HTR he hnbi;obtain⟨o0,y0,f0,o1,y1,f1,o2,y2,f2,o3,y3,f3,o4,y4,f4,HB⟩:=yAq HD5.o.2.1 HD5.o.1 ω (.bool false) (.int .i64 0) (.int .i64 0) (.int .i64 0) (.string ⟨#[]⟩) _ rfl;clear HD5;go_wp2
  refine bodyPost_ret (v:=xGz noSlot) (by simp[results,results149,go_sem,f0,f1,f2,f3,f4,noSlot]) rfl ?_;exact⟨by rw[HDV.o],HB.o⟩
end Go.Proofs.ST
namespace Mailsack
def unN (s:ByteArray):Nat:=(s.data.toList.getD 0 0).toNat+256*(s.data.toList.getD 1 0).toNat
def zB (r:ByteArray):Nat->Bool
 |0=>true
 |k+1=>zB r k&&yQ r k==0
def unR (s:ByteArray):ByteArray:=s.extract (2+unN s) s.size
def xY6 (s:ByteArray):Bool:=decide (2<=s.size)&&(xGm (unN s)==(s.size:Int))&&zB (unR s) (unR s).size
def unE (s:ByteArray):Int:=if xY6 s=true then 0 else 3
def unT (s:ByteArray):ByteArray:=if xY6 s=true then s.extract 2 (2+unN s) else⟨#[]⟩
theorem xYf (r:ByteArray) (k:Nat) (h:zB r k=false):∀n,k<=n->zB r n=false:=by
 intro n hn
 induction n with
 |zero=>rw[show k=0 by omega] at h;exact h
 |succ n ih=>
  by_cases e:k=n+1
  ·rw[<-e];exact h
  ·rw[zB,ih ω,Bool.false_and]
theorem yEb {n c:Nat} (h:xGm (n:Int)=(c:Int)) (hc:2<=c):2+n<=c/\n<=700:=by
 have h2:n<=700:=by
  apply Nat.le_of_not_lt;intro hh;unfold xGm at h;rw[if_pos ω] at h;omega
 obtain⟨c',e,h1,_⟩:=xE7 h2;rw[h] at e;omega
end Mailsack
namespace Go.Proofs.SE
open Go.RowKit Mailsack MM BB SH SV
theorem xXm (s:ByteArray) (w:World) (hs:s.size<=1000000):Calls prog 168 #[.string s] w λe w'=>e=.returned (.string s)/\ψ w w':=by
 go_enter func168,ntmps168;go_wp2_with fail
 refine(Tryz.stringslite_Clone s _ ω).mono ?_;rintro e w1 ⟨rfl,hb⟩;go_wp2;go_ret;exact⟨rfl,hb⟩
theorem xUj (s:ByteArray) (w:World) (hs:s.size<=1000000) (hC:yC2 w):
  Calls prog 83 #[.string s] w λe w'=>e=.returned (.tuple #[.string (unT s),.int .i64 (unE s)])/\ψ w w':=by
 by_cases h2:s.size<2
 ·have HR:Hid (xY6 s=false):=ι (by unfold xY6;rw[decide_eq_false ω];rfl);rw[show unT s=⟨#[]⟩ by unfold unT;rw[HR.o];rfl,show unE s=3 by unfold unE;rw[HR.o];rfl];have hi:(s.size:Int)<2:=ω;clear h2 hs hC;go_enter func83,ntmps83;go_wp2;go_ret2;exact⟨rfl,Below.refl _ _⟩
 ·have hi:¬(s.size:Int)<2:=ω;have hj:¬(s.size<2):=h2;have i0:=λw=>zL (P:=prog) underlying9 s 0 0 rfl ω w;have i1:=λw=>zL (P:=prog) underlying9 s 1 1 rfl ω w;have hN:(unN s:Int)=yQ s 0+yQ s 1*256:=by unfold unN yQ;omega
  have hor:Go.bits .or .i64 (yQ s 0) (yQ s 1*256)=(unN s:Int):=by
   unfold unN yQ;rw[yBj _ _ (UInt8.toNat_lt _) (UInt8.toNat_lt _)];omega
  obtain⟨c00,c01⟩:=yR s 0;obtain⟨c10,c11⟩:=yR s 1;have HCL:=ι (λW (hb:ψ w W)=>xGn (unN s:Int) W (hC.below hb ν));have HOK:Hid (xY6 s=((xGm (unN s)==(s.size:Int))&&zB (unR s) (unR s).size)):=ι (by unfold xY6;rw[decide_eq_true ω,Bool.true_and])
  have HE:Hid (unE s=if xY6 s=true then 0 else 3):=ι rfl;have HTT:Hid (unT s=if xY6 s=true then s.extract 2 (2+unN s) else⟨#[]⟩):=ι rfl;have HCE:=ι (λh=>yEb (n:=unN s) (c:=s.size) h ω);have HUR:Hid (unR s=s.extract (2+unN s) s.size):=ι rfl;generalize unE s=ue at HE⊢
  generalize unT s=ut at HTT⊢;generalize xY6 s=ok at HOK HE HTT;generalize unR s=rr at HOK HUR;generalize unN s=n at hN hor HCL HOK HTT HCE HUR;generalize yQ s 0=b0 at i0 hN hor c00 c01;generalize yQ s 1=b1 at i1 hN hor c10 c11;clear h2 hC hN;go_enter func83,ntmps83
  go_upto_region 3 with fail
  refine RG.xQ (λW=>Hid (ψ w W)) κ κ (ι (Below.refl w.heap.size w).drew) ?_;iterate 9 refine RG.dS ?_
  refine RG.xS (λw1 hw1=>?_);clear i0 i1 hor c00 c01 c10 c11;go_wp2_with fail
  refine(HCL.o _ hw1.o).mono ?_;rintro e w2 ⟨rfl,hw2⟩;rw[hw2];clear hw2 w2 HCL;have B1:=ι hw1.o;clear hw1
  by_cases hc:xGm (n:Int)=(s.size:Int)
  rotate_left
  ·have hc1:(xGm (n:Int)==(s.size:Int))=false:=by simpa using hc
   have hc2:(xGm (n:Int)!=(s.size:Int))=true:=by simpa using hc
   rw[hc1,Bool.false_and] at HOK;rw[HOK.o] at HE HTT;clear HOK HCE HUR;go_wp2;go_ret2;exact⟨by rw[HE.o,HTT.o];rfl,B1.o⟩
  ·have hc1:(xGm (n:Int)==(s.size:Int))=true:=by simpa using hc
   have hc2:(xGm (n:Int)!=(s.size:Int))=false:=by simpa using hc
   obtain⟨g1,g2⟩:=HCE.o hc;rw[hc1,Bool.true_and] at HOK;clear HCE hc;go_upto_region 6 with fail
   clear hc1 hc2 hi hj;refine RG.xQ (λW=>Hid (ψ w W)) κ κ (ι B1.o.drew) ?_;iterate 10 refine RG.dS ?_
   refine RG.xS (λw3 hw3=>?_);rw[<-HUR.o];have hts:(s.extract 2 (2+n)).size<=1000000:=by rw[ByteArray.size_extract];omega
   have hrs:rr.size<=1000000:=by rw[HUR.o,ByteArray.size_extract];omega
   generalize s.extract 2 (2+n)=tt at HTT hts⊢;have HW:=ι hw3.o;clear hw3 B1 HUR g1 g2;have HLT:=ι (xYf rr);have HSS:Hid (∀k,zB rr (k+1)=(zB rr k&&yQ rr k==0)):=ι (λk=>rfl);have HS0:Hid (zB rr 0=true):=ι rfl;have HCN:=ι (λW=>xXm tt W hts);clear hts;go_wp2_with fail
   go_loopw [34] (λiv W=>∃k:Nat,k<=rr.size/\iv=.int .i64 k/\Hid (zB rr k=true)/\Hid (ψ w W)) (λiv _=>rr.size- (intOf iv).toNat)
   case atStart=>exact⟨0,Nat.zero_le _,rfl,HS0,HW⟩
   case round=>
    obtain⟨k,hk,rfl,hu,hbw⟩:=hrel
    by_cases hlt:k<rr.size
    ·have i1:=λw=>zL (P:=prog) underlying9 rr (k:Int) k rfl hlt w;have HSk:=ι (HSS.o k);generalize yQ rr k=c at i1 HSk
     by_cases hcz:c=0
     ·have hc0:(c==0)=true:=by simpa using hcz
      have hc1:(c !=0)=false:=by simp[hcz]
      have HN:Hid (zB rr (k+1)=true):=ι (by rw[HSk.o,hu.o,hc0];rfl);subst hcz;clear HSk hu;go_wp2;exact⟨⟨k+1,ω,by go_num,HN,hbw⟩,by simp[intOf];omega⟩
     ·have hc0:(c==0)=false:=by simpa using hcz
      have hc1:(c !=0)=true:=by simp[hcz]
      have HN:Hid (ok=false):=ι (by rw[HOK.o];exact HLT.o (k+1) (by rw[HSk.o,hc0,Bool.and_false]) rr.size ω);clear HSk hu HOK HLT;go_wp2;go_ret2;exact⟨by rw[HE.o,HTT.o,HN.o];rfl,hbw.o⟩
    ·have he:k=rr.size:=ω;subst he;have HN:Hid (ok=true):=ι (by rw[HOK.o];exact hu.o);clear hu HOK HLT HSS HS0;go_wp2_with fail
     refine(HCN.o _).mono ?_;rintro e w5 ⟨rfl,hb5⟩;have B5:=ι (hbw.o.trans (hb5.mono hbw.o.size));clear hb5 hbw;go_wp2;go_ret2;exact⟨by rw[HE.o,HTT.o,HN.o];rfl,B5.o⟩
end Go.Proofs.SE