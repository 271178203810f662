/- Contracts of functions. Conditions: as stated. -/
import Derived.Test.YtacahegificeoaaGreatDoorImapLoginsProofB30
set_option maxHeartbeats 8000000
set_option maxRecDepth 100000
namespace Go.Proofs.AL
open Go.RowKit Mailsack MM SV
abbrev numI (gp:Nat):Value:=.iface 413 (.pointer (some ⟨gp,1,none⟩))
theorem yAb (gp g n c:Nat) (h:List Nat) (rest:List Value) (w:World) (hc:w.cell? ⟨gp,1,none⟩=some (.slice (some ⟨g,0,none⟩) (n+1) c)) (hf:w.frozen? ⟨gp,1,none⟩=false) (hr:vI w g h rest) (hn:n+1=h.length) (hcc:n+1<=c) (hn2:n<1000000):
  Calls Tryz.prog 451 #[.pointer (some ⟨gp,1,none⟩)] w λe w'=>e=.returned (.iface 3 (.int .i64 ((h.getD n 0:Nat):Int)))/\w'=w.setCell ⟨gp,1,none⟩ (.slice (some ⟨g,0,none⟩) n c):=by
 have q:=hr.cell (i:=n) ω;generalize h.getD n 0=x at q⊢;have e1:(((n+1:Nat):Int))=(n:Int)+1:=by omega
 have e2:(n:Int)+1-1=n:=by omega
 have e3:(n:Int)<((n+1:Nat):Int):=by omega
 have e4:(n:Int)<=(c:Int):=by omega
 have e5:¬((n:Int)<0):=by omega
 clear hr hn;go_enter Tryz.func451,Tryz.ntmps451;go_wp2;go_ret;exact⟨rfl,rfl⟩
theorem row_of {P:Program} {t:TypeId} {name:String} {f:FuncId} {pr:Bool} (h:((P.info? t).bind λi=>(i.methods.find? (·.name==name)).map λm=>(m.path.toList.length,m.func))=some (0,some (f,pr))):
  ∃i m,P.info? t=some i/\i.methods.find? (·.name==name)=some m/\m.path=#[]/\m.func=some (f,pr):=by
 cases hi:P.info? t with
 |none=>rw[hi] at h;cases h
 |some i=>
  rw[hi] at h;simp only[Option.bind_some] at h;cases hm:i.methods.find? (·.name==name) with
  |none=>rw[hm] at h;cases h
  |some m=>
   rw[hm] at h;simp only[Option.map_some,Option.some.injEq,Prod.mk.injEq] at h
   exact⟨i,m,rfl,hm,by
    have:=List.eq_nil_of_length_eq_zero h.1;exact Array.toList_eq_nil_iff.1 this,h.2⟩
theorem yE3 {name:String} {f:FuncId} (h:((Tryz.prog.info? 413).bind λi=>(i.methods.find? (·.name==name)).map λm=>(m.path.toList.length,m.func))=some (0,some (f,false)))
  (n:Nat) (a:Addr) (w:World) (A:Option Addr) (k c:Nat) (hc:w.cell? a=some (.slice A k c)):(method (n+1) 413 (.pointer (some a)) name).run Tryz.prog w=.ok (f,.slice A k c) w:=by
 obtain⟨i,m,h1,h2,h3,h4⟩:=row_of (P:=Tryz.prog) h;have hu:=Tryz.underlying413
 have hl:(loadVar 409 a).run Tryz.prog w=.ok (.slice A k c) w:=by
  unfold loadVar;simp[go_sem,hc]
 have hw : ∀ t nm,Builtin.ssaWrapNilChk_ #[t] t #[.pointer (some a),strVal "",strVal nm] = pure (.pointer (some a)) := fun _ _ => rfl;unfold method;simp[typeInfo,h1,h2,h3,h4,follow,receiverAt,underlying,hu,Place.get,hw,asAddr,hl]
theorem m_ptr {name:String} {f:FuncId} (h:((Tryz.prog.info? 413).bind λi=>(i.methods.find? (·.name==name)).map λm=>(m.path.toList.length,m.func))=some (0,some (f,true)))
  (n:Nat) (a:Addr) (w:World):(method (n+1) 413 (.pointer (some a)) name).run Tryz.prog w=.ok (f,.pointer (some a)) w:=by
 obtain⟨i,m,h1,h2,h3,h4⟩:=row_of (P:=Tryz.prog) h;have hu:=Tryz.underlying413;unfold method;simp[typeInfo,h1,h2,h3,h4,follow,receiverAt,underlying,hu,Place.get]
theorem yE4 (n : Nat) (a : Addr) (w : World) (A : Option Addr) (k c : Nat) (hc : w.cell? a = some (.slice A k c)) : (method (n + 1) 413 (.pointer (some a)) "Len").run Tryz.prog w = .ok (448,.slice A k c) w := yE3 (by kernel_rfl) n a w A k c hc
theorem xPz (n : Nat) (a : Addr) (w : World) (A : Option Addr) (k c : Nat) (hc : w.cell? a = some (.slice A k c)) : (method (n + 1) 413 (.pointer (some a)) "Less").run Tryz.prog w = .ok (449,.slice A k c) w := yE3 (by kernel_rfl) n a w A k c hc
theorem xPy (n : Nat) (a : Addr) (w : World) (A : Option Addr) (k c : Nat) (hc : w.cell? a = some (.slice A k c)) : (method (n + 1) 413 (.pointer (some a)) "Swap").run Tryz.prog w = .ok (450,.slice A k c) w := yE3 (by kernel_rfl) n a w A k c hc
theorem m_pop (n : Nat) (a : Addr) (w : World) : (method (n + 1) 413 (.pointer (some a)) "Pop").run Tryz.prog w = .ok (451,.pointer (some a)) w := m_ptr (by kernel_rfl) n a w
theorem yD5 {P:Nat->Prop} {a b:World} (h:Tn P a b) {p:Addr} (hp:p.block<a.heap.size) (hn:¬P p.block):b.cell? p=a.cell? p:=by
 unfold World.cell?;rw[h.block _ hp hn]
theorem xUz {P:Nat->Prop} {a b:World} (h:Tn P a b) {p:Addr} (hp:p.block<a.heap.size) (hn:¬P p.block):b.frozen? p=a.frozen? p:=by
 unfold World.frozen?;rw[h.block _ hp hn]
theorem xJh (g N c:Nat) (h:List Nat) (rest:List Value) (a b:Nat) (x y:Int) (w:World) (hr:vI w g h rest) (hN:N=h.length) (hx:x=a) (hy:y=b) (ha:a<N) (hb:b<N):
  Calls Tryz.prog 449 #[.slice (some ⟨g,0,none⟩) N c,.int .i64 x,.int .i64 y] w λe w'=>e=.returned (.bool (decide (h.getD a 0<h.getD b 0)))/\Below w.heap.size w w':=by
 subst hx hy;exact yAp g N c h rest a b w hr ω ha hb
theorem xIs (g N c:Nat) (h:List Nat) (rest:List Value) (a b:Nat) (x y:Int) (w:World) (hr:vI w g h rest) (hN:N=h.length) (hx:x=a) (hy:y=b) (ha:a<N) (hb:b<N):
  Calls Tryz.prog 450 #[.slice (some ⟨g,0,none⟩) N c,.int .i64 x,.int .i64 y] w λe w'=>e=.returned (.tuple #[])/\vI w' g (xAj h a b) rest/\Tn (λk=>k=g) w w':=by
 subst hx hy;exact xZn g N c h rest a b w hr ω ha hb
structure DwI (w:World) (gp g N c:Nat) (h:List Nat) (rest:List Value) (W:World):Prop where
 row:vI W g h rest
 cell:W.cell? ⟨gp,1,none⟩=some (.slice (some ⟨g,0,none⟩) N c)
 len:N=h.length
 tn:Tn (λk=>k=g) w W
 lt:gp<w.heap.size
 ne:gp≠g
theorem DwI.below {w:World} {gp g N c:Nat} {h:List Nat} {rest:List Value} {W W':World} (h1:DwI w gp g N c h rest W) (hb:Below W.heap.size W W'):DwI w gp g N c h rest W':=
 ⟨h1.row.below hb,(hb.cell (p:=⟨gp,1,none⟩) (Nat.lt_of_lt_of_le h1.lt h1.tn.size)).trans h1.cell,h1.len,h1.tn.call hb,h1.lt,h1.ne⟩
theorem DwI.swap {w:World} {gp g N c:Nat} {h h':List Nat} {rest:List Value} {W W':World} (h1:DwI w gp g N c h rest W) (hr:vI W' g h' rest) (ht:Tn (λk=>k=g) W W') (hl:h'.length=h.length):DwI w gp g N c h' rest W':=
 ⟨hr,(yD5 ht (p:=⟨gp,1,none⟩) (Nat.lt_of_lt_of_le h1.lt h1.tn.size) h1.ne).trans h1.cell,by rw[hl];exact h1.len,h1.tn.trans ht,h1.lt,h1.ne⟩
theorem xQj (gp g N c i0 n:Nat) (h:List Nat) (rest:List Value) (w:World) (hI:DwI w gp g N c h rest w) (hn:n<=N) (hN:N<=1000000) (hi1:i0<=1000000):
  Calls Tryz.prog 395 #[numI gp,.int .i64 i0,.int .i64 n] w λe w'=>∃b,e=.returned (.bool b)/\DwI w gp g N c (vX h n n i0) rest w':=by
 have HI0:=ι hI;have HD0:Hid (∀h' f i,vX h n n i0=vX h' n f i->vX h n n i0=vX h' n f i):=ι (λ_ _ _ e=>e);clear hI HD0;obtain⟨res,hres⟩:∃res,vX h n n i0=res:=⟨_,rfl⟩;have HR:=ι hres;rw[hres];clear hres;go_enter Tryz.func395,Tryz.ntmps395;go_wp2_with fail
 go_loopw [7,8,9,10] (λiv _ _ _ wr=>∃(i f:Nat) (h':List Nat),iv=.int .i64 i/\n<=i+f/\i<=1000000/\Hid (vX h' n f i=res)/\Hid (DwI w gp g N c h' rest wr)) (λiv _ _ _ _=>n- (intOf iv).toNat)
 case atStart=>exact⟨i0,n,h,rfl,ω,hi1,HR,HI0⟩
 case round=>
  obtain⟨i,f,h',rfl,hf,hi,HDn,HI⟩:=hrel;clear HR HI0
  by_cases hb:n<=2*i+1
  ·have hbi:(n:Int)<=2*(i:Int)+1:=by omega
   have HE:Hid (res=h'):=ι (by
    rw[<-HDn.o];cases f with
    |zero=>rfl
    |succ f=>unfold vX;rw[if_pos hb])
   clear hb hf hn;go_wp2;go_ret;refine⟨_,rfl,?_⟩;rw[HE.o];exact HI.o
  ·have hbi:¬((n:Int)<=2*(i:Int)+1):=by omega
   have hb0:¬(2*(i:Int)+1<0):=by omega
   have hiN:i<N:=by omega
   have HIN:=ι hiN;obtain⟨f,rfl⟩:∃f',f=f'+1:=⟨f-1,ω⟩
   have HDK:Hid (∀j,(if 2*i+2<n/\h'.getD (2*i+2) 0<h'.getD (2*i+1) 0 then 2*i+2 else 2*i+1)=j->(h'.getD j 0<h'.getD i 0->vX (xAj h' i j) n f j=res)/\(¬h'.getD j 0<h'.getD i 0->res=h')):=ι (λj hj=>by
    have:=HDn.o;unfold vX at this;rw[if_neg hb] at this;simp only at this;rw[hj] at this;refine⟨λhl=>?_,λhl=>?_⟩
    ·rw[if_pos hl] at this;exact this
    ·rw[if_neg hl] at this;exact this.symm)
   clear HDn
   by_cases h2:2*i+2<n
   ·have h2i:2*(i:Int)+1+1<(n:Int):=by omega
    have H2N:Hid (2*i+2<N/\2*i+1<N):=ι ⟨ω,ω⟩;go_wp2_with fail
    rw[xPz _ _ _ _ _ _ HI.o.cell];go_wp2_with fail
    refine(xJh g N c h' rest (2*i+2) (2*i+1) _ _ wr HI.o.row HI.o.len ω ω H2N.o.1 H2N.o.2).mono ?_;rintro e w3 ⟨rfl,hb3⟩;have HI3:=ι (HI.o.below hb3);clear HI hb3;have HI:=HI3;clear HI3;generalize w3=wr at HI⊢
    by_cases hl:h'.getD (2*i+2) 0<h'.getD (2*i+1) 0
    ·have HDJ:=ι (HDK.o (2*i+2) (by rw[if_pos ⟨h2,hl⟩]));rw[decide_eq_true hl];obtain⟨j,hje⟩:∃j,2*i+2=j:=⟨_,rfl⟩;have hj:2*(i:Int)+1+1=(j:Int):=by omega
     rw[hje] at HDJ;clear hl HDK H2N;have hjN:j<N:=by omega
     have HJ:=ι hj;have HJN:=ι hjN;clear hj hjN;go_wp2_with fail
     rw[xPz _ _ _ _ _ _ HI.o.cell];go_wp2_with fail
     refine(xJh g N c h' rest j i _ _ wr HI.o.row HI.o.len HJ.o rfl HJN.o HIN.o).mono ?_;rintro e w5 ⟨rfl,hb5⟩;have H5:=ι (HI.o.below hb5);clear HI hb5
     by_cases hl2:h'.getD j 0<h'.getD i 0
     ·have HD5:=ι (HDJ.o.1 hl2);rw[decide_eq_true hl2];clear hl2 HDJ;go_wp2_with fail
      rw[xPy _ _ _ _ _ _ H5.o.cell];go_wp2_with fail
      refine(xIs g N c h' rest i j _ _ w5 H5.o.row H5.o.len rfl HJ.o HIN.o HJN.o).mono ?_;rintro e w6 ⟨rfl,hr6,ht6⟩;have H6:=ι (H5.o.swap hr6 ht6 (xCk _ _ _));clear H5 hr6 ht6;go_wp2;have hj:=HJ.o;exact⟨⟨j,f,xAj h' i j,by congr 1,ω,ω,HD5,H6⟩,by simp[intOf];omega⟩
     ·have HD5:=ι (HDJ.o.2 hl2);rw[decide_eq_false hl2];clear hl2 HDJ;go_wp2;go_ret;refine⟨_,rfl,?_⟩;rw[HD5.o];exact H5.o
    ·have HDJ:=ι (HDK.o (2*i+1) (by rw[if_neg (λx=>hl x.2)]));rw[decide_eq_false hl];obtain⟨j,hje⟩:∃j,2*i+1=j:=⟨_,rfl⟩;have hj:2*(i:Int)+1=(j:Int):=by omega
     rw[hje] at HDJ;clear hl HDK H2N;have hjN:j<N:=by omega
     have HJ:=ι hj;have HJN:=ι hjN;clear hj hjN;go_wp2_with fail
     rw[xPz _ _ _ _ _ _ HI.o.cell];go_wp2_with fail
     refine(xJh g N c h' rest j i _ _ wr HI.o.row HI.o.len HJ.o rfl HJN.o HIN.o).mono ?_;rintro e w5 ⟨rfl,hb5⟩;have H5:=ι (HI.o.below hb5);clear HI hb5
     by_cases hl2:h'.getD j 0<h'.getD i 0
     ·have HD5:=ι (HDJ.o.1 hl2);rw[decide_eq_true hl2];clear hl2 HDJ;go_wp2_with fail
      rw[xPy _ _ _ _ _ _ H5.o.cell];go_wp2_with fail
      refine(xIs g N c h' rest i j _ _ w5 H5.o.row H5.o.len rfl HJ.o HIN.o HJN.o).mono ?_;rintro e w6 ⟨rfl,hr6,ht6⟩;have H6:=ι (H5.o.swap hr6 ht6 (xCk _ _ _));clear H5 hr6 ht6;go_wp2;have hj:=HJ.o;exact⟨⟨j,f,xAj h' i j,by congr 1,ω,ω,HD5,H6⟩,by simp[intOf];omega⟩
     ·have HD5:=ι (HDJ.o.2 hl2);rw[decide_eq_false hl2];clear hl2 HDJ;go_wp2;go_ret;refine⟨_,rfl,?_⟩;rw[HD5.o];exact H5.o
   ·have h2i:¬(2*(i:Int)+1+1<(n:Int)):=by omega
    have HDJ:=ι (HDK.o (2*i+1) (by rw[if_neg (λx=>h2 x.1)]));obtain⟨j,hje⟩:∃j,2*i+1=j:=⟨_,rfl⟩;have hj:2*(i:Int)+1=(j:Int):=by omega
    rw[hje] at HDJ;clear HDK;have hjN:j<N:=by omega
    have HJ:=ι hj;have HJN:=ι hjN;clear hj hjN;go_wp2_with fail
    rw[xPz _ _ _ _ _ _ HI.o.cell];go_wp2_with fail
    refine(xJh g N c h' rest j i _ _ wr HI.o.row HI.o.len HJ.o rfl HJN.o HIN.o).mono ?_;rintro e w5 ⟨rfl,hb5⟩;have H5:=ι (HI.o.below hb5);clear HI hb5
    by_cases hl2:h'.getD j 0<h'.getD i 0
    ·have HD5:=ι (HDJ.o.1 hl2);rw[decide_eq_true hl2];clear hl2 HDJ;go_wp2_with fail
     rw[xPy _ _ _ _ _ _ H5.o.cell];go_wp2_with fail
     refine(xIs g N c h' rest i j _ _ w5 H5.o.row H5.o.len rfl HJ.o HIN.o HJN.o).mono ?_;rintro e w6 ⟨rfl,hr6,ht6⟩;have H6:=ι (H5.o.swap hr6 ht6 (xCk _ _ _));clear H5 hr6 ht6;go_wp2;have hj:=HJ.o;exact⟨⟨j,f,xAj h' i j,by congr 1,ω,ω,HD5,H6⟩,by simp[intOf];omega⟩
    ·have HD5:=ι (HDJ.o.2 hl2);rw[decide_eq_false hl2];clear hl2 HDJ;go_wp2;go_ret;refine⟨_,rfl,?_⟩;rw[HD5.o];exact H5.o
end Go.Proofs.AL
namespace Mailsack
theorem yA4 {h:List Nat} (h0:h.length≠0):(vX (xAj h 0 (h.length-1)) (h.length-1) (h.length-1) 0).getD (h.length-1) 0=h.getD 0 0:=by
 have hsw:(xAj h 0 (h.length-1))[h.length-1]?=some (h.getD 0 0):=by
  unfold xAj;rw[List.getElem?_set_self (by simp;omega)]
 rw[List.getD_eq_getElem?_getD]
 by_cases h1:h.length=1
 ·have hk:vX (xAj h 0 (h.length-1)) (h.length-1) (h.length-1) 0=xAj h 0 (h.length-1):=by rw[h1];rfl
  rw[hk,hsw]
  rfl
 ·rw[xE5 _ _ _ _ _ ν ω,hsw]
  rfl
theorem pop_eq (h:List Nat):xH0 h=(vX (xAj h 0 (h.length-1)) (h.length-1) (h.length-1) 0).dropLast:=rfl
end Mailsack
namespace Go.Proofs.AL
open Go.RowKit Mailsack MM SV
theorem vI.short {W:World} {g:Nat} {h:List Nat} {rest:List Value} (hr:vI W g h rest):vI W g h.dropLast (xMv (h.drop (h.length-1))++rest):=by
 have e:xMv h=xMv h.dropLast++xMv (h.drop (h.length-1)):=by
  unfold xMv;rw[<-List.map_append,List.dropLast_eq_take,List.take_append_drop]
 unfold vI;rw[<-List.append_assoc,<-e];exact hr
theorem yB1 (gp g N c:Nat) (h:List Nat) (rest:List Value) (w:World) (hI:DwI w gp g N c h rest w) (hN:N<=1000000):
  Calls Tryz.prog 345 #[numI gp] w λe w'=>e=.returned (.tuple #[])/\DwI w gp g N c (xSw h) rest w':=by
 have HI0:=ι hI;have HE:Hid (∀k,k=N / 2->xLy h k=xSw h):=ι (λk hk=>by rw[hk,hI.len];rfl);have HDN:=ι (λ(h':List Nat) (k:Nat) W (hw:DwI W gp g N c h' rest W) (hk:k+1<=N / 2)=>xQj gp g N c k N h' rest W hw ν hN ω);generalize xSw h=res at HE⊢;clear hI
 go_enter Tryz.func345,Tryz.ntmps345;go_wp2_with fail
 rw[yE4 _ _ _ _ _ _ HI0.o.cell];go_wp2_with (go_at_call 448;refine(xO6 _ _ _ _).mono ?_;rintro e w1 ⟨rfl,rfl⟩)
 go_loopw [3] (λiv wr=>∃(k:Nat) (h':List Nat),iv=.int .i64 ((k:Int)-1)/\k<=N / 2/\Hid (xLy h' k=res)/\Hid (DwI w1 gp g N c h' rest wr)) (λiv _=>(intOf iv+1).toNat)
 case atStart=>exact⟨N / 2,h,by congr 1,Nat.le_refl _,ι (HE.o _ rfl),HI0⟩
 case round=>
  obtain⟨k,h',rfl,hk,hR,HI⟩:=hrel;clear HI0 HE;cases k with
  |zero=>
   have hr0:Hid (res=h'):=ι hR.o.symm;go_wp2;refine bodyPost_end (results_none rfl _ _ _) rfl ?_;rw[hr0.o];exact⟨rfl,HI.o⟩
  |succ k=>
   have hR2:Hid (xLy (vX h' N N k) k=res):=ι (by rw[<-hR.o];conv=>rhs;unfold xLy;rw[<-HI.o.len]);rw[show((k+1:Nat):Int)-1=(k:Int) by omega];have HD1:=ι (HDN.o h' k wr ⟨HI.o.row,HI.o.cell,HI.o.len,Tn.refl _ _,Nat.lt_of_lt_of_le HI.o.lt HI.o.tn.size,HI.o.ne⟩ hk);clear hR HDN
   go_wp2_with fail
   refine HD1.o.mono ?_;rintro e w2 ⟨b,rfl,hw2⟩;have H2:Hid (DwI w1 gp g N c (vX h' N N k) rest w2):=ι ⟨hw2.row,hw2.cell,hw2.len,HI.o.tn.trans hw2.tn,HI.o.lt,HI.o.ne⟩;clear hw2 HI HD1;go_wp2;exact⟨⟨k,_,by rfl,ω,hR2,H2⟩,by simp[intOf]⟩
theorem yB0 (gp c:Nat) (A:Option Addr) (w:World) (hc:w.cell? ⟨gp,1,none⟩=some (.slice A 0 c)):
  Calls Tryz.prog 345 #[numI gp] w λe w'=>e=.returned (.tuple #[])/\w'=w:=by
 go_enter Tryz.func345,Tryz.ntmps345;go_wp2_with fail
 rw[yE4 _ _ _ _ _ _ hc];go_wp2_with (go_at_call 448;refine(xO6 _ _ _ _).mono ?_;rintro e w1 ⟨rfl,rfl⟩)
 go_loopw [3] (λiv wr=>iv=.int .i64 (-1)/\wr=w1) (λ_ _=>0)
 case atStart=>exact⟨rfl,rfl⟩
 case round=>
  obtain⟨rfl,rfl⟩:=hrel;go_wp2;refine bodyPost_end (results_none rfl _ _ _) rfl ?_;exact⟨rfl,rfl⟩
theorem yB4 (gp g n c:Nat) (h:List Nat) (rest:List Value) (w:World) (hI:DwI w gp g (n+1) c h rest w) (hf:w.frozen? ⟨gp,1,none⟩=false) (hc:n+1<=c) (hN:n+1<=1000000):
  Calls Tryz.prog 396 #[numI gp] w λe w'=>e=.returned (.iface 3 (.int .i64 ((h.getD 0 0:Nat):Int)))/\∃W rest',w'=W.setCell ⟨gp,1,none⟩ (.slice (some ⟨g,0,none⟩) n c)/\Tn (λk=>k=g) w W/\vI W g (xH0 h) rest':=by
 have hl:h.length=n+1:=hI.len.symm;have H0:=ι hI;have hlast:=yA4 (h:=h) ω;have hpe:=pop_eq h;rw[hl,show n+1-1=n by omega] at hlast hpe;have HPE:=ι hpe;have HLA:=ι hlast;have HF:=ι (λW (ht:Tn (λk=>k=g) w W)=>(xUz ht (p:=⟨gp,1,none⟩) hI.lt hI.ne).trans hf);clear hpe hlast hI
 go_enter Tryz.func396,Tryz.ntmps396;go_wp2_with fail
 rw[yE4 _ _ _ _ _ _ H0.o.cell];go_wp2_with (go_at_call 448;refine(xO6 _ _ _ _).mono ?_;rintro e w1 ⟨rfl,rfl⟩)
 rw[xPy _ _ _ _ _ _ H0.o.cell];go_wp2_with fail
 refine(xIs g (n+1) c h rest 0 n _ _ w1 H0.o.row H0.o.len rfl rfl ω ω).mono ?_;rintro e w2 ⟨rfl,hr2,ht2⟩;have H2:=ι (H0.o.swap hr2 ht2 (xCk _ _ _));clear hr2 ht2
 have HDN:=ι (xQj gp g (n+1) c 0 n (xAj h 0 n) rest w2 ⟨H2.o.row,H2.o.cell,H2.o.len,Tn.refl _ _,Nat.lt_of_lt_of_le H2.o.lt H2.o.tn.size,H2.o.ne⟩ ω ω ω);clear hf;go_wp2_with fail
 refine HDN.o.mono ?_;rintro e w3 ⟨b,rfl,hw3⟩;have HT3:=ι (H2.o.tn.trans hw3.tn);have HPOP:=ι (yAb gp g n c (vX (xAj h 0 n) n n 0) rest w3 hw3.cell (HF.o _ HT3.o) hw3.row hw3.len hc ω);rw[HLA.o] at HPOP;have HSH:=ι hw3.row.short;rw[<-HPE.o] at HSH
 clear hw3 H2 HDN HF HLA HPE hl hN hc;go_wp2_with fail
 rw[m_pop];go_wp2_with fail
 refine HPOP.o.mono ?_;rintro e w4 ⟨rfl,rfl⟩;go_wp2;go_ret;exact⟨rfl,w3,_,rfl,HT3.o,HSH.o⟩
end Go.Proofs.AL
namespace Mailsack
def tkB (n:Nat) (l:List Nat):List Bool:=(List.range n).map λi=>l.contains i
theorem xDm (n:Nat) (l:List Nat):(tkB n l).length=n:=by simp[tkB]
theorem yD6 (n:Nat):tkB n []=List.replicate n false:=by
 apply List.ext_getElem?;intro i;simp only[tkB,List.getElem?_map,List.getElem?_replicate]
 by_cases h:i<n
 ·rw[if_pos h,List.getElem?_range h];rfl
 ·rw[if_neg h,List.getElem?_eq_none (by simpa using h)];rfl
theorem xIr {n:Nat} {l:List Nat} {i:Nat} (h:i<n):(tkB n l)[i]?=some (l.contains i):=by simp[tkB,h]
theorem xZi {n:Nat} {l:List Nat} {k t:Nat} (h:l[k]?=some t):tkB n (l.take (k+1))=(tkB n (l.take k)).set t true:=by
 rw[List.take_add_one,h];apply List.ext_getElem?;intro i;rw[List.getElem?_set]
 by_cases hi:i<n
 ·rw[xIr hi,xIr hi,xDm]
  by_cases e:t=i
  ·subst e;rw[if_pos rfl,if_pos hi];simp
  ·rw[if_neg e];simp;intro h;exact absurd h.symm e
 ·rw[List.getElem?_eq_none (by rw[xDm];omega),List.getElem?_eq_none (by rw[xDm];omega)]
  by_cases e:t=i
  ·subst e;rw[if_pos rfl,if_neg (by rw[xDm];exact hi)]
  ·rw[if_neg e]
def frL (l:List Nat) (k:Nat):List Nat:=(List.range k).filter λi=>!l.contains i
theorem yBa (l:List Nat) (k:Nat):frL l (k+1)=if l.contains k=true then frL l k else frL l k++[k]:=by
 unfold frL;rw[List.range_succ,List.filter_append];cases h:l.contains k<;>simp at h<;>simp[h]
theorem xXf (l:List Nat) (k:Nat):(frL l k).length<=k:=by
 have:=List.length_filter_le (λi=>!l.contains i) (List.range k);simpa[frL] using this
theorem frL_lt {l:List Nat} {k x:Nat} (h:x∈frL l k):x<k:=by
 have:=(List.mem_filter.1 h).1;simpa using this
theorem yB9 (n:Nat) (l:List Nat):xDv n l=xSw (frL l n):=rfl
end Mailsack
namespace Go.Proofs.AL
open Go.RowKit Mailsack MM SV DS BB
def RdN (w:World) (B:Nat) (v:Value) (L:List Nat):Prop:=
 ∃A c,v=.slice A L.length c/\L.length<=c/\(0<L.length->∃b off,A=some ⟨b,off,none⟩/\b<B/\∀j x,L[j]?=some x->w.cell? ⟨b,off+j,none⟩=some (.int .i64 ((x:Nat):Int)))
def xIj (w:World) (base:Nat) (v:Value) (l:List Nat):Prop:=w.ownsRow base 3 1 v l.length (xMv l)
theorem xIj.nil (w:World) (base:Nat):xIj w base (.slice none 0 0) []:=World.ownsRow_nil w base _ _
theorem xIj.row {w:World} {base:Nat} {v:Value} {l:List Nat} (h:xIj w base v l):w.ownsRow base 3 1 v l.length (xMv l):=h
theorem xIj.of {w:World} {base:Nat} {v:Value} {l:List Nat} {x:Nat} (h:w.ownsRow base 3 1 v (l.length+1) (xMv l++[.int .i64 (x:Int)])):xIj w base v (l++[x]):=by
 unfold xIj xMv;rw[List.length_append,List.map_append];exact h
theorem xIj.alloc {w:World} {base:Nat} {v:Value} {l:List Nat} (h:xIj w base v l) (o:Obj):xIj (w.alloc o) base v l:=World.ownsRow.alloc h o
theorem xIj.form {w:World} {base:Nat} {v:Value} {l:List Nat} (h:xIj w base v l):∃A c,v=.slice A l.length c/\l.length<=c:=by
 rcases h.2 with ⟨h1,h2⟩|⟨g,cap,cur,h1,_,_,h2,_⟩
 ·exact⟨none,0,by rw[h1,h2],ω⟩
 ·exact⟨_,_,h1,h2⟩
theorem xIj.row_of {w:World} {base:Nat} {v:Value} {l:List Nat} (h:xIj w base v l):(l=[]/\v=.slice none 0 0)∨∃g c rest,v=.slice (some ⟨g,0,none⟩) l.length c/\l.length<=c/\vI w g l rest/\base<=g:=by
 rcases h.2 with ⟨h1,h2⟩|⟨g,cap,cur,h1,hb,hg,hnc,_,_,ht⟩
 ·exact .inl ⟨List.eq_nil_of_length_eq_zero h2,h1⟩
 ·refine .inr ⟨g,cap,cur.toList.drop l.length,h1,hnc,?_,hb⟩;unfold vI;rw[Nat.mul_one] at ht;rw[<-ht,List.take_append_drop];exact hg
theorem xIj.xAm {w:World} {base:Nat} {v:Value} {l:List Nat} (h:xIj w base v l) {p:Addr} (u:Value) (hne:v.ownBlock≠some p.block):xIj (w.setCell p u) base v l:=by
 refine⟨h.1,?_⟩;rcases h.2 with hn|⟨g,cap,cur,h1,h2,h3,h4⟩
 ·exact .inl hn
 ·exact .inr ⟨g,cap,cur,h1,h2,yA h3 (λe=>hne (by rw[h1,<-e];rfl)) u,h4⟩
theorem yEn:(Tryz.prog.info? 3).map (λi=>(i.zero,i.size,i.bytes))=some (some (.int .i64 0),1,8):=by kernel_rfl
theorem yDu (z:Int):∀v∈[Value.int .i64 z],v.oneCell'=true:=by simp[Value.oneCell']
abbrev polO (tv fv:Value):Obj:=.cells #[tv,fv] 411
def FreeM (W:World) (lo hi:Nat) (fv:Value) (h:List Nat) (gp gt:Nat):Prop:=
 (h=[]/\∃A c,fv=.slice A 0 c)∨∃g c rest,fv=.slice (some ⟨g,0,none⟩) h.length c/\h.length<=c/\vI W g h rest/\lo<=g/\g<hi/\g≠gp/\g≠gt
def pU (W:World) (lo hi gp n:Nat) (h:List Nat):Prop:=
 ∃gt fv bs,lo<=gp/\gp<hi/\lo<=gt/\gt<hi/\gp≠gt/\W.heap[gp]?=some (polO (.slice (some ⟨gt,0,none⟩) n n) fv)/\W.heap[gt]?=some (.cells ((bs:List Bool).map Value.bool).toArray 4 (0,0))/\bs.length=n/\FreeM W lo hi fv h gp gt/\(∀x∈h,x<n)/\h.length<=n/\n<=256
theorem pU.kept {W W':World} {lo hi gp n:Nat} {h:List Nat} (hp:pU W lo hi gp n h) (hk:∀(k:Nat) o,W.heap[k]?=some o->lo<=k->k<hi->W'.heap[k]?=some o):pU W' lo hi gp n h:=by
 obtain⟨gt,fv,bs,h1,h1',h2,h2',h3,h4,h5,h6,h7,h8⟩:=hp;refine⟨gt,fv,bs,h1,h1',h2,h2',h3,hk _ _ h4 h1 h1',hk _ _ h5 h2 h2',h6,?_,h8⟩;rcases h7 with h7|⟨g,c,rest,k1,k2,k3,k4,k4',k5⟩
 ·exact .inl h7
 ·exact .inr ⟨g,c,rest,k1,k2,hk _ _ k3 k4 k4',k4,k4',k5⟩
theorem pU.below {W W':World} {lo hi gp n:Nat} {h:List Nat} (hp:pU W lo hi gp n h) (hb:Below W.heap.size W W'):pU W' lo hi gp n h:=hp.kept λ_ _ hk _ _=>xB hk hb (xG hk)
theorem pU.tn {P:Nat->Prop} {W W':World} {lo hi gp n:Nat} {h:List Nat} (hp:pU W lo hi gp n h) (ht:Tn P W W') (hP:∀k,lo<=k->k<hi->¬P k):pU W' lo hi gp n h:=hp.kept λk _ hk h1 h2=>ht.blk hk (hP k h1 h2)
structure NwM (w:World) (n:Nat) (tk:List Bool) (fv:Value) (fl:List Nat) (W:World):Prop where
 tb:W.heap[w.heap.size]?=some (.cells (tk.map Value.bool).toArray 4 (0,0))
 pl:W.heap[w.heap.size+1]?=some (polO (.slice (some ⟨w.heap.size,0,none⟩) n n) fv)
 own:xIj W w.heap.size fv fl
 ne0:fv.ownBlock≠some w.heap.size
 ne1:fv.ownBlock≠some (w.heap.size+1)
 bel:Below w.heap.size w W
theorem NwM.put {w:World} {n:Nat} {tk:List Bool} {fv:Value} {fl:List Nat} {W:World} (h:NwM w n tk fv fl W) (i:Nat):NwM w n (tk.set i true) fv fl (W.setCell ⟨w.heap.size,i,none⟩ (.bool true)):=
 ⟨by have:=xY h.tb i (.bool true);rw[this];simp[List.map_set],yA h.pl (p:=⟨w.heap.size,i,none⟩) σ _,h.own.xAm (p:=⟨w.heap.size,i,none⟩) _ h.ne0,h.ne0,h.ne1,h.bel.setCell (p:=⟨w.heap.size,i,none⟩) ν _⟩
theorem NwM.push {w:World} {n:Nat} {tk:List Bool} {fv fv':Value} {fl:List Nat} {W W':World} {o:Obj} {x:Nat} (h:NwM w n tk fv fl W) (hown:W'.ownsRow w.heap.size 3 1 fv' (fl.length+1) (xMv fl++[.int .i64 (x:Int)])) (hg:(W.alloc o).grownBy W' fv.ownBlock) (hloc:fv'.ownBlock=fv.ownBlock∨fv'.ownBlock=some (W.heap.size+1)):
  NwM w n tk fv' (fl++[x]) (W'.setCell ⟨w.heap.size+1,1,none⟩ fv'):=by
 have hw:=xG h.pl;have t1:=wG (xK h.tb o) hg (Ne.symm h.ne0);have t2:=wG (xK h.pl o) hg (Ne.symm h.ne1);have n0:fv'.ownBlock≠some w.heap.size:=by rcases hloc with e|e<;>rw[e];exact h.ne0;simp;omega
 have n1:fv'.ownBlock≠some (w.heap.size+1):=by rcases hloc with e|e<;>rw[e];exact h.ne1;simp;omega
 have b1:Below w.heap.size w W':=(h.bel.alloc h.bel.size o).grown hg (by simp;omega) (λk hk=>(World.ownsRow.lt h.own.row k hk).1);refine⟨yA t1 (p:=⟨w.heap.size+1,1,none⟩) σ _,?_,(xIj.of hown).xAm (p:=⟨w.heap.size+1,1,none⟩) _ n1,n0,n1,b1.setCell (p:=⟨w.heap.size+1,1,none⟩) σ _⟩
 have:=xY t2 1 fv';simpa using this
theorem NwM.pool {w:World} {n:Nat} {tk:List Bool} {fv:Value} {fl:List Nat} {W:World} (h:NwM w n tk fv fl W) (hl:tk.length=n) (hx:∀x∈fl,x<n) (hf:fl.length<=n) (hn:n<=256) (hne:fl=[]):pU W w.heap.size W.heap.size (w.heap.size+1) n []:=by
 subst hne;refine⟨w.heap.size,fv,tk,ω,xG h.pl,Nat.le_refl _,xG h.tb,ω,h.pl,h.tb,hl,.inl ⟨rfl,?_⟩,σ,σ,hn⟩;obtain⟨A,c,e,_⟩:=h.own.form;exact⟨A,c,e⟩
theorem xQv (n:Nat) (tk:List Nat) (tv:Value) (w:World) (hn:n<=256) (ht:RdN w w.heap.size tv tk) (hlt:∀x∈tk,x<n) (htl:tk.length<=1000000):
  Calls Tryz.prog 270 #[.int .i64 n,tv] w λe w'=>∃gp,e=.returned (.pointer (some ⟨gp,0,none⟩))/\pU w' w.heap.size w'.heap.size gp n (xDv n tk)/\Below w.heap.size w w':=by
 obtain⟨A,c,rfl,hc,hr⟩:=ht;have h0:¬((n:Int)<0):=by omega
 have h1:¬(256<(n:Int)):=by omega
 have hmk:=madeB w n ω
 have HI0:Hid (NwM w n (tkB n []) (.slice none 0 0) [] ((w.alloc (.cells (noB n) 4)).alloc (polO (.slice (some ⟨w.heap.size,0,none⟩) n n) (.slice none 0 0)))):=ι (by
  refine⟨?_,yX _ _ _,xIj.nil _ _,by simp[Value.ownBlock],by simp[Value.ownBlock],((Below.refl w.heap.size w).alloc ν _).alloc σ _⟩;have:=zG w (.cells (noB n) 4) (polO (.slice (some ⟨w.heap.size,0,none⟩) n n) (.slice none 0 0));rw[this,yD6];simp[noB])
 have HR:=ι hr;have HL:=ι hlt;have HN:=ι hn;clear hr hlt;go_enter Tryz.func270,Tryz.ntmps270;go_wp2_with fail
 clear hmk;generalize (w.alloc (.cells (noB n) 4)).alloc (polO (.slice (some ⟨w.heap.size,0,none⟩) n n) (.slice none 0 0))=w1 at HI0
 go_loopw [22] (λiv wr=>∃k:Nat,k<=tk.length/\iv=.int .i64 k/\Hid (NwM w n (tkB n (tk.take k)) (.slice none 0 0) [] wr)) (λiv _=>tk.length- (intOf iv).toNat)
 case atStart=>exact⟨0,Nat.zero_le _,rfl,HI0⟩
 case round=>
  obtain⟨k,hk,rfl,HI⟩:=hrel;clear HI0
  by_cases hlt:k<tk.length
  ·obtain⟨x,hx⟩:∃x,tk[k]?=some x:=⟨_,List.getElem?_eq_getElem hlt⟩;obtain⟨b,off,rfl,hb,hcell⟩:=HR.o ω;have q:=(HI.o.bel.cell (p:=⟨b,off+k,none⟩) hb).trans (hcell k x hx);have hxn:=HL.o x (List.mem_of_getElem? hx);have hx0:¬((x:Int)<0):=by omega
   have hx1:(x:Int)<(n:Int):=by omega
   have hs:=xZi (n:=n) hx;have HI2:=ι (HI.o.put x);rw[<-hs] at HI2;have c0:=xA HI.o.pl 0
   have c1:wr.cell? ⟨w.heap.size,x,none⟩=some (.bool ((tk.take k).contains x)):=by
    rw[xA HI.o.tb,List.getElem?_toArray,List.getElem?_map,xIr hxn];rfl
   have f1:=xC HI.o.tb x;generalize (tk.take k).contains x=bx at c1;simp only[gA,gC] at c0;clear hcell hx hs HI hxn;go_wp2;exact⟨⟨k+1,ω,by go_num,HI2⟩,by simp[intOf];omega⟩
  ·obtain rfl:k=tk.length:=by omega
   rw[List.take_length] at HI;have c0:=xQn HI.o.pl;clear HR hlt;go_wp2_with fail
   clear c0;obtain⟨i0,hi,hz0,hz1,hz2⟩:=vM yEn
   go_loopw [45] (λiv wx=>∃(k:Nat) (fv:Value),k<=n/\iv=.int .i64 k/\Hid (NwM w n (tkB n tk) fv (frL tk k) wx)) (λiv _=>n- (intOf iv).toNat)
   case atStart=>exact⟨0,_,Nat.zero_le _,rfl,HI⟩
   case round=>
    obtain⟨k,fv,hk,rfl,HJ⟩:=hrel;clear HI
    by_cases hlt:k<n
    ·have c1:wr.cell? ⟨w.heap.size,k,none⟩=some (.bool (tk.contains k)):=by
      rw[xA HJ.o.tb,List.getElem?_toArray,List.getElem?_map,xIr hlt];rfl
     have HS:=ι (yBa tk k);cases hb:tk.contains k with
     |true=>
      rw[hb] at c1 HS;rw[if_pos rfl] at HS;clear hb;go_wp2;exact⟨⟨k+1,fv,ω,by go_num,by rw[HS.o];exact HJ⟩,by simp[intOf];omega⟩
     |false=>
      rw[hb] at c1 HS;rw[if_neg σ] at HS;have hfl:=xXf tk k;have c0:=xA HJ.o.pl 1;have f0:=xC (xK HJ.o.pl (.cells #[.int .i64 (k:Int)] 3)) 1;simp only[gA,gB,gC] at c0;clear hb;generalize frL tk k=fl at HJ HS hfl
      go_wp2_with (at_builtin;refine wpList_append_lies _ rfl _ _ 409 rfl w.heap.size 3 i0 (.int .i64 0) 1 8 Tryz.underlying409 hi hz0 hz1 hz2 rfl δ _ _ _ rfl (HJ.o.own.alloc _) ⟨wr.heap.size,0,none⟩ 1 1 [.int .i64 (k:Int)] rfl rfl (cell_one_new _ _ _) (yDu _) δ (by unfold maxLen;omega) ω (by have:=HJ.o.bel.size;simp;omega) (wr.heap.size+1) σ ?_;intro g cap w5 hown hgrow hat hlt5;have HK:=ι (HJ.o.push hown hgrow (loc_of hat));have hb5:=wG (xK HJ.o.pl (.cells #[.int .i64 (k:Int)] 3)) hgrow (Ne.symm HJ.o.ne1);have y1:=xC hb5 1;have y2:=xA hb5 1;simp only[gA,gB,gC] at y2;clear hown hgrow hat hb5)
      exact⟨⟨k+1,_,ω,by go_num,by rw[HS.o];exact HK⟩,by simp[intOf];omega⟩
    ·obtain rfl:k=n:=by omega
     have HLN:Hid (∀x∈frL tk k,x<k):=ι (λx hx=>frL_lt hx);have hfl:=xXf tk k;have HFE:=ι (yB9 k tk);generalize frL tk k=fl at HJ HLN hfl HFE;have c0:=xA HJ.o.pl 1;simp only[gA,gB,gC] at c0;clear hlt;rcases HJ.o.own.row_of with ⟨rfl,rfl⟩|⟨g,cc,rest,rfl,hcc,hrow,hbg⟩
     ·have HP:=ι (HJ.o.pool (xDm _ _) σ σ HN.o rfl);go_wp2_with fail
      refine(yB0 _ _ _ wr c0).mono ?_;rintro e w6 ⟨rfl,rfl⟩;go_wp2;go_ret;refine⟨_,rfl,?_,HJ.o.bel⟩;rw[HFE.o];exact HP.o
     ·have hdw:DwI wr (w.heap.size+1) g fl.length cc fl rest wr:=⟨hrow,c0,rfl,Tn.refl _ _,xG HJ.o.pl,λe=>HJ.o.ne1 (by rw[e];rfl)⟩;have HD:=ι (yB1 (w.heap.size+1) g fl.length cc fl rest wr hdw ω)
      have HF:Hid (g≠w.heap.size/\g≠w.heap.size+1/\w.heap.size<=g/\fl.length<=cc):=ι ⟨λe=>HJ.o.ne0 (by rw[e];rfl),λe=>HJ.o.ne1 (by rw[e];rfl),hbg,hcc⟩;clear hdw hrow hbg hcc;go_wp2_with fail
      refine HD.o.mono ?_;rintro e w6 ⟨rfl,hd⟩;have H6:=ι hd;clear hd HD;go_wp2;go_ret;obtain⟨f1,f2,f3,f4⟩:=HF.o;have hd:=H6.o;have hpm:=xSv fl;have hs6:=hd.tn.size;have hs7:=xG HJ.o.pl
      refine⟨_,rfl,⟨w.heap.size,_,tkB k tk,ω,ω,Nat.le_refl _,ω,ω,?_,?_,xDm _ _,.inr ⟨g,cc,rest,rfl,?_,?_,f3,xG hd.row.blk,f2,f1⟩,?_,?_,HN.o⟩,?_⟩
      ·exact(hd.tn.block _ (xG HJ.o.pl) (Ne.symm f2)).trans (by have:=HJ.o.pl;rw[this,HFE.o,hpm.length_eq])
      ·exact(hd.tn.block _ (xG HJ.o.tb) (Ne.symm f1)).trans HJ.o.tb
      ·rw[HFE.o,hpm.length_eq];exact f4
      ·rw[HFE.o];exact hd.row
      ·rw[HFE.o];exact λx hx=>HLN.o x (hpm.mem_iff.1 hx)
      ·rw[HFE.o,hpm.length_eq];exact hfl
      ·exact HJ.o.bel.trans (hd.tn.below (λq hq=>by rw[hq];exact f3) HJ.o.bel.size)
theorem xCj (lo hi gp n:Nat) (w:World) (hp:pU w lo hi gp n []):
  Calls Tryz.prog 348 #[.pointer (some ⟨gp,0,none⟩)] w λe w'=>e=.returned (.tuple #[.int .i64 0,.bool false])/\w'=w:=by
 obtain⟨gt,fv,bs,h1,h1',h2,h2',h3,h4,h5,h6,h7,h8,h9,h10⟩:=hp
 have hf:∃A c,fv=.slice A 0 c:=by
  rcases h7 with ⟨_,h⟩|⟨g,c,rest,h,_⟩
  ·exact h
  ·exact⟨_,_,h⟩
 obtain⟨A,c,rfl⟩:=hf;have c1:=xA h4 1;simp only[gA,gB,gC] at c1;clear h1 h2 h3 h4 h5 h6 h7 h8 h9 h10 h1' h2';go_enter Tryz.func348,Tryz.ntmps348;go_wp2;go_ret2;exact⟨rfl,rfl⟩
theorem xF5 (lo hi gp n x:Nat) (h:List Nat) (w:World) (hp:pU w lo hi gp n (x::h)):
  Calls Tryz.prog 348 #[.pointer (some ⟨gp,0,none⟩)] w λe w'=>e=.returned (.tuple #[.int .i64 x,.bool true])/\pU w' lo hi gp n (xH0 (x::h))/\Tn (λk=>lo<=k/\k<hi) w w':=by
 obtain⟨gt,fv,bs,h1,h1',h2,h2',h3,h4,h5,h6,h7,h8,h9,h10⟩:=hp;rcases h7 with ⟨h7,_⟩|⟨g,c,rest,rfl,k2,k3,k4,k4',k5,k6⟩
 ·cases h7
 have c1:=xA h4 1;simp only[gA,gB,gC] at c1;have hx:=h8 x (List.mem_cons_self ..);have hp0:=ι (yB4 gp g h.length c (x::h) rest w ⟨k3,c1,rfl,Tn.refl _ _,xG h4,λe=>k5 e.symm⟩ (xC h4 1) k2 (by simp at h9;omega));have hpl:=yDp (h:=x::h) σ;have hpp:=xPm (h:=x::h) σ
 have H:=ι (And.intro h4 h5);have HM:Hid ((xH0 (x::h)).length=h.length/\(∀y∈xH0 (x::h),y<n)):=ι ⟨by simpa using hpl,λy hy=>h8 y (hpp.mem_iff.1 (List.mem_cons_of_mem _ hy))⟩
 have HX:Hid (lo<=gp/\gp<hi/\lo<=gt/\gt<hi/\gp≠gt/\bs.length=n/\lo<=g/\g<hi/\g≠gp/\g≠gt/\h.length<=c/\h.length<=n/\n<=256):=ι ⟨h1,h1',h2,h2',h3,h6,k4,k4',k5,k6,by simp at k2;omega,by simp at h9;omega,h10⟩;have hnz:¬((h.length:Int)+1=0):=by omega
 have hnz2:((h.length:Int)+1==0)=false:=by simpa using hnz
 have hxn:(x:Int)<(n:Int):=by omega
 clear h1 h2 h3 h4 h5 h6 h8 h9 h10 h1' h2' k2 k3 k4 k4' k5 k6 hpl hpp hx;go_enter Tryz.func348,Tryz.ntmps348;go_wp2_with fail
 refine hp0.o.mono ?_;rintro e w1 ⟨rfl,W,rest',rfl,ht,hrow⟩;obtain⟨x1,x2,x3,x4,x5,x6,x7,x8,x9,x10,x11,x12,x13⟩:=HX.o;have q1:=ht.blk H.o.1 (λe=>x9 e.symm);have q2:=ht.blk H.o.2 (λe=>x10 e.symm);have q3:=xY q1 1 (.slice (some ⟨g,0,none⟩) h.length c)
 simp only[List.setIfInBounds_toArray,List.set_cons_zero,List.set_cons_succ] at q3;have q4:=yA q2 (p:=⟨gp,1,none⟩) (λe=>x5 e.symm) (.slice (some ⟨g,0,none⟩) h.length c);have q5:=vI.far hrow (p:=⟨gp,1,none⟩) x9 (.slice (some ⟨g,0,none⟩) h.length c)
 have t1:Tn (λk=>lo<=k/\k<hi) w (W.setCell ⟨gp,1,none⟩ (.slice (some ⟨g,0,none⟩) h.length c)):=(ht.more (λk hk=>by subst hk;exact⟨x7,x8⟩)).set (p:=⟨gp,1,none⟩) (.inl ⟨x1,x2⟩) _;have HK:=ι (And.intro q3 (And.intro q4 (And.intro q5 t1)))
 clear q1 q2 q3 q4 q5 t1 ht hrow H hp0 c1 x1 x2 x3 x4 x5 x7 x8 x9 x10 x11 x12 x13;generalize W.setCell ⟨gp,1,none⟩ (.slice (some ⟨g,0,none⟩) h.length c)=w2 at HK⊢;have c0:=xA HK.o.1 0
 have c2:∃b,w2.cell? ⟨gt,x,none⟩=some (.bool b):=by
  rw[xA HK.o.2.1,List.getElem?_toArray,List.getElem?_map,List.getElem?_eq_getElem ω];exact⟨_,rfl⟩
 obtain⟨b,c2⟩:=c2;have f2:=xC HK.o.2.1 x;simp only[gA,gC] at c0;clear x6;have hta:∀w,(Instr.typeAssert (.iface 3 (.int .i64 (x:Int))) 20 3 true).run Tryz.prog w=.ok (.tuple #[.int .i64 (x:Int),.bool true]) w:=λ_=>by kernel_rfl
 go_wp2;go_ret2;obtain⟨x1,x2,x3,x4,x5,x6,x7,x8,x9,x10,x11,x12,x13⟩:=HX.o
 refine⟨rfl,⟨gt,_,bs.set x true,x1,x2,x3,x4,x5,yA HK.o.1 (p:=⟨gt,x,none⟩) x5 _,?_,by simpa using x6,.inr ⟨g,c,rest',by rw[HM.o.1],by rw[HM.o.1];exact x11,vI.far HK.o.2.2.1 (p:=⟨gt,x,none⟩) x10 _,x7,x8,x9,x10⟩,HM.o.2,by rw[HM.o.1];exact x12,x13⟩,HK.o.2.2.2.set (p:=⟨gt,x,none⟩) (.inl ⟨x3,x4⟩) _⟩
 have:=xY HK.o.2.1 x (.bool true);rw[this];simp[List.map_set]
end Go.Proofs.AL