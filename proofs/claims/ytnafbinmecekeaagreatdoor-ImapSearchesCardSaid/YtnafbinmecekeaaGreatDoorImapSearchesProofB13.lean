/- Contracts of functions. Conditions: as stated. -/
import Derived.Test.YtnafbinmecekeaaGreatDoorImapSearchesProofB12
open Go.Proofs.Tryz
set_option maxHeartbeats 8000000
set_option maxRecDepth 100000
namespace Go.Proofs.PT
open Go.RowKit Mailsack MM
theorem size_mk (l:Bs):(⟨l.toArray⟩:ByteArray).size=l.length:=rfl
theorem xF5 {l sep a b:Bs} {c:Bool} (h:Lib.cut l sep=(a,b,c)):a.length<=l.length:=by
 unfold Lib.cut at h;split at h
 ·injection h with h1 _;rw[<-h1,List.length_take];omega
 ·injection h with h1 _;rw[<-h1];exact Nat.le_refl _
theorem xOi {l sep a b:Bs} {c:Bool} (h:Lib.cut l sep=(a,b,c)):b.length<=l.length:=by
 unfold Lib.cut at h;split at h
 ·injection h with _ h1;injection h1 with h1 _;rw[<-h1,List.length_drop];omega
 ·injection h with _ h1;injection h1 with h1 _;rw[<-h1];simp
def xFi (w:World) (base:Nat) (v:Value) (F:List (Bs×Bs)):Prop:=w.ownsRow base 367 2 v F.length (F.flatMap λp=>[xK p.1,xK p.2])
theorem xFi.nil (w:World) (base:Nat):xFi w base (.slice none 0 0) []:=World.ownsRow_nil w base _ _
theorem xFi.of {w:World} {base:Nat} {v:Value} {F:List (Bs×Bs)} {a b:Bs} (h:w.ownsRow base 367 2 v (F.length+1) (F.flatMap (λp=>[xK p.1,xK p.2])++[xK a,xK b])):xFi w base v (F++[(a,b)]):=by
 unfold xFi;rw[List.length_append,List.flatMap_append];exact h
theorem xFi.below {w w':World} {base:Nat} {v:Value} {F:List (Bs×Bs)} (h:xFi w base v F) (hb:ψ w w'):xFi w' base v F:=
 World.ownsRow.kept h (vL hb none) (by cases v.ownBlock<;>simp)
theorem xFi.less {w:World} {base base':Nat} {v:Value} {F:List (Bs×Bs)} (h:xFi w base v F) (hb:base'<=base):xFi w base' v F:=by
 refine⟨h.1,?_⟩;rcases h.2 with hn|⟨g,cap,cur,h1,h2,h3⟩
 ·exact .inl hn
 ·exact .inr ⟨g,cap,cur,h1,ω,h3⟩
theorem xFi.form {w:World} {base:Nat} {v:Value} {F:List (Bs×Bs)} (h:xFi w base v F):∃A c,v=.slice A F.length c/\F.length<=c:=by
 rcases h.2 with ⟨h1,h2⟩|⟨g,cap,cur,h1,_,_,h2,_⟩
 ·exact⟨none,0,by rw[h1,h2],ω⟩
 ·exact⟨_,_,h1,h2⟩
theorem yAy (w:World) (x:Bs):xVy (w.alloc (.cells #[xK x] 9)) w.heap.size (.slice (some ⟨w.heap.size,0,none⟩) 1 1) [x]:=
 ⟨rfl,.inr ⟨w.heap.size,1,#[xK x],rfl,Nat.le_refl _,xI _ _,Nat.le_refl _,δ,rfl,rfl⟩⟩
def vT:ByteArray:=⟨#[13,10]⟩
def jN (l:Bs):List Bs:=Lib.split l [13,10]
theorem xA6 (s:ByteArray):(jN s.data.toList).length=Lib.countB s vT+1:=by
 have:=Lib.splitB_all vT δ 0 _ s rfl;rw[<-this,<-List.length_map (f:=λb:ByteArray=>b.data.toList),Lib.splitB_data]
 rfl
theorem xB1 (s:ByteArray):∀x∈jN s.data.toList,x.length<=s.size:=λx hx=>by
 have:=xEd _ _ x hx;rw[yA] at this;exact this
theorem xMt (s:ByteArray):((Lib.splitB vT 0 (Lib.countB s vT) s).map Value.string)=(jN s.data.toList).map xK:=by
 have h:jN s.data.toList=(Lib.splitB vT 0 (Lib.countB s vT) s).map (λb=>b.data.toList):=by rw[Lib.splitB_data];rfl
 rw[h,List.map_map];exact List.map_congr_left λb _=>by cases b;rfl
theorem xSw (s:ByteArray) (w:World):RdS (w.alloc (.cells ((Lib.splitB vT 0 (Lib.countB s vT) s).map Value.string).toArray 9)) (w.heap.size+1)
  (.slice (some ⟨w.heap.size,0,none⟩) (Lib.countB s vT+1) (Lib.countB s vT+1)) (jN s.data.toList):=by
 have hl:=xA6 s;refine⟨some ⟨w.heap.size,0,none⟩,_,by rw[hl],ω,λ_=>⟨w.heap.size,0,rfl,Nat.lt_succ_self _,λj x hj=>?_⟩⟩;rw[Nat.zero_add,xA (xI w _),xMt];simp[hj]
structure FI (all:List Bs) (av:Value) (w w1:World) (i:Nat) (fv:Value) (F:List (Bs×Bs)) (wr:World):Prop where
 own:xFi wr w1.heap.size fv F
 rd:RdS wr w1.heap.size av all
 bel:ψ w1 wr
 num:F++zI (all.drop i)=zI all
 len:F.length<=i
structure PI (all:List Bs) (wq:World) (v:Bs) (i0 i:Nat) (pv:Value) (P:List Bs) (wr:World):Prop where
 own:xVy wr wq.heap.size pv P
 bel:ψ wq wr
 num:P++(all.drop i).takeWhile yL=v::(all.drop i0).takeWhile yL
 rest:(all.drop i).dropWhile yL=(all.drop i0).dropWhile yL
 len:P.length+i0=i+1
 each:∀x∈P,x.length<=1000000
 ge:i0<=i
theorem xVy.yAq {w:World} {base:Nat} {v:Value} {P:List Bs} (h:xVy w base v P) (h0:0<P.length):∃g cap,v=.slice (some ⟨g,0,none⟩) P.length cap/\P.length<=cap/\g<w.heap.size/\∀j x,P[j]?=some x->w.cell? ⟨g,j,none⟩=some (xK x):=by
 rcases h.2 with ⟨_,h2⟩|⟨g,cap,cur,h1,_,hg,h2,_⟩
 ·omega
 ·refine⟨g,cap,h1,h2,xJ hg,λj x hx=>?_⟩;have:=World.ownsRow.cells h (g:=g) (by rw[h1];rfl) j (xK x) (by simp[hx]);have hadd:(⟨g,0,none⟩:Addr).add j=⟨g,j,none⟩:=by unfold Addr.add;split<;>simp_all
  rw[hadd] at this;exact this
theorem xNy (P:List Bs) (g cap:Nat) (w:World) (hc:∀j x,P[j]?=some x->w.cell? ⟨g,j,none⟩=some (xK x)) (hg:g<w.heap.size) (hcap:P.length<=cap) (hl:P.length<=1000002) (he:∀x∈P,x.length<=1000000):
  Calls prog 77 #[.slice (some ⟨g,0,none⟩) P.length cap,.string ⟨#[]⟩] w λe w'=>e=.returned (xK (Lib.join P []))/\ψ w w':=by
 have hmap:(P.map (λy=>(⟨y.toArray⟩:ByteArray))).map (·.data.toList)=P:=by rw[List.map_map];exact List.map_id _
 have hJ:=Tryz.strings_Join g 0 cap (P.map (λy=>(⟨y.toArray⟩:ByteArray))) ⟨#[]⟩ w (λj x hx=>by
   rw[List.getElem?_map] at hx;cases hy:P[j]? with
   |none=>rw[hy] at hx;cases hx
   |some y=>
    rw[hy] at hx;simp only[Option.map_some,Option.some.injEq] at hx;rw[Nat.zero_add,hc j y hy,<-hx]) hg (by rw[List.length_map];omega) (by rw[List.length_map];exact hcap)
  (by
   rw[hmap];show(Lib.join P []).length<=_;rw[xC4];have:=kR 1000000 P he;have h2:P.length*1000000<=1000002*1000000:=Nat.mul_le_mul_right _ hl;omega)
 rw[List.length_map,hmap] at hJ;exact hJ
theorem xJ0 (a b:Bs):∀u∈[xK a,xK b],u.oneCell'=true:=by
 intro u hu;rcases List.mem_cons.1 hu with h|h
 ·rw[h];rfl
 ·rw[List.mem_singleton.1 h];rfl
theorem xFi.alloc {w:World} {base:Nat} {v:Value} {F:List (Bs×Bs)} (h:xFi w base v F) (o:Obj):(w.alloc o).ownsRow base 367 2 v F.length (F.flatMap λp=>[xK p.1,xK p.2]):=World.ownsRow.alloc h o
theorem infoF:(prog.info? 367).map (λi=>(i.zero,i.size,i.bytes))=some (some (.agg #[.string ⟨#[]⟩,.string ⟨#[]⟩]),2,32):=κ
theorem xQf (s:ByteArray) (m:Int) (w:World) (hs:s.size<=1000000) (hm:w.cell? ⟨2,0,none⟩=some (.int .i64 m)):
  Calls prog 317 #[.string s] w λe w'=>∃v,e=.returned v/\xFi w' w.heap.size v (zI (jN s.data.toList))/\ψ w w':=by
 obtain⟨j0,hj,hjz0,hjz1,hjz2⟩:=info_parts yBj;obtain⟨i0,hi,hz0,hz1,hz2⟩:=info_parts infoF;have hw0:2<w.heap.size:=World.block_lt_of_cell? w _ hm;have Hm:=ι hm;clear hm;have hN:Lib.countB s vT<=s.size:=Lib.countB_le vT δ _ s ν;have hall:=xA6 s;have yCn:=ι (xB1 s)
 have hR1:=ι (xSw s w);generalize jN s.data.toList=all at hall yCn hR1⊢;go_enter func317,ntmps317;go_wp2_with fail
 refine(Tryz.strings_Split s vT m _ ω Hm.o δ).mono ?_;have hB1:=φ w (.cells ((Lib.splitB vT 0 (Lib.countB s vT) s).map Value.string).toArray 9);have hZ1:=uQ w (.cells ((Lib.splitB vT 0 (Lib.countB s vT) s).map Value.string).toArray 9);rw[<-hZ1] at hR1
 generalize w.alloc (.cells ((Lib.splitB vT 0 (Lib.countB s vT) s).map Value.string).toArray 9)=w1 at hB1 hR1 hZ1⊢;rw[<-hall] at hR1⊢;generalize Lib.countB s vT=cnt at hall hN;rintro e w' ⟨rfl,hw⟩;subst hw;have hlen:all.length<=1000001:=ω;have HB1:=ι hB1
 have hZ:w.heap.size<w'.heap.size:=ω;clear hall hB1 hN hZ1;go_wp2_with fail
 go_loopw [3,5] (λfv iv wr=>∃(i:Nat) (F:List (Bs×Bs)),i<=all.length/\iv=.int .i64 i/\Hid (FI all (.slice (some ⟨w.heap.size,0,none⟩) all.length all.length) w w' i fv F wr)) (λ_ iv _=>all.length- (intOf iv).toNat)
 case atStart=>exact⟨0,[],Nat.zero_le _,rfl,ι ⟨xFi.nil _ _,hR1.o,Below.refl _ _,σ,Nat.le_refl _⟩⟩
 case round=>
  obtain⟨i,F,hil,rfl,hr⟩:=hrel;have hFl:=hr.o.len
  by_cases hlt:i<all.length
  ·obtain⟨x,hx⟩:∃x,all[i]?=some x:=⟨_,List.getElem?_eq_getElem hlt⟩;have hxl:=yCn.o x (List.mem_of_getElem? hx)
   have hdr:all.drop i=x::all.drop (i+1):=by
    rw[List.drop_eq_getElem_cons hlt];congr 1;exact(List.getElem?_eq_some_iff.1 hx).2
   have q0:wr.cell? ⟨w.heap.size,i,none⟩=some (xK x):=by
    obtain⟨A0,c0,e0,_,h0⟩:=hr.o.rd;injection e0 with e0 _ e0';subst e0;obtain⟨b,off,e1,_,h1⟩:=h0 ω;injection e1 with e1;injection e1 with e1 e2;subst e1 e2;have:=h1 i x hx
    rwa [Nat.zero_add] at this
   have hmx:=ι (((HB1.o.trans (hr.o.bel.mono HB1.o.size)).cell hw0).trans Hm.o);have Hd:=ι hdr;clear hx hdr;rcases hcut:Lib.cut x [58] with ⟨nm,vl,hc⟩;have hnl:nm.length<=1000000:=Nat.le_trans (by have:=xF5 hcut;exact this) ω
   have hvl:vl.length<=1000000:=Nat.le_trans (by have:=xOi hcut;exact this) ω;have xMy:=ι (show Lib.cut (⟨x.toArray⟩:ByteArray).data.toList (⟨#[58]⟩:ByteArray).data.toList=(nm,vl,hc) from hcut);clear hcut;go_wp2_with fail
   refine(Tryz.strings_Cut ⟨x.toArray⟩ ⟨#[58]⟩ m _ (by rw[size_mk];omega) hmx.o).mono ?_;rw[xMy.o];rintro e w2 ⟨rfl,n2,hw2⟩
   have hr2:Hid (FI all (.slice (some ⟨w.heap.size,0,none⟩) all.length all.length) w w' i u3 F w2):=ι (by subst hw2;exact⟨hr.o.own,hr.o.rd,below_drewN hr.o.bel _,hr.o.num,hr.o.len⟩);have q1:∀j,w2.cell? ⟨w.heap.size,j,none⟩=wr.cell? ⟨w.heap.size,j,none⟩:=λj=>by subst hw2;rfl
   have Q1:=ι q1;clear hw2 q0 q1 hr hmx;cases hc
   ·have hn:Hid (FI all (.slice (some ⟨w.heap.size,0,none⟩) all.length all.length) w w' (i+1) u3 F w2):=ι ⟨hr2.o.own,hr2.o.rd,hr2.o.bel,by
     have:=hr2.o.num;rw[Hd.o,kF (.inl (by rw[show Lib.cut x [58]=(nm,vl,false) from xMy.o]))] at this;exact this,ω⟩
    go_wp2
    go_roundw
    case rel=>exact⟨i+1,F,ω,by go_num,hn⟩
    case measure=>simp[intOf];omega
   ·cases hct:yL x
    ·have Hct:=ι (show yL (⟨x.toArray⟩:ByteArray).data.toList=false from hct);clear hct;go_wp2_with fail
     refine(xDw ⟨x.toArray⟩ _).mono ?_;rw[Hct.o];rintro e w3 ⟨rfl,hw3⟩;subst hw3;go_wp2_with fail
     go_loopw [5,10] (λiv pv wx=>∃(k:Nat) (P:List Bs),k<=all.length/\iv=.int .i64 k/\Hid (PI all w2 vl (i+1) k pv P wx)) (λiv _ _=>all.length- (intOf iv).toNat)
     case atStart=>exact⟨i+1,[vl],ω,by go_num,ι ⟨yAy w2 vl,(Below.refl _ _).alloc ν _,σ,rfl,by simp;omega,λy hy=>by rw[List.mem_singleton.1 hy];exact hvl,Nat.le_refl _⟩⟩
     case round=>
      obtain⟨k,P,hkl,rfl,hp⟩:=hrel;have hPl:=hp.o.len;have hPg:=hp.o.ge;obtain⟨g,cap,e9,hcap,hgl,hcg⟩:=xVy.yAq hp.o.own ω;subst e9
      replace hcg:=ι hcg
      by_cases hk2:k<all.length
      ·obtain⟨x2,hx2⟩:∃x2,all[k]?=some x2:=⟨_,List.getElem?_eq_getElem hk2⟩;have hx2l:=yCn.o x2 (List.mem_of_getElem? hx2)
       have hdr2:all.drop k=x2::all.drop (k+1):=by
        rw[List.drop_eq_getElem_cons hk2];congr 1;exact(List.getElem?_eq_some_iff.1 hx2).2
       have q2:wr.cell? ⟨w.heap.size,k,none⟩=some (xK x2):=by
        obtain⟨A0,c0,e0,_,h0⟩:=hr2.o.rd.below hp.o.bel hr2.o.bel.size;injection e0 with e0 _ e0';subst e0;obtain⟨b,off,e1,_,h1⟩:=h0 ω;injection e1 with e1;injection e1 with e1 e2;subst e1 e2;have:=h1 k x2 hx2
        rwa [Nat.zero_add] at this
       have Hd2:=ι hdr2;clear hx2 hdr2;cases hct2:yL x2
       ·have yCp:=ι hct2;clear hct2;have htw:(all.drop k).takeWhile yL=[]:=by rw[Hd2.o,List.takeWhile_cons,yCp.o];rfl
        have hdw:(all.drop k).dropWhile yL=all.drop k:=by rw[Hd2.o,List.dropWhile_cons,yCp.o];rfl
        have hP:P=vl::(all.drop (i+1)).takeWhile yL:=by have:=hp.o.num;rwa [htw,List.append_nil] at this
        have yBp:Hid ((F++[(nm,Lib.trimS (Lib.join P []) [32,9])])++zI (all.drop k)=zI all):=ι (by
         have h1:=hr2.o.num;rw[Hd.o,kE (by rw[show Lib.cut x [58]=(nm,vl,true) from xMy.o]) Hct.o] at h1;rw[show Lib.cut x [58]=(nm,vl,true) from xMy.o] at h1;simp only at h1;rw[<-hP,<-hp.o.rest,hdw] at h1;rw[List.append_assoc];exact h1)
        have hjl:(Lib.join P []).length<=1000002000000:=by
         rw[xC4];have:=kR 1000000 P hp.o.each;have h2:P.length*1000000<=1000002*1000000:=Nat.mul_le_mul_right _ ω;omega
        clear htw hdw hP;go_wp2_with fail
        refine(xDw ⟨x2.toArray⟩ _).mono ?_;rw[show yL (⟨x2.toArray⟩:ByteArray).data.toList=false from yCp.o];rintro e w3 ⟨rfl,hw3⟩;subst hw3;go_wp2_with fail
        refine(xNy P g cap _ hcg.o hgl hcap ω hp.o.each).mono ?_;rintro e w4 ⟨rfl,hb4⟩;go_wp2_with fail
        refine(xN2 ⟨(Lib.join P []).toArray⟩ _ (by rw[size_mk];omega)).mono ?_;rintro e w5 ⟨rfl,hb5⟩;have hb25:ψ w2 w5:=(hp.o.bel.trans (hb4.mono hp.o.bel.size)).trans (hb5.mono (Nat.le_trans hp.o.bel.size hb4.size));have hF5:=ι (hr2.o.own.below hb25)
        have xUc:ψ w' w5:=hr2.o.bel.trans (hb25.mono hr2.o.bel.size);have hz5:=xUc.size;clear hb4 hb5
        go_wp2_with (at_builtin;refine wpList_append_lies _ rfl _ _ 364 rfl w'.heap.size 367 i0 (.agg #[.string ⟨#[]⟩,.string ⟨#[]⟩]) 2 32 underlying364 hi hz0 hz1 hz2 rfl δ _ _ _ rfl (hF5.o.alloc _) ⟨w5.heap.size,0,none⟩ 1 1 [xK nm,xK (Lib.trimS (Lib.join P []) [32,9])] rfl rfl (World.news_of_block (heap_alloc_new _ _)) (xJ0 _ _) δ (by unfold maxLen;omega) ω (by simp;omega) (w5.heap.size+1) σ ?_;intro g2 cap2 w6 hown hgrow hat hlt1)
        have hb6:=xHu hF5.o hgrow xUc hz5;have hrd6:RdS w6 w'.heap.size (.slice (some ⟨w.heap.size,0,none⟩) all.length all.length) all:=hR1.o.below hb6 ν
        have hfin:Hid (FI all (.slice (some ⟨w.heap.size,0,none⟩) all.length all.length) w w' k (.slice (some ⟨g2,0,none⟩) (F.length+1) cap2) (F++[(nm,Lib.trimS (Lib.join P []) [32,9])]) w6):=ι ⟨xFi.of hown,hrd6,hb6,yBp.o,by rw[List.length_append];simp;omega⟩
        clear hown hgrow hb6 hrd6
        go_roundw
        case rel=>exact⟨k,_,ω,rfl,hfin⟩
        case measure=>simp[intOf];omega
       ·have yCp:=ι hct2;clear hct2;go_wp2_with fail
        refine(xDw ⟨x2.toArray⟩ _).mono ?_;rw[show yL (⟨x2.toArray⟩:ByteArray).data.toList=true from yCp.o];rintro e w3 ⟨rfl,hw3⟩;subst hw3
        go_wp2_with (at_builtin;refine wpList_append_lies _ rfl _ _ 22 rfl w2.heap.size 9 j0 (.string ⟨#[]⟩) 1 16 underlying22 hj hjz0 hjz1 hjz2 rfl δ _ _ _ rfl (hp.o.own.row.alloc _) ⟨wr.heap.size,0,none⟩ 1 1 [xK x2] rfl rfl (cell_one_new _ _ _) (xJn _) δ (by unfold maxLen;omega) ω (by have:=hp.o.bel.size;simp;omega) (wr.heap.size+1) σ ?_;intro g2 cap2 w6 hown hgrow hat hlt1)
        have hfin:Hid (PI all w2 vl (i+1) (k+1) (.slice (some ⟨g2,0,none⟩) (P.length+1) cap2) (P++[x2]) w6):=ι ⟨xVy.of hown,xHu hp.o.own hgrow hp.o.bel hp.o.bel.size,by
          have:=hp.o.num;rw[Hd2.o,List.takeWhile_cons,yCp.o] at this;rw[List.append_assoc];exact this,by
          have:=hp.o.rest;rw[Hd2.o,List.dropWhile_cons,yCp.o] at this;exact this,by rw[List.length_append];simp;omega,λy hy=>by
          rcases List.mem_append.1 hy with h|h
          ·exact hp.o.each y h
          ·rw[List.mem_singleton.1 h];omega,ω⟩
        clear hown hgrow
        go_roundw
        case rel=>exact⟨k+1,_,ω,by go_num,hfin⟩
        case measure=>simp[intOf];omega
      ·have htw:(all.drop k).takeWhile yL=[]:=by rw[List.drop_eq_nil_of_le ω];rfl
       have hdw:(all.drop k).dropWhile yL=all.drop k:=by rw[List.drop_eq_nil_of_le ω];rfl
       have hP:P=vl::(all.drop (i+1)).takeWhile yL:=by have:=hp.o.num;rwa [htw,List.append_nil] at this
       have yBp:Hid ((F++[(nm,Lib.trimS (Lib.join P []) [32,9])])++zI (all.drop k)=zI all):=ι (by
        have h1:=hr2.o.num;rw[Hd.o,kE (by rw[show Lib.cut x [58]=(nm,vl,true) from xMy.o]) Hct.o] at h1;rw[show Lib.cut x [58]=(nm,vl,true) from xMy.o] at h1;simp only at h1;rw[<-hP,<-hp.o.rest,hdw] at h1;rw[List.append_assoc];exact h1)
       have hjl:(Lib.join P []).length<=1000002000000:=by
        rw[xC4];have:=kR 1000000 P hp.o.each;have h2:P.length*1000000<=1000002*1000000:=Nat.mul_le_mul_right _ ω;omega
       clear htw hdw hP;go_wp2_with fail
       refine(xNy P g cap _ hcg.o hgl hcap ω hp.o.each).mono ?_;rintro e w4 ⟨rfl,hb4⟩;go_wp2_with fail
       refine(xN2 ⟨(Lib.join P []).toArray⟩ _ (by rw[size_mk];omega)).mono ?_;rintro e w5 ⟨rfl,hb5⟩;have hb25:ψ w2 w5:=(hp.o.bel.trans (hb4.mono hp.o.bel.size)).trans (hb5.mono (Nat.le_trans hp.o.bel.size hb4.size));have hF5:=ι (hr2.o.own.below hb25)
       have xUc:ψ w' w5:=hr2.o.bel.trans (hb25.mono hr2.o.bel.size);have hz5:=xUc.size;clear hb4 hb5
       go_wp2_with (at_builtin;refine wpList_append_lies _ rfl _ _ 364 rfl w'.heap.size 367 i0 (.agg #[.string ⟨#[]⟩,.string ⟨#[]⟩]) 2 32 underlying364 hi hz0 hz1 hz2 rfl δ _ _ _ rfl (hF5.o.alloc _) ⟨w5.heap.size,0,none⟩ 1 1 [xK nm,xK (Lib.trimS (Lib.join P []) [32,9])] rfl rfl (World.news_of_block (heap_alloc_new _ _)) (xJ0 _ _) δ (by unfold maxLen;omega) ω (by simp;omega) (w5.heap.size+1) σ ?_;intro g2 cap2 w6 hown hgrow hat hlt1)
       have hb6:=xHu hF5.o hgrow xUc hz5;have hrd6:RdS w6 w'.heap.size (.slice (some ⟨w.heap.size,0,none⟩) all.length all.length) all:=hR1.o.below hb6 ν
       have hfin:Hid (FI all (.slice (some ⟨w.heap.size,0,none⟩) all.length all.length) w w' k (.slice (some ⟨g2,0,none⟩) (F.length+1) cap2) (F++[(nm,Lib.trimS (Lib.join P []) [32,9])]) w6):=ι ⟨xFi.of hown,hrd6,hb6,yBp.o,by rw[List.length_append];simp;omega⟩
       clear hown hgrow hb6 hrd6
       go_roundw
       case rel=>exact⟨k,_,ω,rfl,hfin⟩
       case measure=>simp[intOf];omega
    ·have Hct:=ι (show yL (⟨x.toArray⟩:ByteArray).data.toList=true from hct);clear hct
     have hn:Hid (FI all (.slice (some ⟨w.heap.size,0,none⟩) all.length all.length) w w' (i+1) u3 F w2):=ι ⟨hr2.o.own,hr2.o.rd,hr2.o.bel,by
      have:=hr2.o.num;rw[Hd.o,kF (.inr Hct.o)] at this;exact this,ω⟩
     go_wp2_with fail
     refine(xDw ⟨x.toArray⟩ _).mono ?_;rw[Hct.o];rintro e w3 ⟨rfl,hw3⟩;subst hw3;go_wp2
     go_roundw
     case rel=>exact⟨i+1,F,ω,by go_num,hn⟩
     case measure=>simp[intOf];omega
  ·have hi2:i=all.length:=ω;have yBp:=hr.o.num;rw[hi2,List.drop_length,pU,List.append_nil] at yBp;have Hn:=ι yBp;obtain⟨A2,c2,e2,_⟩:=hr.o.own.form;clear yBp hi2;go_wp2;go_ret;refine⟨_,rfl,?_,HB1.o.trans (hr.o.bel.mono HB1.o.size)⟩;rw[<-Hn.o];exact hr.o.own.less ω
def RdF (w:World) (B:Nat) (v:Value) (F:List (Bs×Bs)):Prop:=
 ∃A c,v=.slice A F.length c/\F.length<=c/\(0<F.length->∃g,A=some ⟨g,0,none⟩/\g<B/\∀j p,F[j]?=some p->w.cell? ⟨g,j*2,none⟩=some (xK p.1)/\w.cell? ⟨g,j*2+1,none⟩=some (xK p.2))
theorem flat_get (F:List (Bs×Bs)):∀(j:Nat) (p:Bs×Bs),F[j]?=some p->(F.flatMap λp=>[xK p.1,xK p.2])[j*2]?=some (xK p.1)/\(F.flatMap λp=>[xK p.1,xK p.2])[j*2+1]?=some (xK p.2):=by
 induction F with
 |nil=>intro j p h;simp at h
 |cons q r ih=>
  intro j p h;rw[List.flatMap_cons];cases j with
  |zero=>
   obtain rfl:q=p:=by simpa using h
   exact⟨rfl,rfl⟩
  |succ j=>
   have:=ih j p (by simpa using h);rw[show(j+1)*2=(j*2)+2 by omega];exact this
theorem xFi.rd {w:World} {base:Nat} {v:Value} {F:List (Bs×Bs)} (h:xFi w base v F):RdF w w.heap.size v F:=by
 rcases h.2 with ⟨h1,h2⟩|⟨g,cap,cur,h1,_,hg,hnc,_⟩
 ·exact⟨none,0,by rw[h1,h2],ω,λh=>by omega⟩
 ·refine⟨_,cap,h1,hnc,λ_=>⟨g,rfl,xJ hg,λj p hp=>?_⟩⟩;have hadd:∀k,(⟨g,0,none⟩:Addr).add k=⟨g,k,none⟩:=λk=>by unfold Addr.add;split<;>simp_all
  have h3:=World.ownsRow.cells h (g:=g) (by rw[h1];rfl) (j*2) _ (flat_get F j p hp).1;have h4:=World.ownsRow.cells h (g:=g) (by rw[h1];rfl) (j*2+1) _ (flat_get F j p hp).2;rw[hadd] at h3 h4;exact⟨h3,h4⟩
theorem RdF.below {w w':World} {B:Nat} {v:Value} {F:List (Bs×Bs)} (h:RdF w B v F) (hb:Below B w w'):RdF w' B v F:=by
 obtain⟨A,c,h1,h2,h3⟩:=h;refine⟨A,c,h1,h2,λhn=>?_⟩;obtain⟨g,h4,h5,h6⟩:=h3 hn;exact⟨g,h4,h5,λj p hp=>⟨(hb.cell h5).trans (h6 j p hp).1,(hb.cell h5).trans (h6 j p hp).2⟩⟩
theorem xQh {F:List (Bs×Bs)} {nm:Bs} {p:Bs×Bs} (h:upP p.1=upP nm):jC (p::F) nm=(p.2,true):=by
 unfold jC;simp[h]
theorem xMf {F:List (Bs×Bs)} {nm:Bs} {p:Bs×Bs} (h:¬upP p.1=upP nm):jC (p::F) nm=jC F nm:=by
 unfold jC;simp[h]
theorem xK6 {l:List Bs} {M:Nat}:∀(n:Nat),l.length<=n->(∀x∈l,x.length<=M)->∀p∈zI l,p.1.length<=M:=by
 intro n
 induction n generalizing l with
 |zero=>
  intro h _ p hp;have:l=[]:=List.eq_nil_of_length_eq_zero ω;subst this;simp[pU] at hp
 |succ n ih=>
  intro h hl p hp;cases l with
  |nil=>simp[pU] at hp
  |cons f r=>
   have h':r.length<=n:=by simpa using h
   by_cases hc:(Lib.cut f [58]).2.2=false∨yL f=true
   ·rw[kF hc] at hp;exact ih h' (λx hx=>hl x (by simp[hx])) p hp
   ·have hc':(Lib.cut f [58]).2.2=true/\yL f=false:=by
     constructor
     ·cases hx:(Lib.cut f [58]).2.2 with
      |true=>rfl
      |false=>exact absurd (.inl hx) hc
     ·cases hx:yL f with
      |false=>rfl
      |true=>exact absurd (.inr hx) hc
    rw[kE hc'.1 hc'.2] at hp;rcases List.mem_cons.1 hp with hp|hp
    ·rw[hp];exact Nat.le_trans (xF5 (show Lib.cut f [58]=((Lib.cut f [58]).1,(Lib.cut f [58]).2.1,(Lib.cut f [58]).2.2) from rfl)) (hl f σ)
    ·exact ih (Nat.le_trans (vE _ _) h') (λx hx=>hl x (by simp[(List.dropWhile_sublist yL).subset hx])) p hp
theorem xUq (s nm:ByteArray) (m:Int) (w:World) (hs:s.size<=1000000) (hn:nm.size<=1000000) (hm:w.cell? ⟨2,0,none⟩=some (.int .i64 m)):
  Calls prog 232 #[.string s,.string nm] w λe w'=>e=.returned (.tuple #[xK (jC (zI (jN s.data.toList)) nm.data.toList).1,.bool (jC (zI (jN s.data.toList)) nm.data.toList).2])/\ψ w w':=by
 have hw0:2<w.heap.size:=World.block_lt_of_cell? w _ hm;have Hm:=ι hm;clear hm;have hF:=xK6 (M:=s.size) _ ν (xB1 s);have hFl:=xB6 _ (jN s.data.toList) ν;have hN:Lib.countB s vT<=s.size:=Lib.countB_le vT δ _ s ν;rw[xA6] at hFl;have HE:=ι (λw=>xQf s m w hs)
 generalize zI (jN s.data.toList)=F at hF hFl HE⊢;have HF:=ι hF;clear hF;have hFl':F.length<=1000001:=ω;clear hFl hN;go_enter func232,ntmps232;go_wp2_with fail
 refine(vV nm _ ω).mono ?_;rintro e w1 ⟨rfl,hb1⟩;go_wp2_with fail
 refine(HE.o _ ((hb1.cell hw0).trans Hm.o)).mono ?_;rintro e w2 ⟨v,rfl,ho2,hb2⟩;have hb:=hb1.trans (hb2.mono hb1.size);have hrd:=ι ho2.rd;obtain⟨A,c,e9,hc9⟩:=ho2.form;subst e9;have HB:=ι hb;clear hb1 hb2 ho2 hb HE;go_wp2_with fail
 go_loopw [14] (λiv wr=>∃j:Nat,j<=F.length/\iv=.int .i64 j/\Hid (ψ w2 wr)/\Hid (jC (F.drop j) nm.data.toList=jC F nm.data.toList)) (λiv _=>F.length- (intOf iv).toNat)
 case atStart=>exact⟨0,Nat.zero_le _,rfl,ι (Below.refl _ _),ι σ⟩
 case round=>
  obtain⟨j,hj,rfl,hbr,hf⟩:=hrel
  by_cases hlt:j<F.length
  ·obtain⟨p,hp⟩:∃p,F[j]?=some p:=⟨_,List.getElem?_eq_getElem hlt⟩;have hpl:=HF.o p (List.mem_of_getElem? hp)
   have hdr:F.drop j=p::F.drop (j+1):=by
    rw[List.drop_eq_getElem_cons hlt];congr 1;exact(List.getElem?_eq_some_iff.1 hp).2
   obtain⟨A0,c0,e0,_,h0⟩:=hrd.o.below hbr.o;injection e0 with e0 _ e0';subst e0 e0';obtain⟨g,rfl,hg,h1⟩:=h0 ω;have q0:=(h1 j p hp).1;have q1:=(h1 j p hp).2;obtain⟨a,b⟩:=p;simp only at q0 q1 hpl;have Hd:=ι hdr;clear h0 h1 hp hdr
   by_cases hu:upP a=upP nm.data.toList
   ·have Hv:=ι (show jC F nm.data.toList=(b,true) by rw[<-hf.o,Hd.o];exact xQh hu);have Hu:=ι hu;clear hu;go_wp2_with fail
    refine(vV ⟨a.toArray⟩ _ (by rw[size_mk];omega)).mono ?_;rw[show upP (⟨a.toArray⟩:ByteArray).data.toList=upP nm.data.toList from Hu.o];rintro e w5 ⟨rfl,hb5⟩;have pk:=xC (xI wr (.cells #[xK a,xK b] 367)) hb5 σ;have k1:w5.cell? ⟨wr.heap.size,1,none⟩=some (xK b):=xA pk 1
    have hB5:=ι ((hbr.o.alloc hbr.o.size (.cells #[xK a,xK b] 367)).trans (hb5.mono (by have:=hbr.o.size;simp;omega)));clear pk hb5;go_wp2;go_ret2;refine⟨?_,HB.o.trans (hB5.o.mono HB.o.size)⟩;rw[Hv.o]
    rfl
   ·have Hf:=ι (show jC (F.drop (j+1)) nm.data.toList=jC F nm.data.toList by rw[<-hf.o,Hd.o];exact(xMf (p:=(a,b)) hu).symm);have b1:(upP a==upP nm.data.toList)=false:=by simpa using hu
    clear hu;go_wp2_with fail
    refine(vV ⟨a.toArray⟩ _ (by rw[size_mk];omega)).mono ?_;rintro e w5 ⟨rfl,hb5⟩;have hB5:=ι ((hbr.o.alloc hbr.o.size (.cells #[xK a,xK b] 367)).trans (hb5.mono (by have:=hbr.o.size;simp;omega)));clear hb5;go_wp2
    go_roundw
    case rel=>exact⟨j+1,ω,by go_num,hB5,Hf⟩
    case measure=>simp[intOf];omega
  ·have hj2:j=F.length:=ω;have Hv:=ι (show jC F nm.data.toList=([],false) by rw[<-hf.o,hj2,List.drop_length];rfl);clear hj2;go_wp2;go_ret2;refine⟨?_,HB.o.trans (hbr.o.mono HB.o.size)⟩;rw[Hv.o]
   rfl
end Go.Proofs.PT
namespace Go.Proofs.QU
open Go.RowKit Mailsack MM PT
structure xKq (v:QV):Prop where
 fl0:0<=v.flags
 fl1:v.flags<64
 txt:v.text.length<=1000
structure Rg where
 one:Nat
 lo:Nat
 hi:Nat
def Rg.has (q:Rg) (b:Nat):Prop:=b=q.one∨(q.lo<=b/\b<q.hi)
structure Kp (q:Rg) (w w':World):Prop where
 os:w'.os=w.os
 tape:w'.tape=w.tape
 output:w'.output=w.output
 size:w.heap.size<=w'.heap.size
 block:∀k,k<w.heap.size->¬q.has k->w'.heap[k]?=w.heap[k]?
theorem Kp.refl (b:Rg) (w:World):Kp b w w:=⟨rfl,rfl,rfl,Nat.le_refl _,λ_ _ _=>rfl⟩
theorem Kp.trans {b:Rg} {w w1 w2:World} (h:Kp b w w1) (h2:Kp b w1 w2):Kp b w w2:=
 ⟨h2.os.trans h.os,h2.tape.trans h.tape,h2.output.trans h.output,Nat.le_trans h.size h2.size,λk hk hne=>(h2.block k (Nat.lt_of_lt_of_le hk h.size) hne).trans (h.block k hk hne)⟩
theorem Kp.below {b:Rg} {w w':World} (h:ψ w w'):Kp b w w':=⟨h.os,h.tape,h.output,h.size,λk hk _=>h.block k hk⟩
def jD:vU->QV->Bool
 |.flags t m,v=>decide (bits BinOp.and IntKind.i64 v.flags t=t)&&decide (bits BinOp.and IntKind.i64 v.flags m=0)
 |.size true n,v=>decide (n<v.size)
 |.size false n,v=>decide (v.size<n)
 |.field nm x,v=>(jC (zI (jN (v.text.take (splitN v.text)))) nm).2&&hasP (jC (zI (jN (v.text.take (splitN v.text)))) nm).1 x
 |.text true x,v=>hasP (v.text.drop (splitN v.text)) x
 |.text false x,v=>hasP v.text x
 |.set true R,v=>xZq R v.uid v.uids
 |.set false R,v=>xZq R v.seq v.seqs
 |.not k,v=>!jD k v
 |.or a b,v=>jD a v||jD b v
structure xKn (b:Rg) (w:World) (id:Nat) (wB:Array Value) (f:QV->Bool):Prop where
 ent:∀args w,(callFunc id args).run prog w=.ok (.enter id args) w
 run:∀W,Kp b w W->∀v,xKq v->Calls prog id (#[uL v]++wB) W λe W'=>e=.returned (.bool (f v))/\ψ W W'
def xW0 (b:Rg) (w:World) (kv:Value) (f:QV->Bool):Prop:=∃id wB,kv=.func (.func id) #[] wB/\xKn b w id wB f
abbrev Bx (w:World) (b:Nat) (t:TypeId) (v:Value):Prop:=w.heap[b]?=some (.cells #[v] t (0,0))
theorem uP {w w':World} {b:Nat} {r:Rg} {t:TypeId} {v:Value} (h:Bx w b t v) (hk:Kp r w w') (hne:¬r.has b):Bx w' b t v:=(hk.block b (xJ h) hne).trans h
theorem xMd (b1 b2:Nat) (t m:Int) (v:QV) (W:World) (h1:Bx W b1 3 (.int .i64 t)) (h2:Bx W b2 3 (.int .i64 m)):
  Calls prog 132 #[uL v,.pointer (some ⟨b1,0,none⟩),.pointer (some ⟨b2,0,none⟩)] W λe W'=>e=.returned (.bool (jD (.flags t m) v))/\ψ W W':=by
 have l1:=xJ h1;have l2:=xJ h2;have k1:W.cell? ⟨b1,0,none⟩=some (.int .i64 t):=xA h1 0;have k2:W.cell? ⟨b2,0,none⟩=some (.int .i64 m):=xA h2 0;have hs:jD (.flags t m) v=(decide (bits BinOp.and IntKind.i64 v.flags t=t)&&decide (bits BinOp.and IntKind.i64 v.flags m=0)):=by rfl
 obtain⟨sq,ui,fl,sz,tx,sqs,uis⟩:=v;have HB:=ι (φ W (.cells #[.int .i64 sq,.int .i64 ui,.int .i64 fl,.int .i64 sz,xK tx,.int .i64 sqs,.int .i64 uis] 62));unfold uL;rw[hs];simp only;clear h1 h2 hs
 cases ha:(bits BinOp.and IntKind.i64 fl t==t)<;>cases hb:(bits BinOp.and IntKind.i64 fl m==0)
 all_goals
  have Ha:=ι ha;have Hb:=ι hb;go_enter func132,ntmps132;go_wp2;go_ret;refine⟨?_,HB.o⟩;have ha':=Ha.o;have hb':=Hb.o;simp only[beq_iff_eq,beq_eq_false_iff_ne,ne_eq] at ha' hb';simp[ha',hb']
theorem xM2 (a n:Int) (W:World):Calls prog 56 #[.int .i64 a,.int .i64 n] W λe W'=>e=.returned (.bool (decide (n<a)))/\W=W':=by
 go_enter func56,ntmps56;go_wp2;go_ret;exact⟨rfl,rfl⟩
theorem xM1 (a n:Int) (W:World):Calls prog 57 #[.int .i64 a,.int .i64 n] W λe W'=>e=.returned (.bool (decide (a<n)))/\W=W':=by
 go_enter func57,ntmps57;go_wp2;go_ret;exact⟨rfl,rfl⟩
theorem xPc (g:Bool) (b1 b2:Nat) (n:Int) (v:QV) (W:World) (h1:Bx W b1 144 (.func (.func (if g then 56 else 57)) #[] #[])) (h2:Bx W b2 3 (.int .i64 n)):
  Calls prog 135 #[uL v,.pointer (some ⟨b1,0,none⟩),.pointer (some ⟨b2,0,none⟩)] W λe W'=>e=.returned (.bool (jD (.size g n) v))/\ψ W W':=by
 have l1:=xJ h1;have l2:=xJ h2;have k1:=xA h1 0;have k2:W.cell? ⟨b2,0,none⟩=some (.int .i64 n):=xA h2 0;obtain⟨sq,ui,fl,sz,tx,sqs,uis⟩:=v;have HB:=ι (φ W (.cells #[.int .i64 sq,.int .i64 ui,.int .i64 fl,.int .i64 sz,xK tx,.int .i64 sqs,.int .i64 uis] 62));unfold uL;clear h1 h2
 cases g
 ·simp only[Bool.false_eq_true,if_false,gA,gC] at k1;go_enter func135,ntmps135;go_wp2_with fail
  refine(xM1 sz n _).mono ?_;rintro e w2 ⟨rfl,rfl⟩;go_wp2;go_ret;exact⟨rfl,HB.o⟩
 ·simp only[if_true,gA,gC] at k1;go_enter func135,ntmps135;go_wp2_with fail
  refine(xM2 sz n _).mono ?_;rintro e w2 ⟨rfl,rfl⟩;go_wp2;go_ret;exact⟨rfl,HB.o⟩
theorem xB5 (M:Nat):∀(n:Nat) (l:List Bs),l.length<=n->(∀x∈l,x.length<=M)->∀p∈zI l,p.2.length<=(n+1)*M
 |_,[],_,_,p,hp=>by rw[pU] at hp;cases hp
 |0,_::_,h,_,_,_=>by simp at h
 |n+1,f::r,h,hl,p,hp=>by
  have h':r.length<=n:=by simpa using h
  have hr:∀x∈r,x.length<=M:=λx hx=>hl x (List.mem_cons_of_mem _ hx);have hM:(n+1)*M<=(n+1+1)*M:=Nat.mul_le_mul_right _ ω
  by_cases hc:(Go.Lib.cut f [58]).2.2=false∨yL f=true
  ·rw[kF hc] at hp;exact Nat.le_trans (xB5 M n r h' hr p hp) hM
  ·have hc':(Go.Lib.cut f [58]).2.2=true/\yL f=false:=by
    constructor
    ·cases hx:(Go.Lib.cut f [58]).2.2 with
     |true=>rfl
     |false=>exact absurd (.inl hx) hc
    ·cases hx:yL f with
     |false=>rfl
     |true=>exact absurd (.inr hx) hc
   rw[kE hc'.1 hc'.2] at hp;rcases List.mem_cons.1 hp with rfl|hp
   ·refine Nat.le_trans (xS3 _ _) ?_;rw[xC4];refine Nat.le_trans (kR M _ ?_) (Nat.mul_le_mul_right _ ?_)
    ·intro x hx;rcases List.mem_cons.1 hx with rfl|hx
     ·exact Nat.le_trans (xOi (show Lib.cut f [58]=(_,_,_) from rfl)) (hl f σ)
     ·exact hr x ((List.takeWhile_sublist yL).subset hx)
    ·have:=(List.takeWhile_sublist yL (l:=r)).length_le;simp;omega
   ·exact Nat.le_trans (xB5 M n _ (Nat.le_trans (vE _ _) h') (λx hx=>hr x ((List.dropWhile_sublist yL).subset hx)) p hp) hM
theorem xQg {t:Bs} (ht:t.length<=1000) (nm:Bs):(jC (zI (jN t)) nm).1.length<=2000000:=by
 have hs:(⟨t.toArray⟩:ByteArray).data.toList=t:=rfl;have hz:(⟨t.toArray⟩:ByteArray).size=t.length:=rfl;have h1:=xB1 ⟨t.toArray⟩;have h2:=xA6 ⟨t.toArray⟩;have hN:Lib.countB ⟨t.toArray⟩ vT<=(⟨t.toArray⟩:ByteArray).size:=Lib.countB_le vT δ _ _ ν;rw[hs] at h1 h2;rw[hz] at h1 hN
 unfold jC;cases hf:(zI (jN t)).find? (λp=>decide (upP p.1=upP nm)) with
 |none=>simp
 |some p=>
  have:=xB5 1000 1001 (jN t) ω (λx hx=>Nat.le_trans (h1 x hx) ht) p (List.mem_of_find?_eq_some hf);simp only;omega
abbrev vP (v:QV):Obj:=.cells #[.int .i64 v.seq,.int .i64 v.uid,.int .i64 v.flags,.int .i64 v.size,xK v.text,.int .i64 v.seqs,.int .i64 v.uids] 62
theorem xBz {m:Int} {W W':World} (hm:W.cell? ⟨2,0,none⟩=some (.int .i64 m)) (hb:ψ W W'):W'.cell? ⟨2,0,none⟩=some (.int .i64 m):=(hb.cell (World.block_lt_of_cell? W _ hm)).trans hm
theorem xIi (b1 b2:Nat) (nm x:Bs) (m:Int) (v:QV) (W:World) (hg:xKq v) (hn:nm.length<=1000000) (hx:x.length<=1000000) (hm:W.cell? ⟨2,0,none⟩=some (.int .i64 m)) (h1:Bx W b1 9 (xK nm)) (h2:Bx W b2 9 (xK x)):
  Calls prog 231 #[uL v,.pointer (some ⟨b1,0,none⟩),.pointer (some ⟨b2,0,none⟩)] W λe W'=>e=.returned (.bool (jD (.field nm x) v))/\ψ W W':=by
 have l1:=xJ h1;have l2:=xJ h2;have k1:W.cell? ⟨b1,0,none⟩=some (xK nm):=xA h1 0;have k2:W.cell? ⟨b2,0,none⟩=some (xK x):=xA h2 0;have HB:=ι (φ W (vP v));obtain⟨sq,ui,fl,sz,tx,sqs,uis⟩:=v;have ht:=hg.txt;simp only at ht
 have hs:jD (.field nm x) ⟨sq,ui,fl,sz,tx,sqs,uis⟩=((jC (zI (jN (tx.take (splitN tx)))) nm).2&&hasP (jC (zI (jN (tx.take (splitN tx)))) nm).1 x):=by rfl
 rw[hs];have hh:(tx.take (splitN tx)).length<=1000:=by rw[List.length_take];omega
 have E1:=ι (rM ⟨tx.toArray⟩ m _ (by show tx.length<_;omega) (xBz hm HB.o));have hvl:=xQg hh nm;have E2:=ι (λW' (h:ψ W W')=>xUq ⟨(tx.take (splitN tx)).toArray⟩ ⟨nm.toArray⟩ m W' (by show(tx.take (splitN tx)).length<=_;omega) hn (xBz hm h));simp only at E1 E2
 generalize jC (zI (jN (tx.take (splitN tx)))) nm=F at*;obtain⟨val,q⟩:=F;simp only at hvl E2⊢;have E3:=ι (λW' (h:ψ W W')=>xEu ⟨val.toArray⟩ ⟨x.toArray⟩ m W' (by show val.length<_;omega) (by show x.length<_;omega) (xBz hm h));simp only at E3
 have HC:=ι (λW' (h:ψ W W')=>And.intro ((h.cell (p:=⟨b1,0,none⟩) l1).trans k1) ((h.cell (p:=⟨b2,0,none⟩) l2).trans k2));unfold uL;simp only;clear h1 h2 hs hm hg;go_enter func231,ntmps231;go_wp2_with fail
 refine E1.o.mono ?_;rintro e w2 ⟨rfl,hb2⟩;have HB2:=ι (HB.o.trans (hb2.mono HB.o.size));have c2:=(HC.o w2 HB2.o).1;clear hb2 E1 k1 k2;go_wp2_with fail
 refine(E2.o _ HB2.o).mono ?_;rintro e w3 ⟨rfl,hb3⟩;have HB3:=ι (HB2.o.trans (hb3.mono HB2.o.size));have c3:=(HC.o w3 HB3.o).2;clear hb3 E2 c2;cases q
 ·go_wp2;go_ret;exact⟨rfl,HB3.o⟩
 ·go_wp2_with fail
  refine(E3.o _ HB3.o).mono ?_;rintro e w4 ⟨rfl,hb4⟩;have HB4:=ι (HB3.o.trans (hb4.mono HB3.o.size));clear hb4;go_wp2;go_ret;refine⟨?_,HB4.o⟩;simp
theorem xXn (b1:Nat) (r:Rg) (id:Nat) (wB:Array Value) (f:QV->Bool) (w:World) (hk:xKn r w id wB f) (v:QV) (W:World) (hg:xKq v) (hW:Kp r w W) (h1:Bx W b1 88 (.func (.func id) #[] wB)):
  Calls prog 143 #[uL v,.pointer (some ⟨b1,0,none⟩)] W λe W'=>e=.returned (.bool (!f v))/\ψ W W':=by
 have l1:=xJ h1;have k1:W.cell? ⟨b1,0,none⟩=some (.func (.func id) #[] wB):=xA h1 0;have HB:=ι (φ W (vP v));have E1:=ι (hk.run _ (hW.trans (Kp.below HB.o)) v hg);have ee:=hk.ent;unfold uL at E1⊢;go_enter func143,ntmps143;go_wp2_with fail
 refine E1.o.mono ?_;rintro e w2 ⟨rfl,hb2⟩;have HB2:=ι (HB.o.trans (hb2.mono HB.o.size));clear hb2;go_wp2;go_ret;exact⟨rfl,HB2.o⟩
theorem yAz (b1 b2:Nat) (r:Rg) (id id2:Nat) (wB yCa:Array Value) (f f2:QV->Bool) (w:World) (hk:xKn r w id wB f) (hk2:xKn r w id2 yCa f2) (v:QV) (W:World) (hg:xKq v) (hW:Kp r w W)
  (h1:Bx W b1 88 (.func (.func id) #[] wB)) (h2:Bx W b2 88 (.func (.func id2) #[] yCa)):
  Calls prog 144 #[uL v,.pointer (some ⟨b1,0,none⟩),.pointer (some ⟨b2,0,none⟩)] W λe W'=>e=.returned (.bool (f v||f2 v))/\ψ W W':=by
 have l1:=xJ h1;have l2:=xJ h2;have k1:W.cell? ⟨b1,0,none⟩=some (.func (.func id) #[] wB):=xA h1 0;have k2:W.cell? ⟨b2,0,none⟩=some (.func (.func id2) #[] yCa):=xA h2 0;have HB:=ι (φ W (vP v));have E1:=ι (hk.run _ (hW.trans (Kp.below HB.o)) v hg)
 have E2:=ι (λW' (h:ψ W W')=>hk2.run _ (hW.trans (Kp.below h)) v hg);have ee:=hk.ent;have ee2:=hk2.ent;have pB:=ι (xI W (vP v));unfold uL at E1 E2⊢;obtain⟨q,hq⟩:∃q,f v=q:=⟨_,rfl⟩;rw[hq] at E1⊢;clear h1 h2 hq;go_enter func144,ntmps144;go_wp2_with fail
 refine E1.o.mono ?_;rintro e w2 ⟨rfl,hb2⟩;have HB2:=ι (HB.o.trans (hb2.mono HB.o.size));have pB2:=ι (xC pB.o hb2 σ);have d0:w2.cell? ⟨W.heap.size,0,none⟩=some (.int .i64 v.seq):=xA pB2.o 0;have d1:w2.cell? ⟨W.heap.size,1,none⟩=some (.int .i64 v.uid):=xA pB2.o 1
 have d2:w2.cell? ⟨W.heap.size,2,none⟩=some (.int .i64 v.flags):=xA pB2.o 2;have d3:w2.cell? ⟨W.heap.size,3,none⟩=some (.int .i64 v.size):=xA pB2.o 3;have d4:w2.cell? ⟨W.heap.size,4,none⟩=some (xK v.text):=xA pB2.o 4
 have d5:w2.cell? ⟨W.heap.size,5,none⟩=some (.int .i64 v.seqs):=xA pB2.o 5;have d6:w2.cell? ⟨W.heap.size,6,none⟩=some (.int .i64 v.uids):=xA pB2.o 6;have c2:=(HB2.o.cell (p:=⟨b2,0,none⟩) l2).trans k2;clear hb2 k1 k2;cases q
 ·go_wp2_with fail
  refine(E2.o _ HB2.o).mono ?_;rintro e w3 ⟨rfl,hb3⟩;have HB3:=ι (HB2.o.trans (hb3.mono HB2.o.size));clear hb3;go_wp2;go_ret;refine⟨?_,HB3.o⟩;simp
 ·go_wp2;go_ret;exact⟨rfl,HB2.o⟩
theorem xYs (m:Int) (v:QV) (W:World) (ht:v.text.length<=1000) (hm:W.cell? ⟨2,0,none⟩=some (.int .i64 m)):
  Calls prog 61 #[uL v] W λe W'=>e=.returned (xK (v.text.drop (splitN v.text)))/\ψ W W':=by
 have HB:=ι (φ W (vP v));have E1:=ι (rM ⟨v.text.toArray⟩ m _ (by show v.text.length<_;omega) (xBz hm HB.o));simp only at E1;unfold uL;go_enter func61,ntmps61;go_wp2_with fail
 refine E1.o.mono ?_;rintro e w2 ⟨rfl,hb2⟩;have HB2:=ι (HB.o.trans (hb2.mono HB.o.size));clear hb2;go_wp2;go_ret;exact⟨rfl,HB2.o⟩
theorem xM0 (v:QV) (W:World):
  Calls prog 62 #[uL v] W λe W'=>e=.returned (xK v.text)/\ψ W W':=by
 have HB:=ι (φ W (vP v));unfold uL;go_enter func62,ntmps62;go_wp2;go_ret;exact⟨rfl,HB.o⟩
theorem xXc {w:World} {B B':Nat} {v:Value} {L:List (Int×Int)} (h:SP.RdR w B v L) (hB:B<=B'):SP.RdR w B' v L:=by
 obtain⟨A,c,h1,h2,h3⟩:=h;refine⟨A,c,h1,h2,λhn=>?_⟩;obtain⟨b,off,h4,h5,h6⟩:=h3 hn;exact⟨b,off,h4,ω,h6⟩
theorem xA2 {W:World} {b:Nat} {v:QV} (h:W.heap[b]?=some (vP v)):W.cell? ⟨b,0,none⟩=some (.int .i64 v.seq)/\W.cell? ⟨b,1,none⟩=some (.int .i64 v.uid)/\W.cell? ⟨b,2,none⟩=some (.int .i64 v.flags)/\W.cell? ⟨b,3,none⟩=some (.int .i64 v.size)/\W.cell? ⟨b,4,none⟩=some (xK v.text)/\W.cell? ⟨b,5,none⟩=some (.int .i64 v.seqs)/\W.cell? ⟨b,6,none⟩=some (.int .i64 v.uids):=
 ⟨xA h 0,xA h 1,xA h 2,xA h 3,xA h 4,xA h 5,xA h 6⟩
theorem xXy (v:QV) (W:World):Calls prog 69 #[uL v] W λe W'=>e=.returned (.tuple #[.int .i64 v.seq,.int .i64 v.seqs])/\ψ W W':=by
 have HB:=ι (φ W (vP v));have pB:=ι (xI W (vP v));unfold uL;go_enter func69,ntmps69;go_upto_region 1 with fail
 refine RG.xH (λX=>Hid (Below (W.alloc (vP v)).heap.size (W.alloc (vP v)) X)) κ κ (ι (Below.refl _ _).drew) ?_
 iterate 6
  apply RG.xG
  ·intro w9 hw9;obtain⟨d0,d1,d2,d3,d4,d5,d6⟩:=xA2 (xC pB.o hw9.o σ);repeat go_step
   exact RG.xB hw9
  ·rfl
 refine RG.xL (λw9 hw9=>?_);have HB9:=ι (HB.o.trans (hw9.o.mono HB.o.size));clear hw9;go_wp2;go_ret2;exact⟨rfl,HB9.o⟩
theorem xWs (v:QV) (W:World):Calls prog 142 #[uL v] W λe W'=>e=.returned (.tuple #[.int .i64 v.uid,.int .i64 v.uids])/\ψ W W':=by
 have HB:=ι (φ W (vP v));have pB:=ι (xI W (vP v));unfold uL;go_enter func142,ntmps142;go_upto_region 1 with fail
 refine RG.xH (λX=>Hid (Below (W.alloc (vP v)).heap.size (W.alloc (vP v)) X)) κ κ (ι (Below.refl _ _).drew) ?_
 iterate 6
  apply RG.xG
  ·intro w9 hw9;obtain⟨d0,d1,d2,d3,d4,d5,d6⟩:=xA2 (xC pB.o hw9.o σ);repeat go_step
   exact RG.xB hw9
  ·rfl
 refine RG.xL (λw9 hw9=>?_);have HB9:=ι (HB.o.trans (hw9.o.mono HB.o.size));clear hw9;go_wp2;go_ret2;exact⟨rfl,HB9.o⟩
def xZ9 (u:Bool):Nat:=if u then 142 else 69
theorem xX6 (u:Bool) (b1 b2:Nat) (sv:Value) (R:List (Int×Int)) (v:QV) (W:World) (h1:Bx W b1 151 (.func (.func (xZ9 u)) #[] #[])) (h2:Bx W b2 199 sv) (hR:SP.RdR W W.heap.size sv R) (hl:R.length<=1000000):
  Calls prog 146 #[uL v,.pointer (some ⟨b1,0,none⟩),.pointer (some ⟨b2,0,none⟩)] W λe W'=>e=.returned (.bool (jD (.set u R) v))/\ψ W W':=by
 have l1:=xJ h1;have l2:=xJ h2;have k1:W.cell? ⟨b1,0,none⟩=some (.func (.func (xZ9 u)) #[] #[]):=xA h1 0;have k2:W.cell? ⟨b2,0,none⟩=some sv:=xA h2 0;have HB:=ι (φ W (vP v));have HR:=ι (λW' (h:ψ W W')=>xXc (hR.below h ν) h.size);obtain⟨A,c,rfl,_,_⟩:=hR;have K1:=ι (λX=>xXy v X)
 have U1:=ι (λX=>xWs v X);unfold uL at K1 U1⊢;clear h1 h2;cases u
 ·rw[show xZ9 false=69 from rfl] at k1;go_enter func146,ntmps146;go_wp2_with fail
  refine(K1.o _).mono ?_;rintro e w2 ⟨rfl,hb2⟩;have HB2:=ι (HB.o.trans (hb2.mono HB.o.size));have c2:=(HB2.o.cell (p:=⟨b2,0,none⟩) l2).trans k2;clear hb2;go_wp2_with fail
  refine(SP.xEu _ R _ _ _ (HR.o _ HB2.o) hl).mono ?_;rintro e w3 ⟨rfl,hb3⟩;have HB3:=ι (HB2.o.trans (hb3.mono HB2.o.size));clear hb3;go_wp2;go_ret;exact⟨rfl,HB3.o⟩
 ·rw[show xZ9 true=142 from rfl] at k1;go_enter func146,ntmps146;go_wp2_with fail
  refine(U1.o _).mono ?_;rintro e w2 ⟨rfl,hb2⟩;have HB2:=ι (HB.o.trans (hb2.mono HB.o.size));have c2:=(HB2.o.cell (p:=⟨b2,0,none⟩) l2).trans k2;clear hb2;go_wp2_with fail
  refine(SP.xEu _ R _ _ _ (HR.o _ HB2.o) hl).mono ?_;rintro e w3 ⟨rfl,hb3⟩;have HB3:=ι (HB2.o.trans (hb3.mono HB2.o.size));clear hb3;go_wp2;go_ret;exact⟨rfl,HB3.o⟩
def xJ2 (b:Bool):Nat:=if b then 61 else 62
def textOf (b:Bool) (v:QV):Bs:=if b then v.text.drop (splitN v.text) else v.text
theorem xS8 (b:Bool) (m:Int) (v:QV) (W:World) (ht:v.text.length<=1000) (hm:W.cell? ⟨2,0,none⟩=some (.int .i64 m)):
  Calls prog (xJ2 b) #[uL v] W λe W'=>e=.returned (xK (textOf b v))/\ψ W W':=by
 cases b
 ·exact xM0 v W
 ·exact xYs m v W ht hm
theorem xP4 (b:Bool) (b1 b2:Nat) (x:Bs) (m:Int) (v:QV) (W:World) (hg:xKq v) (hx:x.length<=1000000) (hm:W.cell? ⟨2,0,none⟩=some (.int .i64 m)) (h1:Bx W b1 147 (.func (.func (xJ2 b)) #[] #[])) (h2:Bx W b2 9 (xK x)):
  Calls prog 139 #[uL v,.pointer (some ⟨b1,0,none⟩),.pointer (some ⟨b2,0,none⟩)] W λe W'=>e=.returned (.bool (jD (.text b x) v))/\ψ W W':=by
 have l1:=xJ h1;have l2:=xJ h2;have k1:W.cell? ⟨b1,0,none⟩=some (.func (.func (xJ2 b)) #[] #[]):=xA h1 0;have k2:W.cell? ⟨b2,0,none⟩=some (xK x):=xA h2 0;have HB:=ι (φ W (vP v));have pB:=ι (xI W (vP v));have hs:jD (.text b x) v=hasP (textOf b v) x:=by cases b<;>rfl
 rw[hs]
 have htl:(textOf b v).length<=1000:=by
  have:=hg.txt;cases b
  ·exact this
  ·show(v.text.drop _).length<=_;rw[List.length_drop];omega
 have T1:=ι (λW' (h:ψ W W')=>xS8 b m v W' hg.txt (xBz hm h));have T2:=ι (λW' (h:ψ W W')=>xEu ⟨(textOf b v).toArray⟩ ⟨x.toArray⟩ m W' (by show(textOf b v).length<_;omega) (by show x.length<_;omega) (xBz hm h));simp only at T2
 have ee:∀args w,(callFunc (xJ2 b) args).run prog w=.ok (.enter (xJ2 b) args) w:=by
  cases b
  ·exact enters_of func62 κ rfl
  ·exact enters_of func61 κ rfl
 have HC:=ι (λW' (h:ψ W W')=>And.intro ((h.cell (p:=⟨b1,0,none⟩) l1).trans k1) ((h.cell (p:=⟨b2,0,none⟩) l2).trans k2));generalize textOf b v=T at*;generalize xJ2 b=tf at*;unfold uL at T1⊢;clear h1 h2 hs hm hg k1 k2;go_enter func139,ntmps139;go_upto_region 1 with fail
 refine RG.xH (λX=>Hid (Below (W.alloc (vP v)).heap.size (W.alloc (vP v)) X)) κ κ (ι (Below.refl _ _).drew) ?_
 iterate 2
  apply RG.xG
  ·intro w9 hw9;obtain⟨d0,d1,d2,d3,d4,d5,d6⟩:=xA2 (xC pB.o hw9.o σ);obtain⟨c1,c2⟩:=HC.o w9 (HB.o.trans (hw9.o.mono HB.o.size));repeat go_step
   exact RG.xB hw9
  ·rfl
 apply RG.xG
 ·intro w9 hw9;repeat go_step
  refine(T1.o _ (HB.o.trans (hw9.o.mono HB.o.size))).mono ?_;rintro e w10 ⟨rfl,yP⟩;simp only[];repeat go_step
  refine RG.xB ?_;exact ι (hw9.o.trans (yP.mono hw9.o.size))
 ·rfl
 apply RG.xG
 ·intro w9 hw9;obtain⟨c1,c2⟩:=HC.o w9 (HB.o.trans (hw9.o.mono HB.o.size));repeat go_step
  exact RG.xB hw9
 ·rfl
 apply RG.xG
 ·intro w9 hw9;repeat go_step
  refine(T2.o _ (HB.o.trans (hw9.o.mono HB.o.size))).mono ?_;rintro e w10 ⟨rfl,yP⟩;simp only[];repeat go_step
  refine RG.xB ?_;exact ι (hw9.o.trans (yP.mono hw9.o.size))
 ·rfl
 refine RG.dS ?_;refine RG.xL (λw9 hw9=>?_);have HB9:=ι (HB.o.trans (hw9.o.mono HB.o.size));clear hw9;go_wp2;go_ret;exact⟨rfl,HB9.o⟩
end Go.Proofs.QU
namespace Go.Proofs.QU
open Go.RowKit Mailsack MM
structure wS (s:ByteArray) (w:World) (k:Nat) (wr:World):Prop where
 cells:∀j,j<s.size->wr.cell? ⟨w.heap.size,j,none⟩=some (.int .u8 (upTo s.data.toList k j).toNat)
 free:∀j,j<s.size->wr.frozen? ⟨w.heap.size,j,none⟩=false
 bel:ψ w wr
theorem wS.start (s:ByteArray) (w:World):wS s w 0 (Lib.bytesWorld w 5 s):=by
 refine⟨λj hj=>?_,λj hj=>?_,⟨rfl,rfl,rfl,?_,λk hk=>Lib.bytesWorld_at_old w _ s k hk⟩⟩
 ·rw[Lib.bytesWorld_cell w _ s j hj];simp[upTo]
 ·simp only[World.frozen?,Lib.bytesWorld_at_new];have hz:(Lib.bytesCells w 5 s).size=s.data.size+(grownCap w s.size 0 5-s.size):=by simp[Lib.bytesCells]
  have hs:s.data.size=s.size:=rfl;simp;omega
 ·rw[Lib.bytesWorld_size];omega
theorem wS.keep {s:ByteArray} {w wr:World} {k:Nat} (h:wS s w k wr) (hc:¬(97<=(s.data.toList.getD k 0).toNat/\(s.data.toList.getD k 0).toNat<=122)):wS s w (k+1) wr:=
 ⟨λj hj=>by rw[xE8 hc];exact h.cells j hj,h.free,h.bel⟩
theorem wS.put {s:ByteArray} {w wr:World} {k:Nat} (h:wS s w k wr) (hk:k<s.size) (h1:97<=(s.data.toList.getD k 0).toNat) (h2:(s.data.toList.getD k 0).toNat<=122):
  wS s w (k+1) (wr.setCell ⟨w.heap.size,k,none⟩ (.int .u8 ((s.data.toList.getD k 0).toNat-97+65))):=by
 refine⟨λj hj=>?_,λj hj=>?_,h.bel.setCell σ _⟩
 ·by_cases e:j=k
  ·subst e;rw[World.cell?_setCell_same _ _ _ (h.cells j hj),xHc,xHb h1 h2]
   congr 2;omega
  ·rw[World.cell?_setCell_other _ _ _ _ (λe'=>e (by injection e' with _ e';exact e'.symm)),xBd e];exact h.cells j hj
 ·rw[World.frozen?_setCell];exact h.free j hj
theorem vV (s:ByteArray) (w:World) (hs:s.size<4611686018427387904):
  Calls prog 67 #[.string s] w λe w'=>e=.returned (xK (upP s.data.toList))/\ψ w w':=by
 have xI7:=λW=>Lib.run_convert_string_bytes (P:=prog) W 9 125 5 s underlying9 underlying125 underlying5;have h0:=ι (wS.start s w);go_enter func67,ntmps67;go_wp2;generalize Lib.bytesWorld w 5 s=w0 at h0⊢;generalize grownCap w s.size 0 5=cap;clear xI7
 go_loopw [10] (λiv wr=>∃k:Nat,k<=s.size/\iv=.int .i64 k/\Hid (wS s w k wr)) (λiv _=>s.size- (intOf iv).toNat)
 case atStart=>exact⟨0,Nat.zero_le _,rfl,h0⟩
 case round=>
  obtain⟨k,hk,rfl,hr⟩:=hrel
  by_cases hlt:k<s.size
  ·have hc:=hr.o.cells k hlt;have hf:=hr.o.free k hlt;rw[xDh] at hc
   by_cases hd:97<=(s.data.toList.getD k 0).toNat/\(s.data.toList.getD k 0).toNat<=122
   ·have hp:=ι (hr.o.put hlt hd.1 hd.2);generalize (s.data.toList.getD k 0).toNat=c at hc hd hp;obtain⟨h1,h2⟩:=hd;go_wp2
    go_roundw
    case rel=>exact⟨k+1,ω,by go_num,hp⟩
    case measure=>first|(simp[intOf];done)|(simp[intOf];omega)
   ·have hp:=ι (hr.o.keep hd);have yBt:(s.data.toList.getD k 0).toNat<256:=UInt8.toNat_lt _;generalize (s.data.toList.getD k 0).toNat=c at hc hd yBt;have hd:c<97∨122<c:=ω;rcases hd with hd|hd
    all_goals
     go_wp2
     go_roundw
     case rel=>exact⟨k+1,ω,by go_num,hp⟩
     case measure=>first|(simp[intOf];done)|(simp[intOf];omega)
  ·have hback:=run_convert_bytes_back (P:=prog) wr 125 9 5 ⟨w.heap.size,0,none⟩ cap (upP s.data.toList) underlying125 underlying5 underlying9 (λj hj=>by
    have hj':j<s.size:=by rw[jB,yA] at hj;exact hj
    have hadd:(⟨w.heap.size,0,none⟩:Addr).add j=⟨w.heap.size,j,none⟩:=by unfold Addr.add;split<;>simp_all
    have hks:k=s.size:=ω;rw[hadd,hr.o.cells j hj',xE9 _ j (by rw[yA];exact hj'),yA,hks])
   rw[jB,yA] at hback;go_wp2;go_ret;exact⟨rfl,hr.o.bel⟩
end Go.Proofs.QU
namespace Go.Proofs.QU
open Go.RowKit Mailsack MM PT
def rA (rb mb:Nat) (W:World) (ws:List Bs):Prop:=∃sv,W.heap[rb]?=some (.cells #[sv,.map (some mb)] 86 (0,0))/\RdS W rb sv ws
theorem xTw {q:Rg} {rb:Nat} {W:World} (hq:q.has rb) (i:Nat) (u:Value):Kp q W (W.setCell ⟨rb,i,none⟩ u):=
 ⟨rfl,rfl,rfl,by rw[size_set];exact Nat.le_refl _,λk _ hne=>Below.heap_setCell W ⟨rb,i,none⟩ u k (λe=>hne (by rw[e];exact hq))⟩
abbrev nq (rb:Nat):Rg:=⟨rb,rb,rb⟩
theorem xTc {rb b:Nat}:(nq rb).has b↔b=rb:=by unfold Rg.has;simp only;omega
theorem Kp.widen {q:Rg} {rb:Nat} {w w':World} (h:Kp (nq rb) w w') (hq:q.has rb):Kp q w w':=
 ⟨h.os,h.tape,h.output,h.size,λk hk hne=>h.block k hk (λe=>hne (by rw[xTc.1 e];exact hq))⟩
theorem xXb {W:World} {B b off c:Nat} {x:Bs} {r:List Bs} (h:RdS W B (.slice (some ⟨b,off,none⟩) (x::r).length c) (x::r)):RdS W B (.slice (some ⟨b,off+1,none⟩) r.length (c-1)) r:=by
 obtain⟨A,c',e,hc,hcell⟩:=h;injection e with e1 e2 e3;subst e1 e3;obtain⟨b',off',e4,hb,hcs⟩:=hcell σ;injection e4 with e4;injection e4 with e5 e6;subst e5 e6;simp only[List.length_cons] at hc;refine⟨_,_,rfl,ω,λ_=>⟨b,off+1,rfl,hb,λj y hy=>?_⟩⟩;have:=hcs (j+1) y (by simpa using hy)
 rw[show off+1+j=off+(j+1) by omega];exact this
theorem jX (rb mb:Nat) (W:World) (h:rA rb mb W []):
  Calls prog 66 #[.pointer (some ⟨rb,0,none⟩)] W λe W'=>e=.returned (.tuple #[.string ⟨#[]⟩,.bool false])/\W=W':=by
 obtain⟨sv,hb,A,c,rfl,_,_⟩:=h;have k0:W.cell? ⟨rb,0,none⟩=some (.slice A 0 c):=xA hb 0;clear hb;go_enter func66,ntmps66;go_wp2;go_ret2;exact⟨rfl,rfl⟩
theorem jE (rb mb:Nat) (W:World) (x:Bs) (r:List Bs) (hr:r.length<=1000000) (h:rA rb mb W (x::r)):
  Calls prog 66 #[.pointer (some ⟨rb,0,none⟩)] W λe W'=>e=.returned (.tuple #[xK x,.bool true])/\rA rb mb W' r/\Kp (nq rb) W W':=by
 obtain⟨sv,hb,hrd⟩:=h;have hrd2:=hrd;obtain⟨A,c,rfl,hc,hcell⟩:=hrd2;obtain⟨b,off,rfl,hbB,hcs⟩:=hcell σ;have k0:W.cell? ⟨rb,0,none⟩=some (.slice (some ⟨b,off,none⟩) (r.length+1) c):=xA hb 0;have f0:W.frozen? ⟨rb,0,none⟩=false:=xD hb 0
 have k1:W.cell? ⟨b,off,none⟩=some (xK x):=hcs 0 x rfl;have Hb:=ι hb;have Hr:=ι (xXb hrd);have h0:(((r.length:Int)+1)==0)=false:=by rw[beq_eq_false_iff_ne];omega
 simp only[List.length_cons] at hc;clear hb hrd hcell hcs;go_enter func66,ntmps66;go_wp2
 ·go_ret2;refine⟨rfl,⟨_,yC Hb.o 0 _,?_⟩,xTw (.inl rfl) 0 _⟩;have hr0:r=[]:=List.length_eq_zero_iff.1 ω;subst hr0;exact⟨_,_,rfl,Nat.zero_le _,λh=>absurd h (Nat.lt_irrefl _)⟩
 ·go_ret2;refine⟨rfl,⟨_,yC Hb.o 0 _,?_⟩,xTw (.inl rfl) 0 _⟩;refine RdS.keep (w:=W) Hr.o (λp hp=>?_);exact World.cell?_setCell_other W ⟨rb,0,none⟩ p _ (λe=>by subst e;exact Nat.lt_irrefl _ hp)
theorem wF (s:ByteArray) (w:World) (hl:s.size<=9223372036854775807):
  Calls prog 134 #[.string s] w λe w'=>e=.returned (.tuple #[.int .i64 ((xR9 s.data.toList).getD 0),.bool (xR9 s.data.toList).isSome])/\w=w':=by
 have hz:=yA s;have Hno:=ι (show(s.data.toList.length=0∨9<s.data.toList.length∨(1<s.data.toList.length/\s.data.toList.head?=some 48)∨s.data.toList.all tO=false)->xR9 s.data.toList=none from λh=>by unfold xR9;rw[if_pos h])
 have Hyes:=ι (show ¬(s.data.toList.length=0∨9<s.data.toList.length∨(1<s.data.toList.length/\s.data.toList.head?=some 48)∨s.data.toList.all tO=false)->xR9 s.data.toList=some (xFf s.data.toList) from λh=>by unfold xR9;rw[if_neg h])
 by_cases h0:s.size=0
 ·have Hn:=ι (Hno.o (.inl ω));have h0':(s.size:Int)<1:=ω;clear hz h0;go_enter func134,ntmps134;go_wp2
  all_goals (go_ret2;rw[Hn.o];exact⟨rfl,rfl⟩)
 have hp:0<s.size:=ω;clear h0
 by_cases h9:9<s.size
 ·have Hn:=ι (Hno.o (.inr (.inl ω)));clear hz;go_enter func134,ntmps134;go_wp2
  all_goals (go_ret2;rw[Hn.o];exact⟨rfl,rfl⟩)
 by_cases h48:1<s.size/\((s[0]'hp).toNat:Int)=48
 ·have Hn:=ι (Hno.o (.inr (.inr (.inl ⟨ω,by
   have h:=h48.2;rw[List.head?_eq_getElem?,List.getElem?_eq_getElem ω];have:s.data.toList[0]'ω=48:=(vO (x:=s.data.toList[0]'ω) (n:=48) δ).1 h;rw[this]⟩))))
  obtain⟨h1,h2⟩:=h48;clear hz;go_enter func134,ntmps134;go_wp2
  all_goals (go_ret2;rw[Hn.o];exact⟨rfl,rfl⟩)
 have H48:Hid (¬(1<s.data.toList.length/\s.data.toList.head?=some 48)):=ι (by
  rintro⟨h1,h2⟩;apply h48;refine⟨ω,?_⟩;rw[List.head?_eq_getElem?,List.getElem?_eq_getElem ω] at h2;exact(vO (x:=s.data.toList[0]'ω) (n:=48) δ).2 (Option.some.inj h2))
 have h48':s.size<=1∨(1<s.size/\(((s[0]'hp).toNat:Int)==48)=false):=by
  by_cases h1:1<s.size
  ·exact .inr ⟨h1,by rw[beq_eq_false_iff_ne];exact λe=>h48 ⟨h1,e⟩⟩
  ·exact .inl ω
 have Hz:=ι hz;clear h48 hz;rcases h48' with h1|⟨h1,h2⟩
 all_goals
  go_enter func134,ntmps134;go_wp2
  go_loop [4,26] (λn i=>∃k:Nat,k<=s.size/\i=.int .i64 k/\n=.int .i64 (xFf (s.data.toList.take k))/\Hid (∀c∈s.data.toList.take k,tO c=true)) (λ_ i=>s.size- (intOf i).toNat)
  case atStart=>exact⟨0,Nat.zero_le _,rfl,rfl,ι σ⟩
  case round=>
   obtain⟨k,hk,rfl,rfl,hd⟩:=hrel;have hn:=xNi hd.o (by rw[List.length_take];omega)
   by_cases hlt:k<s.size
   ·by_cases hdg:48<=((s[k]'hlt).toNat:Int)/\((s[k]'hlt).toNat:Int)<=57
    ·have Hs:=ι (xJq (s.data.toList.take k) (s[k]'hlt));have Hd2:=ι (xOf (l:=s.data.toList) (k:=k) (by rw[Hz.o];exact hlt) hd.o (xMn.2 hdg));obtain⟨hd1,hd2⟩:=hdg;go_wp2
     go_round
     case rel=>exact⟨k+1,ω,by go_num,(by rw[SP.xG4 s k hlt];exact congrArg (Value.int .i64) Hs.o.symm),Hd2⟩
     case measure=>simp[intOf];omega
    ·have Hn:=ι (Hno.o (.inr (.inr (.inr (by
      rw[List.all_eq_false];exact⟨s[k]'hlt,List.getElem_mem (by rw[Hz.o];exact hlt),by rw[xNz hdg];decide⟩)))))
     have hdg:((s[k]'hlt).toNat:Int)<48∨57<((s[k]'hlt).toNat:Int):=ω;rcases hdg with hdg|hdg
     ·go_wp2;go_ret2;rw[Hn.o];exact⟨rfl,rfl⟩
     ·go_wp2;go_ret2;rw[Hn.o];exact⟨rfl,rfl⟩
   ·have e:s.data.toList.take k=s.data.toList:=List.take_of_length_le (by rw[Hz.o];omega);rw[e] at hd hn⊢
    have Hn:=ι (Hyes.o (by
     have hz:=Hz.o;rintro(h|h|h|h)
     ·omega
     ·omega
     ·exact H48.o h
     ·rw[List.all_eq_true.2 hd.o] at h;cases h))
    clear e;go_wp2;go_ret2;rw[Hn.o];exact⟨rfl,rfl⟩
def wM (lo hi:Nat) (W:World) (v:Value):xIp->Prop
 |.flags t m=>∃b1 b2,v=.func (.func 131) #[] #[.pointer (some ⟨b1,0,none⟩),.pointer (some ⟨b2,0,none⟩)]/\lo<b1/\b1<hi/\lo<b2/\b2<hi/\Bx W b1 3 (.int .i64 t)/\Bx W b2 3 (.int .i64 m)
 |.size g=>∃b1,v=.func (.func 133) #[] #[.pointer (some ⟨b1,0,none⟩)]/\lo<b1/\b1<hi/\Bx W b1 144 (.func (.func (if g then 56 else 57)) #[] #[])
 |.field nm=>∃b1,v=.func (.func 136) #[] #[.pointer (some ⟨b1,0,none⟩)]/\lo<b1/\b1<hi/\Bx W b1 9 (xK nm)
 |.header=>v=.func (.func 59) #[] #[]
 |.text b=>∃b1,v=.func (.func 138) #[] #[.pointer (some ⟨b1,0,none⟩)]/\lo<b1/\b1<hi/\Bx W b1 147 (.func (.func (xJ2 b)) #[] #[])
 |.uid=>v=.func (.func 63) #[] #[]
 |.not=>v=.func (.func 64) #[] #[]
 |.or=>v=.func (.func 65) #[] #[]
theorem wM.kept {lo hi:Nat} {W W':World} {v:Value} {k:xIp} (h:wM lo hi W v k) (hk:∀b,lo<b->b<hi->W'.heap[b]?=W.heap[b]?):wM lo hi W' v k:=by
 cases k with
 |flags t m=>
  obtain⟨b1,b2,h1,h2,h3,h4,h5,h6,h7⟩:=h;exact⟨b1,b2,h1,h2,h3,h4,h5,(hk b1 h2 h3).trans h6,(hk b2 h4 h5).trans h7⟩
 |size g=>obtain⟨b1,h1,h2,h3,h4⟩:=h;exact⟨b1,h1,h2,h3,(hk b1 h2 h3).trans h4⟩
 |field nm=>obtain⟨b1,h1,h2,h3,h4⟩:=h;exact⟨b1,h1,h2,h3,(hk b1 h2 h3).trans h4⟩
 |header=>exact h
 |text b=>obtain⟨b1,h1,h2,h3,h4⟩:=h;exact⟨b1,h1,h2,h3,(hk b1 h2 h3).trans h4⟩
 |uid=>exact h
 |not=>exact h
 |or=>exact h
theorem wM.wide {lo hi hi':Nat} {W:World} {v:Value} {k:xIp} (h:wM lo hi W v k) (hh:hi<=hi'):wM lo hi' W v k:=by
 cases k with
 |flags t m=>
  obtain⟨b1,b2,h1,h2,h3,h4,h5,h6,h7⟩:=h;exact⟨b1,b2,h1,h2,ω,h4,ω,h6,h7⟩
 |size g=>obtain⟨b1,h1,h2,h3,h4⟩:=h;exact⟨b1,h1,h2,ω,h4⟩
 |field nm=>obtain⟨b1,h1,h2,h3,h4⟩:=h;exact⟨b1,h1,h2,ω,h4⟩
 |header=>exact h
 |text b=>obtain⟨b1,h1,h2,h3,h4⟩:=h;exact⟨b1,h1,h2,ω,h4⟩
 |uid=>exact h
 |not=>exact h
 |or=>exact h
structure TabAt (mb hi:Nat) (W:World) (ks:List (Bs×xIp)) (tab:List (Bs×Value)):Prop where
 map:yB W mb tab
 keys:tab.map (·.1)=ks.map (·.1)
 each:∀(j:Nat) p k,tab[j]?=some p->ks[j]?=some k->wM mb hi W p.2 k.2
structure uE (w:World) (mb:Nat) (W:World) (n:Nat) (tab:List (Bs×Value)):Prop where
 tab:TabAt mb W.heap.size W (kinds.take n) tab
 bel:ψ w W
theorem xB2:∀p∈kinds,p.1.length<=1000000:=δ
theorem xM8:∀n,n<25->∀p∈kinds.take n,p.1≠(kinds.getD n (wALL,.uid)).1:=δ
theorem xSc {mb hi:Nat} {W:World} {n:Nat} {tab:List (Bs×Value)} (h:TabAt mb hi W (kinds.take n) tab):∀p∈tab,p.1.length<=1000000:=by
 intro p hp;have h1:p.1∈(kinds.take n).map (·.1):=by rw[<-h.keys];exact List.mem_map_of_mem (f:=λp:Bs×Value=>p.1) hp
 obtain⟨q,hq,e⟩:=List.mem_map.1 h1;rw[<-e];exact xB2 q (List.mem_of_mem_take hq)
theorem xSe {mb hi:Nat} {W:World} {n:Nat} {tab:List (Bs×Value)} (h:TabAt mb hi W (kinds.take n) tab) (hn:n<25) {s:Bs} (hs:(kinds.getD n (wALL,.uid)).1=s):∀p∈tab,p.1≠s:=by
 intro p hp;have h1:p.1∈(kinds.take n).map (·.1):=by rw[<-h.keys];exact List.mem_map_of_mem (f:=λp:Bs×Value=>p.1) hp
 obtain⟨q,hq,e⟩:=List.mem_map.1 h1;rw[<-e,<-hs];exact xM8 n hn q hq
theorem uE.start (w:World):uE w w.heap.size (w.alloc (.map #[] 0)) 0 []:=
 ⟨⟨yB.new w,rfl,λj p k h=>by simp at h⟩,(Below.refl _ _).alloc ν _⟩
theorem uE.kept {w W W':World} {mb n:Nat} {tab:List (Bs×Value)} (h:uE w mb W n tab) (hb:ψ W W'):uE w mb W' n tab:=
 ⟨⟨h.tab.map.kept (vL hb none) σ,h.tab.keys,λj p k h1 h2=>((h.tab.each j p k h1 h2).kept (λb _ hb2=>hb.block b hb2)).wide hb.size⟩,h.bel.trans (hb.mono h.bel.size)⟩
theorem uE.put {w W W':World} {mb n:Nat} {tab:List (Bs×Value)} {v:Value} {s:Bs} {k:xIp} (h:uE w mb W n tab) (hmb:w.heap.size<=mb) (hk:kinds[n]?=some (s,k)) (hv:wM mb W.heap.size W v k)
  (hm:yB W' mb (tab++[(s,v)])) (hg:W.grownBy W' (some mb)):uE w mb W' (n+1) (tab++[(s,v)]):=by
 have hl:tab.length=n:=by
  have h1:=congrArg List.length h.tab.keys;have h2:=(List.getElem?_eq_some_iff.1 hk).1;simp at h1;omega
 have ht:kinds.take (n+1)=kinds.take n++[(s,k)]:=by rw[List.take_add_one,hk];rfl
 have hlk:(kinds.take n).length=n:=by
  have h2:=(List.getElem?_eq_some_iff.1 hk).1;rw[List.length_take];omega
 refine⟨⟨hm,?_,?_⟩,h.bel.grown hg h.bel.size (λk e=>by injection e with e;omega)⟩
 ·rw[ht,List.map_append,List.map_append,h.tab.keys];rfl
 ·intro j p q h1 h2;rw[ht] at h2
  by_cases hj:j<n
  ·rw[List.getElem?_append_left ω] at h1 h2;exact((h.tab.each j p q h1 h2).kept (λb h3 h4=>hg.block b h4 (λe=>by injection e;omega))).wide hg.size
  ·rw[List.getElem?_append_right ω] at h1 h2;rw[hl] at h1;rw[hlk] at h2;cases hjn:j-n with
   |zero=>
    rw[hjn] at h1 h2;simp at h1 h2;subst h1 h2;exact(hv.kept (λb h3 h4=>hg.block b h4 (λe=>by injection e;omega))).wide hg.size
   |succ i=>rw[hjn] at h1;simp at h1
theorem uE.step {w W:World} {mb n:Nat} {tab:List (Bs×Value)} (H:uE w mb W n tab) (hmb:w.heap.size<=mb) {s:Bs} {k:xIp} (hk:kinds[n]?=some (s,k)) {val:Value} (hmk:wM mb W.heap.size W val k):
  ∃w' tab',(Instr.mapUpdate 83 (.map (some mb)) (xK s) val).run prog W=.ok () w'/\uE w mb w' (n+1) tab':=by
 have hn:n<25:=(List.getElem?_eq_some_iff.1 hk).1;have hgd:(kinds.getD n (wALL,.uid)).1=s:=by rw[List.getD_eq_getElem?_getD,hk];rfl
 obtain⟨w',h1,h2,h3⟩:=H.tab.map.put (xSc H.tab) underlying83 (xB2 _ (List.mem_of_getElem? hk)) val (xSe H.tab hn hgd);exact⟨w',_,h1,H.put hmb hk hmk h2 h3⟩
theorem xHd (W:World) (o o':Obj):ψ W ((W.alloc o).alloc o'):=((Below.refl _ _).alloc ν o).alloc σ o'
theorem vR {w W:World} {mb n:Nat} {tab:List (Bs×Value)} (H:uE w mb W n tab) (t m:Int):
  Calls prog 54 #[.int .i64 t,.int .i64 m] W λe W'=>∃v,e=.returned v/\uE w mb W' n tab/\wM mb W'.heap.size W' v (.flags t m):=by
 have hlt:=H.tab.map.lt;have HH:=ι H;have HB:=ι (xHd W (.cells #[.int .i64 t] 3) (.cells #[.int .i64 m] 3));have Hx:=ι (zK W (.cells #[.int .i64 t] 3) (.cells #[.int .i64 m] 3));have Hy:=ι (zD W (.cells #[.int .i64 t] 3) (.cells #[.int .i64 m] 3));clear H
 go_enter func54,ntmps54;go_wp2;go_ret;refine⟨_,rfl,HH.o.kept HB.o,W.heap.size,W.heap.size+1,rfl,hlt,by simp;omega,ω,σ,Hx.o,Hy.o⟩
theorem xX4 {w W:World} {mb n:Nat} {tab:List (Bs×Value)} (H:uE w mb W n tab):
  Calls prog 55 #[.func (.func 56) #[] #[]] W λe W'=>∃v,e=.returned v/\uE w mb W' n tab/\wM mb W'.heap.size W' v (.size true):=by
 have hlt:=H.tab.map.lt;have HH:=ι H;have HB:=ι (φ W (.cells #[.func (.func 56) #[] #[]] 144));have Hx:=ι (xI W (.cells #[.func (.func 56) #[] #[]] 144));clear H;go_enter func55,ntmps55;go_wp2;go_ret;refine⟨_,rfl,HH.o.kept HB.o,W.heap.size,rfl,hlt,σ,Hx.o⟩
theorem xX5 {w W:World} {mb n:Nat} {tab:List (Bs×Value)} (H:uE w mb W n tab):
  Calls prog 55 #[.func (.func 57) #[] #[]] W λe W'=>∃v,e=.returned v/\uE w mb W' n tab/\wM mb W'.heap.size W' v (.size false):=by
 have hlt:=H.tab.map.lt;have HH:=ι H;have HB:=ι (φ W (.cells #[.func (.func 57) #[] #[]] 144));have Hx:=ι (xI W (.cells #[.func (.func 57) #[] #[]] 144));clear H;go_enter func55,ntmps55;go_wp2;go_ret;refine⟨_,rfl,HH.o.kept HB.o,W.heap.size,rfl,hlt,σ,Hx.o⟩
theorem xIc {w W:World} {mb n:Nat} {tab:List (Bs×Value)} (H:uE w mb W n tab) (nm:Bs):
  Calls prog 58 #[xK nm] W λe W'=>∃v,e=.returned v/\uE w mb W' n tab/\wM mb W'.heap.size W' v (.field nm):=by
 have hlt:=H.tab.map.lt;have HH:=ι H;have HB:=ι (φ W (.cells #[xK nm] 9));have Hx:=ι (xI W (.cells #[xK nm] 9));clear H;go_enter func58,ntmps58;go_wp2;go_ret;refine⟨_,rfl,HH.o.kept HB.o,W.heap.size,rfl,hlt,σ,Hx.o⟩
theorem xWv {w W:World} {mb n:Nat} {tab:List (Bs×Value)} (H:uE w mb W n tab):
  Calls prog 60 #[.func (.func 61) #[] #[]] W λe W'=>∃v,e=.returned v/\uE w mb W' n tab/\wM mb W'.heap.size W' v (.text true):=by
 have hlt:=H.tab.map.lt;have HH:=ι H;have HB:=ι (φ W (.cells #[.func (.func 61) #[] #[]] 147));have Hx:=ι (xI W (.cells #[.func (.func 61) #[] #[]] 147));clear H;go_enter func60,ntmps60;go_wp2;go_ret;refine⟨_,rfl,HH.o.kept HB.o,W.heap.size,rfl,hlt,σ,Hx.o⟩
theorem xWw {w W:World} {mb n:Nat} {tab:List (Bs×Value)} (H:uE w mb W n tab):
  Calls prog 60 #[.func (.func 62) #[] #[]] W λe W'=>∃v,e=.returned v/\uE w mb W' n tab/\wM mb W'.heap.size W' v (.text false):=by
 have hlt:=H.tab.map.lt;have HH:=ι H;have HB:=ι (φ W (.cells #[.func (.func 62) #[] #[]] 147));have Hx:=ι (xI W (.cells #[.func (.func 62) #[] #[]] 147));clear H;go_enter func60,ntmps60;go_wp2;go_ret;refine⟨_,rfl,HH.o.kept HB.o,W.heap.size,rfl,hlt,σ,Hx.o⟩
theorem xPy (w:World):Calls prog 26 #[] w λe W=>∃tab,e=.returned (.map (some w.heap.size))/\uE w w.heap.size W 25 tab:=by
 have H:=ι (uE.start w);have hmm:(Instr.makeMap 83 none).run prog w=.ok (.map (some w.heap.size)) (w.alloc (.map #[] 0)):=rfl;go_enter func26,ntmps26;go_wp2_with fail
 clear hmm;refine(vR H.o 0 0).mono ?_;rintro e w1 ⟨v,rfl,h1,hv⟩;obtain⟨w9,zJ,hrun,h9⟩:∃w9 zJ,(Instr.mapUpdate 83 (.map (some w.heap.size)) (.string ⟨#[65,76,76]⟩) v).run prog w1=.ok () w9/\uE w w.heap.size w9 1 zJ:=h1.step ν rfl hv
 replace H:=ι h9
 clear h1 hv h9;simp only[];repeat go_step
 clear hrun;refine(vR H.o 1 0).mono ?_;rintro e w1 ⟨v,rfl,h1,hv⟩;obtain⟨w9,zJ,hrun,h9⟩:∃w9 zJ,(Instr.mapUpdate 83 (.map (some w.heap.size)) (.string ⟨#[83,69,69,78]⟩) v).run prog w1=.ok () w9/\uE w w.heap.size w9 2 zJ:=h1.step ν rfl hv
 replace H:=ι h9
 clear h1 hv h9;simp only[];repeat go_step
 clear hrun;refine(vR H.o 0 1).mono ?_;rintro e w1 ⟨v,rfl,h1,hv⟩;obtain⟨w9,zJ,hrun,h9⟩:∃w9 zJ,(Instr.mapUpdate 83 (.map (some w.heap.size)) (.string ⟨#[85,78,83,69,69,78]⟩) v).run prog w1=.ok () w9/\uE w w.heap.size w9 3 zJ:=h1.step ν rfl hv
 replace H:=ι h9
 clear h1 hv h9;simp only[];repeat go_step
 clear hrun;refine(vR H.o 2 0).mono ?_;rintro e w1 ⟨v,rfl,h1,hv⟩;obtain⟨w9,zJ,hrun,h9⟩:∃w9 zJ,(Instr.mapUpdate 83 (.map (some w.heap.size)) (.string ⟨#[65,78,83,87,69,82,69,68]⟩) v).run prog w1=.ok () w9/\uE w w.heap.size w9 4 zJ:=h1.step ν rfl hv
 replace H:=ι h9
 clear h1 hv h9;simp only[];repeat go_step
 clear hrun;refine(vR H.o 0 2).mono ?_;rintro e w1 ⟨v,rfl,h1,hv⟩;obtain⟨w9,zJ,hrun,h9⟩:∃w9 zJ,(Instr.mapUpdate 83 (.map (some w.heap.size)) (.string ⟨#[85,78,65,78,83,87,69,82,69,68]⟩) v).run prog w1=.ok () w9/\uE w w.heap.size w9 5 zJ:=h1.step ν rfl hv
 replace H:=ι h9
 clear h1 hv h9;simp only[];repeat go_step
 clear hrun;refine(vR H.o 4 0).mono ?_;rintro e w1 ⟨v,rfl,h1,hv⟩;obtain⟨w9,zJ,hrun,h9⟩:∃w9 zJ,(Instr.mapUpdate 83 (.map (some w.heap.size)) (.string ⟨#[70,76,65,71,71,69,68]⟩) v).run prog w1=.ok () w9/\uE w w.heap.size w9 6 zJ:=h1.step ν rfl hv
 replace H:=ι h9
 clear h1 hv h9;simp only[];repeat go_step
 clear hrun;refine(vR H.o 0 4).mono ?_;rintro e w1 ⟨v,rfl,h1,hv⟩;obtain⟨w9,zJ,hrun,h9⟩:∃w9 zJ,(Instr.mapUpdate 83 (.map (some w.heap.size)) (.string ⟨#[85,78,70,76,65,71,71,69,68]⟩) v).run prog w1=.ok () w9/\uE w w.heap.size w9 7 zJ:=h1.step ν rfl hv
 replace H:=ι h9
 clear h1 hv h9;simp only[];repeat go_step
 clear hrun;refine(vR H.o 8 0).mono ?_;rintro e w1 ⟨v,rfl,h1,hv⟩;obtain⟨w9,zJ,hrun,h9⟩:∃w9 zJ,(Instr.mapUpdate 83 (.map (some w.heap.size)) (.string ⟨#[68,69,76,69,84,69,68]⟩) v).run prog w1=.ok () w9/\uE w w.heap.size w9 8 zJ:=h1.step ν rfl hv
 replace H:=ι h9
 clear h1 hv h9;simp only[];repeat go_step
 clear hrun;refine(vR H.o 0 8).mono ?_;rintro e w1 ⟨v,rfl,h1,hv⟩;obtain⟨w9,zJ,hrun,h9⟩:∃w9 zJ,(Instr.mapUpdate 83 (.map (some w.heap.size)) (.string ⟨#[85,78,68,69,76,69,84,69,68]⟩) v).run prog w1=.ok () w9/\uE w w.heap.size w9 9 zJ:=h1.step ν rfl hv
 replace H:=ι h9
 clear h1 hv h9;simp only[];repeat go_step
 clear hrun;refine(vR H.o 16 0).mono ?_;rintro e w1 ⟨v,rfl,h1,hv⟩;obtain⟨w9,zJ,hrun,h9⟩:∃w9 zJ,(Instr.mapUpdate 83 (.map (some w.heap.size)) (.string ⟨#[68,82,65,70,84]⟩) v).run prog w1=.ok () w9/\uE w w.heap.size w9 10 zJ:=h1.step ν rfl hv
 replace H:=ι h9
 clear h1 hv h9;simp only[];repeat go_step
 clear hrun;refine(vR H.o 0 16).mono ?_;rintro e w1 ⟨v,rfl,h1,hv⟩;obtain⟨w9,zJ,hrun,h9⟩:∃w9 zJ,(Instr.mapUpdate 83 (.map (some w.heap.size)) (.string ⟨#[85,78,68,82,65,70,84]⟩) v).run prog w1=.ok () w9/\uE w w.heap.size w9 11 zJ:=h1.step ν rfl hv
 replace H:=ι h9
 clear h1 hv h9;simp only[];repeat go_step
 clear hrun;refine(vR H.o 32 0).mono ?_;rintro e w1 ⟨v,rfl,h1,hv⟩;obtain⟨w9,zJ,hrun,h9⟩:∃w9 zJ,(Instr.mapUpdate 83 (.map (some w.heap.size)) (.string ⟨#[82,69,67,69,78,84]⟩) v).run prog w1=.ok () w9/\uE w w.heap.size w9 12 zJ:=h1.step ν rfl hv
 replace H:=ι h9
 clear h1 hv h9;simp only[];repeat go_step
 clear hrun;refine(vR H.o 0 32).mono ?_;rintro e w1 ⟨v,rfl,h1,hv⟩;obtain⟨w9,zJ,hrun,h9⟩:∃w9 zJ,(Instr.mapUpdate 83 (.map (some w.heap.size)) (.string ⟨#[79,76,68]⟩) v).run prog w1=.ok () w9/\uE w w.heap.size w9 13 zJ:=h1.step ν rfl hv
 replace H:=ι h9
 clear h1 hv h9;simp only[];repeat go_step
 clear hrun;refine(vR H.o 32 1).mono ?_;rintro e w1 ⟨v,rfl,h1,hv⟩;obtain⟨w9,zJ,hrun,h9⟩:∃w9 zJ,(Instr.mapUpdate 83 (.map (some w.heap.size)) (.string ⟨#[78,69,87]⟩) v).run prog w1=.ok () w9/\uE w w.heap.size w9 14 zJ:=h1.step ν rfl hv
 replace H:=ι h9
 clear h1 hv h9;simp only[];repeat go_step
 clear hrun;refine(xX4 H.o).mono ?_;rintro e w1 ⟨v,rfl,h1,hv⟩;obtain⟨w9,zJ,hrun,h9⟩:∃w9 zJ,(Instr.mapUpdate 83 (.map (some w.heap.size)) (.string ⟨#[76,65,82,71,69,82]⟩) v).run prog w1=.ok () w9/\uE w w.heap.size w9 15 zJ:=h1.step ν rfl hv
 replace H:=ι h9
 clear h1 hv h9;simp only[];repeat go_step
 clear hrun;refine(xX5 H.o).mono ?_;rintro e w1 ⟨v,rfl,h1,hv⟩;obtain⟨w9,zJ,hrun,h9⟩:∃w9 zJ,(Instr.mapUpdate 83 (.map (some w.heap.size)) (.string ⟨#[83,77,65,76,76,69,82]⟩) v).run prog w1=.ok () w9/\uE w w.heap.size w9 16 zJ:=h1.step ν rfl hv
 replace H:=ι h9
 clear h1 hv h9;simp only[];repeat go_step
 clear hrun;refine(xIc H.o yA8).mono ?_;rintro e w1 ⟨v,rfl,h1,hv⟩;obtain⟨w9,zJ,hrun,h9⟩:∃w9 zJ,(Instr.mapUpdate 83 (.map (some w.heap.size)) (.string ⟨#[70,82,79,77]⟩) v).run prog w1=.ok () w9/\uE w w.heap.size w9 17 zJ:=h1.step ν rfl hv
 replace H:=ι h9
 clear h1 hv h9;simp only[];repeat go_step
 clear hrun;refine(xIc H.o wTO).mono ?_;rintro e w1 ⟨v,rfl,h1,hv⟩;obtain⟨w9,zJ,hrun,h9⟩:∃w9 zJ,(Instr.mapUpdate 83 (.map (some w.heap.size)) (.string ⟨#[84,79]⟩) v).run prog w1=.ok () w9/\uE w w.heap.size w9 18 zJ:=h1.step ν rfl hv
 replace H:=ι h9
 clear h1 hv h9;simp only[];repeat go_step
 clear hrun;refine(xIc H.o xHa).mono ?_;rintro e w1 ⟨v,rfl,h1,hv⟩;obtain⟨w9,zJ,hrun,h9⟩:∃w9 zJ,(Instr.mapUpdate 83 (.map (some w.heap.size)) (.string ⟨#[83,85,66,74,69,67,84]⟩) v).run prog w1=.ok () w9/\uE w w.heap.size w9 19 zJ:=h1.step ν rfl hv
 replace H:=ι h9
 clear h1 hv h9;simp only[];obtain⟨w9a,tab19,hrun19,h9⟩:∃wz yAi,(Instr.mapUpdate 83 (.map (some w.heap.size)) (.string ⟨#[72,69,65,68,69,82]⟩) (.func (.func 59) #[] #[])).run prog w9=.ok () wz/\uE w w.heap.size wz 20 yAi:=H.o.step ν rfl rfl
 replace H:=ι h9
 clear h9;repeat go_step
 clear hrun hrun19;refine(xWv H.o).mono ?_;rintro e w1 ⟨v,rfl,h1,hv⟩;obtain⟨w9,zJ,hrun,h9⟩:∃w9 zJ,(Instr.mapUpdate 83 (.map (some w.heap.size)) (.string ⟨#[66,79,68,89]⟩) v).run prog w1=.ok () w9/\uE w w.heap.size w9 21 zJ:=h1.step ν rfl hv
 replace H:=ι h9
 clear h1 hv h9;simp only[];repeat go_step
 clear hrun;refine(xWw H.o).mono ?_;rintro e w1 ⟨v,rfl,h1,hv⟩;obtain⟨w9,zJ,hrun,h9⟩:∃w9 zJ,(Instr.mapUpdate 83 (.map (some w.heap.size)) (.string ⟨#[84,69,88,84]⟩) v).run prog w1=.ok () w9/\uE w w.heap.size w9 22 zJ:=h1.step ν rfl hv
 replace H:=ι h9
 clear h1 hv h9;simp only[];obtain⟨w9d,tab22,hrun22,h9⟩:∃wz yAi,(Instr.mapUpdate 83 (.map (some w.heap.size)) (.string ⟨#[85,73,68]⟩) (.func (.func 63) #[] #[])).run prog w9=.ok () wz/\uE w w.heap.size wz 23 yAi:=H.o.step ν rfl rfl
 replace H:=ι h9
 clear h9;obtain⟨w9e,tab23,hrun23,h9⟩:∃wz yAi,(Instr.mapUpdate 83 (.map (some w.heap.size)) (.string ⟨#[78,79,84]⟩) (.func (.func 64) #[] #[])).run prog w9d=.ok () wz/\uE w w.heap.size wz 24 yAi:=H.o.step ν rfl rfl
 replace H:=ι h9
 clear h9;obtain⟨w9f,tab24,hrun24,h9⟩:∃wz yAi,(Instr.mapUpdate 83 (.map (some w.heap.size)) (.string ⟨#[79,82]⟩) (.func (.func 65) #[] #[])).run prog w9e=.ok () wz/\uE w w.heap.size wz 25 yAi:=H.o.step ν rfl rfl
 replace H:=ι h9
 clear h9;repeat go_step
 clear hrun hrun22 hrun23 hrun24;go_wp2;go_ret;exact⟨_,rfl,H.o⟩
def FnV (v:Value):Prop:=v=.nilFunc∨∃id wB,v=.func (.func id) #[] wB
def pE (q:Rg) (rb mb:Nat) (W:World) (o:Option (vU×List Bs)) (e:Ending) (W':World):Prop:=Kp (nq rb) W W'/\match o with
 |none=>∃v,FnV v/\e=.returned (.tuple #[v,.bool false])
 |some (k,r)=>∃v,e=.returned (.tuple #[v,.bool true])/\xW0 q W' v (jD k)/\rA rb mb W' r
structure Env (q:Rg) (rb mb hi:Nat) (m:Int) (tab:List (Bs×Value)) (W:World):Prop where
 tab:TabAt mb hi W kinds tab
 lo:mb<hi
 hi:hi<=q.lo
 inr:q.lo<=rb/\rb<q.hi
 lt:q.hi<=W.heap.size/\q.one<W.heap.size
 low:2<q.one/\q.one<mb
 max:W.cell? ⟨2,0,none⟩=some (.int .i64 m)
theorem rT {b:Rg} {w w':World} (h:Kp b w w') {p:Addr} (hp:p.block<w.heap.size) (hne:¬b.has p.block):w'.cell? p=w.cell? p:=World.cell?_of_block (h.block p.block hp hne)
theorem yB.kx {q:Rg} {w w':World} {b:Nat} {tab:List (Bs×Value)} (h:yB w b tab) (hk:Kp q w w') (hne:¬q.has b):yB w' b tab:=by
 obtain⟨es,c,h1,h2⟩:=h;exact⟨es,c,(hk.block b (xJ h1) hne).trans h1,h2⟩
theorem Env.kept {q:Rg} {rb mb hi:Nat} {m:Int} {tab:List (Bs×Value)} {W W':World} (h:Env q rb mb hi m tab W) (hk:Kp q W W'):Env q rb mb hi m tab W':=
 ⟨⟨h.tab.map.kx hk (λe=>by have:=h.lo;have:=h.hi;have:=h.low;unfold Rg.has at e;omega),h.tab.keys,λj p k h1 h2=>(h.tab.each j p k h1 h2).kept (λb h3 h4=>hk.block b (by have:=h.hi;have:=h.lt;have:=h.low;have:=h.inr;omega) (λe=>by have:=h.hi;have:=h.low;unfold Rg.has at e;omega))⟩,h.lo,h.hi,h.inr,⟨Nat.le_trans h.lt.1 hk.size,Nat.lt_of_lt_of_le h.lt.2 hk.size⟩,h.low,
  (rT hk (World.block_lt_of_cell? W _ h.max) (λe=>by have:=h.lo;have:=h.hi;have:=h.low;unfold Rg.has at e;simp only at e;omega)).trans h.max⟩
theorem rA.kept {rb mb:Nat} {W W':World} {ws:List Bs} (h:rA rb mb W ws) (hb:ψ W W'):rA rb mb W' ws:=by
 obtain⟨sv,h1,h2⟩:=h;exact⟨sv,xC h1 hb (xJ h1),h2.below hb (Nat.le_of_lt (xJ h1))⟩
theorem xXg {b:Rg} {w w':World} {B:Nat} {v:Value} {L:List (Int×Int)} (h:SP.zP w B v L) (hk:Kp b w w') (hb:b.hi<=B/\b.one<B):SP.zP w' B v L:=by
 refine⟨h.1,?_⟩;rcases h.2 with hn|⟨g,cap,cur,h1,h2,h3,h4⟩
 ·exact .inl hn
 ·exact .inr ⟨g,cap,cur,h1,h2,(hk.block g (xJ h3) (λe=>by unfold Rg.has at e;omega)).trans h3,h4⟩
theorem xT1 {s:Bs} {L:List (Int×Int)} (h:jL s=some L):L.length<=s.length+1:=by
 unfold jL at h;split at h
 ·injection h with h;rw[<-h,List.length_map];exact xG8 44 s
 ·cases h
theorem xLk (u:Bool) (x:Bs) (hx:x.length<=1000) (m:Int) (W:World) (hm:W.cell? ⟨2,0,none⟩=some (.int .i64 m)):
  Calls prog 68 #[xK x,.func (.func (xZ9 u)) #[] #[]] W λe W'=>ψ W W'/\match jL x with
   |none=>e=.returned (.tuple #[.nilFunc,.bool false])
   |some R=>∃v,e=.returned (.tuple #[v,.bool true])/\∀q:Rg,(q.hi<=W.heap.size/\q.one<W.heap.size)->xW0 q W' v (jD (.set u R)):=by
 have HB1:=ι (φ W (.cells #[.func (.func (xZ9 u)) #[] #[]] 151));have P1:=ι (xI W (.cells #[.func (.func (xZ9 u)) #[] #[]] 151));have HP:=ι (SP.xBs ⟨x.toArray⟩ m _ (by show x.length<=_;omega) (xBz hm HB1.o));rw[show(⟨x.toArray⟩:ByteArray).data.toList=x from rfl] at HP;clear hm
 cases hp:jL x with
 |none=>
  rw[hp] at HP;clear hp;go_enter func68,ntmps68;go_wp2_with fail
  refine HP.o.mono ?_;rintro e w2 ⟨rfl,hb2⟩;have HB2:=ι (HB1.o.trans (hb2.mono HB1.o.size));have HB3:=ι (HB2.o.alloc HB2.o.size (.cells #[.slice none 0 0] 199));clear hb2 HP;go_wp2;go_ret2;exact⟨HB3.o,rfl⟩
 |some R=>
  have hRl:=xT1 hp;rw[hp] at HP;clear hp;go_enter func68,ntmps68;go_wp2_with fail
  refine HP.o.mono ?_;rintro e w2 ⟨sv,rfl,hown,hb2⟩
  obtain⟨A,c,e9⟩:∃A c,sv=.slice A R.length c:=by
   rcases hown.2 with ⟨h1,h2⟩|⟨g,cap,cur,h1,_⟩
   ·exact⟨none,0,by rw[h1,h2]⟩
   ·exact⟨_,_,h1⟩
  subst e9;have HB2:=ι (HB1.o.trans (hb2.mono HB1.o.size));have HB3:=ι (HB2.o.alloc HB2.o.size (.cells #[.slice A R.length c] 199));have P3:=ι (xM (xC P1.o hb2 σ) (.cells #[.slice A R.length c] 199));have Q3:=ι (xI w2 (.cells #[.slice A R.length c] 199))
  have O3:=ι (World.ownsRow.alloc hown (.cells #[.slice A R.length c] 199));have hz1:W.heap.size<w2.heap.size:=Nat.lt_of_lt_of_le σ hb2.size;clear hb2 hown HP;go_wp2;go_ret2;refine⟨HB3.o,_,rfl,λq hrb=>⟨_,_,rfl,enters_of func146 κ rfl,λX hX v _=>?_⟩⟩
  have h1:=uP P3.o hX (λh=>by unfold Rg.has at h;omega);have h2:=uP Q3.o hX (λh=>by unfold Rg.has at h;omega);have h3:SP.zP X (W.alloc (.cells #[.func (.func (xZ9 u)) #[] #[]] 151)).heap.size (.slice A R.length c) R:=xXg O3.o hX (by simp;omega)
  exact xX6 u _ _ _ R v X h1 h2 h3.rd ω
theorem kG (nm x:Bs) (hn:nm.length<=1000000) (hx:x.length<=1000000) (m:Int) (W:World) (hm:W.cell? ⟨2,0,none⟩=some (.int .i64 m)):
  Calls prog 137 #[xK nm,xK x] W λe W'=>ψ W W'/\∃v,e=.returned v/\FnV v/\∀q:Rg,(q.hi<=W.heap.size/\q.one<W.heap.size)->(2<q.lo/\2<q.one)->xW0 q W' v (jD (.field nm x)):=by
 have HB:=ι (xHd W (.cells #[xK nm] 9) (.cells #[xK x] 9));have Hx:=ι (zK W (.cells #[xK nm] 9) (.cells #[xK x] 9));have Hy:=ι (zD W (.cells #[xK nm] 9) (.cells #[xK x] 9));have Hm:=ι hm;clear hm;go_enter func137,ntmps137;go_wp2;go_ret
 refine⟨HB.o,_,rfl,.inr ⟨_,_,rfl⟩,λq hrb h0=>⟨_,_,rfl,enters_of func231 κ rfl,λX hX v hg=>?_⟩⟩;have hm0:=xBz Hm.o HB.o
 exact xIi _ _ nm x m v X hg hn hx ((rT hX (World.block_lt_of_cell? _ _ hm0) (λe=>by unfold Rg.has at e;simp only at e;omega)).trans hm0) (uP Hx.o hX (λh=>by unfold Rg.has at h;omega)) (uP Hy.o hX (λh=>by unfold Rg.has at h;omega))
end Go.Proofs.QU