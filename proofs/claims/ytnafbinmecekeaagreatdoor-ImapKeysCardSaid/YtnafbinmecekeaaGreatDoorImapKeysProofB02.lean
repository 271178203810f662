/- Contracts of functions. Conditions: as stated. -/
import Derived.Test.YtnafbinmecekeaaGreatDoorImapKeysProofB01
import Derived.Laws.EntriesVeiled
import Derived.OpenShut
open Go.Proofs.Tryz
set_option maxHeartbeats 8000000
set_option maxRecDepth 100000
namespace Go.Proofs.VB
open Go.RowKit Mailsack MM BU
def xTm (m:Nat):UInt8:=UInt8.ofNat (48+m % 10)
theorem yAn (m:Nat):((xTm m).toNat:Int)=48+(m:Int) % 10:=by
 unfold xTm;have h:48+m % 10<256:=ω;rw[UInt8.toNat_ofNat',Nat.mod_eq_of_lt h];omega
theorem xQk (W:World) (m:Nat):(convert 125 9 (.slice (some ⟨W.heap.size,0,none⟩) 1 1)).run prog (W.alloc (.cells #[.int .u8 (48+(m:Int) % 10)] 5))=.ok (.string ⟨#[xTm m]⟩) (W.alloc (.cells #[.int .u8 (48+(m:Int) % 10)] 5)):=by
 have:=yAs W (xTm m);rw[yAn] at this;exact this
def xLu (m:Nat):Bs:=if m<10 then[] else Lib.decDigits (m / 10)
theorem xQh (m:Nat):Lib.decDigits m=xLu m++[xTm m]:=by
 unfold xLu xTm;rw[Lib.decDigits]
 by_cases h:m<10
 ·rw[dif_pos h,if_pos h,Nat.mod_eq_of_lt h];rfl
 ·rw[dif_neg h,if_neg h]
theorem yCw (n:Nat) (w:World) (hn:n<=1000000):
  Calls prog 33 #[.int .i64 n] w λe w'=>e=.returned (xR (Lib.decDigits n))/\ψ w w':=by
 have hcv:=λW=>xQk W n;have hd:=ι (xQh n);have hlen:=xSv hn;generalize Lib.decDigits n=R at hd hlen;have h0:Hid (R=xLu n++[xTm n]):=hd;clear hd;go_enter func33,ntmps33;go_wp2;clear hcv
 go_loopw [0,3] (λiv sv wr=>∃(m:Nat) (l:Bs),m<=n/\iv=.int .i64 m/\sv=xR l/\Hid (R=xLu m++l)/\Hid (ψ w wr)) (λiv _ _=>(intOf iv).toNat)
 case atStart=>exact⟨n,[xTm n],Nat.le_refl _,rfl,rfl,h0,ι ((Below.refl _ _).alloc ν _)⟩
 case round=>
  obtain⟨m,l,hm,rfl,rfl,hR,hb⟩:=hrel
  by_cases h9:9<m
  ·have hcv:=λW=>xQk W (m / 10);have hl:l.length<=7:=by have:=congrArg List.length hR.o;rw[List.length_append] at this;omega
   have hl2:(⟨l.toArray⟩:ByteArray).size<=7:=hl
   have hR2:Hid (R=xLu (m / 10)++(xTm (m / 10)::l)):=ι (by
    rw[hR.o];conv=>lhs;unfold xLu;rw[if_neg ω,xQh (m / 10)];simp)
   rw[show((m / 10:Nat):Int)=(m:Int) / 10 by omega] at hcv;have big:¬9223372036854775807<1+(⟨l.toArray⟩:ByteArray).size:=ω;clear hl;go_wp2
   go_roundw
   case rel=>exact⟨m / 10,xTm (m / 10)::l,ω,by go_num,by rw[show(⟨#[xTm (m / 10)]⟩:ByteArray)=⟨([xTm (m / 10)]:Bs).toArray⟩ from rfl,xXt];rfl,hR2,ι (hb.o.alloc hb.o.size _)⟩
   case measure=>simp[intOf];omega
  ·have hz:xLu m=[]:=by unfold xLu;rw[if_pos ω]
   have hR2:=hR.o;rw[hz,List.nil_append] at hR2;have HR2:=ι hR2;clear hR2 hz;go_wp2;go_ret;refine⟨?_,hb.o⟩;rw[HR2.o]
   rfl
end Go.Proofs.VB
namespace Mailsack
abbrev Tok:=Nat×Bs
def kJ (T:List Tok) (t:Tok):List Tok:=if T.length<=40 then T++[t] else T
def xTe:Bs->Bs->Option (Bs×Nat)
 |_,[]=>none
 |acc,c::r=>if c=34 then some (acc,r.length) else if c=92 then
   match r with
   |[]=>none
   |d::r'=>if d=92∨d=34 then xTe (acc++[d]) r' else none
  else xTe (acc++[c]) r
def wQ:Nat->Bs->List Tok->Nat->Option (List Tok×Nat)
 |_,[],T,d=>some (T,d)
 |0,_::_,_,_=>none
 |f+1,c::r,T,d=>
  if c=32 then wQ f r T d
  else if c=40 then wQ f r (kJ T (2,[])) (d+1)
  else if c=41 then(if d=0 then none else wQ f r (kJ T (3,[])) (d-1))
  else if c=34 then(match xTe [] r with
   |none=>none
   |some (q,n)=>wQ f (r.drop (r.length-n)) (kJ T (1,q)) d)
  else wQ f ((c::r).drop (jQ (c::r))) (kJ T (0,(c::r).take (jQ (c::r)))) d
def xCc (lits:List Bs):Nat->List Bs->List Tok->Nat->Option (List Tok×Nat)
 |_,[],T,d=>some (T,d)
 |i,t::ts,T,d=>
  if uM t=true then
   match wQ t.length t (if 0<i then kJ T (1,lits.getD (i-1) []) else T) d with
   |none=>none
   |some (T2,d2)=>xCc lits (i+1) ts T2 d2
  else none
def rV (texts lits:List Bs):Option (List Tok):=
 if texts.length=lits.length+1 then
  match xCc lits 0 texts [] 0 with
  |none=>none
  |some (T,d)=>if d=0/\T.length<=40 then some T else none
 else none
theorem yCa:∀(l acc q:Bs) (n:Nat),xTe acc l=some (q,n)->n<l.length:=by
 intro l
 induction hl:l.length using Nat.strongRecOn generalizing l with
 |ind m ih=>
  intro acc q n h;cases l with
  |nil=>simp[xTe] at h
  |cons c r=>
   unfold xTe at h;simp only[List.length_cons] at hl;split at h
   ·simp at h;omega
   ·split at h
    ·cases r with
     |nil=>simp at h
     |cons d r'=>
      simp only at h;split at h
      ·simp only[List.length_cons] at hl;have:=ih r'.length ω r' rfl _ _ _ h;omega
      ·cases h
    ·have:=ih r.length ω r rfl _ _ _ h;omega
theorem xN1 {c:UInt8} {r:Bs} (h:uS c=false):0<jQ (c::r):=by
 unfold jQ;rw[List.takeWhile_cons,if_pos (by rw[h];rfl)];simp
end Mailsack
namespace Go.Proofs.VB
open Go.RowKit Mailsack MM BU
def kW (T:List Tok):List Value:=T.flatMap λt=>[.int .i64 t.1,xR t.2]
theorem xIz (T:List Tok) (t:Tok):kW (T++[t])=kW T++[.int .i64 t.1,xR t.2]:=by simp[kW]
abbrev xYc (w:World) (B:Nat) (v:Value) (T:List Tok):Prop:=w.ownsRow B 121 2 v T.length (kW T)
def Scn (B b:Nat) (T:List Tok) (d:Nat) (w:World):Prop:=
 B<=b/\T.length<=41/\∃v,w.heap[b]?=some (.cells #[v,.int .i64 d] 191 (0,0))/\xYc w B v T/\v.ownBlock≠some b
theorem yDs:(prog.info? 121).map (λi=>(i.zero.map (·.cells.size),i.size,i.bytes))=some (some 2,2,24):=κ
theorem own_ne {w:World} {B b:Nat} {v:Value} {T:List Tok} {cs:Array Value} (h:xYc w B v T) (hb:w.heap[b]?=some (.cells cs 191 (0,0))):v.ownBlock≠some b:=by
 rcases h.2 with ⟨h1,_⟩|⟨g,cap,cur,h1,_,h3,_⟩
 ·rw[h1];simp[Value.ownBlock]
 ·rw[h1];intro e;have e:g=b:=by simpa[Value.ownBlock] using e
  rw[e,hb] at h3;injection h3 with h3;injection h3 with _ h3;exact absurd h3 δ
theorem Scn.keep {B b:Nat} {T:List Tok} {d:Nat} {w w':World} (h:Scn B b T d w) (hb:ψ w w'):Scn B b T d w':=by
 obtain⟨h1,h2,v,h3,h4,h5⟩:=h;exact⟨h1,h2,v,xD h3 hb (xH h3),h4.kept (pQ hb none) (by cases v.ownBlock<;>simp),h5⟩
theorem Scn.deep {B b:Nat} {T:List Tok} {d:Nat} {w:World} (h:Scn B b T d w) (d':Nat):Scn B b T d' (w.setCell ⟨b,1,none⟩ (.int .i64 d')):=by
 obtain⟨h1,h2,v,h3,h4,h5⟩:=h;refine⟨h1,h2,v,xY h3 1 _,?_,h5⟩;exact h4.kept (row:=some b) ⟨rfl,rfl,rfl,by simp[World.setCell],λk _ hk=>Below.heap_setCell _ _ _ _ (λe=>hk (by simp[e]))⟩ (Or.inr h5)
theorem xC4 (B b:Nat) (T:List Tok) (d:Nat) (k:Nat) (s:ByteArray) (w:World) (h:Scn B b T d w) (hB:B<=w.heap.size):
  Calls prog 104 #[.pointer (some ⟨b,0,none⟩),.int .i64 k,.string s] w λe w'=>e=.returned (.tuple #[])/\Scn B b (kJ T (k,s.data.toList)) d w'/\Below B w w':=by
 have Hh:=ι h;obtain⟨hBb,hT,v,hbk,hown,hne⟩:=h;obtain⟨i0,hi,hi'⟩:=Option.map_eq_some_iff.1 yDs;injection hi' with hz0 hi';injection hi' with hz1 hz2;obtain⟨z,hz0,hzs⟩:=Option.map_eq_some_iff.1 hz0
 obtain⟨A,cp,e9⟩:∃A cp,v=.slice A T.length cp:=by
  rcases hown.2 with ⟨h1,h2⟩|⟨g,cap,cur,h1,_⟩
  ·exact⟨none,0,by rw[h1,h2]⟩
  ·exact⟨_,_,h1⟩
 subst e9;have hown':=ι hown;have Hne:=ι hne;have Hbk:=ι hbk;have k1:w.cell? ⟨b,0,none⟩=some (.slice A T.length cp):=xA hbk 0;have hlt:=xH hbk;clear hown hne hbk
 by_cases h40:T.length<=40
 ·have hadd:kJ T (k,s.data.toList)=T++[(k,s.data.toList)]:=by unfold kJ;rw[if_pos h40]
  rw[hadd];clear hadd;go_enter func104,ntmps104
  go_wp2_with (at_builtin;refine wpList_append_lies _ rfl _ _ 117 rfl B 121 i0 z 2 24 underlying117 hi hz0 hz1 hz2 hzs δ _ _ _ rfl (World.ownsRow.alloc hown'.o _) ⟨w.heap.size,0,none⟩ 1 1 [.int .i64 k,.string s] rfl rfl (World.news_of_block (xM _ _)) (by intro u hu;simp at hu;rcases hu with rfl|rfl<;>rfl) δ (by unfold maxLen;omega) ω (by simp;omega) (w.heap.size+1) σ ?_;intro g cap w2 hown2 hgrow hat hlt2;have pk:=ι (vR (xO Hbk.o _) hgrow (λe=>Hne.o e.symm));have k2:w2.cell? ⟨b,0,none⟩=some (.slice A T.length cp):=xA pk.o 0;have y2:w2.frozen? ⟨b,0,none⟩=false:=xB pk.o 0;have xKh:=ι hown2;have xHn:=ι hgrow;clear hown2 hgrow)
  go_end0
  have hown3:xYc w2 B (.slice (some ⟨g,0,none⟩) (T.length+1) cap) (T++[(k,s.data.toList)]):=by
   unfold xYc;rw[xIz,List.length_append];exact xKh.o
  have hne3:=own_ne hown3 pk.o;refine⟨rfl,⟨hBb,by simp;omega,_,xY pk.o 0 _,?_,hne3⟩,?_⟩
  ·exact hown3.kept (row:=some b) ⟨rfl,rfl,rfl,by simp[World.setCell],λk _ hk=>Below.heap_setCell _ _ _ _ (λe=>hk (by simp[e]))⟩ (Or.inr hne3)
  ·refine Below.setCell ?_ (p:=⟨b,0,none⟩) hBb _;exact((Below.refl B w).alloc hB _).grown xHn.o (by simp;omega) (λk hk=>(World.ownsRow.lt hown'.o k hk).1)
 ·have hadd:kJ T (k,s.data.toList)=T:=by unfold kJ;rw[if_neg h40]
  rw[hadd];clear hadd;go_enter func104,ntmps104;go_wp2
  go_end0
  exact⟨rfl,Hh.o,Below.refl B w⟩
def unqV (sz:Nat):Option (Bs×Nat)->Value
 |none=>.tuple #[.string ⟨#[]⟩,.int .i64 0,.bool false]
 |some (q,n)=>.tuple #[xR q,.int .i64 ((sz-n:Nat):Int),.bool true]
theorem xUi {sz k:Nat} {acc:Bs} (h:k<sz):unqV sz (some (acc,sz- (k+1)))=.tuple #[xR acc,.int .i64 ((k:Int)+1),.bool true]:=by
 unfold unqV;simp only;rw[show((sz- (sz- (k+1)):Nat):Int)=(k:Int)+1 by omega]
theorem xFa (s:ByteArray) (k:Nat) (h:k<s.size):s.data.toList.drop k=s[k]::s.data.toList.drop (k+1):=by
 rw[List.drop_eq_getElem_cons (by rw[vN];exact h)];rfl
theorem xK5 (s:ByteArray) (k:Nat) (h:s.size<=k):s.data.toList.drop k=[]:=by
 rw[List.drop_eq_nil_iff,vN];exact h
theorem xBa (s:ByteArray) (k:Nat):(s.data.toList.drop k).length=s.size-k:=by rw[List.length_drop,vN]
theorem yC9 (s:ByteArray) (k0:Nat) (w:World) (hs:s.size<=1000000) (hk0:k0<=s.size):
  Calls prog 188 #[.string s,.int .i64 k0] w λe w'=>e=.returned (unqV s.size (xTe [] (s.data.toList.drop k0)))/\ψ w w':=by
 generalize hR:xTe [] (s.data.toList.drop k0)=R;have h0:=ι hR;clear hR;have hq0:=ι (Lib.fresh_isBuilder 127 5 w);go_enter func188,ntmps188;go_wp2_with fail
 go_loopw [1] (λiv wr=>∃(k:Nat) (acc:Bs),k<=s.size/\acc.length<=k/\iv=.int .i64 k/\Hid (xTe acc (s.data.toList.drop k)=R)/\Hid (Bld w.heap.size w.heap.size acc wr/\ψ w wr)) (λiv _=>s.size- (intOf iv).toNat)
 case atStart=>exact⟨k0,[],hk0,Nat.zero_le _,rfl,h0,ι ⟨hq0.o,(Below.refl _ _).alloc ν _⟩⟩
 case round=>
  obtain⟨k,acc,hk,hacc,rfl,HR0,hr⟩:=hrel;have hR:=HR0.o;clear hq0 h0 HR0
  by_cases hlt:k<s.size
  ·rw[xFa s k hlt] at hR;unfold xTe at hR
   by_cases h34:s[k]=34
   ·rw[if_pos h34,xBa] at hR;have HR:=ι hR.symm;have b1:((s[k].toNat:Int)==34)=true:=by rw[h34];rfl
    clear hR h34;go_wp2_with fail
    refine(Tryz.Builder_String_any w.heap.size w.heap.size _ _ hr.o.1 hr.o.2.size).mono ?_;rintro e w5 ⟨rfl,hb5⟩;go_wp2;go_ret3;refine⟨?_,hr.o.2.trans hb5⟩;rw[HR.o];rw[xUi hlt]
    rfl
   ·rw[if_neg h34] at hR;have b1:((s[k].toNat:Int)==34)=false:=by rw[beq_eq_false_iff_ne];intro e;exact h34 ((qM δ).1 e)
    clear h34
    by_cases h92:s[k]=92
    ·rw[if_pos h92] at hR;have b2:((s[k].toNat:Int)==92)=true:=by rw[h92];rfl
     clear h92
     by_cases hl2:k+1<s.size
     ·rw[xFa s (k+1) hl2] at hR;simp only at hR;have c0:(((k:Int)+1)==(s.size:Int))=false:=by rw[beq_eq_false_iff_ne];omega
      by_cases he:s[k+1]=92∨s[k+1]=34
      ·rw[if_pos he] at hR;have HR:=ι hR;clear hR;rcases he with he|he
       ·have d1:((s[k+1].toNat:Int)==92)=true:=by rw[he];rfl
        have d1':((s[k+1].toNat:Int)!=92)=false:=by rw[he];rfl
        clear he;go_wp2_with fail
        refine(rU w.heap.size w.heap.size acc s[k+1] _ hr.o.1 ω hr.o.2.size).mono ?_;rintro e w4 ⟨rfl,hq4,hb4⟩;have h4:Hid (Bld w.heap.size w.heap.size (acc++[s[k+1]]) w4/\ψ w w4):=ι ⟨hq4,hr.o.2.trans hb4⟩;clear hq4 hb4;go_wp2
        go_roundw
        case rel=>exact⟨k+1+1,acc++[s[k+1]],ω,by simp;omega,by go_num,HR,h4⟩
        case measure=>simp[intOf];omega
       ·have d1:((s[k+1].toNat:Int)==92)=false:=by rw[he];rfl
        have d1':((s[k+1].toNat:Int)!=92)=true:=by rw[he];rfl
        have d2:((s[k+1].toNat:Int)==34)=true:=by rw[he];rfl
        have d2':((s[k+1].toNat:Int)!=34)=false:=by rw[he];rfl
        clear he;go_wp2_with fail
        refine(rU w.heap.size w.heap.size acc s[k+1] _ hr.o.1 ω hr.o.2.size).mono ?_;rintro e w4 ⟨rfl,hq4,hb4⟩;have h4:Hid (Bld w.heap.size w.heap.size (acc++[s[k+1]]) w4/\ψ w w4):=ι ⟨hq4,hr.o.2.trans hb4⟩;clear hq4 hb4;go_wp2
        go_roundw
        case rel=>exact⟨k+1+1,acc++[s[k+1]],ω,by simp;omega,by go_num,HR,h4⟩
        case measure=>simp[intOf];omega
      ·rw[if_neg he] at hR;have HR:=ι hR.symm;have d1:((s[k+1].toNat:Int)==92)=false:=by rw[beq_eq_false_iff_ne];intro e;exact he (.inl ((qM δ).1 e))
       have d2:((s[k+1].toNat:Int)==34)=false:=by rw[beq_eq_false_iff_ne];intro e;exact he (.inr ((qM δ).1 e))
       have d1':((s[k+1].toNat:Int)!=92)=true:=by unfold bne;rw[d1];rfl
       have d2':((s[k+1].toNat:Int)!=34)=true:=by unfold bne;rw[d2];rfl
       clear hR he;go_wp2;go_ret3;refine⟨?_,hr.o.2⟩;rw[HR.o]
       rfl
     ·rw[xK5 s (k+1) ω] at hR;simp only at hR;have HR:=ι hR.symm;have c0:(((k:Int)+1)==(s.size:Int))=true:=by rw[beq_iff_eq];omega
      clear hR;go_wp2;go_ret3;refine⟨?_,hr.o.2⟩;rw[HR.o]
      rfl
    ·rw[if_neg h92] at hR;have b2:((s[k].toNat:Int)==92)=false:=by rw[beq_eq_false_iff_ne];intro e;exact h92 ((qM δ).1 e)
     have HR:=ι hR;clear h92 hR;go_wp2_with fail
     refine(rU w.heap.size w.heap.size acc s[k] _ hr.o.1 ω hr.o.2.size).mono ?_;rintro e w4 ⟨rfl,hq4,hb4⟩;have h4:Hid (Bld w.heap.size w.heap.size (acc++[s[k]]) w4/\ψ w w4):=ι ⟨hq4,hr.o.2.trans hb4⟩;clear hq4 hb4;go_wp2
     go_roundw
     case rel=>exact⟨k+1,acc++[s[k]],ω,by simp;omega,by go_num,HR,h4⟩
     case measure=>simp[intOf];omega
  ·rw[xK5 s k ω] at hR;unfold xTe at hR;have HR:=ι hR.symm;clear hR;go_wp2;go_ret3;refine⟨?_,hr.o.2⟩;rw[HR.o]
   rfl
def yAy (B b:Nat) (R:Option (List Tok×Nat)) (w:World) (e:Ending) (w':World):Prop:=
 match R with
 |none=>e=.returned (.bool false)/\Below B w w'
 |some (T,d)=>e=.returned (.bool true)/\Scn B b T d w'/\Below B w w'
theorem xRz {s:ByteArray} (h:uM s.data.toList=true) (k:Nat):uM (s.extract k s.size).data.toList=true:=by
 unfold uM at*;rw[List.all_eq_true] at*;intro x hx;refine h x ?_;rw[ByteArray.data_extract,Array.toList_extract] at hx;exact List.mem_of_mem_drop (List.mem_of_mem_take hx)
theorem xQa (s:ByteArray) (k:Nat):(s.extract k s.size).data.toList=s.data.toList.drop k:=by
 rw[ByteArray.data_extract,Array.toList_extract];simp only[List.extract];rw[List.take_of_length_le];rw[xBa];exact Nat.le_refl _
theorem yAh (s:ByteArray) (k n:Nat):(s.extract k (k+n)).data.toList=(s.data.toList.drop k).take n:=by
 rw[ByteArray.data_extract,Array.toList_extract];simp only[List.extract];rw[Nat.add_sub_cancel_left]
theorem xPd (B b:Nat) (T0:List Tok) (d0:Nat) (s:ByteArray) (w:World) (h:Scn B b T0 d0 w) (hB:B<=w.heap.size) (hs:s.size<=1000000) (hp:uM s.data.toList=true) (hd0:d0<=1000000000000):
  Calls prog 106 #[.pointer (some ⟨b,0,none⟩),.string s] w (yAy B b (wQ s.size s.data.toList T0 d0) w):=by
 generalize hR:wQ s.size s.data.toList T0 d0=R;have h0:Hid (wQ s.size (s.data.toList.drop 0) T0 d0=R):=ι hR;have Hp:=ι hp;have hw:=ι h;clear hR hp h;go_enter func106,ntmps106;go_wp2_with fail
 go_loopw [5] (λiv wr=>∃(k f:Nat) (T:List Tok) (d:Nat),k<=s.size/\s.size-k<=f/\d<=1000000000000+k/\iv=.int .i64 k/\Hid (wQ f (s.data.toList.drop k) T d=R)/\Hid (Scn B b T d wr/\Below B w wr)) (λiv _=>s.size- (intOf iv).toNat)
 case atStart=>exact⟨0,s.size,T0,d0,Nat.zero_le _,ω,ω,rfl,h0,ι ⟨hw.o,Below.refl _ _⟩⟩
 case round=>
  obtain⟨k,f,T,d,hk,hf,hd,rfl,HR0,hr⟩:=hrel;have hR:=HR0.o;clear h0 hw HR0
  by_cases hlt:k<s.size
  ·rw[xFa s k hlt] at hR;obtain⟨f,rfl⟩:∃f',f=f'+1:=⟨f-1,ω⟩;unfold wQ at hR
   by_cases h32:s[k]=32
   ·rw[if_pos h32] at hR;have HR:=ι hR;have b32:((s[k].toNat:Int)==32)=true:=by rw[h32];rfl
    clear hR h32;go_wp2
    go_roundw
    case rel=>exact⟨k+1,f,T,d,ω,ω,ω,by go_num,HR,hr⟩
    case measure=>simp[intOf];omega
   rw[if_neg h32] at hR;have b32:((s[k].toNat:Int)==32)=false:=by rw[beq_eq_false_iff_ne];intro e;exact h32 ((qM δ).1 e)
   by_cases h40:s[k]=40
   ·rw[if_pos h40] at hR;have HR:=ι hR;have b40:((s[k].toNat:Int)==40)=true:=by rw[h40];rfl
    clear hR h32 h40;obtain⟨hBb,hT,v0,hbk,_,_⟩:=hr.o.1;have c1:wr.cell? ⟨b,1,none⟩=some (.int .i64 d):=xA hbk 1;have y1:wr.frozen? ⟨b,1,none⟩=false:=xB hbk 1;have hblt:=xH hbk;clear hbk hT;have hs1:=ι (hr.o.1.deep (d+1))
    have hb1:=ι (hr.o.2.setCell (p:=⟨b,1,none⟩) hBb (.int .i64 (((d+1):Nat):Int)));have hz1:B<=(wr.setCell ⟨b,1,none⟩ (.int .i64 (((d+1):Nat):Int))).heap.size:=by rw[size_set];exact Nat.le_trans hB hr.o.2.size
    rw[show(((d+1):Nat):Int)=(d:Int)+1 by omega] at hs1 hb1 hz1;go_wp2_with fail
    refine(xC4 B b T (d+1) 2 ⟨#[]⟩ _ hs1.o hz1).mono ?_;rintro e w4 ⟨rfl,hq4,hb4⟩;have h4:Hid (Scn B b (kJ T (2,[])) (d+1) w4/\Below B w w4):=ι ⟨hq4,hb1.o.trans hb4⟩;clear hq4 hb4 hs1 hb1;go_wp2
    go_roundw
    case rel=>exact⟨k+1,f,kJ T (2,[]),(d+1),ω,ω,ω,by go_num,HR,h4⟩
    case measure=>simp[intOf];omega
   rw[if_neg h40] at hR;have b40:((s[k].toNat:Int)==40)=false:=by rw[beq_eq_false_iff_ne];intro e;exact h40 ((qM δ).1 e)
   by_cases h41:s[k]=41
   ·rw[if_pos h41] at hR;have b41:((s[k].toNat:Int)==41)=true:=by rw[h41];rfl
    by_cases hdz:d=0
    ·rw[if_pos hdz] at hR;have HR:=ι hR.symm;clear hR h32 h40 h41;subst hdz;obtain⟨hBb,hT,v0,hbk,_,_⟩:=hr.o.1;have c1:wr.cell? ⟨b,1,none⟩=some (.int .i64 0):=xA hbk 1;have y1:wr.frozen? ⟨b,1,none⟩=false:=xB hbk 1;have hblt:=xH hbk;clear hbk hT;go_wp2;go_ret;rw[HR.o]
     exact⟨rfl,hr.o.2⟩
    ·rw[if_neg hdz] at hR;have HR:=ι hR;have z0:((d:Int)==0)=false:=by rw[beq_eq_false_iff_ne];omega
     clear hR h32 h40 h41;obtain⟨hBb,hT,v0,hbk,_,_⟩:=hr.o.1;have c1:wr.cell? ⟨b,1,none⟩=some (.int .i64 d):=xA hbk 1;have y1:wr.frozen? ⟨b,1,none⟩=false:=xB hbk 1;have hblt:=xH hbk;clear hbk hT;have hs1:=ι (hr.o.1.deep (d-1))
     have hb1:=ι (hr.o.2.setCell (p:=⟨b,1,none⟩) hBb (.int .i64 (((d-1):Nat):Int)));have hz1:B<=(wr.setCell ⟨b,1,none⟩ (.int .i64 (((d-1):Nat):Int))).heap.size:=by rw[size_set];exact Nat.le_trans hB hr.o.2.size
     rw[show(((d-1):Nat):Int)=(d:Int)-1 by omega] at hs1 hb1 hz1;go_wp2_with fail
     refine(xC4 B b T (d-1) 3 ⟨#[]⟩ _ hs1.o hz1).mono ?_;rintro e w4 ⟨rfl,hq4,hb4⟩;have h4:Hid (Scn B b (kJ T (3,[])) (d-1) w4/\Below B w w4):=ι ⟨hq4,hb1.o.trans hb4⟩;clear hq4 hb4 hs1 hb1;go_wp2
     go_roundw
     case rel=>exact⟨k+1,f,kJ T (3,[]),(d-1),ω,ω,ω,by go_num,HR,h4⟩
     case measure=>simp[intOf];omega
   rw[if_neg h41] at hR;have b41:((s[k].toNat:Int)==41)=false:=by rw[beq_eq_false_iff_ne];intro e;exact h41 ((qM δ).1 e)
   by_cases h34:s[k]=34
   ·rw[if_pos h34] at hR;have b34:((s[k].toNat:Int)==34)=true:=by rw[h34];rfl
    have E3:=yC9 s (k+1);rw[show((k+1:Nat):Int)=(k:Int)+1 by omega] at E3;generalize hU:xTe [] (s.data.toList.drop (k+1))=U at hR E3;cases U with
    |none=>
     simp only at hR;have HR:=ι hR.symm;have HE:=ι E3;clear hR h32 h40 h41 h34 hU E3;go_wp2_with fail
     refine(HE.o _ hs ω).mono ?_;rintro e w3 ⟨he,hb3⟩
     change e=.returned (.tuple #[.string ⟨#[]⟩,.int .i64 0,.bool false]) at he
     subst he;go_wp2;go_ret;rw[HR.o];exact⟨rfl,hr.o.2.trans (hb3.mono (Nat.le_trans hB hr.o.2.size))⟩
    |some qn=>
     obtain⟨q,n⟩:=qn;have hn:=yCa _ _ _ _ hU;rw[xBa] at hn;simp only at hR;rw[List.drop_drop,xBa,show k+1+(s.size- (k+1)-n)=s.size-n by omega] at hR;have HR:=ι hR;have HE:=ι E3;clear hR h32 h40 h41 h34 hU E3;go_wp2_with fail
     refine(HE.o _ hs ω).mono ?_;rintro e w3 ⟨he,hb3⟩
     change e=.returned (.tuple #[xR q,.int .i64 ((s.size-n:Nat):Int),.bool true]) at he
     subst he;have hs3:=ι (hr.o.1.keep hb3);have xO8:=ι (hr.o.2.trans (hb3.mono (Nat.le_trans hB hr.o.2.size)));clear hb3;go_wp2_with fail
     refine(xC4 B b T d 1 _ _ hs3.o (Nat.le_trans hB xO8.o.size)).mono ?_;rintro e w4 ⟨rfl,hq4,hb4⟩;have h4:Hid (Scn B b (kJ T (1,q)) d w4/\Below B w w4):=ι ⟨hq4,xO8.o.trans hb4⟩;clear hq4 hb4 hs3 xO8;go_wp2
     go_roundw
     case rel=>exact⟨s.size-n,f,kJ T (1,q),d,ω,ω,ω,rfl,HR,h4⟩
     case measure=>simp[intOf];omega
   rw[if_neg h34] at hR;have b34:((s[k].toNat:Int)==34)=false:=by rw[beq_eq_false_iff_ne];intro e;exact h34 ((qM δ).1 e)
   have hsp:uS s[k]=false:=by simp[uS,h32,h40,h41,h34]
   have hpos:=xN1 (r:=s.data.toList.drop (k+1)) hsp;have hle:=xDf (s.data.toList.drop k);rw[<-xFa s k hlt] at hR hpos;rw[xBa] at hle;have HE:=ι (λw=>jW (s.extract k s.size) w (by rw[<-vN,xQa,xBa];omega) (xRz Hp.o k));rw[xQa] at HE
   generalize jQ (s.data.toList.drop k)=n at hR hpos hle HE;rw[List.drop_drop,<-yAh] at hR;have HR:=ι hR;clear hR h32 h40 h41 h34 hsp;go_wp2_with fail
   refine(HE.o _).mono ?_;rintro e w3 ⟨rfl,hb3⟩;have hs3:=ι (hr.o.1.keep hb3);have xO8:=ι (hr.o.2.trans (hb3.mono (Nat.le_trans hB hr.o.2.size)));clear hb3;go_wp2_with fail
   refine(xC4 B b T d 0 (s.extract k (k+n)) _ hs3.o (Nat.le_trans hB xO8.o.size)).mono ?_;rintro e w4 ⟨rfl,hq4,hb4⟩;have h4:Hid (Scn B b (kJ T (0,(s.extract k (k+n)).data.toList)) d w4/\Below B w w4):=ι ⟨hq4,xO8.o.trans hb4⟩;clear hq4 hb4 hs3 xO8;go_wp2
   go_roundw
   case rel=>exact⟨k+n,f,kJ T (0,(s.extract k (k+n)).data.toList),d,ω,ω,ω,by go_num,HR,h4⟩
   case measure=>simp[intOf];omega
  ·rw[xK5 s k ω] at hR
   have hR':some (T,d)=R:=by
    rw[<-hR];cases f<;>rfl
   have HR:=ι hR'.symm;clear hR hR';go_wp2;go_ret;rw[HR.o];exact⟨rfl,hr.o⟩
end Go.Proofs.VB
namespace Mailsack
theorem xFw:∀(f:Nat) (l:Bs) (T:List Tok) (d:Nat) (T':List Tok) (d':Nat),wQ f l T d=some (T',d')->d'<=d+l.length:=by
 intro f
 induction f with
 |zero=>
  intro l T d T' d' h;cases l with
  |nil=>simp[wQ] at h;omega
  |cons c r=>simp[wQ] at h
 |succ f ih=>
  intro l T d T' d' h;cases l with
  |nil=>simp[wQ] at h;omega
  |cons c r=>
   unfold wQ at h;simp only[List.length_cons];split at h
   ·have:=ih _ _ _ _ _ h;omega
   split at h
   ·have:=ih _ _ _ _ _ h;omega
   split at h
   ·split at h
    ·cases h
    ·have:=ih _ _ _ _ _ h;omega
   split at h
   ·split at h
    ·cases h
    ·have:=ih _ _ _ _ _ h;rw[List.length_drop] at this;omega
   ·have:=ih _ _ _ _ _ h;rw[List.length_drop,List.length_cons] at this;omega
def finV:Option (List Tok×Nat)->Option (List Tok)
 |none=>none
 |some (T,d)=>if d=0/\T.length<=40 then some T else none
theorem xF9 {R:Option (List Tok×Nat)} (h:none=R):finV R=none:=by rw[<-h];rfl
theorem xR9 {X L:List Bs} (h:X.length=L.length+1):rV X L=finV (xCc L 0 X [] 0):=by
 unfold rV finV;rw[if_pos h]
 try (cases xCc L 0 X [] 0<;>rfl)
end Mailsack
namespace Go.Proofs.VB
open Go.RowKit Mailsack MM BU
def yEh (w:World) (R:Option (List Tok)) (e:Ending) (w':World):Prop:=
 match R with
 |none=>e=.returned (.tuple #[.slice none 0 0,.int .i64 3])/\ψ w w'
 |some T=>∃v,e=.returned (.tuple #[v,.int .i64 0])/\xYc w' w.heap.size v T/\ψ w w'
theorem xYc.less {w:World} {B B':Nat} {v:Value} {T:List Tok} (h:xYc w B v T) (hb:B'<=B):xYc w B' v T:=by
 refine⟨h.1,?_⟩;rcases h.2 with hn|⟨g,cap,cur,h1,h2,h3⟩
 ·exact .inl hn
 ·exact .inr ⟨g,cap,cur,h1,ω,h3⟩
theorem xRa (xv lv:Value) (X L:List Bs) (w:World) (hx:RdS w w.heap.size xv X) (hl:RdS w w.heap.size lv L) (hX:∀x∈X,x.length<=1000000) (hn:X.length<=1000) (hn2:L.length<=1000):
  Calls prog 49 #[.agg #[xv,lv]] w (yEh w (rV X L)):=by
 have HX:=ι hX;obtain⟨Ax,cx,rfl,hcx,hxc⟩:=hx;obtain⟨Al,cl,rfl,hcl,hlc⟩:=hl;have Hxc:=ι hxc;have Hlc:=ι hlc;clear hX hxc hlc;have pa:=ι (xM w (.cells #[.slice Ax X.length cx,.slice Al L.length cl] 81))
 have ka:(w.alloc (.cells #[.slice Ax X.length cx,.slice Al L.length cl] 81)).cell? ⟨w.heap.size,0,none⟩=some (.slice Ax X.length cx):=xA pa.o 0
 have kb:(w.alloc (.cells #[.slice Ax X.length cx,.slice Al L.length cl] 81)).cell? ⟨w.heap.size,1,none⟩=some (.slice Al L.length cl):=xA pa.o 1
 by_cases hne:X.length=L.length+1
 ·rw[xR9 hne];generalize hR0:xCc L 0 X [] 0=R;have h0:Hid (xCc L 0 (X.drop 0) [] 0=R):=ι hR0;have c0:((X.length:Int)!=(L.length:Int)+1)=false:=by simp;omega
  have HN:=ι hne;clear hR0 hne;have H2:=ι ((φ w (.cells #[.slice Ax X.length cx,.slice Al L.length cl] 81)).alloc σ (.cells #[.slice none 0 0,.int .i64 0] 191))
  have P1:=ι (zV w (.cells #[.slice Ax X.length cx,.slice Al L.length cl] 81) (.cells #[.slice none 0 0,.int .i64 0] 191));have P2:=ι (zK w (.cells #[.slice Ax X.length cx,.slice Al L.length cl] 81) (.cells #[.slice none 0 0,.int .i64 0] 191))
  have hz2:w.heap.size+1<=((w.alloc (.cells #[.slice Ax X.length cx,.slice Al L.length cl] 81)).alloc (.cells #[.slice none 0 0,.int .i64 0] 191)).heap.size:=σ
  have kx:((w.alloc (.cells #[.slice Ax X.length cx,.slice Al L.length cl] 81)).alloc (.cells #[.slice none 0 0,.int .i64 0] 191)).cell? ⟨w.heap.size,0,none⟩=some (.slice Ax X.length cx):=xA P1.o 0;go_enter func49,ntmps49;go_wp2
  generalize (w.alloc (.cells #[.slice Ax X.length cx,.slice Al L.length cl] 81)).alloc (.cells #[.slice none 0 0,.int .i64 0] 191)=w2 at H2 P1 P2 hz2 kx⊢
  go_loopw [18] (λiv wr=>∃(k:Nat) (T:List Tok) (d:Nat),k<=X.length/\d<=1000000*k/\iv=.int .i64 k/\Hid (xCc L k (X.drop k) T d=R)/\Hid (Scn (w.heap.size+1) (w.heap.size+1) T d wr/\Below (w.heap.size+1) w2 wr)) (λiv _=>X.length- (intOf iv).toNat)
  case atStart=>exact⟨0,[],0,Nat.zero_le _,ω,rfl,h0,ι ⟨⟨Nat.le_refl _,δ,_,P2.o,World.ownsRow_nil _ _ _ _,by simp[Value.ownBlock]⟩,Below.refl _ _⟩⟩
  case round=>
   obtain⟨k,T,d,hk,hd,rfl,HR0,hr⟩:=hrel;have hR:=HR0.o;clear HR0 h0 ka kb kx
   by_cases hlt:k<X.length
   ·obtain⟨bx,ox,rfl,hbx,hcx2⟩:=Hxc.o ω;obtain⟨x,hx⟩:∃x,X[k]?=some x:=⟨_,List.getElem?_eq_getElem hlt⟩;have hxs:(⟨x.toArray⟩:ByteArray).size<=1000000:=HX.o x (List.mem_of_getElem? hx);have hxs':x.length<=1000000:=hxs
    have q0:wr.cell? ⟨bx,ox+k,none⟩=some (xR x):=(hr.o.2.cell (by show bx<_;omega)).trans ((H2.o.cell hbx).trans (hcx2 k x hx))
    have hdr:X.drop k=x::X.drop (k+1):=by
     rw[List.drop_eq_getElem_cons hlt];rw[List.getElem?_eq_getElem hlt] at hx;injection hx with hx;rw[hx]
    rw[hdr] at hR;unfold xCc at hR;clear hcx2 hx hdr
    by_cases hk0:k=0
    ·subst hk0;rw[if_neg (show ¬(0<0) by omega)] at hR;have q0':wr.cell? ⟨bx,ox,none⟩=some (xR x):=q0;clear q0;have E1:=xCp ⟨x.toArray⟩;rw[show(⟨x.toArray⟩:ByteArray).data.toList=x from rfl] at E1;cases hp:uM x
     ·rw[hp] at E1 hR;have HE:=ι E1;rw[if_neg (show ¬(false=true) by simp)] at hR;have HR:=ι (xF9 hR);clear E1 hp hR;go_wp2_with fail
      refine(HE.o _ hxs).mono ?_;rintro e w5 ⟨rfl,hw5⟩;subst hw5;go_wp2;go_ret2;rw[HR.o];exact⟨rfl,H2.o.trans (hr.o.2.mono (Nat.le_trans (Nat.le_succ _) ν))⟩
     ·rw[hp] at E1 hR;have HE:=ι E1;rw[if_pos (rfl:true=true)] at hR;have HS:=ι (λW (h:Scn (w.heap.size+1) (w.heap.size+1) T d W) (hB:w.heap.size+1<=W.heap.size)=>xPd (w.heap.size+1) (w.heap.size+1) T d ⟨x.toArray⟩ W h hB hxs hp ω)
      rw[show(⟨x.toArray⟩:ByteArray).data.toList=x from rfl,show(⟨x.toArray⟩:ByteArray).size=x.length from rfl] at HS;have hdp:=λT' d'=>xFw x.length x T d T' d';generalize wQ x.length x T d=S at hR HS hdp;clear E1 hp;cases S with
      |none=>
       simp only at hR;have HR:=ι (xF9 hR);clear hR hdp;go_wp2_with fail
       refine(HE.o _ hxs).mono ?_;rintro e w5 ⟨rfl,hw5⟩;subst hw5;go_wp2_with fail
       refine(HS.o _ hr.o.1 (Nat.le_trans hz2 hr.o.2.size)).mono ?_;rintro e w6 ⟨rfl,hb6⟩;go_wp2;go_ret2;rw[HR.o];exact⟨rfl,H2.o.trans ((hr.o.2.trans hb6).mono (Nat.le_succ _))⟩
      |some td=>
       obtain⟨T2,d2⟩:=td;have hd2:=hdp T2 d2 rfl;simp only at hR;have HR:=ι hR;clear hR hdp;go_wp2_with fail
       refine(HE.o _ hxs).mono ?_;rintro e w5 ⟨rfl,hw5⟩;subst hw5;go_wp2_with fail
       refine(HS.o _ hr.o.1 (Nat.le_trans hz2 hr.o.2.size)).mono ?_;rintro e w6 ⟨rfl,hs6,hb6⟩;have h6:Hid (Scn (w.heap.size+1) (w.heap.size+1) T2 d2 w6/\Below (w.heap.size+1) w2 w6):=ι ⟨hs6,hr.o.2.trans hb6⟩;clear hs6 hb6;go_wp2
       go_roundw
       case rel=>exact⟨0+1,T2,d2,ω,ω,by go_num,HR,h6⟩
       case measure=>simp[intOf];omega
    ·obtain⟨j,rfl⟩:∃j,k=j+1:=⟨k-1,ω⟩;clear hk0;rw[if_pos (show 0<j+1 by omega),show j+1-1=j by omega] at hR;have hjl:j<L.length:=by have:=HN.o;omega
     obtain⟨bl,ol,rfl,hbl,xK⟩:=Hlc.o ω;have q1:wr.cell? ⟨bl,ol+j,none⟩=some (xR (L.getD j [])):=(hr.o.2.cell (by show bl<_;omega)).trans ((H2.o.cell hbl).trans (xK j _ (by rw[List.getD_eq_getElem?_getD,List.getElem?_eq_getElem hjl];rfl)));generalize L.getD j []=y at q1 hR
     have kl:wr.cell? ⟨w.heap.size,1,none⟩=some (.slice (some ⟨bl,ol,none⟩) L.length cl):=(hr.o.2.cell σ).trans (xA P1.o 1);clear xK;go_wp2_with fail
     refine(xC4 (w.heap.size+1) (w.heap.size+1) T d 1 ⟨y.toArray⟩ _ hr.o.1 (Nat.le_trans hz2 hr.o.2.size)).mono ?_;rintro e w4 ⟨rfl,hq4,hb4⟩;have h4:Hid (Scn (w.heap.size+1) (w.heap.size+1) (kJ T (1,y)) d w4/\Below (w.heap.size+1) w2 w4):=ι ⟨hq4,hr.o.2.trans hb4⟩
     clear hq4 hb4;have E1:=xCp ⟨x.toArray⟩;rw[show(⟨x.toArray⟩:ByteArray).data.toList=x from rfl] at E1;cases hp:uM x
     ·rw[hp] at E1 hR;have HE:=ι E1;rw[if_neg (show ¬(false=true) by simp)] at hR;have HR:=ι (xF9 hR);clear E1 hp hR;go_wp2_with fail
      refine(HE.o _ hxs).mono ?_;rintro e w5 ⟨rfl,hw5⟩;subst hw5;go_wp2;go_ret2;rw[HR.o];exact⟨rfl,H2.o.trans (h4.o.2.mono (Nat.le_trans (Nat.le_succ _) ν))⟩
     ·rw[hp] at E1 hR;have HE:=ι E1;rw[if_pos (rfl:true=true)] at hR;have HS:=ι (λW (h:Scn (w.heap.size+1) (w.heap.size+1) (kJ T (1,y)) d W) (hB:w.heap.size+1<=W.heap.size)=>xPd (w.heap.size+1) (w.heap.size+1) (kJ T (1,y)) d ⟨x.toArray⟩ W h hB hxs hp ω)
      rw[show(⟨x.toArray⟩:ByteArray).data.toList=x from rfl,show(⟨x.toArray⟩:ByteArray).size=x.length from rfl] at HS;have hdp:=λT' d'=>xFw x.length x (kJ T (1,y)) d T' d';generalize wQ x.length x (kJ T (1,y)) d=S at hR HS hdp;clear E1 hp;cases S with
      |none=>
       simp only at hR;have HR:=ι (xF9 hR);clear hR hdp;go_wp2_with fail
       refine(HE.o _ hxs).mono ?_;rintro e w5 ⟨rfl,hw5⟩;subst hw5;go_wp2_with fail
       refine(HS.o _ h4.o.1 (Nat.le_trans hz2 h4.o.2.size)).mono ?_;rintro e w6 ⟨rfl,hb6⟩;go_wp2;go_ret2;rw[HR.o];exact⟨rfl,H2.o.trans ((h4.o.2.trans hb6).mono (Nat.le_succ _))⟩
      |some td=>
       obtain⟨T2,d2⟩:=td;have hd2:=hdp T2 d2 rfl;simp only at hR;have HR:=ι hR;clear hR hdp;go_wp2_with fail
       refine(HE.o _ hxs).mono ?_;rintro e w5 ⟨rfl,hw5⟩;subst hw5;go_wp2_with fail
       refine(HS.o _ h4.o.1 (Nat.le_trans hz2 h4.o.2.size)).mono ?_;rintro e w6 ⟨rfl,hs6,hb6⟩;have h6:Hid (Scn (w.heap.size+1) (w.heap.size+1) T2 d2 w6/\Below (w.heap.size+1) w2 w6):=ι ⟨hs6,h4.o.2.trans hb6⟩;clear hs6 hb6;go_wp2
       go_roundw
       case rel=>exact⟨j+1+1,T2,d2,ω,ω,by go_num,HR,h6⟩
       case measure=>simp[intOf];omega
   ·have hks:X.length<=k:=ω;rw[List.drop_eq_nil_iff.2 hks] at hR;have hR':some (T,d)=R:=by rw[<-hR];rfl
    obtain⟨_,hT,v,hbk,hown,hvne⟩:=hr.o.1
    obtain⟨A9,c9,e9⟩:∃A cp,v=.slice A T.length cp:=by
     rcases hown.2 with ⟨h1,h2⟩|⟨g,cap,cur,h1,_⟩
     ·exact⟨none,0,by rw[h1,h2]⟩
     ·exact⟨_,_,h1⟩
    subst e9;have s0:wr.cell? ⟨w.heap.size+1,0,none⟩=some (.slice A9 T.length c9):=xA hbk 0;have s1:wr.cell? ⟨w.heap.size+1,1,none⟩=some (.int .i64 d):=xA hbk 1;have xYd:=ι hown;have hfin:finV R=if d=0/\T.length<=40 then some T else none:=by rw[<-hR'];rfl
    clear hR hR' hown hbk hvne
    by_cases hd0:d=0
    ·subst hd0;have z0:(((0:Nat):Int)!=0)=false:=rfl
     by_cases h40:T.length<=40
     ·rw[if_pos ⟨rfl,h40⟩] at hfin;have HF:=ι hfin;clear hfin;go_wp2;go_ret2;rw[HF.o];exact⟨_,rfl,xYc.less xYd.o (Nat.le_succ _),H2.o.trans (hr.o.2.mono (Nat.le_succ _))⟩
     ·rw[if_neg ω] at hfin;have HR:=ι hfin;clear hfin;go_wp2;go_ret2;rw[HR.o];exact⟨rfl,H2.o.trans (hr.o.2.mono (Nat.le_succ _))⟩
    ·rw[if_neg ω] at hfin;have z0:((d:Int)!=0)=true:=by simp;omega
     have HR:=ι hfin;clear hfin;go_wp2;go_ret2;rw[HR.o];exact⟨rfl,H2.o.trans (hr.o.2.mono (Nat.le_succ _))⟩
 ·have hR:rV X L=none:=by unfold rV;rw[if_neg hne]
  rw[hR];have c0:((X.length:Int)!=(L.length:Int)+1)=true:=by simp;omega
  clear hR;go_enter func49,ntmps49;go_wp2;go_ret2;exact⟨rfl,(Below.refl _ _).alloc ν _⟩
theorem xEy (w:World) (B:Nat):RdS w B (.slice none 0 0) []:=⟨none,0,rfl,Nat.le_refl _,λh=>absurd h (Nat.lt_irrefl _)⟩
theorem xZh {w:World} {B:Nat} {v:Value} {T:List Tok} (h:xYc w B v T) (hT:0<T.length):∃g cap,v=.slice (some ⟨g,0,none⟩) T.length cap/\T.length<=cap/\g<w.heap.size/\∀j u,(kW T)[j]?=some u->w.cell? ⟨g,j,none⟩=some u:=by
 rcases h.2 with ⟨_,h2⟩|⟨g,cap,cur,h1,hb,h3,hc,_⟩
 ·omega
 ·refine⟨g,cap,h1,hc,xH h3,λj u hu=>?_⟩;have:=World.ownsRow.cells h (g:=g) (by rw[h1];rfl) j u hu;have hadd:(⟨g,0,none⟩:Addr).add j=⟨g,j,none⟩:=by unfold Addr.add;split<;>simp_all
  rwa [hadd] at this
end Go.Proofs.VB
namespace Go.Proofs.SV
open Go.RowKit MM
structure Tn (P:Nat->Prop) (w w':World):Prop where
 os:w'.os=w.os
 tape:w'.tape=w.tape
 output:w'.output=w.output
 size:w.heap.size<=w'.heap.size
 block:∀k,k<w.heap.size->¬P k->w'.heap[k]?=w.heap[k]?
section
variable {P:Nat->Prop} {a b c:World}
theorem Tn.refl (P:Nat->Prop) (w:World):Tn P w w:=⟨rfl,rfl,rfl,Nat.le_refl _,λ_ _ _=>rfl⟩
theorem Tn.trans (h:Tn P a b) (k:Tn P b c):Tn P a c:=
 ⟨k.os.trans h.os,k.tape.trans h.tape,k.output.trans h.output,Nat.le_trans h.size k.size,λi hi hp=>(k.block i (Nat.lt_of_lt_of_le hi h.size) hp).trans (h.block i hi hp)⟩
theorem Tn.of (h:ψ a b):Tn P a b:=⟨h.os,h.tape,h.output,h.size,λi hi _=>h.block i hi⟩
theorem Tn.call (h:Tn P a b) (k:ψ b c):Tn P a c:=h.trans (Tn.of k)
theorem Tn.low {B:Nat} (h:Tn P a b) (k:Below B b c) (hB:a.heap.size<=B):Tn P a c:=
 ⟨k.os.trans h.os,k.tape.trans h.tape,k.output.trans h.output,Nat.le_trans h.size k.size,λi hi hp=>(k.block i (Nat.lt_of_lt_of_le hi hB)).trans (h.block i hi hp)⟩
theorem Tn.set (h:Tn P a b) {p:Addr} (hp:P p.block∨a.heap.size<=p.block) (u:Value):Tn P a (b.setCell p u):=
 ⟨h.os,h.tape,h.output,by rw[size_set];exact h.size,λi hi hq=>by
  rw[Below.heap_setCell b p u i (λe=>by subst e;rcases hp with hp|hp;exact hq hp;omega)];exact h.block i hi hq⟩
theorem Tn.drew (h:Tn P a b):Tn P a b.drew:=⟨h.os,h.tape,h.output,h.size,h.block⟩
theorem Tn.below {B:Nat} (h:Tn P a b) (hP:∀k,P k->B<=k) (hB:B<=a.heap.size):Below B a b:=
 ⟨h.os,h.tape,h.output,h.size,λi hi=>h.block i (Nat.lt_of_lt_of_le hi hB) (λhp=>by have:=hP i hp;omega)⟩
theorem Tn.blk (h:Tn P a b) {k:Nat} {o:Obj} (hk:a.heap[k]?=some o) (hp:¬P k):b.heap[k]?=some o:=(h.block k (xH hk) hp).trans hk
theorem Tn.more {P':Nat->Prop} (h:Tn P a b) (hP:∀k,P k->P' k):Tn P' a b:=⟨h.os,h.tape,h.output,h.size,λi hi hp=>h.block i hi (λq=>hp (hP i q))⟩
end
def xU (b:Nat):Nat->List Value->World->World
 |_,[],W=>W
 |i,a::l,W=>xU b (i+1) l (W.setCell ⟨b,i,none⟩ a)
theorem yX {b g:Nat} {o:Obj} (hne:g≠b):∀(l:List Value) (i:Nat) (W:World),W.heap[g]?=some o->(xU b i l W).heap[g]?=some o
 |[],_,_,h=>h
 |_::l,i,_,h=>yX hne l (i+1) _ (yC h (p:=⟨b,i,none⟩) hne _)
theorem yZ {B:Nat} {a:World} {b:Nat} (hb:B<=b):∀(l:List Value) (i:Nat) (W:World),Below B a W->Below B a (xU b i l W)
 |[],_,_,h=>h
 |_::l,i,_,h=>yZ hb l (i+1) _ (h.setCell (p:=⟨b,i,none⟩) hb _)
theorem kQ {b:Nat} {t:TypeId}:∀(l:List Value) (i:Nat) (W:World) (cs:Array Value),W.heap[b]?=some (.cells cs t (0,0))->i+l.length<=cs.size->
  (xU b i l W).heap[b]?=some (.cells (cs.toList.take i++l++cs.toList.drop (i+l.length)).toArray t (0,0))
 |[],i,W,cs,h,_=>by
  unfold xU;rw[h];simp
 |a::l,i,W,cs,h,hi=>by
  simp only[List.length_cons] at hi;have h1:=xY h i a;have h2:=kQ l (i+1) _ _ h1 (by simp;omega);unfold xU;rw[h2]
  congr 2
  apply congrArg;apply List.ext_getElem?;intro j;simp only[Array.toList_setIfInBounds,List.getElem?_append,List.length_take,List.length_set,Array.length_toList,List.getElem?_take,List.getElem?_drop,List.getElem?_set,List.length_append,List.length_cons]
  by_cases h1:j<i
  ·rw[if_pos ω,if_pos ω,if_pos ω,if_neg ω,if_pos ω,if_pos ω,if_pos ω]
  ·by_cases h2:j=i
   ·subst h2;rw[if_pos ω,if_pos ω,if_pos ω,if_pos rfl,if_pos ω,if_pos ω,if_neg ω,show j-min j cs.size=0 by omega]
    rfl
   ·by_cases h3:j<i+1+l.length
    ·rw[if_pos ω,if_neg ω,if_pos ω,if_neg ω,show j-min i cs.size=(j-min (i+1) cs.size)+1 by omega,List.getElem?_cons_succ]
    ·rw[if_neg ω,if_neg ω,if_neg ω]
     congr 1
     omega
theorem uI {b:Nat} {t:TypeId} {l:List Value} {W:World} {cs:Array Value} (h:W.heap[b]?=some (.cells cs t (0,0))) (hl:l.length=cs.size):(xU b 0 l W).heap[b]?=some (.cells l.toArray t (0,0)):=by
 rw[kQ l 0 W cs h ω,show 0+l.length=cs.toList.length by simp[hl]];simp
theorem _root_.xIm {W a:World} {b B:Nat} {t:TypeId} {c0 c1:Value} (ho:W.heap[b]?=some (.cells #[c0,c1] t (0,0))) (hb:Below B a W) (hB:B<=b) (v0 v1:Value) (U:World) (h:U=(W.setCell ⟨b,0,none⟩ v0).setCell ⟨b,1,none⟩ v1):W.cell? ⟨b,0,none⟩=some c0/\W.frozen? ⟨b,0,none⟩=false/\U.cell? ⟨b,0,none⟩=some v0/\W.cell? ⟨b,1,none⟩=some c1/\W.frozen? ⟨b,1,none⟩=false/\U.cell? ⟨b,1,none⟩=some v1/\Hid (Below B a U):=by
 subst h;have hs:=uI (b:=b) (l:=[v0,v1]) ho rfl;exact⟨xA ho 0,xB ho 0,xA hs 0,xA ho 1,xB ho 1,xA hs 1,ι (yZ hB [v0,v1] 0 _ hb)⟩
theorem _root_.cpl3 {W a:World} {b B:Nat} {t:TypeId} {c0 c1 c2:Value} (ho:W.heap[b]?=some (.cells #[c0,c1,c2] t (0,0))) (hb:Below B a W) (hB:B<=b) (v0 v1 v2:Value) (U:World) (h:U=((W.setCell ⟨b,0,none⟩ v0).setCell ⟨b,1,none⟩ v1).setCell ⟨b,2,none⟩ v2):W.cell? ⟨b,0,none⟩=some c0/\W.frozen? ⟨b,0,none⟩=false/\U.cell? ⟨b,0,none⟩=some v0/\W.cell? ⟨b,1,none⟩=some c1/\W.frozen? ⟨b,1,none⟩=false/\U.cell? ⟨b,1,none⟩=some v1/\W.cell? ⟨b,2,none⟩=some c2/\W.frozen? ⟨b,2,none⟩=false/\U.cell? ⟨b,2,none⟩=some v2/\Hid (Below B a U):=by
 subst h;have hs:=uI (b:=b) (l:=[v0,v1,v2]) ho rfl;exact⟨xA ho 0,xB ho 0,xA hs 0,xA ho 1,xB ho 1,xA hs 1,xA ho 2,xB ho 2,xA hs 2,ι (yZ hB [v0,v1,v2] 0 _ hb)⟩
theorem _root_.yAq {W a:World} {b B:Nat} {t:TypeId} {c0 c1 c2 c3 c4:Value} (ho:W.heap[b]?=some (.cells #[c0,c1,c2,c3,c4] t (0,0))) (hb:Below B a W) (hB:B<=b) (v0 v1 v2 v3 v4:Value) (U:World) (h:U=((((W.setCell ⟨b,0,none⟩ v0).setCell ⟨b,1,none⟩ v1).setCell ⟨b,2,none⟩ v2).setCell ⟨b,3,none⟩ v3).setCell ⟨b,4,none⟩ v4):W.cell? ⟨b,0,none⟩=some c0/\W.frozen? ⟨b,0,none⟩=false/\U.cell? ⟨b,0,none⟩=some v0/\W.cell? ⟨b,1,none⟩=some c1/\W.frozen? ⟨b,1,none⟩=false/\U.cell? ⟨b,1,none⟩=some v1/\W.cell? ⟨b,2,none⟩=some c2/\W.frozen? ⟨b,2,none⟩=false/\U.cell? ⟨b,2,none⟩=some v2/\W.cell? ⟨b,3,none⟩=some c3/\W.frozen? ⟨b,3,none⟩=false/\U.cell? ⟨b,3,none⟩=some v3/\W.cell? ⟨b,4,none⟩=some c4/\W.frozen? ⟨b,4,none⟩=false/\U.cell? ⟨b,4,none⟩=some v4/\Hid (Below B a U):=by
 subst h;have hs:=uI (b:=b) (l:=[v0,v1,v2,v3,v4]) ho rfl;exact⟨xA ho 0,xB ho 0,xA hs 0,xA ho 1,xB ho 1,xA hs 1,xA ho 2,xB ho 2,xA hs 2,xA ho 3,xB ho 3,xA hs 3,xA ho 4,xB ho 4,xA hs 4,ι (yZ hB [v0,v1,v2,v3,v4] 0 _ hb)⟩
theorem _root_.cpl7 {W a:World} {b B:Nat} {t:TypeId} {c0 c1 c2 c3 c4 c5 c6:Value} (ho:W.heap[b]?=some (.cells #[c0,c1,c2,c3,c4,c5,c6] t (0,0))) (hb:Below B a W) (hB:B<=b) (v0 v1 v2 v3 v4 v5 v6:Value) (U:World) (h:U=((((((W.setCell ⟨b,0,none⟩ v0).setCell ⟨b,1,none⟩ v1).setCell ⟨b,2,none⟩ v2).setCell ⟨b,3,none⟩ v3).setCell ⟨b,4,none⟩ v4).setCell ⟨b,5,none⟩ v5).setCell ⟨b,6,none⟩ v6):W.cell? ⟨b,0,none⟩=some c0/\W.frozen? ⟨b,0,none⟩=false/\U.cell? ⟨b,0,none⟩=some v0/\W.cell? ⟨b,1,none⟩=some c1/\W.frozen? ⟨b,1,none⟩=false/\U.cell? ⟨b,1,none⟩=some v1/\W.cell? ⟨b,2,none⟩=some c2/\W.frozen? ⟨b,2,none⟩=false/\U.cell? ⟨b,2,none⟩=some v2/\W.cell? ⟨b,3,none⟩=some c3/\W.frozen? ⟨b,3,none⟩=false/\U.cell? ⟨b,3,none⟩=some v3/\W.cell? ⟨b,4,none⟩=some c4/\W.frozen? ⟨b,4,none⟩=false/\U.cell? ⟨b,4,none⟩=some v4/\W.cell? ⟨b,5,none⟩=some c5/\W.frozen? ⟨b,5,none⟩=false/\U.cell? ⟨b,5,none⟩=some v5/\W.cell? ⟨b,6,none⟩=some c6/\W.frozen? ⟨b,6,none⟩=false/\U.cell? ⟨b,6,none⟩=some v6/\Hid (Below B a U):=by
 subst h;have hs:=uI (b:=b) (l:=[v0,v1,v2,v3,v4,v5,v6]) ho rfl;exact⟨xA ho 0,xB ho 0,xA hs 0,xA ho 1,xB ho 1,xA hs 1,xA ho 2,xB ho 2,xA hs 2,xA ho 3,xB ho 3,xA hs 3,xA ho 4,xB ho 4,xA hs 4,xA ho 5,xB ho 5,xA hs 5,xA ho 6,xB ho 6,xA hs 6,ι (yZ hB [v0,v1,v2,v3,v4,v5,v6] 0 _ hb)⟩
theorem _root_.xKm {W a:World} {b B:Nat} {t:TypeId} {c0 c1 c2 c3 c4 c5 c6 c7:Value} (ho:W.heap[b]?=some (.cells #[c0,c1,c2,c3,c4,c5,c6,c7] t (0,0))) (hb:Below B a W) (hB:B<=b) (v0 v1 v2 v3 v4 v5 v6 v7:Value) (U:World) (h:U=(((((((W.setCell ⟨b,0,none⟩ v0).setCell ⟨b,1,none⟩ v1).setCell ⟨b,2,none⟩ v2).setCell ⟨b,3,none⟩ v3).setCell ⟨b,4,none⟩ v4).setCell ⟨b,5,none⟩ v5).setCell ⟨b,6,none⟩ v6).setCell ⟨b,7,none⟩ v7):W.cell? ⟨b,0,none⟩=some c0/\W.frozen? ⟨b,0,none⟩=false/\U.cell? ⟨b,0,none⟩=some v0/\W.cell? ⟨b,1,none⟩=some c1/\W.frozen? ⟨b,1,none⟩=false/\U.cell? ⟨b,1,none⟩=some v1/\W.cell? ⟨b,2,none⟩=some c2/\W.frozen? ⟨b,2,none⟩=false/\U.cell? ⟨b,2,none⟩=some v2/\W.cell? ⟨b,3,none⟩=some c3/\W.frozen? ⟨b,3,none⟩=false/\U.cell? ⟨b,3,none⟩=some v3/\W.cell? ⟨b,4,none⟩=some c4/\W.frozen? ⟨b,4,none⟩=false/\U.cell? ⟨b,4,none⟩=some v4/\W.cell? ⟨b,5,none⟩=some c5/\W.frozen? ⟨b,5,none⟩=false/\U.cell? ⟨b,5,none⟩=some v5/\W.cell? ⟨b,6,none⟩=some c6/\W.frozen? ⟨b,6,none⟩=false/\U.cell? ⟨b,6,none⟩=some v6/\W.cell? ⟨b,7,none⟩=some c7/\W.frozen? ⟨b,7,none⟩=false/\U.cell? ⟨b,7,none⟩=some v7/\Hid (Below B a U):=by
 subst h;have hs:=uI (b:=b) (l:=[v0,v1,v2,v3,v4,v5,v6,v7]) ho rfl
 exact⟨xA ho 0,xB ho 0,xA hs 0,xA ho 1,xB ho 1,xA hs 1,xA ho 2,xB ho 2,xA hs 2,xA ho 3,xB ho 3,xA hs 3,xA ho 4,xB ho 4,xA hs 4,xA ho 5,xB ho 5,xA hs 5,xA ho 6,xB ho 6,xA hs 6,xA ho 7,xB ho 7,xA hs 7,ι (yZ hB [v0,v1,v2,v3,v4,v5,v6,v7] 0 _ hb)⟩
end Go.Proofs.SV
namespace Go.Proofs.RK
open Go.RowKit MM
section
variable {α:Type} {e:TypeId} {k:Nat} {f:α->List Value} {w w':World} {base:Nat} {v:Value} {l:List α}
theorem xJz (hk:∀x,(f x).length=k) (l:List α):(l.flatMap f).length=l.length*k:=by
 induction l with
 |nil=>simp
 |cons x l ih=>rw[List.flatMap_cons,List.length_append,hk,ih,List.length_cons,Nat.succ_mul];omega
theorem flat_get (hk:∀x,(f x).length=k):∀(l:List α) (j i:Nat) (x:α) (u:Value),l[j]?=some x->(f x)[i]?=some u->(l.flatMap f)[j*k+i]?=some u
 |[],_,_,_,_,h,_=>by simp at h
 |y::l,0,i,x,u,h,hu=>by
  simp at h;subst h;have hi:=(List.getElem?_eq_some_iff.1 hu).1;rw[List.flatMap_cons,Nat.zero_mul,Nat.zero_add,List.getElem?_append_left hi];exact hu
 |y::l,j+1,i,x,u,h,hu=>by
  have ih:=flat_get hk l j i x u (by simpa using h) hu;rw[List.flatMap_cons,List.getElem?_append_right (by rw[hk,Nat.succ_mul];omega),hk,show(j+1)*k+i-k=j*k+i by rw[Nat.succ_mul];omega];exact ih
theorem xQ6 (hk:∀x,(f x).length=k):∀(l:List α) (j:Nat) (u:Value),(l.flatMap f)[j]?=some u->∃q i x,j=q*k+i/\l[q]?=some x/\(f x)[i]?=some u
 |[],_,_,h=>by simp at h
 |y::l,j,u,h=>by
  rw[List.flatMap_cons] at h
  by_cases hj:j<k
  ·rw[List.getElem?_append_left (by rw[hk];exact hj)] at h;exact⟨0,j,y,ω,rfl,h⟩
  ·rw[List.getElem?_append_right (by rw[hk];omega),hk] at h;obtain⟨q,i,x,h1,h2,h3⟩:=xQ6 hk l (j-k) u h;exact⟨q+1,i,x,by rw[Nat.succ_mul];omega,by simpa using h2,h3⟩
def zI (e:TypeId) (k:Nat) (f:α->List Value) (w:World) (base:Nat) (v:Value) (l:List α):Prop:=w.ownsRow base e k v l.length (l.flatMap f)
def RdR (k:Nat) (f:α->List Value) (w:World) (B:Nat) (v:Value) (l:List α):Prop:=
 ∃A c,v=.slice A l.length c/\l.length<=c/\(0<l.length->∃b off,A=some ⟨b,off,none⟩/\b<B/\∀(j:Nat) x,l[j]?=some x->∀(i:Nat) u,(f x)[i]?=some u->w.cell? ⟨b,off+j*k+i,none⟩=some u)
theorem zI.row (h:zI e k f w base v l):w.ownsRow base e k v l.length (l.flatMap f):=h
theorem zI.nil (w:World) (base:Nat):zI e k f w base (.slice none 0 0) []:=World.ownsRow_nil w base _ _
theorem zI.of {m:List α} (h:w.ownsRow base e k v (l.length+m.length) (l.flatMap f++m.flatMap f)):zI e k f w base v (l++m):=by
 unfold zI;rw[List.length_append,List.flatMap_append];exact h
theorem zI.alloc (h:zI e k f w base v l) (o:Obj):zI e k f (w.alloc o) base v l:=World.ownsRow.alloc h o
theorem zI.grown {row:Option Nat} (h:zI e k f w base v l) (hg:w.grownBy w' row) (hne:v.ownBlock=none∨v.ownBlock≠row):zI e k f w' base v l:=h.row.kept hg hne
theorem zI.below (h:zI e k f w base v l) (hb:ψ w w'):zI e k f w' base v l:=h.grown (pQ hb none) (by cases v.ownBlock<;>simp)
theorem zI.form (h:zI e k f w base v l):∃A c,v=.slice A l.length c/\l.length<=c:=by
 rcases h.2 with ⟨h1,h2⟩|⟨g,cap,cur,h1,_,_,h2,_⟩
 ·exact⟨none,0,by rw[h1,h2],ω⟩
 ·exact⟨_,_,h1,h2⟩
theorem zI.xHw (h:zI e k f w base v l) {p:Addr} (u:Value) (hne:v.ownBlock≠some p.block):zI e k f (w.setCell p u) base v l:=by
 refine⟨h.1,?_⟩;rcases h.2 with hn|⟨g,cap,cur,h1,h2,h3,h4⟩
 ·exact .inl hn
 ·exact .inr ⟨g,cap,cur,h1,h2,yC h3 (λe=>hne (by rw[h1,<-e];rfl)) u,h4⟩
theorem zI.tn {P:Nat->Prop} (h:zI e k f w base v l) (ht:SV.Tn P w w') (hP:∀g,v.ownBlock=some g->¬P g):zI e k f w' base v l:=by
 refine⟨h.1,?_⟩;rcases h.2 with hn|⟨g,cap,cur,h1,h2,h3,h4⟩
 ·exact .inl hn
 ·exact .inr ⟨g,cap,cur,h1,h2,ht.blk h3 (hP g (by rw[h1];rfl)),h4⟩
theorem zI.rd (hk:∀x,(f x).length=k) (h:zI e k f w base v l):RdR k f w w.heap.size v l:=by
 rcases h.2 with ⟨h1,h2⟩|⟨g,cap,cur,h1,hb,hg,hnc,_,_,htake⟩
 ·exact⟨none,0,by rw[h1,h2],ω,λh=>by omega⟩
 ·refine⟨_,cap,h1,hnc,λ_=>⟨g,0,rfl,xH hg,λj x hx i u hu=>?_⟩⟩;have:=World.ownsRow.cells h.row (g:=g) (by rw[h1];rfl) (j*k+i) u (flat_get hk l j i x u hx hu);have hadd:(⟨g,0,none⟩:Addr).add (j*k+i)=⟨g,j*k+i,none⟩:=by unfold Addr.add;split<;>simp_all
  rw[hadd] at this;rw[Nat.zero_add];exact this
theorem RdR.keep {B:Nat} (h:RdR k f w B v l) (hc:∀p:Addr,p.block<B->w'.cell? p=w.cell? p):RdR k f w' B v l:=by
 obtain⟨A,c,h1,h2,h3⟩:=h;refine⟨A,c,h1,h2,λhn=>?_⟩;obtain⟨b,off,h4,h5,h6⟩:=h3 hn;exact⟨b,off,h4,h5,λj x hx i u hu=>(hc _ h5).trans (h6 j x hx i u hu)⟩
theorem RdR.below {B B':Nat} (h:RdR k f w B v l) (hb:Below B' w w') (hB:B<=B'):RdR k f w' B v l:=h.keep λ_ hp=>hb.cell ω
theorem RdR.more {B B':Nat} (h:RdR k f w B v l) (hB:B<=B'):RdR k f w B' v l:=by
 obtain⟨A,c,h1,h2,h3⟩:=h;refine⟨A,c,h1,h2,λhn=>?_⟩;obtain⟨b,off,h4,h5,h6⟩:=h3 hn;exact⟨b,off,h4,ω,h6⟩
theorem RdR.src (hk:∀x,(f x).length=k) {B:Nat} {A:Option Addr} {n c:Nat} (h:RdR k f w B (.slice A n c) l) (hn:0<n):∃ad,A=some ad/\ad.block<B/\∀j u,(l.flatMap f)[j]?=some u->w.cell? (ad.add j)=some u:=by
 obtain⟨A',c',h1,h2,h3⟩:=h;injection h1 with e1 e2 e3;subst e1 e2;obtain⟨b,off,rfl,h5,h6⟩:=h3 hn;refine⟨_,rfl,h5,λj u hu=>?_⟩;obtain⟨q,i,x,rfl,hx,hi⟩:=xQ6 hk l j u hu;have hadd:(⟨b,off,none⟩:Addr).add (q*k+i)=⟨b,off+(q*k+i),none⟩:=by unfold Addr.add;split<;>simp_all
 rw[hadd,<-Nat.add_assoc];exact h6 q x hx i u hi
theorem zI.room (z:Array Value) (w:World) (c:Nat) (hb:base<=w.heap.size) (hc:c<=9223372036854775807) (hz:z.size=c*k):zI e k f (w.alloc (.cells z e)) base (.slice (some ⟨w.heap.size,0,none⟩) 0 c) []:=
 ⟨σ,.inr ⟨w.heap.size,c,_,rfl,hb,xM _ _,Nat.zero_le _,by unfold maxLen;exact hc,hz,σ⟩⟩
end
end Go.Proofs.RK
namespace Go.Proofs.IM
open Go.RowKit MM BU Mailsack SV VB MP
theorem jO {B:Nat} {a w:World} (h:Below B a w) (hB:B<=a.heap.size) (o:Obj):Below B a (w.alloc o):=h.alloc (Nat.le_trans hB h.size) o
structure Six (w:World) (o0 o1 o2 o3 o4 o5:Obj) (W:World):Prop where
 p0:W.heap[w.heap.size]?=some o0
 p1:W.heap[w.heap.size+1]?=some o1
 p2:W.heap[w.heap.size+2]?=some o2
 p3:W.heap[w.heap.size+3]?=some o3
 p4:W.heap[w.heap.size+4]?=some o4
 p5:W.heap[w.heap.size+5]?=some o5
 size:W.heap.size=w.heap.size+6
 bel:ψ w W
theorem six (w:World) (o0 o1 o2 o3 o4 o5:Obj):Six w o0 o1 o2 o3 o4 o5 ((((((w.alloc o0).alloc o1).alloc o2).alloc o3).alloc o4).alloc o5):=by
 have hp:∀(w:World) (o:Obj),(w.alloc o).heap=w.heap.push o:=λ_ _=>rfl;refine⟨?_,?_,?_,?_,?_,?_,σ,?_⟩
 ·simp only[hp];rw[Array.getElem?_eq_getElem (by simp<;>omega)];simp[Array.getElem_push];repeat rw[if_pos ω]
 ·simp only[hp];rw[Array.getElem?_eq_getElem σ];simp[Array.getElem_push]
 ·simp only[hp];rw[Array.getElem?_eq_getElem σ];simp[Array.getElem_push]
 ·simp only[hp];rw[Array.getElem?_eq_getElem σ];simp[Array.getElem_push]
 ·simp only[hp];rw[Array.getElem?_eq_getElem σ];simp[Array.getElem_push]
 ·simp only[hp];rw[Array.getElem?_eq_getElem σ];simp[Array.getElem_push]
 ·have hB:=Nat.le_refl w.heap.size;exact jO (jO (jO (jO (jO (jO (Below.refl _ _) hB _) hB _) hB _) hB _) hB _) hB _
theorem xGk {w:World} {b:Nat} {cs:Array Value} (h:w.heap[b]?=some (.cells cs 129 (0,0))) (hs:cs.size=22) (h1:cs[20]?=some (.pointer none)) (h2:cs[21]?=some (.slice none 0 0)):Cmd b cs [] w:=
 ⟨h,hs,_,_,h1,h2,.inl rfl,World.ownsRow_nil _ _ _ _,by simp[Value.ownBlock],λ_=>rfl⟩
theorem txt3 (a b c d:Bs):(⟨a.toArray⟩:ByteArray)++⟨b.toArray⟩++⟨c.toArray⟩++⟨d.toArray⟩=⟨(a++b++c++d).toArray⟩:=by
 apply ByteArray.ext;simp
def Still (W W':World):Prop:=W'.heap.size=W.heap.size/\(∀a,W'.cell? a=W.cell? a)/\∀(g:Nat) cs t f,W.heap[g]?=some (.cells cs t f)->t≠5->W'.heap[g]?=some (.cells cs t f)
theorem Still.drew (W:World):Still W W.drew:=⟨rfl,λ_=>rfl,λ_ _ _ _ h _=>h⟩
theorem Still.freeze {W:World} {g:Nat} {cs:Array Value} {f:Nat×Nat} (h:W.heap[g]?=some (.cells cs 5 f)) (n:Nat):Still W (W.freeze ⟨g,0,none⟩ n):=by
 unfold World.freeze;split
 ·exact⟨rfl,λ_=>rfl,λ_ _ _ _ h _=>h⟩
 ·refine⟨σ,λa=>?_,λb c t f2 h2 ht=>?_⟩
  ·unfold World.cell?;simp only[Array.getElem?_modify]
   by_cases e:g=a.block
   ·subst e;rw[if_pos rfl,h]
    rfl
   ·rw[if_neg e]
  ·simp only[Array.getElem?_modify];rw[if_neg (λe=>by rw[e,h2] at h;injection h with h;injection h with _ h3 _;exact ht h3)];exact h2
theorem yCm (b:Nat) (cs:Array Value) (l:List UInt8) (w:World) (h:Cmd b cs l w):
  Calls prog 53 #[slf b] w λe w'=>e=.returned (.string ⟨l.toArray⟩)/\Below b w w'/\w'.heap[b]?=w.heap[b]?/\Still w w':=by
 obtain⟨p,v,hp,hv,_,hown,hne,hnil⟩:=h.own;have k1:w.cell? ⟨b,21,none⟩=some v:=(xA h.blk 21).trans hv
 by_cases h0:l=[]
 ·subst h0;rw[hnil rfl] at k1;refine(xNb b w k1).mono ?_;rintro e w' ⟨rfl,rfl⟩;exact⟨rfl,Below.drew (Below.refl b w),rfl,Still.drew w⟩
 ·rcases hown.2 with ⟨_,hz⟩|⟨g,cap,cur,h1,h2,h3,h4,h5,h6,h7⟩
  ·exact absurd (List.eq_nil_of_length_eq_zero hz) h0
  ·rw[h1] at k1 hne;refine(xNa b g cap cur l w k1 h0 h3 h4 h5 h6 h7).mono ?_;rintro e w' ⟨rfl,rfl⟩;refine⟨rfl,Lib.below_freeze (Below.drew (Below.refl b w)) (p:=⟨g,0,none⟩) h2 _,?_,Still.freeze (W:=w.drew) h3 _⟩;exact xSr (λe=>hne (congrArg some e)) _
structure Stb (K:World->Prop):Prop where
 still:∀{W W':World},K W->Still W W'->K W'
 put:∀{W:World} {g:Nat} {o:Obj} (xs:List Value),K W->W.heap[g]?=some o->o=xW (.slice none 0 0) (.slice none 0 0)∨o=xHu->K (xU g 0 xs W)
abbrev tkF (t:Tok):List Value:=[.int .i64 t.1,xR t.2]
theorem xUn:∀(T:List Tok) (j:Nat) (x:Tok) (i:Nat) (u:Value),T[j]?=some x->(tkF x)[i]?=some u->(kW T)[j*2+i]?=some u
 |[],j,x,i,u,h,_=>by simp at h
 |t::T,0,x,i,u,h,h2=>by
  simp at h;subst h
  match i,h2 with
  |0,h2=>simpa[kW] using h2
  |1,h2=>simpa[kW] using h2
  |n+2,h2=>simp at h2
 |t::T,j+1,x,i,u,h,h2=>by
  have:=xUn T j x i u (by simpa using h) h2;rw[show(j+1)*2+i=(j*2+i)+1+1 by omega];simpa[kW] using this
def xGy (K:List Value->Bs->World->Prop) (N1 N2:Prop) (b:Nat) (n0 n1 n2 n3 n4 n5:Value) (sl:Value) (W:World) (e:Ending) (W':World):Prop:=
 (∃v0 v1 v2 v3 v4 v5 v6 v7 v8 v9 v10 v11 vp vq l,e=.returned (.int .i64 0)/\Cmd b #[v0,v1,v2,v3,v4,v5,v6,v7,v8,v9,v10,v11,n0,n1,n2,n3,n4,n5,sl,.bool false,vp,vq] l W'/\K [v0,v1,v2,v3,v4,v5,v6,v7,v8,v9,v10,v11] l W'/\(∀v∈[v0,v1,v2,v3,v4,v5,v6,v7,v8,v9,v10,v11],v.oneCell'=true)/\l.length<=1000000/\Below b W W')∨
  (e=.returned (.int .i64 1)/\N1/\Below b W W')∨(e=.returned (.int .i64 2)/\N2/\Below b W W')
def xBt (K:List Value->Bs->World->Prop) (N1 N2:Prop) (d0 d1 s0 s1 s2 s3 s4 s5 s6 s7 s8 s9:Value) (tag:Bs) (w:World) (e:Ending) (w':World):Prop:=
 ψ w w'/\((∃v0 v1 v2 v3 v4 v5 v6 v7 v8 v9 v10 v11 l,e=.returned (.tuple #[.agg #[v0,v1],.agg #[v2,v3,v4,v5,v6,v7,v8,v9,v10,v11],xR (l++tag++[32,79,75]++[13,10])])/\K [v0,v1,v2,v3,v4,v5,v6,v7,v8,v9,v10,v11] l w'/\(∀v∈[v0,v1,v2,v3,v4,v5,v6,v7,v8,v9,v10,v11],v.oneCell'=true))∨
  (e=.returned (.tuple #[.agg #[d0,d1],.agg #[s0,s1,s2,s3,s4,s5,s6,s7,s8,s9],xR (tag++[32,78,79]++[13,10])])/\N1)∨(e=.returned (.tuple #[.agg #[d0,d1],.agg #[s0,s1,s2,s3,s4,s5,s6,s7,s8,s9],xR (tag++[32,66,65,68]++[13,10])])/\N2))
def NoI (w:World) (st1 st2:Bool) (d0 d1:Value) (so:Obj) (W:World):Prop:=
 ψ w W/\W.heap[w.heap.size]?=some (xW d0 d1)/\W.heap[w.heap.size+1]?=some so/\W.heap[w.heap.size+1+1+1+1]?=some (if st1 then xW d0 d1 else xW (.slice none 0 0) (.slice none 0 0))/\W.heap[w.heap.size+1+1+1+1+1]?=some (if st2 then so else xHu)
theorem NoI.st1 {w W:World} {s2:Bool} {d0 d1:Value} {so:Obj} (h:NoI w false s2 d0 d1 so W):NoI w true s2 d0 d1 so (xU (w.heap.size+1+1+1+1) 0 [d0,d1] W):=by
 obtain⟨h1,h2,h3,h4,h5⟩:=h;rw[if_neg σ] at h4;exact⟨yZ ω _ 0 _ h1,yX ω _ 0 _ h2,yX ω _ 0 _ h3,by rw[if_pos rfl];exact uI h4 rfl,yX ω _ 0 _ h5⟩
theorem NoI.st2 {w W:World} {s1b:Bool} {d0 d1 s0 s1 s2 s3 s4 s5 s6 s7 s8 s9:Value} (h:NoI w s1b false d0 d1 (wT s0 s1 s2 s3 s4 s5 s6 s7 s8 s9) W):NoI w s1b true d0 d1 (wT s0 s1 s2 s3 s4 s5 s6 s7 s8 s9) (xU (w.heap.size+1+1+1+1+1) 0 [s0,s1,s2,s3,s4,s5,s6,s7,s8,s9] W):=by
 obtain⟨h1,h2,h3,h4,h5⟩:=h;rw[if_neg σ] at h5;exact⟨yZ ω _ 0 _ h1,yX ω _ 0 _ h2,yX ω _ 0 _ h3,yX ω _ 0 _ h4,by rw[if_pos rfl];exact uI h5 rfl⟩
theorem txt2 (a b c:Bs):(⟨a.toArray⟩:ByteArray)++⟨b.toArray⟩++⟨c.toArray⟩=⟨(a++b++c).toArray⟩:=by
 apply ByteArray.ext;simp
theorem xQg (K:List Value->Bs->World->Prop) (N1 N2:Prop) (d0 d1 s0 s1 s2 s3 s4 s5 s6 s7 s8 s9 n0 n1 n2 n3 n4 n5 xv lv:Value) (X L:List Bs) (tag nm NM:Bs) (rest:List Tok) (nd:Int) (fid:FuncId) (mt:Bool) (w:World)
  (hK:∀vs l,Stb (K vs l)) (hx:RdS w w.heap.size xv X) (hl:RdS w w.heap.size lv L) (hX:∀x∈X,x.length<=1000000) (hn:X.length<=1000) (hn2:L.length<=1000)
  (hone:∀v∈[d0,d1,s0,s1,s2,s3,s4,s5,s6,s7,s8,s9],v.oneCell'=true)
  (hT:rV X L=some ((0,tag)::(0,nm)::rest)) (htag:tag≠[42]) (hnm:upP nm=NM) (hid:NM≠[85,73,68]) (htl:tag.length<=1000000) (hnl:nm.length<=1000000)
  (hin:(NM,Value.agg #[.int .i64 nd,.func (.func fid) #[] #[]])∈uX) (huq:∀u,(NM,u)∈uX->u=Value.agg #[.int .i64 nd,.func (.func fid) #[] #[]]) (hE:∀args W,(callFunc fid args).run prog W=.ok (.enter fid args) W)
  (hme:∀b sl W,W.heap[b]?=some (.cells #[d0,d1,s0,s1,s2,s3,s4,s5,s6,s7,s8,s9,n0,n1,n2,n3,n4,n5,sl,.bool false,.pointer none,.slice none 0 0] 129 (0,0))->Calls prog 52 #[xQj b,.int .i64 nd] W λe w'=>e=.returned (.bool mt)/\w'=W) (hmf:mt=false->N2)
  (hrun:mt=true->∀b sl W,ψ w W->w.heap.size<=b->Cmd b #[d0,d1,s0,s1,s2,s3,s4,s5,s6,s7,s8,s9,n0,n1,n2,n3,n4,n5,sl,.bool false,.pointer none,.slice none 0 0] [] W->RK.RdR 2 tkF W W.heap.size sl rest->Calls prog fid #[xQj b] W (xGy K N1 N2 b n0 n1 n2 n3 n4 n5 sl W)):
  Calls prog 25 #[.agg #[d0,d1],.agg #[s0,s1,s2,s3,s4,s5,s6,s7,s8,s9],.agg #[xv,lv],.agg #[n0,n1,n2,n3,n4,n5]] w (xBt K N1 N2 d0 d1 s0 s1 s2 s3 s4 s5 s6 s7 s8 s9 tag w):=by
 have HT:=ι (λW (h:ψ w W)=>by
  have:=VB.xRa xv lv X L W ((hx.below h ν).more h.size) ((hl.below h ν).more h.size) hX hn hn2;rw[hT] at this;exact this)
 have xHm:=ι hone;have HK:=ι hK;have HME:=ι hme;have HMF:=ι hmf;have HRUN:=ι hrun;have HTAB:=ι (λW b (h:zZ W b uX)=>h.hit xB2 underlying135 (s:=NM) (xB2 _ hin) hin huq);clear hx hl hX hn hn2 hT hone hK hme hmf hrun hin huq
 have H6:=ι (six w (xW d0 d1) (wT s0 s1 s2 s3 s4 s5 s6 s7 s8 s9) (.cells #[xv,lv] 81) (drwO n0 n1 n2 n3 n4 n5) (xW (.slice none 0 0) (.slice none 0 0)) xHu);obtain⟨tb,htb⟩:∃tb:ByteArray,(⟨tag.toArray⟩:ByteArray)=tb:=⟨_,rfl⟩;have hts:tb.size<=1000000:=by rw[<-htb];exact htl
 have hstar:(tb.toList==[42])=false:=by rw[<-htb,ByteArray.toList_eq];exact beq_eq_false_iff_ne.2 htag
 have HTB:=ι htb;have HU:=ι (λW=>VB.xUe ⟨nm.toArray⟩ W (by show nm.length<_;omega));obtain⟨nb,hnb⟩:∃nb:ByteArray,(⟨NM.toArray⟩:ByteArray)=nb:=⟨_,rfl⟩;have huid:(nb.toList==[85,73,68])=false:=by rw[<-hnb,ByteArray.toList_eq];exact beq_eq_false_iff_ne.2 hid
 simp only[hnm,xR,hnb] at HU HTAB;have T0:=λ(W:World) (a:Addr)=>run_store prog W a d0 .plain (xHm.o d0 σ);have T1:=λ(W:World) (a:Addr)=>run_store prog W a d1 .plain (xHm.o d1 σ);have U0:=λ(W:World) (a:Addr)=>run_store prog W a s0 .plain (xHm.o s0 σ)
 have U1:=λ(W:World) (a:Addr)=>run_store prog W a s1 .plain (xHm.o s1 σ);have U2:=λ(W:World) (a:Addr)=>run_store prog W a s2 .plain (xHm.o s2 σ);have U3:=λ(W:World) (a:Addr)=>run_store prog W a s3 .plain (xHm.o s3 σ)
 have U4:=λ(W:World) (a:Addr)=>run_store prog W a s4 .plain (xHm.o s4 σ);have U5:=λ(W:World) (a:Addr)=>run_store prog W a s5 .plain (xHm.o s5 σ);have U6:=λ(W:World) (a:Addr)=>run_store prog W a s6 .plain (xHm.o s6 σ)
 have U7:=λ(W:World) (a:Addr)=>run_store prog W a s7 .plain (xHm.o s7 σ);have U8:=λ(W:World) (a:Addr)=>run_store prog W a s8 .plain (xHm.o s8 σ);have U9:=λ(W:World) (a:Addr)=>run_store prog W a s9 .plain (xHm.o s9 σ)
 have HST:=ι (And.intro T0 (And.intro T1 (And.intro U0 (And.intro U1 (And.intro U2 (And.intro U3 (And.intro U4 (And.intro U5 (And.intro U6 (And.intro U7 (And.intro U8 U9)))))))))));clear T0 T1 U0 U1 U2 U3 U4 U5 U6 U7 U8 U9;clear htag hnm htl htb hnb hid
 go_enter func25,ntmps25;go_wp2_with fail
 refine(HT.o _ H6.o.bel).mono ?_;rintro e w1 ⟨v,rfl,hown,hb1⟩;obtain⟨g,cap,rfl,hcap,hg,hcl⟩:=VB.xZh hown σ;have k0:w1.cell? ⟨g,0,none⟩=some (.int .i64 0):=hcl 0 _ rfl;have k1:w1.cell? ⟨g,1,none⟩=some (.string tb):=by rw[<-HTB.o];exact hcl 1 _ rfl
 have k2:w1.cell? ⟨g,2,none⟩=some (.int .i64 0):=hcl 2 _ rfl;have k3:w1.cell? ⟨g,3,none⟩=some (.string ⟨nm.toArray⟩):=hcl 3 _ rfl
 have HAR:=ι (And.intro hg (λj x (hj:rest[j]?=some x) i u (hu:(tkF x)[i]?=some u)=>hcl (4+(j*2+i)) u (by rw[show 4+(j*2+i)=(j*2+i)+1+1+1+1 by omega];simpa[kW] using xUn rest j x i u hj hu)));have HB1:=ι (H6.o.bel.trans (hb1.mono H6.o.bel.size));have hz6:=H6.o.size
 have P0:=ι (xD H6.o.p0 hb1 ω);have P1:=ι (xD H6.o.p1 hb1 ω);have P3:Hid (w1.heap[w.heap.size+1+1+1]?=some (drwO n0 n1 n2 n3 n4 n5)):=ι (xD H6.o.p3 hb1 ω);have P4:Hid (w1.heap[w.heap.size+1+1+1+1]?=some (xW (.slice none 0 0) (.slice none 0 0))):=ι (xD H6.o.p4 hb1 ω)
 have P5:Hid (w1.heap[w.heap.size+1+1+1+1+1]?=some xHu):=ι (xD H6.o.p5 hb1 ω);have hz1:w.heap.size+6<=w1.heap.size:=by have:=hb1.size;omega
 clear hown hb1 hcl hz6 H6 HT;simp only[List.length_cons] at hcap⊢;obtain⟨n9,hn9⟩:∃n9,rest.length=n9:=⟨_,rfl⟩;have HN9:=ι hn9;rw[hn9] at hcap⊢;clear hn9;have hc2:2<=cap:=ω;have hc9:n9<=cap-2:=ω;go_upto_region 4 with fail
 go_cut [13,14,15] (λv13 v14 v15 wx=>Hid (v13=.string tb/\v14=.string nb/\(∃A9 c9,v15=.slice A9 n9 c9/\n9<=c9/\(n9≠0->A9=some ⟨g,4,none⟩))/\ψ w1 wx))
 case first=>
  by_cases hc2:cap=2
  ·have hn0:n9=0:=ω;subst hn0;subst hc2;refine RG.xQ (λW=>Hid (ψ w1 W)) κ κ (ι (Below.refl _ _).drew) ?_;iterate 8 refine RG.dF (λw9 hw9=>have q1:=(hw9.o.cell (p:=⟨g,1,none⟩) hg).trans k1;have q3:=(hw9.o.cell (p:=⟨g,3,none⟩) hg).trans k3;And.intro (q1) q3) ?_
   apply RG.xJ
   ·intro w9 hw9;repeat go_step
    refine(HU.o w9).mono ?_;rintro e w10 ⟨rfl,zF⟩;simp only[];repeat go_step
    refine RG.xC ?_;exact ι (hw9.o.trans (zF.mono hw9.o.size))
   ·rfl
   iterate 5 refine RG.dS ?_
   refine RG.xS (λw2 hb2=>?_);go_wp2_with fail
   go_meet;exact ι ⟨rfl,rfl,⟨_,_,rfl,Nat.zero_le _,λh=>absurd rfl h⟩,hb2.o⟩
  ·skip
   refine RG.xQ (λW=>Hid (ψ w1 W)) κ κ (ι (Below.refl _ _).drew) ?_;iterate 8 refine RG.dF (λw9 hw9=>have q1:=(hw9.o.cell (p:=⟨g,1,none⟩) hg).trans k1;have q3:=(hw9.o.cell (p:=⟨g,3,none⟩) hg).trans k3;And.intro (q1) q3) ?_
   apply RG.xJ
   ·intro w9 hw9;repeat go_step
    refine(HU.o w9).mono ?_;rintro e w10 ⟨rfl,zF⟩;simp only[];repeat go_step
    refine RG.xC ?_;exact ι (hw9.o.trans (zF.mono hw9.o.size))
   ·rfl
   iterate 5 refine RG.dS ?_
   refine RG.xS (λw2 hb2=>?_);go_wp2_with fail
   go_meet;exact ι ⟨rfl,rfl,⟨_,_,rfl,hc9,λ_=>rfl⟩,hb2.o⟩
 case rest=>
  obtain⟨rfl,rfl,⟨A9,c9,rfl,hnc,hA9⟩,hb2⟩:=hcut.o;have HB2:=ι (HB1.o.trans (hb2.mono HB1.o.size));have Q0:=ι (xD P0.o hb2 (xH P0.o));have Q1:=ι (xD P1.o hb2 (xH P1.o));have Q3:=ι (xD P3.o hb2 (xH P3.o));have Q4:=ι (xD P4.o hb2 (xH P4.o));have Q5:=ι (xD P5.o hb2 (xH P5.o))
  have HA:Hid (RK.RdR 2 tkF wc wc.heap.size (.slice A9 n9 c9) rest):=ι ⟨A9,c9,by rw[HN9.o],by rw[HN9.o];exact hnc,λhne=>⟨g,4,hA9 (by rw[<-HN9.o];omega),Nat.lt_of_lt_of_le HAR.o.1 hb2.size,λj x hj i u hu=>by rw[Nat.add_assoc];exact(hb2.cell (p:=⟨g,4+(j*2+i),none⟩) HAR.o.1).trans (HAR.o.2 j x hj i u hu)⟩⟩
  have hz2:w.heap.size+6<=wc.heap.size:=Nat.le_trans hz1 hb2.size;clear hb2 P0 P1 P3 P4 P5 HB1 k0 k1 k2 k3 hg hz1 HU hstar hnl HAR HN9 hA9 hnc hcap hc2 hc9 hcut;have a0:wc.cell? ⟨w.heap.size,0,none⟩=some d0:=xA Q0.o 0;have a1:wc.cell? ⟨w.heap.size,1,none⟩=some d1:=xA Q0.o 1
  have x0:wc.cell? ⟨w.heap.size+1,0,none⟩=some s0:=xA Q1.o 0;have x1:wc.cell? ⟨w.heap.size+1,1,none⟩=some s1:=xA Q1.o 1;have x2:wc.cell? ⟨w.heap.size+1,2,none⟩=some s2:=xA Q1.o 2;have x3:wc.cell? ⟨w.heap.size+1,3,none⟩=some s3:=xA Q1.o 3
  have x4:wc.cell? ⟨w.heap.size+1,4,none⟩=some s4:=xA Q1.o 4;have x5:wc.cell? ⟨w.heap.size+1,5,none⟩=some s5:=xA Q1.o 5;have x6:wc.cell? ⟨w.heap.size+1,6,none⟩=some s6:=xA Q1.o 6;have x7:wc.cell? ⟨w.heap.size+1,7,none⟩=some s7:=xA Q1.o 7
  have x8:wc.cell? ⟨w.heap.size+1,8,none⟩=some s8:=xA Q1.o 8;have x9:wc.cell? ⟨w.heap.size+1,9,none⟩=some s9:=xA Q1.o 9;have e0:wc.cell? ⟨w.heap.size+1+1+1,0,none⟩=some n0:=xA Q3.o 0;have e1:wc.cell? ⟨w.heap.size+1+1+1,1,none⟩=some n1:=xA Q3.o 1
  have e2:wc.cell? ⟨w.heap.size+1+1+1,2,none⟩=some n2:=xA Q3.o 2;have e3:wc.cell? ⟨w.heap.size+1+1+1,3,none⟩=some n3:=xA Q3.o 3;have e4:wc.cell? ⟨w.heap.size+1+1+1,4,none⟩=some n4:=xA Q3.o 4;have e5:wc.cell? ⟨w.heap.size+1+1+1,5,none⟩=some n5:=xA Q3.o 5;go_wp2_with fail
  have HC0:=ι (xM wc (.cells #[d0,d1,s0,s1,s2,s3,s4,s5,s6,s7,s8,s9,n0,n1,n2,n3,n4,n5,.slice A9 n9 c9,.bool false,.pointer none,.slice none 0 0] 129));clear a0 a1 x0 x1 x2 x3 x4 x5 x6 x7 x8 x9 e0 e1 e2 e3 e4 e5;refine(xUx _).mono ?_;rintro e w3 ⟨rfl,hmap,hb3⟩
  have hz2':(wc.alloc (.cells #[d0,d1,s0,s1,s2,s3,s4,s5,s6,s7,s8,s9,n0,n1,n2,n3,n4,n5,.slice A9 n9 c9,.bool false,.pointer none,.slice none 0 0] 129)).heap.size=wc.heap.size+1:=σ
  have yA7:(Instr.lookup 135 (.map (some (wc.heap.size+1))) (.string nb) true).run prog w3=.ok (.tuple #[.agg #[.int .i64 nd,.func (.func fid) #[] #[]],.bool true]) w3:=by
   rw[hz2'] at hmap;exact HTAB.o _ _ hmap
  have R0:=ι (xD (xO Q0.o _) hb3 (Nat.lt_trans (xH Q0.o) (by rw[hz2'];omega)));have R1:=ι (xD (xO Q1.o _) hb3 (Nat.lt_trans (xH Q1.o) (by rw[hz2'];omega)));have R4:=ι (xD (xO Q4.o _) hb3 (Nat.lt_trans (xH Q4.o) (by rw[hz2'];omega)))
  have R5:=ι (xD (xO Q5.o _) hb3 (Nat.lt_trans (xH Q5.o) (by rw[hz2'];omega)));have RC:=ι (xD HC0.o hb3 (by rw[hz2'];omega))
  have HA3:=ι (show RK.RdR 2 tkF (w3.alloc (.cells #[.int .i64 nd,.func (.func fid) #[] #[]] 133)) (w3.alloc (.cells #[.int .i64 nd,.func (.func fid) #[] #[]] 133)).heap.size (.slice A9 n9 c9) rest from by
   have k1:=φ wc (.cells #[d0,d1,s0,s1,s2,s3,s4,s5,s6,s7,s8,s9,n0,n1,n2,n3,n4,n5,.slice A9 n9 c9,.bool false,.pointer none,.slice none 0 0] 129);have k2:=k1.trans (hb3.mono k1.size);have k3:=k2.alloc k2.size (.cells #[.int .i64 nd,.func (.func fid) #[] #[]] 133)
   exact(HA.o.below k3 ν).more k3.size)
  have HB3:=ι ((HB2.o.alloc HB2.o.size _).trans (hb3.mono (by rw[hz2'];have:=HB2.o.size;omega)));have hz3:wc.heap.size+1<=w3.heap.size:=by have:=hb3.size;omega
  clear hmap hb3 hz2' Q0 Q1 Q3 Q4 Q5 HC0 HB2 HA HTAB;have m1:(w3.alloc (.cells #[.int .i64 nd,.nilFunc] 133)).cell? ⟨w3.heap.size,1,none⟩=some .nilFunc:=xA (xM _ _) 1;have m2:(w3.alloc (.cells #[.int .i64 nd,.nilFunc] 133)).frozen? ⟨w3.heap.size,1,none⟩=false:=xB (xM _ _) 1
  have S0:=ι (xO R0.o (.cells #[.int .i64 nd,.func (.func fid) #[] #[]] 133));have S1:=ι (xO R1.o (.cells #[.int .i64 nd,.func (.func fid) #[] #[]] 133));have S4:=ι (xO R4.o (.cells #[.int .i64 nd,.func (.func fid) #[] #[]] 133))
  have S5:=ι (xO R5.o (.cells #[.int .i64 nd,.func (.func fid) #[] #[]] 133));have SC:=ι (xO RC.o (.cells #[.int .i64 nd,.func (.func fid) #[] #[]] 133));have HB4:=ι (HB3.o.alloc HB3.o.size (.cells #[.int .i64 nd,.func (.func fid) #[] #[]] 133));go_wp2_with fail
  refine(HME.o _ _ _ SC.o).mono ?_;rintro e w4 ⟨rfl,rfl⟩;clear R0 R1 R4 R5 RC HB3 m1 m2;cases mt
  case false=>
   clear yA7;generalize (w3.alloc (.cells #[.int .i64 nd,.func (.func fid) #[] #[]] 133))=w5 at S0 S1 S4 S5 SC HB4 HA3⊢;have HB5:Hid (NoI w false false d0 d1 (wT s0 s1 s2 s3 s4 s5 s6 s7 s8 s9) w5):=ι ⟨HB4.o,S0.o,S1.o,S4.o,S5.o⟩;clear HB4 S0 S1 S4 S5 SC HA3 HME HRUN HK
   obtain⟨T0,T1,U0,U1,U2,U3,U4,U5,U6,U7,U8,U9⟩:=HST.o;go_upto_region 12 with fail
   have big1:¬9223372036854775807<tb.size+4:=ω;have big2:¬9223372036854775807<tb.size+4+2:=ω;refine RG.yT [5,6] (λL W=>Hid (NoI w (L 5) (L 6) d0 d1 (wT s0 s1 s2 s3 s4 s5 s6 s7 s8 s9) W)) (λL L' W h hI=>by rw[<-h 5 δ,<-h 6 δ];exact hI) κ κ δ (ι ⟨HB5.o.1.drew,HB5.o.2⟩) ?_
   refine RG.lF (λL w9 hw9=>have q0:=xA hw9.o.2.1 0;have q1:=xA hw9.o.2.1 1;And.intro (q0) q1) ?_
   refine RG.lF (λL w9 hw9=>have q0:=xA hw9.o.2.2.1 0;have q1:=xA hw9.o.2.2.1 1;have q2:=xA hw9.o.2.2.1 2;have q3:=xA hw9.o.2.2.1 3;have q4:=xA hw9.o.2.2.1 4;have q5:=xA hw9.o.2.2.1 5;have q6:=xA hw9.o.2.2.1 6;have q7:=xA hw9.o.2.2.1 7;have q8:=xA hw9.o.2.2.1 8;have q9:=xA hw9.o.2.2.1 9;And.intro (q0) (And.intro (q1) (And.intro (q2) (And.intro (q3) (And.intro (q4) (And.intro (q5) (And.intro (q6) (And.intro (q7) (And.intro (q8) q9))))))))) ?_
   iterate 3 refine RG.lS ?_
   apply RG.yA
   ·rfl
   ·intro L w9 h0 _ hw9;have hh:=hw9.o;rw[h0] at hh;have r4:=hh.2.2.2.1;rw[if_neg σ] at r4;have f0:=xA r4 0;have f1:=xA r4 1;have y0:=xB r4 0;have y1:=xB r4 1;have hn:=hh.st1;simp only[xU,Nat.reduceAdd] at hn;have HH:=ι hn;clear hw9 hh r4 hn;repeat go_step
    refine RG.xC ?_;show Hid (NoI w true (L 6) _ _ _ _);with_reducible exact HH
   ·rfl
   apply RG.yA
   ·rfl
   ·intro L w9 h0 _ hw9;have hh:=hw9.o;rw[h0] at hh;have r5:=hh.2.2.2.2;rw[if_neg σ] at r5;have f0:=xA r5 0;have y0:=xB r5 0;have f1:=xA r5 1;have y1:=xB r5 1;have f2:=xA r5 2;have y2:=xB r5 2;have f3:=xA r5 3;have y3:=xB r5 3;have f4:=xA r5 4;have y4:=xB r5 4;have f5:=xA r5 5
    have y5:=xB r5 5;have f6:=xA r5 6;have y6:=xB r5 6;have f7:=xA r5 7;have y7:=xB r5 7;have f8:=xA r5 8;have y8:=xB r5 8;have f9:=xA r5 9;have y9:=xB r5 9;have hn:=hh.st2;simp only[xU,Nat.reduceAdd] at hn;have HH:=ι hn;clear hw9 hh r5 hn;repeat go_step
    refine RG.xC ?_;show Hid (NoI w (L 5) true _ _ _ _);with_reducible exact HH
   ·rfl
   refine RG.lS ?_;refine RG.xZ (λw9 hw9=>?_);have fin:NoI w true true d0 d1 (wT s0 s1 s2 s3 s4 s5 s6 s7 s8 s9) w9:=hw9.o;have r4:=fin.2.2.2.1;have r5:=fin.2.2.2.2;rw[if_pos rfl] at r4 r5;have f0:=xA r4 0;have f1:=xA r4 1;have g0:=xA r5 0;have g1:=xA r5 1;have g2:=xA r5 2
   have g3:=xA r5 3;have g4:=xA r5 4;have g5:=xA r5 5;have g6:=xA r5 6;have g7:=xA r5 7;have g8:=xA r5 8;have g9:=xA r5 9;have HBE:=ι fin.1;clear hw9 fin r4 r5 HB5;go_wp2
   refine bodyPost_ret (v:=.tuple #[.agg #[d0,d1],.agg #[s0,s1,s2,s3,s4,s5,s6,s7,s8,s9],.string (tb++⟨#[32,66,65,68]⟩++⟨#[13,10]⟩)]) (by simp[results,results25,go_sem,f0,f1,g0,g1,g2,g3,g4,g5,g6,g7,g8,g9]) rfl ?_;refine⟨HBE.o,.inr (.inr ⟨?_,HMF.o (by first|rfl|trivial)⟩)⟩
   rw[<-HTB.o];exact congrArg (λb=>Ending.returned (.tuple #[.agg #[d0,d1],.agg #[s0,s1,s2,s3,s4,s5,s6,s7,s8,s9],.string b])) (txt2 tag [32,66,65,68] [13,10])
  case true=>
   have HCM:=ι (xGk SC.o rfl rfl rfl);have HZ:Hid (w.heap.size<=wc.heap.size):=ι ω;have f1:=xA (xM w3 (.cells #[.int .i64 nd,.func (.func fid) #[] #[]] 133)) 1;go_wp2_with fail
   refine(HRUN.o (by first|rfl|trivial) _ _ _ HB4.o HZ.o HCM.o HA3.o).mono ?_;rintro e w5 (⟨v0,v1,v2,v3,v4,v5,v6,v7,v8,v9,v10,v11,vp,vq,l,rfl,hcm5,hk5,ho5,hl5,hb5⟩|⟨rfl,hn1,hb5⟩|⟨rfl,hn1,hb5⟩)
   ·clear f1
    have HF:Hid (xKi w wc.heap.size (w.heap.size+1+1+1+1) (w.heap.size+1+1+1+1+1) #[v0,v1,v2,v3,v4,v5,v6,v7,v8,v9,v10,v11,n0,n1,n2,n3,n4,n5,.slice A9 n9 c9,.bool false,vp,vq] l false false false (xW v0 v1) (wT v2 v3 v4 v5 v6 v7 v8 v9 v10 v11) w5/\K [v0,v1,v2,v3,v4,v5,v6,v7,v8,v9,v10,v11] l w5):=
     ι ⟨⟨HB4.o.trans (hb5.mono HZ.o),hcm5.blk,λ_=>hcm5,xD S4.o hb5 ω,xD S5.o hb5 ω⟩,hk5⟩
    have HK5:=ι (HK.o [v0,v1,v2,v3,v4,v5,v6,v7,v8,v9,v10,v11] l);have Ho5:=ι ho5;clear S0 S1 S4 S5 SC HB4 HCM hcm5 hb5 yA7 hk5 ho5 HME HMF HRUN HK;go_upto_region 18 with fail
    obtain⟨lb,hlb2⟩:∃lb:ByteArray,(⟨l.toArray⟩:ByteArray)=lb:=⟨_,rfl⟩;have hlb:lb.size<=1000000:=by rw[<-hlb2];exact hl5
    have HLB:=ι hlb2;have HSTR:=ι (λw9 (h:Cmd wc.heap.size #[v0,v1,v2,v3,v4,v5,v6,v7,v8,v9,v10,v11,n0,n1,n2,n3,n4,n5,.slice A9 n9 c9,.bool false,vp,vq] l w9)=>yCm wc.heap.size #[v0,v1,v2,v3,v4,v5,v6,v7,v8,v9,v10,v11,n0,n1,n2,n3,n4,n5,.slice A9 n9 c9,.bool false,vp,vq] l w9 h)
    rw[hlb2] at HSTR;clear hlb2 hl5;have big0:¬9223372036854775807<lb.size+tb.size:=ω;have big1:¬9223372036854775807<lb.size+tb.size+3:=ω;have big2:¬9223372036854775807<lb.size+tb.size+3+2:=ω;have V0:=λ(W:World) (a:Addr)=>run_store prog W a v0 .plain (Ho5.o v0 σ)
    have V1:=λ(W:World) (a:Addr)=>run_store prog W a v1 .plain (Ho5.o v1 σ);have V2:=λ(W:World) (a:Addr)=>run_store prog W a v2 .plain (Ho5.o v2 σ);have V3:=λ(W:World) (a:Addr)=>run_store prog W a v3 .plain (Ho5.o v3 σ)
    have V4:=λ(W:World) (a:Addr)=>run_store prog W a v4 .plain (Ho5.o v4 σ);have V5:=λ(W:World) (a:Addr)=>run_store prog W a v5 .plain (Ho5.o v5 σ);have V6:=λ(W:World) (a:Addr)=>run_store prog W a v6 .plain (Ho5.o v6 σ)
    have V7:=λ(W:World) (a:Addr)=>run_store prog W a v7 .plain (Ho5.o v7 σ);have V8:=λ(W:World) (a:Addr)=>run_store prog W a v8 .plain (Ho5.o v8 σ);have V9:=λ(W:World) (a:Addr)=>run_store prog W a v9 .plain (Ho5.o v9 σ)
    have V10:=λ(W:World) (a:Addr)=>run_store prog W a v10 .plain (Ho5.o v10 σ);have V11:=λ(W:World) (a:Addr)=>run_store prog W a v11 .plain (Ho5.o v11 σ)
    refine RG.yT [11,16,17] (λL W=>Hid (xKi w wc.heap.size (w.heap.size+1+1+1+1) (w.heap.size+1+1+1+1+1) #[v0,v1,v2,v3,v4,v5,v6,v7,v8,v9,v10,v11,n0,n1,n2,n3,n4,n5,.slice A9 n9 c9,.bool false,vp,vq] l (L 11) (L 16) (L 17) (xW v0 v1) (wT v2 v3 v4 v5 v6 v7 v8 v9 v10 v11) W/\K [v0,v1,v2,v3,v4,v5,v6,v7,v8,v9,v10,v11] l W)) (λL L' W h hI=>by rw[<-h 11 δ,<-h 16 δ,<-h 17 δ];exact hI) κ κ δ (ι ⟨HF.o.1.drew,HK5.o.still HF.o.2 (Still.drew _)⟩) ?_
    iterate 3 refine RG.lS ?_
    refine RG.lF (λL w9 hw9=>have q0:=xA hw9.o.1.cmd 0;have q1:=xA hw9.o.1.cmd 1;And.intro (q0) q1) ?_;iterate 3 refine RG.lS ?_
    refine RG.lF (λL w9 hw9=>have q2:=xA hw9.o.1.cmd 2;have q3:=xA hw9.o.1.cmd 3;have q4:=xA hw9.o.1.cmd 4;have q5:=xA hw9.o.1.cmd 5;have q6:=xA hw9.o.1.cmd 6;have q7:=xA hw9.o.1.cmd 7;have q8:=xA hw9.o.1.cmd 8;have q9:=xA hw9.o.1.cmd 9;have q10:=xA hw9.o.1.cmd 10;have q11:=xA hw9.o.1.cmd 11;And.intro (q2) (And.intro (q3) (And.intro (q4) (And.intro (q5) (And.intro (q6) (And.intro (q7) (And.intro (q8) (And.intro (q9) (And.intro (q10) q11))))))))) ?_
    iterate 3 refine RG.lS ?_
    apply RG.yA
    ·rfl
    ·intro L w9 h0 _ hw9;have hcmd:=hw9.o.1.bld h0;repeat go_step
     refine(HSTR.o w9 hcmd).mono ?_;rintro e w10 ⟨rfl,zF,he10,hs10⟩;simp only[];repeat go_step
     refine RG.xC ?_;exact ι ⟨hw9.o.1.call zF he10 ω ω ω,HK5.o.still hw9.o.2 hs10⟩
    ·rfl
    iterate 4 refine RG.lS ?_
    apply RG.yA
    ·rfl
    ·intro L w9 h0 _ hw9;have hh:=hw9.o;rw[h0] at hh;have r4:=hh.1.r4;rw[if_neg σ] at r4;have f0:=xA r4 0;have f1:=xA r4 1;have y0:=xB r4 0;have y1:=xB r4 1;have hk:=HK5.o.put [v0,v1] hh.2 r4 (.inl rfl);simp only[xU,Nat.reduceAdd] at hk;have HK9:=ι hk;have HH:=ι hh.1
     clear hw9 hh r4 hk;repeat go_step
     refine RG.xC ?_;show Hid (xKi w _ _ _ _ _ (L 11) true (L 17) _ _ _/\_);with_reducible exact ι ⟨xKi.st1 HH.o ω ω ω,HK9.o⟩
    ·rfl
    apply RG.yA
    ·rfl
    ·intro L w9 h0 _ hw9;have hh:=hw9.o;rw[h0] at hh;have r5:=hh.1.r5;rw[if_neg σ] at r5;have f0:=xA r5 0;have y0:=xB r5 0;have f1:=xA r5 1;have y1:=xB r5 1;have f2:=xA r5 2;have y2:=xB r5 2;have f3:=xA r5 3;have y3:=xB r5 3;have f4:=xA r5 4;have y4:=xB r5 4;have f5:=xA r5 5
     have y5:=xB r5 5;have f6:=xA r5 6;have y6:=xB r5 6;have f7:=xA r5 7;have y7:=xB r5 7;have f8:=xA r5 8;have y8:=xB r5 8;have f9:=xA r5 9;have y9:=xB r5 9;have hk:=HK5.o.put [v2,v3,v4,v5,v6,v7,v8,v9,v10,v11] hh.2 r5 (.inr rfl);simp only[xU,Nat.reduceAdd] at hk
     have HK9:=ι hk;have HH:=ι hh.1;clear hw9 hh r5 hk;repeat go_step
     refine RG.xC ?_;show Hid (xKi w _ _ _ _ _ (L 11) (L 16) true _ _ _/\_);with_reducible exact ι ⟨xKi.st2 HH.o ω ω ω,HK9.o⟩
    ·rfl
    refine RG.lS ?_;refine RG.xZ (λw9 hw9=>?_)
    have fin:xKi w wc.heap.size (w.heap.size+1+1+1+1) (w.heap.size+1+1+1+1+1) #[v0,v1,v2,v3,v4,v5,v6,v7,v8,v9,v10,v11,n0,n1,n2,n3,n4,n5,.slice A9 n9 c9,.bool false,vp,vq] l true true true (xW v0 v1) (wT v2 v3 v4 v5 v6 v7 v8 v9 v10 v11) w9:=hw9.o.1;have r4:=fin.r4
    have r5:=fin.r5;rw[if_pos rfl] at r4 r5;have f0:=xA r4 0;have f1:=xA r4 1;have g0:=xA r5 0;have g1:=xA r5 1;have g2:=xA r5 2;have g3:=xA r5 3;have g4:=xA r5 4;have g5:=xA r5 5;have g6:=xA r5 6;have g7:=xA r5 7;have g8:=xA r5 8;have g9:=xA r5 9
    have HBE:=ι (And.intro fin.bel hw9.o.2);clear hw9 fin r4 r5 HF;go_wp2
    refine bodyPost_ret (v:=.tuple #[.agg #[v0,v1],.agg #[v2,v3,v4,v5,v6,v7,v8,v9,v10,v11],.string (lb++tb++⟨#[32,79,75]⟩++⟨#[13,10]⟩)]) (by simp[results,results25,go_sem,f0,f1,g0,g1,g2,g3,g4,g5,g6,g7,g8,g9]) rfl ?_
    refine⟨HBE.o.1,.inl ⟨v0,v1,v2,v3,v4,v5,v6,v7,v8,v9,v10,v11,l,?_,HBE.o.2,Ho5.o⟩⟩;rw[<-HTB.o,<-HLB.o];exact congrArg (λb=>Ending.returned (.tuple #[.agg #[v0,v1],.agg #[v2,v3,v4,v5,v6,v7,v8,v9,v10,v11],.string b])) (txt3 l tag [32,79,75] [13,10])
   ·have HN1:=ι hn1;have HB5:Hid (NoI w false false d0 d1 (wT s0 s1 s2 s3 s4 s5 s6 s7 s8 s9) w5):=ι ⟨HB4.o.trans (hb5.mono HZ.o),xD S0.o hb5 ω,xD S1.o hb5 ω,xD S4.o hb5 ω,xD S5.o hb5 ω⟩;clear f1 HB4 yA7 HME HMF HRUN HK HCM S0 S1 S4 S5 SC hb5 hn1 HA3
    obtain⟨T0,T1,U0,U1,U2,U3,U4,U5,U6,U7,U8,U9⟩:=HST.o;go_upto_region 17 with fail
    have big1:¬9223372036854775807<tb.size+3:=ω;have big2:¬9223372036854775807<tb.size+3+2:=ω;refine RG.yT [5,6] (λL W=>Hid (NoI w (L 5) (L 6) d0 d1 (wT s0 s1 s2 s3 s4 s5 s6 s7 s8 s9) W)) (λL L' W h hI=>by rw[<-h 5 δ,<-h 6 δ];exact hI) κ κ δ (ι ⟨HB5.o.1.drew,HB5.o.2⟩) ?_
    refine RG.lF (λL w9 hw9=>have q0:=xA hw9.o.2.1 0;have q1:=xA hw9.o.2.1 1;And.intro (q0) q1) ?_
    refine RG.lF (λL w9 hw9=>have q0:=xA hw9.o.2.2.1 0;have q1:=xA hw9.o.2.2.1 1;have q2:=xA hw9.o.2.2.1 2;have q3:=xA hw9.o.2.2.1 3;have q4:=xA hw9.o.2.2.1 4;have q5:=xA hw9.o.2.2.1 5;have q6:=xA hw9.o.2.2.1 6;have q7:=xA hw9.o.2.2.1 7;have q8:=xA hw9.o.2.2.1 8;have q9:=xA hw9.o.2.2.1 9;And.intro (q0) (And.intro (q1) (And.intro (q2) (And.intro (q3) (And.intro (q4) (And.intro (q5) (And.intro (q6) (And.intro (q7) (And.intro (q8) q9))))))))) ?_
    iterate 3 refine RG.lS ?_
    apply RG.yA
    ·rfl
    ·intro L w9 h0 _ hw9;have hh:=hw9.o;rw[h0] at hh;have r4:=hh.2.2.2.1;rw[if_neg σ] at r4;have f0:=xA r4 0;have f1:=xA r4 1;have y0:=xB r4 0;have y1:=xB r4 1;have hn:=hh.st1;simp only[xU,Nat.reduceAdd] at hn;have HH:=ι hn;clear hw9 hh r4 hn;repeat go_step
     refine RG.xC ?_;show Hid (NoI w true (L 6) _ _ _ _);with_reducible exact HH
    ·rfl
    apply RG.yA
    ·rfl
    ·intro L w9 h0 _ hw9;have hh:=hw9.o;rw[h0] at hh;have r5:=hh.2.2.2.2;rw[if_neg σ] at r5;have f0:=xA r5 0;have y0:=xB r5 0;have f1:=xA r5 1;have y1:=xB r5 1;have f2:=xA r5 2;have y2:=xB r5 2;have f3:=xA r5 3;have y3:=xB r5 3;have f4:=xA r5 4;have y4:=xB r5 4
     have f5:=xA r5 5;have y5:=xB r5 5;have f6:=xA r5 6;have y6:=xB r5 6;have f7:=xA r5 7;have y7:=xB r5 7;have f8:=xA r5 8;have y8:=xB r5 8;have f9:=xA r5 9;have y9:=xB r5 9;have hn:=hh.st2;simp only[xU,Nat.reduceAdd] at hn;have HH:=ι hn;clear hw9 hh r5 hn;repeat go_step
     refine RG.xC ?_;show Hid (NoI w (L 5) true _ _ _ _);with_reducible exact HH
    ·rfl
    refine RG.lS ?_;refine RG.xZ (λw9 hw9=>?_);have fin:NoI w true true d0 d1 (wT s0 s1 s2 s3 s4 s5 s6 s7 s8 s9) w9:=hw9.o;have r4:=fin.2.2.2.1;have r5:=fin.2.2.2.2;rw[if_pos rfl] at r4 r5;have f0:=xA r4 0;have f1:=xA r4 1;have g0:=xA r5 0;have g1:=xA r5 1;have g2:=xA r5 2
    have g3:=xA r5 3;have g4:=xA r5 4;have g5:=xA r5 5;have g6:=xA r5 6;have g7:=xA r5 7;have g8:=xA r5 8;have g9:=xA r5 9;have HBE:=ι fin.1;clear hw9 fin r4 r5 HB5;go_wp2
    refine bodyPost_ret (v:=.tuple #[.agg #[d0,d1],.agg #[s0,s1,s2,s3,s4,s5,s6,s7,s8,s9],.string (tb++⟨#[32,78,79]⟩++⟨#[13,10]⟩)]) (by simp[results,results25,go_sem,f0,f1,g0,g1,g2,g3,g4,g5,g6,g7,g8,g9]) rfl ?_;refine⟨HBE.o,.inr (.inl ⟨?_,HN1.o⟩)⟩;rw[<-HTB.o]
    exact congrArg (λb=>Ending.returned (.tuple #[.agg #[d0,d1],.agg #[s0,s1,s2,s3,s4,s5,s6,s7,s8,s9],.string b])) (txt2 tag [32,78,79] [13,10])
   ·have HN1:=ι hn1;have HB5:Hid (NoI w false false d0 d1 (wT s0 s1 s2 s3 s4 s5 s6 s7 s8 s9) w5):=ι ⟨HB4.o.trans (hb5.mono HZ.o),xD S0.o hb5 ω,xD S1.o hb5 ω,xD S4.o hb5 ω,xD S5.o hb5 ω⟩;clear f1 HB4 yA7 HME HMF HRUN HK HCM S0 S1 S4 S5 SC hb5 hn1 HA3
    obtain⟨T0,T1,U0,U1,U2,U3,U4,U5,U6,U7,U8,U9⟩:=HST.o;go_upto_region 15 with fail
    have big1:¬9223372036854775807<tb.size+4:=ω;have big2:¬9223372036854775807<tb.size+4+2:=ω;refine RG.yT [5,6] (λL W=>Hid (NoI w (L 5) (L 6) d0 d1 (wT s0 s1 s2 s3 s4 s5 s6 s7 s8 s9) W)) (λL L' W h hI=>by rw[<-h 5 δ,<-h 6 δ];exact hI) κ κ δ (ι ⟨HB5.o.1.drew,HB5.o.2⟩) ?_
    refine RG.lF (λL w9 hw9=>have q0:=xA hw9.o.2.1 0;have q1:=xA hw9.o.2.1 1;And.intro (q0) q1) ?_
    refine RG.lF (λL w9 hw9=>have q0:=xA hw9.o.2.2.1 0;have q1:=xA hw9.o.2.2.1 1;have q2:=xA hw9.o.2.2.1 2;have q3:=xA hw9.o.2.2.1 3;have q4:=xA hw9.o.2.2.1 4;have q5:=xA hw9.o.2.2.1 5;have q6:=xA hw9.o.2.2.1 6;have q7:=xA hw9.o.2.2.1 7;have q8:=xA hw9.o.2.2.1 8;have q9:=xA hw9.o.2.2.1 9;And.intro (q0) (And.intro (q1) (And.intro (q2) (And.intro (q3) (And.intro (q4) (And.intro (q5) (And.intro (q6) (And.intro (q7) (And.intro (q8) q9))))))))) ?_
    iterate 3 refine RG.lS ?_
    apply RG.yA
    ·rfl
    ·intro L w9 h0 _ hw9;have hh:=hw9.o;rw[h0] at hh;have r4:=hh.2.2.2.1;rw[if_neg σ] at r4;have f0:=xA r4 0;have f1:=xA r4 1;have y0:=xB r4 0;have y1:=xB r4 1;have hn:=hh.st1;simp only[xU,Nat.reduceAdd] at hn;have HH:=ι hn;clear hw9 hh r4 hn;repeat go_step
     refine RG.xC ?_;show Hid (NoI w true (L 6) _ _ _ _);with_reducible exact HH
    ·rfl
    apply RG.yA
    ·rfl
    ·intro L w9 h0 _ hw9;have hh:=hw9.o;rw[h0] at hh;have r5:=hh.2.2.2.2;rw[if_neg σ] at r5;have f0:=xA r5 0;have y0:=xB r5 0;have f1:=xA r5 1;have y1:=xB r5 1;have f2:=xA r5 2;have y2:=xB r5 2;have f3:=xA r5 3;have y3:=xB r5 3;have f4:=xA r5 4;have y4:=xB r5 4
     have f5:=xA r5 5;have y5:=xB r5 5;have f6:=xA r5 6;have y6:=xB r5 6;have f7:=xA r5 7;have y7:=xB r5 7;have f8:=xA r5 8;have y8:=xB r5 8;have f9:=xA r5 9;have y9:=xB r5 9;have hn:=hh.st2;simp only[xU,Nat.reduceAdd] at hn;have HH:=ι hn;clear hw9 hh r5 hn;repeat go_step
     refine RG.xC ?_;show Hid (NoI w (L 5) true _ _ _ _);with_reducible exact HH
    ·rfl
    refine RG.lS ?_;refine RG.xZ (λw9 hw9=>?_);have fin:NoI w true true d0 d1 (wT s0 s1 s2 s3 s4 s5 s6 s7 s8 s9) w9:=hw9.o;have r4:=fin.2.2.2.1;have r5:=fin.2.2.2.2;rw[if_pos rfl] at r4 r5;have f0:=xA r4 0;have f1:=xA r4 1;have g0:=xA r5 0;have g1:=xA r5 1;have g2:=xA r5 2
    have g3:=xA r5 3;have g4:=xA r5 4;have g5:=xA r5 5;have g6:=xA r5 6;have g7:=xA r5 7;have g8:=xA r5 8;have g9:=xA r5 9;have HBE:=ι fin.1;clear hw9 fin r4 r5 HB5;go_wp2
    refine bodyPost_ret (v:=.tuple #[.agg #[d0,d1],.agg #[s0,s1,s2,s3,s4,s5,s6,s7,s8,s9],.string (tb++⟨#[32,66,65,68]⟩++⟨#[13,10]⟩)]) (by simp[results,results25,go_sem,f0,f1,g0,g1,g2,g3,g4,g5,g6,g7,g8,g9]) rfl ?_;refine⟨HBE.o,.inr (.inr ⟨?_,HN1.o⟩)⟩;rw[<-HTB.o]
    exact congrArg (λb=>Ending.returned (.tuple #[.agg #[d0,d1],.agg #[s0,s1,s2,s3,s4,s5,s6,s7,s8,s9],.string b])) (txt2 tag [32,66,65,68] [13,10])
end Go.Proofs.IM
namespace Go.Proofs.IM
open Go.RowKit MM BU Mailsack SV
theorem xSy (b:Nat) (cs:Array Value) (w:World) (h:Cmd b cs [] w):
  Calls prog 242 #[slf b] w λe w'=>e=.returned (.tuple #[])/\Cmd b (cs.setIfInBounds 20 (slf b)) [] w'/\(cs.setIfInBounds 20 (slf b))[20]?=some (slf b)/\Tn (·=b) w w':=by
 obtain⟨p,v,hp,hv,hor,hown,hne,hnil⟩:=h.own;have h20:(cs.setIfInBounds 20 (slf b))[20]?=some (slf b):=by rw[qN h.size δ,if_pos rfl]
 have h21:(cs.setIfInBounds 20 (slf b))[21]?=some v:=by rw[qN h.size δ,if_neg δ];exact hv
 have hvn:=hnil rfl;subst hvn;rcases hor with rfl|rfl
 ·have hsh:w.shape? b=some (129,22):=by simp[World.shape?,h.blk,h.size]
  refine(xAc b w ((xA h.blk 20).trans hp) hsh (xB h.blk 20)).mono ?_;rintro e w' ⟨rfl,rfl⟩;exact⟨rfl,⟨xY h.blk 20 (slf b),by simp[h.size],slf b,_,h20,h21,.inr rfl,World.ownsRow_nil _ _ _ _,by simp[Value.ownBlock],λ_=>rfl⟩,h20,(Tn.refl (·=b) w).set (p:=⟨b,20,none⟩) (.inl rfl) _⟩
 ·refine(xAx b w ((xA h.blk 20).trans hp)).mono ?_;rintro e w' ⟨rfl,rfl⟩
  have hcs:cs.setIfInBounds 20 (slf b)=cs:=by
   apply Array.ext_getElem?;intro j;rw[qN h.size δ]
   by_cases e:20=j
   ·rw[if_pos e,<-e];exact hp.symm
   ·rw[if_neg e]
  rw[hcs];exact⟨rfl,h,hp,Tn.refl _ _⟩
theorem xYr {P:Nat->Prop} {a b c:World} (h:Tn P a b) (hg:b.grownBy c none):Tn P a c:=
 h.low (B:=a.heap.size) ⟨hg.os,hg.tape,hg.output,hg.size,λk hk=>hg.block k (Nat.lt_of_lt_of_le hk h.size) σ⟩ ν
theorem xKw (b:Nat) (cs:Array Value) (s:ByteArray) (w:World) (h:Cmd b cs [] w) (hl:s.size<=1000000000) (hs:0<s.size):
  Calls prog 153 #[slf b,.string s] w λe w'=>e=.returned (.tuple #[.int .i64 s.size,.nilIface])/\∃v,Cmd b ((cs.setIfInBounds 20 (slf b)).setIfInBounds 21 v) s.data.toList w'/\Tn (·=b) w w':=by
 obtain⟨i0,hi,hz0,hz1,hz2⟩:=info_parts xIe;go_enter func153,ntmps153;go_wp2_with fail
 refine(xSy b cs _ h).mono ?_;rintro e w1 ⟨rfl,⟨hbk,hsz,p,v,hp,hv,hor,hown,hne,hnil⟩,h20,hb1⟩;have hvn:=hnil rfl;subst hvn;have xYd:=ι (World.ownsRow_nil w1 b 5 1);have Hbk:=ι hbk;have k1:w1.cell? ⟨b,21,none⟩=some (.slice none 0 0):=(xA hbk 21).trans hv;have HB1:=ι hb1
 have Hsz:=ι hsz;have H20:=ι h20;have hlt:=xH hbk;clear hown hne hbk hb1 hp hv hor hnil hsz h20;go_wp2_with (at_builtin;refine Lib.wpList_append_own_string _ rfl _ _ 125 9 rfl b 5 i0 underlying125 underlying9 hi hz0 hz1 hz2 _ _ _ rfl xYd.o s rfl ?c3 ?c4 ?c5 ?_)
 case c3=>unfold maxLen;simp;omega
 case c4=>simp;omega
 case c5=>omega
 intro v' w2 hown' hgrow _;have pk:=ι (vR Hbk.o hgrow (by simp[Value.ownBlock]));have k2:w2.cell? ⟨b,21,none⟩=some (.slice none 0 0):=(xA pk.o 21).trans ((xA Hbk.o 21).symm.trans k1);have y2:w2.frozen? ⟨b,21,none⟩=false:=xB pk.o 21
 obtain⟨ao,n',cap,rfl,hob⟩:∃ao n' cap,v'=.slice ao n' cap/\v'.ownBlock≠some b:=by
  rcases hown'.2 with ⟨hv,_⟩|⟨g,cap,cur,hv,hg1,hg2,_⟩
  ·exact⟨_,_,_,hv,by rw[hv];simp[Value.ownBlock]⟩
  ·refine⟨_,_,_,hv,?_⟩;rw[hv];intro e;have e':g=b:=by simpa[Value.ownBlock] using e
   subst e';have:=pk.o.symm.trans hg2;injection this with this;injection this with h1 h2;exact absurd h2 δ
 have xKh:=ι hown';have xHn:Hid (w1.grownBy w2 none):=ι hgrow;have Hob:=ι hob;clear hown' hgrow hob;go_wp2;go_ret2;refine⟨rfl,_,⟨xY pk.o 21 _,by simpa using Hsz.o,slf b,_,?_,?_,.inr rfl,?_,Hob.o,?_⟩,?_⟩
 ·rw[qN Hsz.o δ,if_neg δ];exact H20.o
 ·rw[qN Hsz.o δ,if_pos rfl]
 ·have hss:s.data.toList.length=s.size:=Array.length_toList
  have h4:w2.ownsRow b 5 1 (.slice ao n' cap) s.data.toList.length (Lib.byteCells s.data.toList):=by
   rw[hss];have h9:w2.ownsRow b 5 1 (.slice ao n' cap) s.size (Lib.strCells s):=by simpa using xKh.o
   exact h9
  refine⟨h4.1,?_⟩;rcases h4.2 with hn|⟨g,cap,cur,h1,h2,h3,h5⟩
  ·exact .inl hn
  ·exact .inr ⟨g,cap,cur,h1,h2,yC h3 (λe=>Hob.o (by rw[h1];exact congrArg some e)) _,h5⟩
 ·intro e;have hss:s.data.toList.length=s.size:=Array.length_toList;rw[e] at hss;simp only[List.length_nil] at hss;omega
 ·exact(xYr HB1.o xHn.o).set (p:=⟨b,21,none⟩) (.inl rfl) _
theorem xRb (b:Nat) (cs:Array Value) (s:ByteArray) (w:World) (h:Cmd b cs [] w) (hl:s.size<=100000000):
  Calls prog 190 #[xQj b,.string s] w λe w'=>e=.returned (.tuple #[])/\∃v,Cmd b ((cs.setIfInBounds 20 (slf b)).setIfInBounds 21 v) ([42,32]++s.data.toList++[13,10]) w'/\Tn (·=b) w w':=by
 have H:=ι h;have big1:¬9223372036854775807<2+s.size:=ω;have big2:¬9223372036854775807<2+s.size+2:=ω;clear h;go_enter func190,ntmps190;go_wp2_with fail
 have hsz:((⟨#[42,32]⟩:ByteArray)++s++⟨#[13,10]⟩).size=s.size+4:=by
  rw[ByteArray.size_append,ByteArray.size_append];show 2+s.size+2=s.size+4;omega
 have hdt:((⟨#[42,32]⟩:ByteArray)++s++⟨#[13,10]⟩).data.toList=[42,32]++s.data.toList++[13,10]:=σ;refine(xKw b cs _ _ H.o (by rw[hsz];omega) (by rw[hsz];omega)).mono ?_;rw[hdt];rintro e w' ⟨rfl,v,hc,hb⟩;have HC:=ι hc;have HB:=ι hb;clear hc hb hsz hdt;go_wp2
 go_end0
 exact⟨rfl,v,HC.o,HB.o⟩
end Go.Proofs.IM
namespace Mailsack
def U32 (x:Int):Prop:=0<=x/\x<4294967296
theorem xA6 (op:Go.BinOp) (x y:Int):U32 (Go.bits op .u32 x y):=by
 have h:=Go.wf_bits op .u32 x y;simp[Go.Lit.wf] at h;have e1:Go.IntKind.u32.min=0:=δ;have e2:Go.IntKind.u32.max=4294967295:=δ;unfold U32;omega
def xHx (x:Int) (s:Nat):Int:=Go.bits .or .u32 (x*2^s % 4294967296) (x / 2^(32-s))
theorem xCj (x:Int) (s:Nat):U32 (xHx x s):=xA6 _ _ _
end Mailsack
namespace Go.Proofs.SH
open Go.RowKit Mailsack
theorem kC (x k:Int) (s:Nat) (w:World) (h0:U32 x) (hk:bits BinOp.and IntKind.u64 (IntKind.u64.wrap k) 31=(s:Int)) (hs:s<32):
  Calls prog 395 #[.int .u32 x,.int .i64 k] w λe w'=>e=.returned (.int .u32 (xHx x s))/\w'=w:=by
 obtain⟨h0,h1⟩:=h0;go_enter func395,ntmps395;go_wp2;go_ret;exact⟨rfl,rfl⟩
def yV (ws:List Int):Array Value:=(ws.map λx=>Value.int .u32 x).toArray
theorem yY (ws:List Int):(yV ws).size=ws.length:=by simp[yV]
theorem uL {ws:List Int} {i:Nat} (h:i<ws.length):(yV ws)[i]?=some (.int .u32 (ws.getD i 0)):=by
 simp[yV,List.getD_eq_getElem?_getD,List.getElem?_eq_getElem h]
theorem xD0 (ws:List Int) (i:Nat) (x:Int):(yV ws).setIfInBounds i (.int .u32 x)=yV (ws.set i x):=by
 simp[yV,List.map_set]
end Go.Proofs.SH