/- Contracts of functions. Conditions: as stated. -/
import Derived.Test.YtnafbinmecekeaaGreatDoorImapSearchesProofB01
import Derived.Lib.AppendIntMem
open Go.Proofs.Tryz
set_option maxHeartbeats 8000000
set_option maxRecDepth 100000
namespace Go.Proofs.VB
open Go.RowKit Mailsack MM BU
theorem xYp (W:World) (c:UInt8):(convert 125 9 (.slice (some ⟨W.heap.size,0,none⟩) 1 1)).run prog (W.alloc (.cells #[.int .u8 c.toNat] 5))=.ok (xK [c]) (W.alloc (.cells #[.int .u8 c.toNat] 5)):=by
 refine run_convert_bytes_back (P:=prog) (W.alloc (.cells #[.int .u8 c.toNat] 5)) _ _ 5 ⟨W.heap.size,0,none⟩ 1 [c] underlying125 underlying5 underlying9 (λj hj=>?_);have hj0:j=0:=by simpa using hj
 subst hj0;exact cell_one_new _ _ _ 0 _ rfl
def wC (w:World) (base:Nat) (v:Value) (l:Bs):Prop:=w.ownsRow base 5 1 v l.length (l.map λc=>Value.int .u8 c.toNat)
theorem wC.nil (w:World) (base:Nat):wC w base (.slice none 0 0) []:=World.ownsRow_nil w base _ _
theorem wC.of {w:World} {base:Nat} {v:Value} {l:Bs} {c:UInt8} (h:w.ownsRow base 5 1 v (l.length+1) (l.map (λc=>Value.int .u8 c.toNat)++[.int .u8 c.toNat])):wC w base v (l++[c]):=by
 unfold wC;rw[List.length_append,List.map_append];exact h
theorem wC.alloc {w:World} {base:Nat} {v:Value} {l:Bs} (h:wC w base v l) (o:Obj):(w.alloc o).ownsRow base 5 1 v l.length (l.map λc=>Value.int .u8 c.toNat):=World.ownsRow.alloc h o
theorem xV9 {w:World} {base:Nat} {v:Value} {l:Bs} (h:wC w base v l):(convert 125 9 v).run prog w=.ok (xK l) w:=by
 rcases h.2 with ⟨h1,h2⟩|⟨g,cap,cur,h1,_,_,h2,_⟩
 ·have:l=[]:=List.eq_nil_of_length_eq_zero h2;subst this;have h0:∀W:World,(convert 125 9 (.slice none 0 0)).run prog W=.ok (.string ⟨#[]⟩) W:=λ_=>by kernel_rfl
  rw[h1];exact h0 w
 ·rw[h1];refine run_convert_bytes_back w _ _ 5 ⟨g,0,none⟩ cap l underlying125 underlying5 underlying9 (λj hj=>?_);exact World.ownsRow.cells h (g:=g) (by rw[h1];rfl) j _ (by simp[hj])
end Go.Proofs.VB
namespace Go.Proofs.VB
open Go.RowKit Mailsack MM
theorem xY8 (s:ByteArray) (k:Nat) (h:k<s.size):s.data.toList[k]?=some s[k]:=by
 rw[List.getElem?_eq_getElem (by rw[yA];exact h)];rfl
theorem xEb (s:ByteArray) (k:Nat) (h:k<s.size):s.data.toList.take (k+1)=s.data.toList.take k++[s[k]]:=by
 rw[List.take_succ_eq_append_getElem (by rw[yA];exact h)];rfl
theorem xN3 (s:ByteArray):s.data.toList.take s.size=s.data.toList:=by rw[<-yA,List.take_length]
theorem xJm {s:ByteArray} {k:Nat} (h:k<s.size) (hc:xAn s[k]=false):zN s.data.toList=false:=by
 cases hp:zN s.data.toList with
 |false=>rfl
 |true=>
  have:=List.all_eq_true.1 hp s[k] (List.mem_of_getElem? (xY8 s k h));rw[hc] at this;cases this
theorem xGg {s:ByteArray} {k:Nat} (h:k<s.size) (hc:xAn s[k]=true) (hp:zN (s.data.toList.take k)=true):zN (s.data.toList.take (k+1))=true:=by
 rw[xEb s k h];unfold zN at *;rw[List.all_append,hp];simp[hc]
theorem xBr (s:ByteArray) (w:World) (hs:s.size<=1000000):
  Calls prog 105 #[.string s] w λe w'=>e=.returned (.bool (zN s.data.toList))/\w=w':=by
 go_enter func105,ntmps105;go_wp2
 go_loop [6] (λiv=>∃k:Nat,k<=s.size/\iv=.int .i64 k/\Hid (zN (s.data.toList.take k)=true)) (λiv=>s.size- (intOf iv).toNat)
 case atStart=>exact⟨0,Nat.zero_le _,rfl,ι rfl⟩
 case round=>
  obtain⟨k,hk,rfl,hp⟩:=hrel
  by_cases hlt:k<s.size
  ·have yBt:s[k].toNat<256:=UInt8.toNat_lt _
   by_cases hc:32<=s[k].toNat/\s[k].toNat<=126
   ·have hp2:=ι (xGg hlt (by simp[xAn,hc.1,hc.2]) hp.o);obtain⟨h1,h2⟩:=hc;go_wp2
    go_round
    case rel=>exact⟨k+1,ω,by go_num,hp2⟩
    case measure=>simp[intOf];omega
   ·have hv:=ι (xJm hlt (show xAn s[k]=false by unfold xAn;rw[Bool.and_eq_false_iff];simp;omega));have hc':s[k].toNat<32∨126<s[k].toNat:=ω;clear hc;rcases hc' with hc'|hc'
    all_goals
     go_wp2;go_ret;exact⟨by rw[hv.o];rfl,rfl⟩
  ·have hv:=ι (show zN s.data.toList=true by have:=hp.o;rwa [show k=s.size by omega,xN3] at this);go_wp2;go_ret;exact⟨by rw[hv.o];rfl,rfl⟩
theorem xPg (s:ByteArray) (w:World) (hs:s.size<=1000000):
  Calls prog 24 #[.string s] w λe w'=>e=.returned (.bool (zN s.data.toList))/\w=w':=by
 go_enter func24,ntmps24;go_wp2
 go_loop [3] (λiv=>∃k:Nat,k<=s.size/\iv=.int .i64 k/\Hid (zN (s.data.toList.take k)=true)) (λiv=>s.size- (intOf iv).toNat)
 case atStart=>exact⟨0,Nat.zero_le _,rfl,ι rfl⟩
 case round=>
  obtain⟨k,hk,rfl,hp⟩:=hrel
  by_cases hlt:k<s.size
  ·have yBt:s[k].toNat<256:=UInt8.toNat_lt _
   by_cases hc:32<=s[k].toNat/\s[k].toNat<=126
   ·have hp2:=ι (xGg hlt (by simp[xAn,hc.1,hc.2]) hp.o);obtain⟨h1,h2⟩:=hc;go_wp2
    go_round
    case rel=>exact⟨k+1,ω,by go_num,hp2⟩
    case measure=>simp[intOf];omega
   ·have hv:=ι (xJm hlt (show xAn s[k]=false by unfold xAn;rw[Bool.and_eq_false_iff];simp;omega));have hc':s[k].toNat<32∨126<s[k].toNat:=ω;clear hc;rcases hc' with hc'|hc'
    all_goals
     go_wp2;go_ret;exact⟨by rw[hv.o];rfl,rfl⟩
  ·have hv:=ι (show zN s.data.toList=true by have:=hp.o;rwa [show k=s.size by omega,xN3] at this);go_wp2;go_ret;exact⟨by rw[hv.o];rfl,rfl⟩
theorem xAv {s:ByteArray} (h:zN s.data.toList=true):∀(j:Nat) b,s.data.toList[j]?=some b->b.toNat<128:=λj b hb=>by
 have:=List.all_eq_true.1 h b (List.mem_of_getElem? hb);unfold xAn at this;rw[Bool.and_eq_true,decide_eq_true_iff,decide_eq_true_iff] at this;omega
theorem jF (s:ByteArray) (w:World) (hs:s.size<=1000000) (hp:zN s.data.toList=true):
  Calls prog 189 #[.string s] w λe w'=>e=.returned (.int .i64 (wX s.data.toList))/\ψ w w':=by
 have ha:=ι (xAv hp);have hle:=xCj s.data.toList;rw[yA] at hle;have hi:=xC5 s.data.toList;rw[yA] at hi;generalize wX s.data.toList=n at hle hi
 by_cases h:n=s.size
 ·rw[if_pos h] at hi;have Hi:=ι (show Lib.indexAny s.data.toList (⟨#[32,40,41,34]⟩:ByteArray).data.toList=-1 from hi);have Hn:=ι h;have q0:decide ((-1:Int)<0)=true:=rfl;clear hi h hp;go_enter func189,ntmps189;go_wp2_with fail
  refine(Tryz.strings_IndexAny_laid s _ _ ω δ ha.o (xAv (s:=⟨#[32,40,41,34]⟩) δ)).mono ?_;rw[Hi.o];rintro e w1 ⟨rfl,hb1⟩;go_wp2;go_ret;exact⟨by rw[Hn.o];rfl,hb1⟩
 ·rw[if_neg h] at hi;have Hi:=ι (show Lib.indexAny s.data.toList (⟨#[32,40,41,34]⟩:ByteArray).data.toList=n from hi);have q0:decide ((n:Int)<0)=false:=σ;clear hi h hp;go_enter func189,ntmps189;go_wp2_with fail
  refine(Tryz.strings_IndexAny_laid s _ _ ω δ ha.o (xAv (s:=⟨#[32,40,41,34]⟩) δ)).mono ?_;rw[Hi.o];rintro e w1 ⟨rfl,hb1⟩;go_wp2;go_ret;exact⟨rfl,hb1⟩
end Go.Proofs.VB
namespace Go.Proofs.VB
open Go.RowKit Mailsack MM BU
theorem xQm {n:Nat} (h:n<=1000000):(Lib.decDigits n).length<=7:=by
 rw[Lib.decDigits_length];rcases Nat.lt_or_ge (Lib.nDigits n) 8 with h1|h1
 ·omega
 ·exfalso
  have key:∀k u:Nat,k<Lib.nDigits u->0<k->10^k<=u:=by
   intro k
   induction k with
   |zero=>intro u _ h;omega
   |succ k ih=>
    intro u hu _
    by_cases h10:u<10
    ·rw[Lib.nDigits_small h10] at hu;omega
    ·rw[Lib.nDigits_big h10] at hu
     by_cases hk:k=0
     ·subst hk;simp;omega
     ·have:=ih (u / 10) ω ω;rw[Nat.pow_succ];omega
  have:=key 7 n ω δ;have h7:10^7=10000000:=δ;omega
theorem xKf (a b:Bs):(⟨a.toArray⟩:ByteArray)++⟨b.toArray⟩=⟨(a++b).toArray⟩:=by
 have:((⟨a.toArray⟩:ByteArray)++⟨b.toArray⟩).data=(a++b).toArray:=by rw[ByteArray.data_append];simp
 generalize (⟨a.toArray⟩:ByteArray)++⟨b.toArray⟩=c at this;cases c
 simp only at this;rw[this]
def xIr (m:Nat):UInt8:=UInt8.ofNat (48+m % 10)
theorem xYm (m:Nat):((xIr m).toNat:Int)=48+(m:Int) % 10:=by
 unfold xIr;have h:48+m % 10<256:=ω;rw[UInt8.toNat_ofNat',Nat.mod_eq_of_lt h];omega
theorem xDv (W:World) (m:Nat):(convert 125 9 (.slice (some ⟨W.heap.size,0,none⟩) 1 1)).run prog (W.alloc (.cells #[.int .u8 (48+(m:Int) % 10)] 5))=.ok (.string ⟨#[xIr m]⟩) (W.alloc (.cells #[.int .u8 (48+(m:Int) % 10)] 5)):=by
 have:=xYp W (xIr m);rw[xYm] at this;exact this
def xBy (m:Nat):Bs:=if m<10 then[] else Lib.decDigits (m / 10)
theorem xDu (m:Nat):Lib.decDigits m=xBy m++[xIr m]:=by
 unfold xBy xIr;rw[Lib.decDigits]
 by_cases h:m<10
 ·rw[dif_pos h,if_pos h,Nat.mod_eq_of_lt h];rfl
 ·rw[dif_neg h,if_neg h]
theorem yAu (n:Nat) (w:World) (hn:n<=1000000):
  Calls prog 33 #[.int .i64 n] w λe w'=>e=.returned (xK (Lib.decDigits n))/\ψ w w':=by
 have hcv:=λW=>xDv W n;have hd:=ι (xDu n);have hlen:=xQm hn;generalize Lib.decDigits n=R at hd hlen;have h0:Hid (R=xBy n++[xIr n]):=hd;clear hd;go_enter func33,ntmps33;go_wp2;clear hcv
 go_loopw [0,3] (λiv sv wr=>∃(m:Nat) (l:Bs),m<=n/\iv=.int .i64 m/\sv=xK l/\Hid (R=xBy m++l)/\Hid (ψ w wr)) (λiv _ _=>(intOf iv).toNat)
 case atStart=>exact⟨n,[xIr n],Nat.le_refl _,rfl,rfl,h0,ι ((Below.refl _ _).alloc ν _)⟩
 case round=>
  obtain⟨m,l,hm,rfl,rfl,hR,hb⟩:=hrel
  by_cases h9:9<m
  ·have hcv:=λW=>xDv W (m / 10);have hl:l.length<=7:=by have:=congrArg List.length hR.o;rw[List.length_append] at this;omega
   have hl2:(⟨l.toArray⟩:ByteArray).size<=7:=hl
   have hR2:Hid (R=xBy (m / 10)++(xIr (m / 10)::l)):=ι (by
    rw[hR.o];conv=>lhs;unfold xBy;rw[if_neg ω,xDu (m / 10)];simp)
   rw[show((m / 10:Nat):Int)=(m:Int) / 10 by omega] at hcv;have big:¬9223372036854775807<1+(⟨l.toArray⟩:ByteArray).size:=ω;clear hl;go_wp2
   go_roundw
   case rel=>exact⟨m / 10,xIr (m / 10)::l,ω,by go_num,by rw[show(⟨#[xIr (m / 10)]⟩:ByteArray)=⟨([xIr (m / 10)]:Bs).toArray⟩ from rfl,xKf];rfl,hR2,ι (hb.o.alloc hb.o.size _)⟩
   case measure=>simp[intOf];omega
  ·have hz:xBy m=[]:=by unfold xBy;rw[if_pos ω]
   have hR2:=hR.o;rw[hz,List.nil_append] at hR2;have HR2:=ι hR2;clear hR2 hz;go_wp2;go_ret;refine⟨?_,hb.o⟩;rw[HR2.o]
   rfl
end Go.Proofs.VB
namespace Mailsack
abbrev Tok:=Nat×Bs
def jS (T:List Tok) (t:Tok):List Tok:=if T.length<=40 then T++[t] else T
def xR6:Bs->Bs->Option (Bs×Nat)
 |_,[]=>none
 |acc,c::r=>if c=34 then some (acc,r.length) else if c=92 then
   match r with
   |[]=>none
   |d::r'=>if d=92∨d=34 then xR6 (acc++[d]) r' else none
  else xR6 (acc++[c]) r
def vQ:Nat->Bs->List Tok->Nat->Option (List Tok×Nat)
 |_,[],T,d=>some (T,d)
 |0,_::_,_,_=>none
 |f+1,c::r,T,d=>
  if c=32 then vQ f r T d
  else if c=40 then vQ f r (jS T (2,[])) (d+1)
  else if c=41 then(if d=0 then none else vQ f r (jS T (3,[])) (d-1))
  else if c=34 then(match xR6 [] r with
   |none=>none
   |some (q,n)=>vQ f (r.drop (r.length-n)) (jS T (1,q)) d)
  else vQ f ((c::r).drop (wX (c::r))) (jS T (0,(c::r).take (wX (c::r)))) d
def xBg (lits:List Bs):Nat->List Bs->List Tok->Nat->Option (List Tok×Nat)
 |_,[],T,d=>some (T,d)
 |i,t::ts,T,d=>
  if zN t=true then
   match vQ t.length t (if 0<i then jS T (1,lits.getD (i-1) []) else T) d with
   |none=>none
   |some (T2,d2)=>xBg lits (i+1) ts T2 d2
  else none
def qV (texts lits:List Bs):Option (List Tok):=
 if texts.length=lits.length+1 then
  match xBg lits 0 texts [] 0 with
  |none=>none
  |some (T,d)=>if d=0/\T.length<=40 then some T else none
 else none
theorem yAa:∀(l acc q:Bs) (n:Nat),xR6 acc l=some (q,n)->n<l.length:=by
 intro l
 induction hl:l.length using Nat.strongRecOn generalizing l with
 |ind m ih=>
  intro acc q n h;cases l with
  |nil=>simp[xR6] at h
  |cons c r=>
   unfold xR6 at h;simp only[List.length_cons] at hl;split at h
   ·simp at h;omega
   ·split at h
    ·cases r with
     |nil=>simp at h
     |cons d r'=>
      simp only at h;split at h
      ·simp only[List.length_cons] at hl;have:=ih r'.length ω r' rfl _ _ _ h;omega
      ·cases h
    ·have:=ih r.length ω r rfl _ _ _ h;omega
theorem xL3 {c:UInt8} {r:Bs} (h:uC c=false):0<wX (c::r):=by
 unfold wX;rw[List.takeWhile_cons,if_pos (by rw[h];rfl)];simp
end Mailsack
namespace Go.Proofs.VB
open Go.RowKit Mailsack MM BU
def jH (T:List Tok):List Value:=T.flatMap λt=>[.int .i64 t.1,xK t.2]
theorem xHe (T:List Tok) (t:Tok):jH (T++[t])=jH T++[.int .i64 t.1,xK t.2]:=by simp[jH]
abbrev xWd (w:World) (B:Nat) (v:Value) (T:List Tok):Prop:=w.ownsRow B 121 2 v T.length (jH T)
def Scn (B b:Nat) (T:List Tok) (d:Nat) (w:World):Prop:=
 B<=b/\T.length<=41/\∃v,w.heap[b]?=some (.cells #[v,.int .i64 d] 191 (0,0))/\xWd w B v T/\v.ownBlock≠some b
theorem yBi:(prog.info? 121).map (λi=>(i.zero.map (·.cells.size),i.size,i.bytes))=some (some 2,2,24):=κ
theorem own_ne {w:World} {B b:Nat} {v:Value} {T:List Tok} {cs:Array Value} (h:xWd w B v T) (hb:w.heap[b]?=some (.cells cs 191 (0,0))):v.ownBlock≠some b:=by
 rcases h.2 with ⟨h1,_⟩|⟨g,cap,cur,h1,_,h3,_⟩
 ·rw[h1];simp[Value.ownBlock]
 ·rw[h1];intro e;have e:g=b:=by simpa[Value.ownBlock] using e
  rw[e,hb] at h3;injection h3 with h3;injection h3 with _ h3;exact absurd h3 δ
theorem Scn.keep {B b:Nat} {T:List Tok} {d:Nat} {w w':World} (h:Scn B b T d w) (hb:ψ w w'):Scn B b T d w':=by
 obtain⟨h1,h2,v,h3,h4,h5⟩:=h;exact⟨h1,h2,v,xC h3 hb (xJ h3),h4.kept (vL hb none) (by cases v.ownBlock<;>simp),h5⟩
theorem Scn.deep {B b:Nat} {T:List Tok} {d:Nat} {w:World} (h:Scn B b T d w) (d':Nat):Scn B b T d' (w.setCell ⟨b,1,none⟩ (.int .i64 d')):=by
 obtain⟨h1,h2,v,h3,h4,h5⟩:=h;refine⟨h1,h2,v,yC h3 1 _,?_,h5⟩;exact h4.kept (row:=some b) ⟨rfl,rfl,rfl,by simp[World.setCell],λk _ hk=>Below.heap_setCell _ _ _ _ (λe=>hk (by simp[e]))⟩ (Or.inr h5)
theorem xBa (B b:Nat) (T:List Tok) (d:Nat) (k:Nat) (s:ByteArray) (w:World) (h:Scn B b T d w) (hB:B<=w.heap.size):
  Calls prog 104 #[.pointer (some ⟨b,0,none⟩),.int .i64 k,.string s] w λe w'=>e=.returned (.tuple #[])/\Scn B b (jS T (k,s.data.toList)) d w'/\Below B w w':=by
 have Hh:=ι h;obtain⟨hBb,hT,v,hbk,hown,hne⟩:=h;obtain⟨i0,hi,hi'⟩:=Option.map_eq_some_iff.1 yBi;injection hi' with hz0 hi';injection hi' with hz1 hz2;obtain⟨z,hz0,hzs⟩:=Option.map_eq_some_iff.1 hz0
 obtain⟨A,cp,e9⟩:∃A cp,v=.slice A T.length cp:=by
  rcases hown.2 with ⟨h1,h2⟩|⟨g,cap,cur,h1,_⟩
  ·exact⟨none,0,by rw[h1,h2]⟩
  ·exact⟨_,_,h1⟩
 subst e9;have hown':=ι hown;have Hne:=ι hne;have Hbk:=ι hbk;have k1:w.cell? ⟨b,0,none⟩=some (.slice A T.length cp):=xA hbk 0;have hlt:=xJ hbk;clear hown hne hbk
 by_cases h40:T.length<=40
 ·have hadd:jS T (k,s.data.toList)=T++[(k,s.data.toList)]:=by unfold jS;rw[if_pos h40]
  rw[hadd];clear hadd;go_enter func104,ntmps104
  go_wp2_with (at_builtin;refine wpList_append_lies _ rfl _ _ 117 rfl B 121 i0 z 2 24 underlying117 hi hz0 hz1 hz2 hzs δ _ _ _ rfl (World.ownsRow.alloc hown'.o _) ⟨w.heap.size,0,none⟩ 1 1 [.int .i64 k,.string s] rfl rfl (World.news_of_block (xI _ _)) (by intro u hu;simp at hu;rcases hu with rfl|rfl<;>rfl) δ (by unfold maxLen;omega) ω (by simp;omega) (w.heap.size+1) σ ?_;intro g cap w2 hown2 hgrow hat hlt2;have pk:=ι (wR (xM Hbk.o _) hgrow (λe=>Hne.o e.symm));have k2:w2.cell? ⟨b,0,none⟩=some (.slice A T.length cp):=xA pk.o 0;have y2:w2.frozen? ⟨b,0,none⟩=false:=xD pk.o 0;have xW2:=ι hown2;have xFd:=ι hgrow;clear hown2 hgrow)
  go_end0
  have hown3:xWd w2 B (.slice (some ⟨g,0,none⟩) (T.length+1) cap) (T++[(k,s.data.toList)]):=by
   unfold xWd;rw[xHe,List.length_append];exact xW2.o
  have hne3:=own_ne hown3 pk.o;refine⟨rfl,⟨hBb,by simp;omega,_,yC pk.o 0 _,?_,hne3⟩,?_⟩
  ·exact hown3.kept (row:=some b) ⟨rfl,rfl,rfl,by simp[World.setCell],λk _ hk=>Below.heap_setCell _ _ _ _ (λe=>hk (by simp[e]))⟩ (Or.inr hne3)
  ·refine Below.setCell ?_ (p:=⟨b,0,none⟩) hBb _;exact((Below.refl B w).alloc hB _).grown xFd.o (by simp;omega) (λk hk=>(World.ownsRow.lt hown'.o k hk).1)
 ·have hadd:jS T (k,s.data.toList)=T:=by unfold jS;rw[if_neg h40]
  rw[hadd];clear hadd;go_enter func104,ntmps104;go_wp2
  go_end0
  exact⟨rfl,Hh.o,Below.refl B w⟩
def unqV (sz:Nat):Option (Bs×Nat)->Value
 |none=>.tuple #[.string ⟨#[]⟩,.int .i64 0,.bool false]
 |some (q,n)=>.tuple #[xK q,.int .i64 ((sz-n:Nat):Int),.bool true]
theorem xRz {sz k:Nat} {acc:Bs} (h:k<sz):unqV sz (some (acc,sz- (k+1)))=.tuple #[xK acc,.int .i64 ((k:Int)+1),.bool true]:=by
 unfold unqV;simp only;rw[show((sz- (sz- (k+1)):Nat):Int)=(k:Int)+1 by omega]
theorem xDt (s:ByteArray) (k:Nat) (h:k<s.size):s.data.toList.drop k=s[k]::s.data.toList.drop (k+1):=by
 rw[List.drop_eq_getElem_cons (by rw[yA];exact h)];rfl
theorem xIg (s:ByteArray) (k:Nat) (h:s.size<=k):s.data.toList.drop k=[]:=by
 rw[List.drop_eq_nil_iff,yA];exact h
theorem xAd (s:ByteArray) (k:Nat):(s.data.toList.drop k).length=s.size-k:=by rw[List.length_drop,yA]
theorem yA9 (s:ByteArray) (k0:Nat) (w:World) (hs:s.size<=1000000) (hk0:k0<=s.size):
  Calls prog 188 #[.string s,.int .i64 k0] w λe w'=>e=.returned (unqV s.size (xR6 [] (s.data.toList.drop k0)))/\ψ w w':=by
 generalize hR:xR6 [] (s.data.toList.drop k0)=R;have h0:=ι hR;clear hR;have hq0:=ι (Lib.fresh_isBuilder 127 5 w);go_enter func188,ntmps188;go_wp2_with fail
 go_loopw [1] (λiv wr=>∃(k:Nat) (acc:Bs),k<=s.size/\acc.length<=k/\iv=.int .i64 k/\Hid (xR6 acc (s.data.toList.drop k)=R)/\Hid (Bld w.heap.size w.heap.size acc wr/\ψ w wr)) (λiv _=>s.size- (intOf iv).toNat)
 case atStart=>exact⟨k0,[],hk0,Nat.zero_le _,rfl,h0,ι ⟨hq0.o,(Below.refl _ _).alloc ν _⟩⟩
 case round=>
  obtain⟨k,acc,hk,hacc,rfl,HR0,hr⟩:=hrel;have hR:=HR0.o;clear hq0 h0 HR0
  by_cases hlt:k<s.size
  ·rw[xDt s k hlt] at hR;unfold xR6 at hR
   by_cases h34:s[k]=34
   ·rw[if_pos h34,xAd] at hR;have HR:=ι hR.symm;have b1:((s[k].toNat:Int)==34)=true:=by rw[h34];rfl
    clear hR h34;go_wp2_with fail
    refine(Tryz.Builder_String_any w.heap.size w.heap.size _ _ hr.o.1 hr.o.2.size).mono ?_;rintro e w5 ⟨rfl,hb5⟩;go_wp2;go_ret3;refine⟨?_,hr.o.2.trans hb5⟩;rw[HR.o];rw[xRz hlt]
    rfl
   ·rw[if_neg h34] at hR;have b1:((s[k].toNat:Int)==34)=false:=by rw[beq_eq_false_iff_ne];intro e;exact h34 ((vO δ).1 e)
    clear h34
    by_cases h92:s[k]=92
    ·rw[if_pos h92] at hR;have b2:((s[k].toNat:Int)==92)=true:=by rw[h92];rfl
     clear h92
     by_cases hl2:k+1<s.size
     ·rw[xDt s (k+1) hl2] at hR;simp only at hR;have c0:(((k:Int)+1)==(s.size:Int))=false:=by rw[beq_eq_false_iff_ne];omega
      by_cases he:s[k+1]=92∨s[k+1]=34
      ·rw[if_pos he] at hR;have HR:=ι hR;clear hR;rcases he with he|he
       ·have d1:((s[k+1].toNat:Int)==92)=true:=by rw[he];rfl
        have d1':((s[k+1].toNat:Int)!=92)=false:=by rw[he];rfl
        clear he;go_wp2_with fail
        refine(pF w.heap.size w.heap.size acc s[k+1] _ hr.o.1 ω hr.o.2.size).mono ?_;rintro e w4 ⟨rfl,hq4,hb4⟩;have h4:Hid (Bld w.heap.size w.heap.size (acc++[s[k+1]]) w4/\ψ w w4):=ι ⟨hq4,hr.o.2.trans hb4⟩;clear hq4 hb4;go_wp2
        go_roundw
        case rel=>exact⟨k+1+1,acc++[s[k+1]],ω,by simp;omega,by go_num,HR,h4⟩
        case measure=>simp[intOf];omega
       ·have d1:((s[k+1].toNat:Int)==92)=false:=by rw[he];rfl
        have d1':((s[k+1].toNat:Int)!=92)=true:=by rw[he];rfl
        have d2:((s[k+1].toNat:Int)==34)=true:=by rw[he];rfl
        have d2':((s[k+1].toNat:Int)!=34)=false:=by rw[he];rfl
        clear he;go_wp2_with fail
        refine(pF w.heap.size w.heap.size acc s[k+1] _ hr.o.1 ω hr.o.2.size).mono ?_;rintro e w4 ⟨rfl,hq4,hb4⟩;have h4:Hid (Bld w.heap.size w.heap.size (acc++[s[k+1]]) w4/\ψ w w4):=ι ⟨hq4,hr.o.2.trans hb4⟩;clear hq4 hb4;go_wp2
        go_roundw
        case rel=>exact⟨k+1+1,acc++[s[k+1]],ω,by simp;omega,by go_num,HR,h4⟩
        case measure=>simp[intOf];omega
      ·rw[if_neg he] at hR;have HR:=ι hR.symm;have d1:((s[k+1].toNat:Int)==92)=false:=by rw[beq_eq_false_iff_ne];intro e;exact he (.inl ((vO δ).1 e))
       have d2:((s[k+1].toNat:Int)==34)=false:=by rw[beq_eq_false_iff_ne];intro e;exact he (.inr ((vO δ).1 e))
       have d1':((s[k+1].toNat:Int)!=92)=true:=by unfold bne;rw[d1];rfl
       have d2':((s[k+1].toNat:Int)!=34)=true:=by unfold bne;rw[d2];rfl
       clear hR he;go_wp2;go_ret3;refine⟨?_,hr.o.2⟩;rw[HR.o]
       rfl
     ·rw[xIg s (k+1) ω] at hR;simp only at hR;have HR:=ι hR.symm;have c0:(((k:Int)+1)==(s.size:Int))=true:=by rw[beq_iff_eq];omega
      clear hR;go_wp2;go_ret3;refine⟨?_,hr.o.2⟩;rw[HR.o]
      rfl
    ·rw[if_neg h92] at hR;have b2:((s[k].toNat:Int)==92)=false:=by rw[beq_eq_false_iff_ne];intro e;exact h92 ((vO δ).1 e)
     have HR:=ι hR;clear h92 hR;go_wp2_with fail
     refine(pF w.heap.size w.heap.size acc s[k] _ hr.o.1 ω hr.o.2.size).mono ?_;rintro e w4 ⟨rfl,hq4,hb4⟩;have h4:Hid (Bld w.heap.size w.heap.size (acc++[s[k]]) w4/\ψ w w4):=ι ⟨hq4,hr.o.2.trans hb4⟩;clear hq4 hb4;go_wp2
     go_roundw
     case rel=>exact⟨k+1,acc++[s[k]],ω,by simp;omega,by go_num,HR,h4⟩
     case measure=>simp[intOf];omega
  ·rw[xIg s k ω] at hR;unfold xR6 at hR;have HR:=ι hR.symm;clear hR;go_wp2;go_ret3;refine⟨?_,hr.o.2⟩;rw[HR.o]
   rfl
def xYy (B b:Nat) (R:Option (List Tok×Nat)) (w:World) (e:Ending) (w':World):Prop:=
 match R with
 |none=>e=.returned (.bool false)/\Below B w w'
 |some (T,d)=>e=.returned (.bool true)/\Scn B b T d w'/\Below B w w'
theorem xPn {s:ByteArray} (h:zN s.data.toList=true) (k:Nat):zN (s.extract k s.size).data.toList=true:=by
 unfold zN at*;rw[List.all_eq_true] at*;intro x hx;refine h x ?_;rw[ByteArray.data_extract,Array.toList_extract] at hx;exact List.mem_of_mem_drop (List.mem_of_mem_take hx)
theorem xC9 (s:ByteArray) (k:Nat):(s.extract k s.size).data.toList=s.data.toList.drop k:=by
 rw[ByteArray.data_extract,Array.toList_extract];simp only[List.extract];rw[List.take_of_length_le];rw[xAd];exact Nat.le_refl _
theorem xYg (s:ByteArray) (k n:Nat):(s.extract k (k+n)).data.toList=(s.data.toList.drop k).take n:=by
 rw[ByteArray.data_extract,Array.toList_extract];simp only[List.extract];rw[Nat.add_sub_cancel_left]
theorem xN9 (B b:Nat) (T0:List Tok) (d0:Nat) (s:ByteArray) (w:World) (h:Scn B b T0 d0 w) (hB:B<=w.heap.size) (hs:s.size<=1000000) (hp:zN s.data.toList=true) (hd0:d0<=1000000000000):
  Calls prog 106 #[.pointer (some ⟨b,0,none⟩),.string s] w (xYy B b (vQ s.size s.data.toList T0 d0) w):=by
 generalize hR:vQ s.size s.data.toList T0 d0=R;have h0:Hid (vQ s.size (s.data.toList.drop 0) T0 d0=R):=ι hR;have Hp:=ι hp;have hw:=ι h;clear hR hp h;go_enter func106,ntmps106;go_wp2_with fail
 go_loopw [5] (λiv wr=>∃(k f:Nat) (T:List Tok) (d:Nat),k<=s.size/\s.size-k<=f/\d<=1000000000000+k/\iv=.int .i64 k/\Hid (vQ f (s.data.toList.drop k) T d=R)/\Hid (Scn B b T d wr/\Below B w wr)) (λiv _=>s.size- (intOf iv).toNat)
 case atStart=>exact⟨0,s.size,T0,d0,Nat.zero_le _,ω,ω,rfl,h0,ι ⟨hw.o,Below.refl _ _⟩⟩
 case round=>
  obtain⟨k,f,T,d,hk,hf,hd,rfl,HR0,hr⟩:=hrel;have hR:=HR0.o;clear h0 hw HR0
  by_cases hlt:k<s.size
  ·rw[xDt s k hlt] at hR;obtain⟨f,rfl⟩:∃f',f=f'+1:=⟨f-1,ω⟩;unfold vQ at hR
   by_cases h32:s[k]=32
   ·rw[if_pos h32] at hR;have HR:=ι hR;have b32:((s[k].toNat:Int)==32)=true:=by rw[h32];rfl
    clear hR h32;go_wp2
    go_roundw
    case rel=>exact⟨k+1,f,T,d,ω,ω,ω,by go_num,HR,hr⟩
    case measure=>simp[intOf];omega
   rw[if_neg h32] at hR;have b32:((s[k].toNat:Int)==32)=false:=by rw[beq_eq_false_iff_ne];intro e;exact h32 ((vO δ).1 e)
   by_cases h40:s[k]=40
   ·rw[if_pos h40] at hR;have HR:=ι hR;have b40:((s[k].toNat:Int)==40)=true:=by rw[h40];rfl
    clear hR h32 h40;obtain⟨hBb,hT,v0,hbk,_,_⟩:=hr.o.1;have c1:wr.cell? ⟨b,1,none⟩=some (.int .i64 d):=xA hbk 1;have y1:wr.frozen? ⟨b,1,none⟩=false:=xD hbk 1;have hblt:=xJ hbk;clear hbk hT;have hs1:=ι (hr.o.1.deep (d+1))
    have hb1:=ι (hr.o.2.setCell (p:=⟨b,1,none⟩) hBb (.int .i64 (((d+1):Nat):Int)));have hz1:B<=(wr.setCell ⟨b,1,none⟩ (.int .i64 (((d+1):Nat):Int))).heap.size:=by rw[size_set];exact Nat.le_trans hB hr.o.2.size
    rw[show(((d+1):Nat):Int)=(d:Int)+1 by omega] at hs1 hb1 hz1;go_wp2_with fail
    refine(xBa B b T (d+1) 2 ⟨#[]⟩ _ hs1.o hz1).mono ?_;rintro e w4 ⟨rfl,hq4,hb4⟩;have h4:Hid (Scn B b (jS T (2,[])) (d+1) w4/\Below B w w4):=ι ⟨hq4,hb1.o.trans hb4⟩;clear hq4 hb4 hs1 hb1;go_wp2
    go_roundw
    case rel=>exact⟨k+1,f,jS T (2,[]),(d+1),ω,ω,ω,by go_num,HR,h4⟩
    case measure=>simp[intOf];omega
   rw[if_neg h40] at hR;have b40:((s[k].toNat:Int)==40)=false:=by rw[beq_eq_false_iff_ne];intro e;exact h40 ((vO δ).1 e)
   by_cases h41:s[k]=41
   ·rw[if_pos h41] at hR;have b41:((s[k].toNat:Int)==41)=true:=by rw[h41];rfl
    by_cases hdz:d=0
    ·rw[if_pos hdz] at hR;have HR:=ι hR.symm;clear hR h32 h40 h41;subst hdz;obtain⟨hBb,hT,v0,hbk,_,_⟩:=hr.o.1;have c1:wr.cell? ⟨b,1,none⟩=some (.int .i64 0):=xA hbk 1;have y1:wr.frozen? ⟨b,1,none⟩=false:=xD hbk 1;have hblt:=xJ hbk;clear hbk hT;go_wp2;go_ret;rw[HR.o]
     exact⟨rfl,hr.o.2⟩
    ·rw[if_neg hdz] at hR;have HR:=ι hR;have z0:((d:Int)==0)=false:=by rw[beq_eq_false_iff_ne];omega
     clear hR h32 h40 h41;obtain⟨hBb,hT,v0,hbk,_,_⟩:=hr.o.1;have c1:wr.cell? ⟨b,1,none⟩=some (.int .i64 d):=xA hbk 1;have y1:wr.frozen? ⟨b,1,none⟩=false:=xD hbk 1;have hblt:=xJ hbk;clear hbk hT;have hs1:=ι (hr.o.1.deep (d-1))
     have hb1:=ι (hr.o.2.setCell (p:=⟨b,1,none⟩) hBb (.int .i64 (((d-1):Nat):Int)));have hz1:B<=(wr.setCell ⟨b,1,none⟩ (.int .i64 (((d-1):Nat):Int))).heap.size:=by rw[size_set];exact Nat.le_trans hB hr.o.2.size
     rw[show(((d-1):Nat):Int)=(d:Int)-1 by omega] at hs1 hb1 hz1;go_wp2_with fail
     refine(xBa B b T (d-1) 3 ⟨#[]⟩ _ hs1.o hz1).mono ?_;rintro e w4 ⟨rfl,hq4,hb4⟩;have h4:Hid (Scn B b (jS T (3,[])) (d-1) w4/\Below B w w4):=ι ⟨hq4,hb1.o.trans hb4⟩;clear hq4 hb4 hs1 hb1;go_wp2
     go_roundw
     case rel=>exact⟨k+1,f,jS T (3,[]),(d-1),ω,ω,ω,by go_num,HR,h4⟩
     case measure=>simp[intOf];omega
   rw[if_neg h41] at hR;have b41:((s[k].toNat:Int)==41)=false:=by rw[beq_eq_false_iff_ne];intro e;exact h41 ((vO δ).1 e)
   by_cases h34:s[k]=34
   ·rw[if_pos h34] at hR;have b34:((s[k].toNat:Int)==34)=true:=by rw[h34];rfl
    have E3:=yA9 s (k+1);rw[show((k+1:Nat):Int)=(k:Int)+1 by omega] at E3;generalize hU:xR6 [] (s.data.toList.drop (k+1))=U at hR E3;cases U with
    |none=>
     simp only at hR;have HR:=ι hR.symm;have HE:=ι E3;clear hR h32 h40 h41 h34 hU E3;go_wp2_with fail
     refine(HE.o _ hs ω).mono ?_;rintro e w3 ⟨he,hb3⟩
     change e=.returned (.tuple #[.string ⟨#[]⟩,.int .i64 0,.bool false]) at he
     subst he;go_wp2;go_ret;rw[HR.o];exact⟨rfl,hr.o.2.trans (hb3.mono (Nat.le_trans hB hr.o.2.size))⟩
    |some qn=>
     obtain⟨q,n⟩:=qn;have hn:=yAa _ _ _ _ hU;rw[xAd] at hn;simp only at hR;rw[List.drop_drop,xAd,show k+1+(s.size- (k+1)-n)=s.size-n by omega] at hR;have HR:=ι hR;have HE:=ι E3;clear hR h32 h40 h41 h34 hU E3;go_wp2_with fail
     refine(HE.o _ hs ω).mono ?_;rintro e w3 ⟨he,hb3⟩
     change e=.returned (.tuple #[xK q,.int .i64 ((s.size-n:Nat):Int),.bool true]) at he
     subst he;have hs3:=ι (hr.o.1.keep hb3);have xMc:=ι (hr.o.2.trans (hb3.mono (Nat.le_trans hB hr.o.2.size)));clear hb3;go_wp2_with fail
     refine(xBa B b T d 1 _ _ hs3.o (Nat.le_trans hB xMc.o.size)).mono ?_;rintro e w4 ⟨rfl,hq4,hb4⟩;have h4:Hid (Scn B b (jS T (1,q)) d w4/\Below B w w4):=ι ⟨hq4,xMc.o.trans hb4⟩;clear hq4 hb4 hs3 xMc;go_wp2
     go_roundw
     case rel=>exact⟨s.size-n,f,jS T (1,q),d,ω,ω,ω,rfl,HR,h4⟩
     case measure=>simp[intOf];omega
   rw[if_neg h34] at hR;have b34:((s[k].toNat:Int)==34)=false:=by rw[beq_eq_false_iff_ne];intro e;exact h34 ((vO δ).1 e)
   have hsp:uC s[k]=false:=by simp[uC,h32,h40,h41,h34]
   have hpos:=xL3 (r:=s.data.toList.drop (k+1)) hsp;have hle:=xCj (s.data.toList.drop k);rw[<-xDt s k hlt] at hR hpos;rw[xAd] at hle;have HE:=ι (λw=>jF (s.extract k s.size) w (by rw[<-yA,xC9,xAd];omega) (xPn Hp.o k));rw[xC9] at HE
   generalize wX (s.data.toList.drop k)=n at hR hpos hle HE;rw[List.drop_drop,<-xYg] at hR;have HR:=ι hR;clear hR h32 h40 h41 h34 hsp;go_wp2_with fail
   refine(HE.o _).mono ?_;rintro e w3 ⟨rfl,hb3⟩;have hs3:=ι (hr.o.1.keep hb3);have xMc:=ι (hr.o.2.trans (hb3.mono (Nat.le_trans hB hr.o.2.size)));clear hb3;go_wp2_with fail
   refine(xBa B b T d 0 (s.extract k (k+n)) _ hs3.o (Nat.le_trans hB xMc.o.size)).mono ?_;rintro e w4 ⟨rfl,hq4,hb4⟩;have h4:Hid (Scn B b (jS T (0,(s.extract k (k+n)).data.toList)) d w4/\Below B w w4):=ι ⟨hq4,xMc.o.trans hb4⟩;clear hq4 hb4 hs3 xMc;go_wp2
   go_roundw
   case rel=>exact⟨k+n,f,jS T (0,(s.extract k (k+n)).data.toList),d,ω,ω,ω,by go_num,HR,h4⟩
   case measure=>simp[intOf];omega
  ·rw[xIg s k ω] at hR
   have hR':some (T,d)=R:=by
    rw[<-hR];cases f<;>rfl
   have HR:=ι hR'.symm;clear hR hR';go_wp2;go_ret;rw[HR.o];exact⟨rfl,hr.o⟩
end Go.Proofs.VB
namespace Mailsack
theorem xEg:∀(f:Nat) (l:Bs) (T:List Tok) (d:Nat) (T':List Tok) (d':Nat),vQ f l T d=some (T',d')->d'<=d+l.length:=by
 intro f
 induction f with
 |zero=>
  intro l T d T' d' h;cases l with
  |nil=>simp[vQ] at h;omega
  |cons c r=>simp[vQ] at h
 |succ f ih=>
  intro l T d T' d' h;cases l with
  |nil=>simp[vQ] at h;omega
  |cons c r=>
   unfold vQ at h;simp only[List.length_cons];split at h
   ·have:=ih _ _ _ _ _ h;omega
   split at h
   ·have:=ih _ _ _ _ _ h;omega
   split at h
   ·split at h
    ·cases h
    ·have:=ih _ _ _ _ _ h;omega
   split at h
   ·split at h
    ·cases h
    ·have:=ih _ _ _ _ _ h;rw[List.length_drop] at this;omega
   ·have:=ih _ _ _ _ _ h;rw[List.length_drop,List.length_cons] at this;omega
def finV:Option (List Tok×Nat)->Option (List Tok)
 |none=>none
 |some (T,d)=>if d=0/\T.length<=40 then some T else none
theorem xDs {R:Option (List Tok×Nat)} (h:none=R):finV R=none:=by rw[<-h];rfl
theorem xP2 {X L:List Bs} (h:X.length=L.length+1):qV X L=finV (xBg L 0 X [] 0):=by
 unfold qV finV;rw[if_pos h]
 try (cases xBg L 0 X [] 0<;>rfl)
end Mailsack
namespace Go.Proofs.VB
open Go.RowKit Mailsack MM BU
def yCg (w:World) (R:Option (List Tok)) (e:Ending) (w':World):Prop:=
 match R with
 |none=>e=.returned (.tuple #[.slice none 0 0,.int .i64 3])/\ψ w w'
 |some T=>∃v,e=.returned (.tuple #[v,.int .i64 0])/\xWd w' w.heap.size v T/\ψ w w'
theorem xWd.less {w:World} {B B':Nat} {v:Value} {T:List Tok} (h:xWd w B v T) (hb:B'<=B):xWd w B' v T:=by
 refine⟨h.1,?_⟩;rcases h.2 with hn|⟨g,cap,cur,h1,h2,h3⟩
 ·exact .inl hn
 ·exact .inr ⟨g,cap,cur,h1,ω,h3⟩
theorem xG3 (xv lv:Value) (X L:List Bs) (w:World) (hx:RdS w w.heap.size xv X) (hl:RdS w w.heap.size lv L) (hX:∀x∈X,x.length<=1000000) (hn:X.length<=1000) (hn2:L.length<=1000):
  Calls prog 49 #[.agg #[xv,lv]] w (yCg w (qV X L)):=by
 have HX:=ι hX;obtain⟨Ax,cx,rfl,hcx,hxc⟩:=hx;obtain⟨Al,cl,rfl,hcl,hlc⟩:=hl;have Hxc:=ι hxc;have Hlc:=ι hlc;clear hX hxc hlc;have pa:=ι (xI w (.cells #[.slice Ax X.length cx,.slice Al L.length cl] 81))
 have ka:(w.alloc (.cells #[.slice Ax X.length cx,.slice Al L.length cl] 81)).cell? ⟨w.heap.size,0,none⟩=some (.slice Ax X.length cx):=xA pa.o 0
 have kb:(w.alloc (.cells #[.slice Ax X.length cx,.slice Al L.length cl] 81)).cell? ⟨w.heap.size,1,none⟩=some (.slice Al L.length cl):=xA pa.o 1
 by_cases hne:X.length=L.length+1
 ·rw[xP2 hne];generalize hR0:xBg L 0 X [] 0=R;have h0:Hid (xBg L 0 (X.drop 0) [] 0=R):=ι hR0;have c0:((X.length:Int)!=(L.length:Int)+1)=false:=by simp;omega
  have HN:=ι hne;clear hR0 hne;have H2:=ι ((φ w (.cells #[.slice Ax X.length cx,.slice Al L.length cl] 81)).alloc σ (.cells #[.slice none 0 0,.int .i64 0] 191))
  have P1:=ι (zK w (.cells #[.slice Ax X.length cx,.slice Al L.length cl] 81) (.cells #[.slice none 0 0,.int .i64 0] 191));have P2:=ι (zD w (.cells #[.slice Ax X.length cx,.slice Al L.length cl] 81) (.cells #[.slice none 0 0,.int .i64 0] 191))
  have hz2:w.heap.size+1<=((w.alloc (.cells #[.slice Ax X.length cx,.slice Al L.length cl] 81)).alloc (.cells #[.slice none 0 0,.int .i64 0] 191)).heap.size:=σ
  have kx:((w.alloc (.cells #[.slice Ax X.length cx,.slice Al L.length cl] 81)).alloc (.cells #[.slice none 0 0,.int .i64 0] 191)).cell? ⟨w.heap.size,0,none⟩=some (.slice Ax X.length cx):=xA P1.o 0;go_enter func49,ntmps49;go_wp2
  generalize (w.alloc (.cells #[.slice Ax X.length cx,.slice Al L.length cl] 81)).alloc (.cells #[.slice none 0 0,.int .i64 0] 191)=w2 at H2 P1 P2 hz2 kx⊢
  go_loopw [18] (λiv wr=>∃(k:Nat) (T:List Tok) (d:Nat),k<=X.length/\d<=1000000*k/\iv=.int .i64 k/\Hid (xBg L k (X.drop k) T d=R)/\Hid (Scn (w.heap.size+1) (w.heap.size+1) T d wr/\Below (w.heap.size+1) w2 wr)) (λiv _=>X.length- (intOf iv).toNat)
  case atStart=>exact⟨0,[],0,Nat.zero_le _,ω,rfl,h0,ι ⟨⟨Nat.le_refl _,δ,_,P2.o,World.ownsRow_nil _ _ _ _,by simp[Value.ownBlock]⟩,Below.refl _ _⟩⟩
  case round=>
   obtain⟨k,T,d,hk,hd,rfl,HR0,hr⟩:=hrel;have hR:=HR0.o;clear HR0 h0 ka kb kx
   by_cases hlt:k<X.length
   ·obtain⟨bx,ox,rfl,hbx,hcx2⟩:=Hxc.o ω;obtain⟨x,hx⟩:∃x,X[k]?=some x:=⟨_,List.getElem?_eq_getElem hlt⟩;have hxs:(⟨x.toArray⟩:ByteArray).size<=1000000:=HX.o x (List.mem_of_getElem? hx);have hxs':x.length<=1000000:=hxs
    have q0:wr.cell? ⟨bx,ox+k,none⟩=some (xK x):=(hr.o.2.cell (by show bx<_;omega)).trans ((H2.o.cell hbx).trans (hcx2 k x hx))
    have hdr:X.drop k=x::X.drop (k+1):=by
     rw[List.drop_eq_getElem_cons hlt];rw[List.getElem?_eq_getElem hlt] at hx;injection hx with hx;rw[hx]
    rw[hdr] at hR;unfold xBg at hR;clear hcx2 hx hdr
    by_cases hk0:k=0
    ·subst hk0;rw[if_neg (show ¬(0<0) by omega)] at hR;have q0':wr.cell? ⟨bx,ox,none⟩=some (xK x):=q0;clear q0;have E1:=xBr ⟨x.toArray⟩;rw[show(⟨x.toArray⟩:ByteArray).data.toList=x from rfl] at E1;cases hp:zN x
     ·rw[hp] at E1 hR;have HE:=ι E1;rw[if_neg (show ¬(false=true) by simp)] at hR;have HR:=ι (xDs hR);clear E1 hp hR;go_wp2_with fail
      refine(HE.o _ hxs).mono ?_;rintro e w5 ⟨rfl,hw5⟩;subst hw5;go_wp2;go_ret2;rw[HR.o];exact⟨rfl,H2.o.trans (hr.o.2.mono (Nat.le_trans (Nat.le_succ _) ν))⟩
     ·rw[hp] at E1 hR;have HE:=ι E1;rw[if_pos (rfl:true=true)] at hR;have HS:=ι (λW (h:Scn (w.heap.size+1) (w.heap.size+1) T d W) (hB:w.heap.size+1<=W.heap.size)=>xN9 (w.heap.size+1) (w.heap.size+1) T d ⟨x.toArray⟩ W h hB hxs hp ω)
      rw[show(⟨x.toArray⟩:ByteArray).data.toList=x from rfl,show(⟨x.toArray⟩:ByteArray).size=x.length from rfl] at HS;have hdp:=λT' d'=>xEg x.length x T d T' d';generalize vQ x.length x T d=S at hR HS hdp;clear E1 hp;cases S with
      |none=>
       simp only at hR;have HR:=ι (xDs hR);clear hR hdp;go_wp2_with fail
       refine(HE.o _ hxs).mono ?_;rintro e w5 ⟨rfl,hw5⟩;subst hw5;go_wp2_with fail
       refine(HS.o _ hr.o.1 (Nat.le_trans hz2 hr.o.2.size)).mono ?_;rintro e w6 ⟨rfl,hb6⟩;go_wp2;go_ret2;rw[HR.o];exact⟨rfl,H2.o.trans ((hr.o.2.trans hb6).mono (Nat.le_succ _))⟩
      |some td=>
       obtain⟨T2,d2⟩:=td;have hd2:=hdp T2 d2 rfl;simp only at hR;have HR:=ι hR;clear hR hdp;go_wp2_with fail
       refine(HE.o _ hxs).mono ?_;rintro e w5 ⟨rfl,hw5⟩;subst hw5;go_wp2_with fail
       refine(HS.o _ hr.o.1 (Nat.le_trans hz2 hr.o.2.size)).mono ?_;rintro e w6 ⟨rfl,hs6,hb6⟩;have h6:Hid (Scn (w.heap.size+1) (w.heap.size+1) T2 d2 w6/\Below (w.heap.size+1) w2 w6):=ι ⟨hs6,hr.o.2.trans hb6⟩;clear hs6 hb6;go_wp2
       go_roundw
       case rel=>exact⟨0+1,T2,d2,ω,ω,by go_num,HR,h6⟩
       case measure=>simp[intOf];omega
    ·obtain⟨j,rfl⟩:∃j,k=j+1:=⟨k-1,ω⟩;clear hk0;rw[if_pos (show 0<j+1 by omega),show j+1-1=j by omega] at hR;have hjl:j<L.length:=by have:=HN.o;omega
     obtain⟨bl,ol,rfl,hbl,xP⟩:=Hlc.o ω;have q1:wr.cell? ⟨bl,ol+j,none⟩=some (xK (L.getD j [])):=(hr.o.2.cell (by show bl<_;omega)).trans ((H2.o.cell hbl).trans (xP j _ (by rw[List.getD_eq_getElem?_getD,List.getElem?_eq_getElem hjl];rfl)));generalize L.getD j []=y at q1 hR
     have kl:wr.cell? ⟨w.heap.size,1,none⟩=some (.slice (some ⟨bl,ol,none⟩) L.length cl):=(hr.o.2.cell σ).trans (xA P1.o 1);clear xP;go_wp2_with fail
     refine(xBa (w.heap.size+1) (w.heap.size+1) T d 1 ⟨y.toArray⟩ _ hr.o.1 (Nat.le_trans hz2 hr.o.2.size)).mono ?_;rintro e w4 ⟨rfl,hq4,hb4⟩;have h4:Hid (Scn (w.heap.size+1) (w.heap.size+1) (jS T (1,y)) d w4/\Below (w.heap.size+1) w2 w4):=ι ⟨hq4,hr.o.2.trans hb4⟩
     clear hq4 hb4;have E1:=xBr ⟨x.toArray⟩;rw[show(⟨x.toArray⟩:ByteArray).data.toList=x from rfl] at E1;cases hp:zN x
     ·rw[hp] at E1 hR;have HE:=ι E1;rw[if_neg (show ¬(false=true) by simp)] at hR;have HR:=ι (xDs hR);clear E1 hp hR;go_wp2_with fail
      refine(HE.o _ hxs).mono ?_;rintro e w5 ⟨rfl,hw5⟩;subst hw5;go_wp2;go_ret2;rw[HR.o];exact⟨rfl,H2.o.trans (h4.o.2.mono (Nat.le_trans (Nat.le_succ _) ν))⟩
     ·rw[hp] at E1 hR;have HE:=ι E1;rw[if_pos (rfl:true=true)] at hR;have HS:=ι (λW (h:Scn (w.heap.size+1) (w.heap.size+1) (jS T (1,y)) d W) (hB:w.heap.size+1<=W.heap.size)=>xN9 (w.heap.size+1) (w.heap.size+1) (jS T (1,y)) d ⟨x.toArray⟩ W h hB hxs hp ω)
      rw[show(⟨x.toArray⟩:ByteArray).data.toList=x from rfl,show(⟨x.toArray⟩:ByteArray).size=x.length from rfl] at HS;have hdp:=λT' d'=>xEg x.length x (jS T (1,y)) d T' d';generalize vQ x.length x (jS T (1,y)) d=S at hR HS hdp;clear E1 hp;cases S with
      |none=>
       simp only at hR;have HR:=ι (xDs hR);clear hR hdp;go_wp2_with fail
       refine(HE.o _ hxs).mono ?_;rintro e w5 ⟨rfl,hw5⟩;subst hw5;go_wp2_with fail
       refine(HS.o _ h4.o.1 (Nat.le_trans hz2 h4.o.2.size)).mono ?_;rintro e w6 ⟨rfl,hb6⟩;go_wp2;go_ret2;rw[HR.o];exact⟨rfl,H2.o.trans ((h4.o.2.trans hb6).mono (Nat.le_succ _))⟩
      |some td=>
       obtain⟨T2,d2⟩:=td;have hd2:=hdp T2 d2 rfl;simp only at hR;have HR:=ι hR;clear hR hdp;go_wp2_with fail
       refine(HE.o _ hxs).mono ?_;rintro e w5 ⟨rfl,hw5⟩;subst hw5;go_wp2_with fail
       refine(HS.o _ h4.o.1 (Nat.le_trans hz2 h4.o.2.size)).mono ?_;rintro e w6 ⟨rfl,hs6,hb6⟩;have h6:Hid (Scn (w.heap.size+1) (w.heap.size+1) T2 d2 w6/\Below (w.heap.size+1) w2 w6):=ι ⟨hs6,h4.o.2.trans hb6⟩;clear hs6 hb6;go_wp2
       go_roundw
       case rel=>exact⟨j+1+1,T2,d2,ω,ω,by go_num,HR,h6⟩
       case measure=>simp[intOf];omega
   ·have hks:X.length<=k:=ω;rw[List.drop_eq_nil_iff.2 hks] at hR;have hR':some (T,d)=R:=by rw[<-hR];rfl
    obtain⟨_,hT,v,hbk,hown,hvne⟩:=hr.o.1
    obtain⟨A9,c9,e9⟩:∃A cp,v=.slice A T.length cp:=by
     rcases hown.2 with ⟨h1,h2⟩|⟨g,cap,cur,h1,_⟩
     ·exact⟨none,0,by rw[h1,h2]⟩
     ·exact⟨_,_,h1⟩
    subst e9;have s0:wr.cell? ⟨w.heap.size+1,0,none⟩=some (.slice A9 T.length c9):=xA hbk 0;have s1:wr.cell? ⟨w.heap.size+1,1,none⟩=some (.int .i64 d):=xA hbk 1;have Hown:=ι hown;have hfin:finV R=if d=0/\T.length<=40 then some T else none:=by rw[<-hR'];rfl
    clear hR hR' hown hbk hvne
    by_cases hd0:d=0
    ·subst hd0;have z0:(((0:Nat):Int)!=0)=false:=rfl
     by_cases h40:T.length<=40
     ·rw[if_pos ⟨rfl,h40⟩] at hfin;have HF:=ι hfin;clear hfin;go_wp2;go_ret2;rw[HF.o];exact⟨_,rfl,xWd.less Hown.o (Nat.le_succ _),H2.o.trans (hr.o.2.mono (Nat.le_succ _))⟩
     ·rw[if_neg ω] at hfin;have HR:=ι hfin;clear hfin;go_wp2;go_ret2;rw[HR.o];exact⟨rfl,H2.o.trans (hr.o.2.mono (Nat.le_succ _))⟩
    ·rw[if_neg ω] at hfin;have z0:((d:Int)!=0)=true:=by simp;omega
     have HR:=ι hfin;clear hfin;go_wp2;go_ret2;rw[HR.o];exact⟨rfl,H2.o.trans (hr.o.2.mono (Nat.le_succ _))⟩
 ·have hR:qV X L=none:=by unfold qV;rw[if_neg hne]
  rw[hR];have c0:((X.length:Int)!=(L.length:Int)+1)=true:=by simp;omega
  clear hR;go_enter func49,ntmps49;go_wp2;go_ret2;exact⟨rfl,(Below.refl _ _).alloc ν _⟩
theorem xNb (w:World) (B:Nat):RdS w B (.slice none 0 0) []:=⟨none,0,rfl,Nat.le_refl _,λh=>absurd h (Nat.lt_irrefl _)⟩
theorem xNc {w:World} {B:Nat} {v:Value} {T:List Tok} (h:xWd w B v T) (hT:0<T.length):∃g cap,v=.slice (some ⟨g,0,none⟩) T.length cap/\T.length<=cap/\g<w.heap.size/\∀j u,(jH T)[j]?=some u->w.cell? ⟨g,j,none⟩=some u:=by
 rcases h.2 with ⟨_,h2⟩|⟨g,cap,cur,h1,hb,h3,hc,_⟩
 ·omega
 ·refine⟨g,cap,h1,hc,xJ h3,λj u hu=>?_⟩;have:=World.ownsRow.cells h (g:=g) (by rw[h1];rfl) j u hu;have hadd:(⟨g,0,none⟩:Addr).add j=⟨g,j,none⟩:=by unfold Addr.add;split<;>simp_all
  rwa [hadd] at this
end Go.Proofs.VB
namespace Go.Proofs.SV
open Go.RowKit MM
section
variable {P:Nat->Prop} {a b c:World}
end
def yX (b:Nat):Nat->List Value->World->World
 |_,[],W=>W
 |i,a::l,W=>yX b (i+1) l (W.setCell ⟨b,i,none⟩ a)
theorem uI {b g:Nat} {o:Obj} (hne:g≠b):∀(l:List Value) (i:Nat) (W:World),W.heap[g]?=some o->(yX b i l W).heap[g]?=some o
 |[],_,_,h=>h
 |_::l,i,_,h=>uI hne l (i+1) _ (zL h (p:=⟨b,i,none⟩) hne _)
theorem zU {B:Nat} {a:World} {b:Nat} (hb:B<=b):∀(l:List Value) (i:Nat) (W:World),Below B a W->Below B a (yX b i l W)
 |[],_,_,h=>h
 |_::l,i,_,h=>zU hb l (i+1) _ (h.setCell (p:=⟨b,i,none⟩) hb _)
theorem xCp {b:Nat} {t:TypeId}:∀(l:List Value) (i:Nat) (W:World) (cs:Array Value),W.heap[b]?=some (.cells cs t (0,0))->i+l.length<=cs.size->
  (yX b i l W).heap[b]?=some (.cells (cs.toList.take i++l++cs.toList.drop (i+l.length)).toArray t (0,0))
 |[],i,W,cs,h,_=>by
  unfold yX;rw[h];simp
 |a::l,i,W,cs,h,hi=>by
  simp only[List.length_cons] at hi;have h1:=yC h i a;have h2:=xCp l (i+1) _ _ h1 (by simp;omega);unfold yX;rw[h2]
  congr 2
  apply congrArg;apply List.ext_getElem?;intro j;simp only[Array.toList_setIfInBounds,List.getElem?_append,List.length_take,List.length_set,Array.length_toList,List.getElem?_take,List.getElem?_drop,List.getElem?_set,List.length_append,List.length_cons]
  by_cases h1:j<i
  ·rw[if_pos ω,if_pos ω,if_pos ω,if_neg ω,if_pos ω,if_pos ω,if_pos ω]
  ·by_cases h2:j=i
   ·subst h2;rw[if_pos ω,if_pos ω,if_pos ω,if_pos rfl,if_pos ω,if_pos ω,if_neg ω,show j-min j cs.size=0 by omega]
    rfl
   ·by_cases h3:j<i+1+l.length
    ·rw[if_pos ω,if_neg ω,if_pos ω,if_neg ω,show j-min i cs.size=(j-min (i+1) cs.size)+1 by omega,List.getElem?_cons_succ]
    ·rw[if_neg ω,if_neg ω,if_neg ω]
     congr 1
     omega
theorem uU {b:Nat} {t:TypeId} {l:List Value} {W:World} {cs:Array Value} (h:W.heap[b]?=some (.cells cs t (0,0))) (hl:l.length=cs.size):(yX b 0 l W).heap[b]?=some (.cells l.toArray t (0,0)):=by
 rw[xCp l 0 W cs h ω,show 0+l.length=cs.toList.length by simp[hl]];simp
theorem _root_.cpl4 {W a:World} {b B:Nat} {t:TypeId} {c0 c1 c2 c3:Value} (ho:W.heap[b]?=some (.cells #[c0,c1,c2,c3] t (0,0))) (hb:Below B a W) (hB:B<=b) (v0 v1 v2 v3:Value) (U:World) (h:U=(((W.setCell ⟨b,0,none⟩ v0).setCell ⟨b,1,none⟩ v1).setCell ⟨b,2,none⟩ v2).setCell ⟨b,3,none⟩ v3):W.cell? ⟨b,0,none⟩=some c0/\W.frozen? ⟨b,0,none⟩=false/\U.cell? ⟨b,0,none⟩=some v0/\W.cell? ⟨b,1,none⟩=some c1/\W.frozen? ⟨b,1,none⟩=false/\U.cell? ⟨b,1,none⟩=some v1/\W.cell? ⟨b,2,none⟩=some c2/\W.frozen? ⟨b,2,none⟩=false/\U.cell? ⟨b,2,none⟩=some v2/\W.cell? ⟨b,3,none⟩=some c3/\W.frozen? ⟨b,3,none⟩=false/\U.cell? ⟨b,3,none⟩=some v3/\Hid (Below B a U):=by
 subst h;have hs:=uU (b:=b) (l:=[v0,v1,v2,v3]) ho rfl;exact⟨xA ho 0,xD ho 0,xA hs 0,xA ho 1,xD ho 1,xA hs 1,xA ho 2,xD ho 2,xA hs 2,xA ho 3,xD ho 3,xA hs 3,ι (zU hB [v0,v1,v2,v3] 0 _ hb)⟩
theorem _root_.xYn {W a:World} {b B:Nat} {t:TypeId} {c0 c1 c2 c3 c4:Value} (ho:W.heap[b]?=some (.cells #[c0,c1,c2,c3,c4] t (0,0))) (hb:Below B a W) (hB:B<=b) (v0 v1 v2 v3 v4:Value) (U:World) (h:U=((((W.setCell ⟨b,0,none⟩ v0).setCell ⟨b,1,none⟩ v1).setCell ⟨b,2,none⟩ v2).setCell ⟨b,3,none⟩ v3).setCell ⟨b,4,none⟩ v4):W.cell? ⟨b,0,none⟩=some c0/\W.frozen? ⟨b,0,none⟩=false/\U.cell? ⟨b,0,none⟩=some v0/\W.cell? ⟨b,1,none⟩=some c1/\W.frozen? ⟨b,1,none⟩=false/\U.cell? ⟨b,1,none⟩=some v1/\W.cell? ⟨b,2,none⟩=some c2/\W.frozen? ⟨b,2,none⟩=false/\U.cell? ⟨b,2,none⟩=some v2/\W.cell? ⟨b,3,none⟩=some c3/\W.frozen? ⟨b,3,none⟩=false/\U.cell? ⟨b,3,none⟩=some v3/\W.cell? ⟨b,4,none⟩=some c4/\W.frozen? ⟨b,4,none⟩=false/\U.cell? ⟨b,4,none⟩=some v4/\Hid (Below B a U):=by
 subst h;have hs:=uU (b:=b) (l:=[v0,v1,v2,v3,v4]) ho rfl;exact⟨xA ho 0,xD ho 0,xA hs 0,xA ho 1,xD ho 1,xA hs 1,xA ho 2,xD ho 2,xA hs 2,xA ho 3,xD ho 3,xA hs 3,xA ho 4,xD ho 4,xA hs 4,ι (zU hB [v0,v1,v2,v3,v4] 0 _ hb)⟩
theorem _root_.cpl7 {W a:World} {b B:Nat} {t:TypeId} {c0 c1 c2 c3 c4 c5 c6:Value} (ho:W.heap[b]?=some (.cells #[c0,c1,c2,c3,c4,c5,c6] t (0,0))) (hb:Below B a W) (hB:B<=b) (v0 v1 v2 v3 v4 v5 v6:Value) (U:World) (h:U=((((((W.setCell ⟨b,0,none⟩ v0).setCell ⟨b,1,none⟩ v1).setCell ⟨b,2,none⟩ v2).setCell ⟨b,3,none⟩ v3).setCell ⟨b,4,none⟩ v4).setCell ⟨b,5,none⟩ v5).setCell ⟨b,6,none⟩ v6):W.cell? ⟨b,0,none⟩=some c0/\W.frozen? ⟨b,0,none⟩=false/\U.cell? ⟨b,0,none⟩=some v0/\W.cell? ⟨b,1,none⟩=some c1/\W.frozen? ⟨b,1,none⟩=false/\U.cell? ⟨b,1,none⟩=some v1/\W.cell? ⟨b,2,none⟩=some c2/\W.frozen? ⟨b,2,none⟩=false/\U.cell? ⟨b,2,none⟩=some v2/\W.cell? ⟨b,3,none⟩=some c3/\W.frozen? ⟨b,3,none⟩=false/\U.cell? ⟨b,3,none⟩=some v3/\W.cell? ⟨b,4,none⟩=some c4/\W.frozen? ⟨b,4,none⟩=false/\U.cell? ⟨b,4,none⟩=some v4/\W.cell? ⟨b,5,none⟩=some c5/\W.frozen? ⟨b,5,none⟩=false/\U.cell? ⟨b,5,none⟩=some v5/\W.cell? ⟨b,6,none⟩=some c6/\W.frozen? ⟨b,6,none⟩=false/\U.cell? ⟨b,6,none⟩=some v6/\Hid (Below B a U):=by
 subst h;have hs:=uU (b:=b) (l:=[v0,v1,v2,v3,v4,v5,v6]) ho rfl;exact⟨xA ho 0,xD ho 0,xA hs 0,xA ho 1,xD ho 1,xA hs 1,xA ho 2,xD ho 2,xA hs 2,xA ho 3,xD ho 3,xA hs 3,xA ho 4,xD ho 4,xA hs 4,xA ho 5,xD ho 5,xA hs 5,xA ho 6,xD ho 6,xA hs 6,ι (zU hB [v0,v1,v2,v3,v4,v5,v6] 0 _ hb)⟩
end Go.Proofs.SV
namespace Go.Proofs.RK
open Go.RowKit MM
section
variable {α:Type} {e:TypeId} {k:Nat} {f:α->List Value} {w w':World} {base:Nat} {v:Value} {l:List α}
theorem kR (hk:∀x,(f x).length=k) (l:List α):(l.flatMap f).length=l.length*k:=by
 induction l with
 |nil=>simp
 |cons x l ih=>rw[List.flatMap_cons,List.length_append,hk,ih,List.length_cons,Nat.succ_mul];omega
theorem flat_get (hk:∀x,(f x).length=k):∀(l:List α) (j i:Nat) (x:α) (u:Value),l[j]?=some x->(f x)[i]?=some u->(l.flatMap f)[j*k+i]?=some u
 |[],_,_,_,_,h,_=>by simp at h
 |y::l,0,i,x,u,h,hu=>by
  simp at h;subst h;have hi:=(List.getElem?_eq_some_iff.1 hu).1;rw[List.flatMap_cons,Nat.zero_mul,Nat.zero_add,List.getElem?_append_left hi];exact hu
 |y::l,j+1,i,x,u,h,hu=>by
  have ih:=flat_get hk l j i x u (by simpa using h) hu;rw[List.flatMap_cons,List.getElem?_append_right (by rw[hk,Nat.succ_mul];omega),hk,show(j+1)*k+i-k=j*k+i by rw[Nat.succ_mul];omega];exact ih
theorem xO8 (hk:∀x,(f x).length=k):∀(l:List α) (j:Nat) (u:Value),(l.flatMap f)[j]?=some u->∃q i x,j=q*k+i/\l[q]?=some x/\(f x)[i]?=some u
 |[],_,_,h=>by simp at h
 |y::l,j,u,h=>by
  rw[List.flatMap_cons] at h
  by_cases hj:j<k
  ·rw[List.getElem?_append_left (by rw[hk];exact hj)] at h;exact⟨0,j,y,ω,rfl,h⟩
  ·rw[List.getElem?_append_right (by rw[hk];omega),hk] at h;obtain⟨q,i,x,h1,h2,h3⟩:=xO8 hk l (j-k) u h;exact⟨q+1,i,x,by rw[Nat.succ_mul];omega,by simpa using h2,h3⟩
def zP (e:TypeId) (k:Nat) (f:α->List Value) (w:World) (base:Nat) (v:Value) (l:List α):Prop:=w.ownsRow base e k v l.length (l.flatMap f)
def RdR (k:Nat) (f:α->List Value) (w:World) (B:Nat) (v:Value) (l:List α):Prop:=
 ∃A c,v=.slice A l.length c/\l.length<=c/\(0<l.length->∃b off,A=some ⟨b,off,none⟩/\b<B/\∀(j:Nat) x,l[j]?=some x->∀(i:Nat) u,(f x)[i]?=some u->w.cell? ⟨b,off+j*k+i,none⟩=some u)
theorem zP.row (h:zP e k f w base v l):w.ownsRow base e k v l.length (l.flatMap f):=h
theorem zP.nil (w:World) (base:Nat):zP e k f w base (.slice none 0 0) []:=World.ownsRow_nil w base _ _
theorem zP.of {m:List α} (h:w.ownsRow base e k v (l.length+m.length) (l.flatMap f++m.flatMap f)):zP e k f w base v (l++m):=by
 unfold zP;rw[List.length_append,List.flatMap_append];exact h
theorem zP.alloc (h:zP e k f w base v l) (o:Obj):zP e k f (w.alloc o) base v l:=World.ownsRow.alloc h o
theorem zP.grown {row:Option Nat} (h:zP e k f w base v l) (hg:w.grownBy w' row) (hne:v.ownBlock=none∨v.ownBlock≠row):zP e k f w' base v l:=h.row.kept hg hne
theorem zP.below (h:zP e k f w base v l) (hb:ψ w w'):zP e k f w' base v l:=h.grown (vL hb none) (by cases v.ownBlock<;>simp)
theorem zP.form (h:zP e k f w base v l):∃A c,v=.slice A l.length c/\l.length<=c:=by
 rcases h.2 with ⟨h1,h2⟩|⟨g,cap,cur,h1,_,_,h2,_⟩
 ·exact⟨none,0,by rw[h1,h2],ω⟩
 ·exact⟨_,_,h1,h2⟩
theorem zP.rd (hk:∀x,(f x).length=k) (h:zP e k f w base v l):RdR k f w w.heap.size v l:=by
 rcases h.2 with ⟨h1,h2⟩|⟨g,cap,cur,h1,hb,hg,hnc,_,_,htake⟩
 ·exact⟨none,0,by rw[h1,h2],ω,λh=>by omega⟩
 ·refine⟨_,cap,h1,hnc,λ_=>⟨g,0,rfl,xJ hg,λj x hx i u hu=>?_⟩⟩;have:=World.ownsRow.cells h.row (g:=g) (by rw[h1];rfl) (j*k+i) u (flat_get hk l j i x u hx hu);have hadd:(⟨g,0,none⟩:Addr).add (j*k+i)=⟨g,j*k+i,none⟩:=by unfold Addr.add;split<;>simp_all
  rw[hadd] at this;rw[Nat.zero_add];exact this
theorem RdR.keep {B:Nat} (h:RdR k f w B v l) (hc:∀p:Addr,p.block<B->w'.cell? p=w.cell? p):RdR k f w' B v l:=by
 obtain⟨A,c,h1,h2,h3⟩:=h;refine⟨A,c,h1,h2,λhn=>?_⟩;obtain⟨b,off,h4,h5,h6⟩:=h3 hn;exact⟨b,off,h4,h5,λj x hx i u hu=>(hc _ h5).trans (h6 j x hx i u hu)⟩
theorem RdR.below {B B':Nat} (h:RdR k f w B v l) (hb:Below B' w w') (hB:B<=B'):RdR k f w' B v l:=h.keep λ_ hp=>hb.cell ω
theorem RdR.more {B B':Nat} (h:RdR k f w B v l) (hB:B<=B'):RdR k f w B' v l:=by
 obtain⟨A,c,h1,h2,h3⟩:=h;refine⟨A,c,h1,h2,λhn=>?_⟩;obtain⟨b,off,h4,h5,h6⟩:=h3 hn;exact⟨b,off,h4,ω,h6⟩
theorem RdR.src (hk:∀x,(f x).length=k) {B:Nat} {A:Option Addr} {n c:Nat} (h:RdR k f w B (.slice A n c) l) (hn:0<n):∃ad,A=some ad/\ad.block<B/\∀j u,(l.flatMap f)[j]?=some u->w.cell? (ad.add j)=some u:=by
 obtain⟨A',c',h1,h2,h3⟩:=h;injection h1 with e1 e2 e3;subst e1 e2;obtain⟨b,off,rfl,h5,h6⟩:=h3 hn;refine⟨_,rfl,h5,λj u hu=>?_⟩;obtain⟨q,i,x,rfl,hx,hi⟩:=xO8 hk l j u hu;have hadd:(⟨b,off,none⟩:Addr).add (q*k+i)=⟨b,off+(q*k+i),none⟩:=by unfold Addr.add;split<;>simp_all
 rw[hadd,<-Nat.add_assoc];exact h6 q x hx i u hi
end
end Go.Proofs.RK