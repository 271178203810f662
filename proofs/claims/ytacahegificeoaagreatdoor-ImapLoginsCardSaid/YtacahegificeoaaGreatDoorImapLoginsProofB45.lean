/- Contracts of functions. Conditions: as stated. -/
import Derived.Test.YtacahegificeoaaGreatDoorImapLoginsProofB44
set_option maxHeartbeats 8000000
set_option maxRecDepth 100000
namespace Go.Proofs.IM
open Go.RowKit MM BU Mailsack SV
theorem lawz (K:List Value->Bs->World->Prop) (N1 N2:Prop) (line tag nm NM:Bs) (rest:List Tok) (nd:Int) (fid:FuncId) (mt:Bool) (w:World) (hK:∀vs l,Stb (K vs l)) (hl:line.length<=1000) (hT:rV [line] []=some ((0,tag)::(0,nm)::rest)) (htag:tag≠[42]) (hnm:upP nm=NM) (hid:NM≠[85,73,68]) (htl:tag.length<=1000000) (hnl:nm.length<=1000000)
  (hin:(NM,Value.agg #[.int .i64 nd,.func (.func fid) #[] #[]])∈vD) (huq:∀u,(NM,u)∈vD->u=Value.agg #[.int .i64 nd,.func (.func fid) #[] #[]]) (hE:∀args W,(callFunc fid args).run Tryz.prog W=.ok (.enter fid args) W)
  (hme:∀b sl W,W.heap[b]?=some (.cells #[.slice none 0 0,.slice none 0 0,.string ⟨#[]⟩,.string ⟨#[]⟩,.string ⟨#[]⟩,.int .i64 0,.slice none 0 0,.slice none 0 0,.int .i64 0,.string ⟨#[]⟩,.bool false,.bool false,.string ⟨#[]⟩,.string ⟨#[]⟩,.string ⟨#[]⟩,.string ⟨#[]⟩,.string ⟨#[]⟩,.int .i64 0,sl,.bool false,.pointer none,.slice none 0 0] 83 (0,0))->Calls Tryz.prog 26 #[xY0 b,.int .i64 nd] W λe w'=>e=.returned (.bool mt)/\w'=W) (hmf:mt=false->N2)
  (hrun:mt=true->∀b sl W,Cmd b #[.slice none 0 0,.slice none 0 0,.string ⟨#[]⟩,.string ⟨#[]⟩,.string ⟨#[]⟩,.int .i64 0,.slice none 0 0,.slice none 0 0,.int .i64 0,.string ⟨#[]⟩,.bool false,.bool false,.string ⟨#[]⟩,.string ⟨#[]⟩,.string ⟨#[]⟩,.string ⟨#[]⟩,.string ⟨#[]⟩,.int .i64 0,sl,.bool false,.pointer none,.slice none 0 0] [] W->RK.RdR 2 tkF W W.heap.size sl rest->Calls Tryz.prog fid #[xY0 b] W (xOx K N1 N2 b (.string ⟨#[]⟩) (.string ⟨#[]⟩) (.string ⟨#[]⟩) (.string ⟨#[]⟩) (.string ⟨#[]⟩) (.int .i64 0) sl W)):
  Calls Tryz.prog 7 #[.agg #[.slice none 0 0,.slice none 0 0],.agg #[.string ⟨#[]⟩,.string ⟨#[]⟩,.string ⟨#[]⟩,.int .i64 0,.slice none 0 0,.slice none 0 0,.int .i64 0,.string ⟨#[]⟩,.bool false,.bool false],xO line,.agg #[.string ⟨#[]⟩,.string ⟨#[]⟩,.string ⟨#[]⟩,.string ⟨#[]⟩,.string ⟨#[]⟩,.int .i64 0]] w (xB6 K N1 N2 (.slice none 0 0) (.slice none 0 0) (.string ⟨#[]⟩) (.string ⟨#[]⟩) (.string ⟨#[]⟩) (.int .i64 0) (.slice none 0 0) (.slice none 0 0) (.int .i64 0) (.string ⟨#[]⟩) (.bool false) (.bool false) tag w):=
 xLs K N1 N2 (.slice none 0 0) (.slice none 0 0) (.string ⟨#[]⟩) (.string ⟨#[]⟩) (.string ⟨#[]⟩) (.int .i64 0) (.slice none 0 0) (.slice none 0 0) (.int .i64 0) (.string ⟨#[]⟩) (.bool false) (.bool false) (.string ⟨#[]⟩) (.string ⟨#[]⟩) (.string ⟨#[]⟩) (.string ⟨#[]⟩) (.string ⟨#[]⟩) (.int .i64 0) tag line w hK δ (λW xv hb hx=>yCj K N1 N2 (.slice none 0 0) (.slice none 0 0) (.string ⟨#[]⟩) (.string ⟨#[]⟩) (.string ⟨#[]⟩) (.int .i64 0) (.slice none 0 0) (.slice none 0 0) (.int .i64 0) (.string ⟨#[]⟩) (.bool false) (.bool false) (.string ⟨#[]⟩) (.string ⟨#[]⟩) (.string ⟨#[]⟩) (.string ⟨#[]⟩) (.string ⟨#[]⟩) (.int .i64 0) xv (.slice none 0 0) [line] [] tag nm NM rest nd fid mt W hK hx (VB.xPk W _) (λx hx=>by rw[List.mem_singleton.1 hx];omega) σ σ δ hT htag hnm hid htl hnl hin huq hE hme hmf (λhm b sl W2 _ _ hc ha=>hrun hm b sl W2 hc ha))
theorem stbP {P:Prop}:Stb (λ_=>P):=⟨λh _=>h,λ_ h _ _=>h⟩
theorem yEd (w:World):Calls Tryz.prog 7 #[.agg #[.slice none 0 0,.slice none 0 0],.agg #[.string ⟨#[]⟩,.string ⟨#[]⟩,.string ⟨#[]⟩,.int .i64 0,.slice none 0 0,.slice none 0 0,.int .i64 0,.string ⟨#[]⟩,.bool false,.bool false],.string ⟨#[97,32,99,97,112,97,98,105,108,105,116,121]⟩,.agg #[.string ⟨#[]⟩,.string ⟨#[]⟩,.string ⟨#[]⟩,.string ⟨#[]⟩,.string ⟨#[]⟩,.int .i64 0]] w λe w'=>
   e=.returned (.tuple #[.agg #[.slice none 0 0,.slice none 0 0],.agg #[.string ⟨#[]⟩,.string ⟨#[]⟩,.string ⟨#[]⟩,.int .i64 0,.slice none 0 0,.slice none 0 0,.int .i64 0,.string ⟨#[]⟩,.bool false,.bool false],.string ⟨#[42,32,67,65,80,65,66,73,76,73,84,89,32,73,77,65,80,52,114,101,118,49,13,10,97,32,79,75,13,10]⟩])/\Below w.heap.size w w':=by
 refine(lawz (λvs l _=>vs=[.slice none 0 0,.slice none 0 0,.string ⟨#[]⟩,.string ⟨#[]⟩,.string ⟨#[]⟩,.int .i64 0,.slice none 0 0,.slice none 0 0,.int .i64 0,.string ⟨#[]⟩,.bool false,.bool false]/\l=[42,32]++wCap++[13,10]) False False [97,32,99,97,112,97,98,105,108,105,116,121] [97] [99,97,112,97,98,105,108,105,116,121] [67,65,80,65,66,73,76,73,84,89] [] 0 51 true w (λ_ _=>stbP) δ δ δ δ δ δ δ
  (List.mem_of_getElem? (i:=0) rfl) (λv hv=>by simpa[vD] using hv) (λargs W=>enters_of Tryz.func51 κ rfl args W) (λb sl W h=>xI4 b W) (λh=>by cases h) (λ_ b sl W hc ha=>by
   obtain⟨A,c,rfl,_⟩:=ha;refine(xHi b _ A c W hc rfl).mono ?_;rintro e w' ⟨rfl,v,hc2,hb2⟩;exact .inl ⟨_,_,_,_,_,_,_,_,_,_,_,_,_,_,_,rfl,hc2,⟨rfl,rfl⟩,δ,δ,hb2⟩)).mono ?_
 rintro e w' ⟨hb,h⟩;rcases h with ⟨v0,v1,v2,v3,v4,v5,v6,v7,v8,v9,v10,v11,l,rfl,⟨hv,hl⟩,_⟩|⟨_,h⟩|⟨_,h⟩
 ·simp only[List.cons.injEq] at hv;obtain⟨rfl,rfl,rfl,rfl,rfl,rfl,rfl,rfl,rfl,rfl,rfl,rfl,_⟩:=hv;subst hl;exact⟨rfl,hb⟩
 ·exact h.elim
 ·exact h.elim
theorem yEc (w:World):Calls Tryz.prog 7 #[.agg #[.slice none 0 0,.slice none 0 0],.agg #[.string ⟨#[]⟩,.string ⟨#[]⟩,.string ⟨#[]⟩,.int .i64 0,.slice none 0 0,.slice none 0 0,.int .i64 0,.string ⟨#[]⟩,.bool false,.bool false],.string ⟨#[98,32,76,79,71,79,85,84]⟩,.agg #[.string ⟨#[]⟩,.string ⟨#[]⟩,.string ⟨#[]⟩,.string ⟨#[]⟩,.string ⟨#[]⟩,.int .i64 0]] w λe w'=>
   e=.returned (.tuple #[.agg #[.slice none 0 0,.slice none 0 0],.agg #[.string ⟨#[]⟩,.string ⟨#[]⟩,.string ⟨#[]⟩,.int .i64 0,.slice none 0 0,.slice none 0 0,.int .i64 0,.string ⟨#[]⟩,.bool false,.bool true],.string ⟨#[42,32,66,89,69,13,10,98,32,79,75,13,10]⟩])/\Below w.heap.size w w':=by
 refine(lawz (λvs l _=>vs=[.slice none 0 0,.slice none 0 0,.string ⟨#[]⟩,.string ⟨#[]⟩,.string ⟨#[]⟩,.int .i64 0,.slice none 0 0,.slice none 0 0,.int .i64 0,.string ⟨#[]⟩,.bool false,.bool true]/\l=[42,32]++[66,89,69]++[13,10]) False False [98,32,76,79,71,79,85,84] [98] [76,79,71,79,85,84] [76,79,71,79,85,84] [] 0 53 true w (λ_ _=>stbP) δ δ δ δ δ δ δ
  (List.mem_of_getElem? (i:=2) rfl) (λv hv=>by simpa[vD] using hv) (λargs W=>enters_of Tryz.func53 κ rfl args W) (λb sl W h=>xI4 b W) (λh=>by cases h) (λ_ b sl W hc ha=>by
   obtain⟨A,c,rfl,_⟩:=ha;refine(xSk b _ A c W hc rfl).mono ?_;rintro e w' ⟨rfl,v,hc2,hb2⟩;exact .inl ⟨_,_,_,_,_,_,_,_,_,_,_,_,_,_,_,rfl,hc2,⟨rfl,rfl⟩,δ,δ,hb2⟩)).mono ?_
 rintro e w' ⟨hb,h⟩;rcases h with ⟨v0,v1,v2,v3,v4,v5,v6,v7,v8,v9,v10,v11,l,rfl,⟨hv,hl⟩,_⟩|⟨_,h⟩|⟨_,h⟩
 ·simp only[List.cons.injEq] at hv;obtain⟨rfl,rfl,rfl,rfl,rfl,rfl,rfl,rfl,rfl,rfl,rfl,rfl,_⟩:=hv;subst hl;exact⟨rfl,hb⟩
 ·exact h.elim
 ·exact h.elim
theorem xWn (w:World):Calls Tryz.prog 7 #[.agg #[.slice none 0 0,.slice none 0 0],.agg #[.string ⟨#[]⟩,.string ⟨#[]⟩,.string ⟨#[]⟩,.int .i64 0,.slice none 0 0,.slice none 0 0,.int .i64 0,.string ⟨#[]⟩,.bool false,.bool false],.string ⟨#[99,32,70,69,84,67,72,32,49,32,70,76,65,71,83]⟩,.agg #[.string ⟨#[]⟩,.string ⟨#[]⟩,.string ⟨#[]⟩,.string ⟨#[]⟩,.string ⟨#[]⟩,.int .i64 0]] w λe w'=>
   e=.returned (.tuple #[.agg #[.slice none 0 0,.slice none 0 0],.agg #[.string ⟨#[]⟩,.string ⟨#[]⟩,.string ⟨#[]⟩,.int .i64 0,.slice none 0 0,.slice none 0 0,.int .i64 0,.string ⟨#[]⟩,.bool false,.bool false],.string ⟨#[99,32,66,65,68,13,10]⟩])/\Below w.heap.size w w':=by
 refine(lawz (λ_ _ _=>False) False True [99,32,70,69,84,67,72,32,49,32,70,76,65,71,83] [99] [70,69,84,67,72] [70,69,84,67,72] [(0,[49]),(0,[70,76,65,71,83])] 3 69 false w (λ_ _=>stbP) δ δ δ δ δ δ δ
  (List.mem_of_getElem? (i:=18) rfl) (λv hv=>by simpa[vD] using hv) (λargs W=>enters_of Tryz.func69 κ rfl args W) (λb sl W h=>xWd b W (xA h 2)) (λ_=>trivial) (λh=>by cases h)).mono ?_
 rintro e w' ⟨hb,h⟩;rcases h with ⟨v0,v1,v2,v3,v4,v5,v6,v7,v8,v9,v10,v11,l,_,h,_⟩|⟨_,h⟩|⟨rfl,_⟩
 ·exact h.elim
 ·exact h.elim
 ·exact⟨rfl,hb⟩
theorem xB4 (w:World):Calls Tryz.prog 6 #[] w λe w'=>e=.returned (.bool true)/\Below w.heap.size w w':=by
 have Lcap:=ι (λW=>yEd W);obtain⟨rcap,hcap⟩:∃r:ByteArray,(⟨#[42,32,67,65,80,65,66,73,76,73,84,89,32,73,77,65,80,52,114,101,118,49,13,10,97,32,79,75,13,10]⟩:ByteArray)=r:=⟨_,rfl⟩;rw[hcap] at Lcap
 have ecap:(rcap.toList==[42,32,67,65,80,65,66,73,76,73,84,89,32,73,77,65,80,52,114,101,118,49,13,10,97,32,79,75,13,10])=true:=by rw[<-hcap,ByteArray.toList_eq];rfl
 clear hcap;have Lout:=ι (λW=>yEc W);obtain⟨rout,hout⟩:∃r:ByteArray,(⟨#[42,32,66,89,69,13,10,98,32,79,75,13,10]⟩:ByteArray)=r:=⟨_,rfl⟩;rw[hout] at Lout;have eout:(rout.toList==[42,32,66,89,69,13,10,98,32,79,75,13,10])=true:=by rw[<-hout,ByteArray.toList_eq];rfl
 clear hout;have xYs:=ι (λW=>xWn W);obtain⟨rfetch,xX4⟩:∃r:ByteArray,(⟨#[99,32,66,65,68,13,10]⟩:ByteArray)=r:=⟨_,rfl⟩;rw[xX4] at xYs;have efetch:(rfetch.toList==[99,32,66,65,68,13,10])=true:=by rw[<-xX4,ByteArray.toList_eq];rfl
 clear xX4;go_enter Tryz.func6,Tryz.ntmps6;go_wp2_with fail
 refine(Lcap.o _).mono ?_;rintro e w1 ⟨rfl,hb1⟩;have HB1:=ι hb1;clear hb1;go_wp2_with fail
 refine(Lout.o _).mono ?_;rintro e w2 ⟨rfl,hb2⟩;have ha1:=jO (jO (Below.refl w1.heap.size w1) ν (xX (.slice none 0 0) (.slice none 0 0))) ν xPf;have p1:=xB (yX w1 (xX (.slice none 0 0) (.slice none 0 0)) xPf) hb2 σ
 have HB2:=ι (HB1.o.trans ((ha1.trans (hb2.mono ha1.size)).mono HB1.o.size));have P1:=ι p1;clear hb2 ha1 p1;go_wp2_with fail
 refine(xYs.o _).mono ?_;rintro e w3 ⟨rfl,hb3⟩
 have ha2:=jO (jO (Below.refl w2.heap.size w2) ν (xX (.slice none 0 0) (.slice none 0 0))) ν (uM (.string ⟨#[]⟩) (.string ⟨#[]⟩) (.string ⟨#[]⟩) (.int .i64 0) (.slice none 0 0) (.slice none 0 0) (.int .i64 0) (.string ⟨#[]⟩) (.bool false) (.bool true))
 have p2:=xB (yX w2 (xX (.slice none 0 0) (.slice none 0 0)) (uM (.string ⟨#[]⟩) (.string ⟨#[]⟩) (.string ⟨#[]⟩) (.int .i64 0) (.slice none 0 0) (.slice none 0 0) (.int .i64 0) (.string ⟨#[]⟩) (.bool false) (.bool true))) hb3 σ;have xOc:=ha2.trans (hb3.mono ha2.size)
 have HB3:=ι (HB2.o.trans (xOc.mono HB2.o.size));have p1:=xB P1.o xOc (xG P1.o);have ha3:=jO (jO (Below.refl w3.heap.size w3) ν (xX (.slice none 0 0) (.slice none 0 0))) ν xPf;have HB4:=ι (HB3.o.trans (ha3.mono HB3.o.size))
 have c1:((w3.alloc (xX (.slice none 0 0) (.slice none 0 0))).alloc xPf).cell? ⟨w1.heap.size+1,9,none⟩=some (.bool false):=xA (xK (xK p1 _) _) 9
 have c2:((w3.alloc (xX (.slice none 0 0) (.slice none 0 0))).alloc xPf).cell? ⟨w2.heap.size+1,9,none⟩=some (.bool true):=xA (xK (xK p2 _) _) 9;clear hb3 ha2 p2 xOc p1 P1 HB1 HB2 HB3 ha3 Lcap Lout xYs;go_wp2;go_ret;exact⟨rfl,HB4.o⟩
end Go.Proofs.IM
namespace Go.Proofs.IM
open Go.RowKit MM BU Mailsack SV RK DS IX Go.Proofs.VA
def xYr (d:Dk) (u pw xE su:ByteArray) (d0 d1:Value) (S:List Value) (s7 s8 s9:Value) (V:List Value) (t:ByteArray) (W:World):Prop:=
 (su=⟨#[]⟩/\LgK d u pw xE d0 d1 s7 s8 s9 V [] W/\t=⟨#[116,32,79,75,13,10]⟩)∨(su=⟨#[]⟩/\lgE d u pw xE≠0/\V=d0::d1::S/\t=⟨#[116,32,78,79,13,10]⟩)∨(su≠⟨#[]⟩/\V=d0::d1::S/\t=⟨#[116,32,66,65,68,13,10]⟩)
theorem yF9 {d:Dk} {u pw xE su:ByteArray} {d0 d1 s0 s1 s2 s3 s4 s5 s6 s7 s8 s9:Value} {w w':World} {e:Ending} (hone:∀v∈[d0,d1,s0,s1,s2,s3,s4,s5,s6,s7,s8,s9],v.oneCell'=true)
  (h:xB6 (λvs l W=>su=⟨#[]⟩/\LgK d u pw xE d0 d1 s7 s8 s9 vs l W) (su=⟨#[]⟩/\lgE d u pw xE≠0) (su≠⟨#[]⟩) d0 d1 s0 s1 s2 s3 s4 s5 s6 s7 s8 s9 [116] w e w'):
  ∃v0 v1 v2 v3 v4 v5 v6 v7 v8 v9 v10 v11 t,e=.returned (.tuple #[.agg #[v0,v1],.agg #[v2,v3,v4,v5,v6,v7,v8,v9,v10,v11],.string t])/\(∀v∈[v0,v1,v2,v3,v4,v5,v6,v7,v8,v9,v10,v11],v.oneCell'=true)/\xYr d u pw xE su d0 d1 [s0,s1,s2,s3,s4,s5,s6,s7,s8,s9] s7 s8 s9 [v0,v1,v2,v3,v4,v5,v6,v7,v8,v9,v10,v11] t w'/\Below w.heap.size w w':=by
 obtain⟨hb,h⟩:=h;rcases h with ⟨v0,v1,v2,v3,v4,v5,v6,v7,v8,v9,v10,v11,l,rfl,⟨hs,hk⟩,ho⟩|⟨rfl,hn⟩|⟨rfl,hn⟩
 ·have hl:l=[]:=by obtain⟨_,_,hl,_⟩:=hk;exact hl
  subst hl;exact⟨v0,v1,v2,v3,v4,v5,v6,v7,v8,v9,v10,v11,_,rfl,ho,.inl ⟨hs,hk,rfl⟩,hb⟩
 ·exact⟨d0,d1,s0,s1,s2,s3,s4,s5,s6,s7,s8,s9,_,rfl,hone,.inr (.inl ⟨hn.1,hn.2,rfl,rfl⟩),hb⟩
 ·exact⟨d0,d1,s0,s1,s2,s3,s4,s5,s6,s7,s8,s9,_,rfl,hone,.inr (.inr ⟨hn,rfl,rfl⟩),hb⟩
theorem rM {d:Dk} {u pw xE su:ByteArray} {d0 d1 s7 s8 s9:Value} {S V:List Value} {t:ByteArray} {W W':World} (h:xYr d u pw xE su d0 d1 S s7 s8 s9 V t W) (hb:Below W.heap.size W W'):xYr d u pw xE su d0 d1 S s7 s8 s9 V t W':=by
 rcases h with ⟨h1,⟨R,h2,h3,h4,h5⟩,h6⟩|h|h
 ·exact .inl ⟨h1,⟨R,h2,h3,h4,h5.below hb⟩,h6⟩
 ·exact .inr (.inl h)
 ·exact .inr (.inr h)
structure Par (w:World) (o0 o1 o2:Obj) (W:World):Prop where
 p0:W.heap[w.heap.size]?=some o0
 p1:W.heap[w.heap.size+1]?=some o1
 p2:W.heap[w.heap.size+1+1]?=some o2
 bel:Below w.heap.size w W
theorem yDq (w:World) (o0 o1 o2:Obj):Par w o0 o1 o2 (((w.alloc o0).alloc o1).alloc o2):=by
 have a:=(Below.refl w.heap.size w).alloc ν o0;have b:=a.alloc a.size o1;have k1:((w.alloc o0).alloc o1).heap[w.heap.size+1]?=some o1:=yX w o0 o1
 have k2:(((w.alloc o0).alloc o1).alloc o2).heap[w.heap.size+1+1]?=some o2:=by
  have:=xL ((w.alloc o0).alloc o1) o2;simpa only[World.size_alloc] using this
 exact⟨xK (zG w o0 o1) o2,xK k1 o2,k2,b.alloc b.size o2⟩
theorem Par.below {w W W':World} {o0 o1 o2:Obj} (h:Par w o0 o1 o2 W) (hb:Below W.heap.size W W'):Par w o0 o1 o2 W':=
 ⟨xB h.p0 hb (xG h.p0),xB h.p1 hb (xG h.p1),xB h.p2 hb (xG h.p2),h.bel.trans (hb.mono h.bel.size)⟩
structure Lg8 (w:World) (o0 o1 o2 og ot o14 o15 o17:Obj) (g11 g12 g:Nat) (W:World):Prop where
 par:Par w o0 o1 o2 W
 k:W.heap[g11]?=some og
 t:W.heap[g12]?=some ot
 b14:W.heap[g]?=some o14
 b15:W.heap[g+1]?=some o15
 b17:W.heap[g+1+1]?=some o17
 lt:g11<g/\g12<g/\w.heap.size+1+1<g
section
variable {w W W':World} {o0 o1 o2 og ot o14 o15 o17:Obj} {g11 g12 g:Nat}
theorem Lg8.below (h:Lg8 w o0 o1 o2 og ot o14 o15 o17 g11 g12 g W) (hb:Below W.heap.size W W'):Lg8 w o0 o1 o2 og ot o14 o15 o17 g11 g12 g W':=
 ⟨h.par.below hb,xB h.k hb (xG h.k),xB h.t hb (xG h.t),xB h.b14 hb (xG h.b14),xB h.b15 hb (xG h.b15),xB h.b17 hb (xG h.b17),h.lt⟩
theorem Lg8.set15 {t:TypeId} {cs:Array Value} (h:Lg8 w o0 o1 o2 og ot o14 (.cells cs t (0,0)) o17 g11 g12 g W) (l:List Value) (hl:l.length=cs.size):Lg8 w o0 o1 o2 og ot o14 (.cells l.toArray t (0,0)) o17 g11 g12 g (xU (g+1) 0 l W):=by
 obtain⟨h1,h2,h3⟩:=h.lt;exact⟨⟨xM ω l 0 W h.par.p0,xM ω l 0 W h.par.p1,xM ω l 0 W h.par.p2,xZ ω l 0 W h.par.bel⟩,xM ω l 0 W h.k,xM ω l 0 W h.t,xM ω l 0 W h.b14,yU h.b15 hl,xM ω l 0 W h.b17,h.lt⟩
theorem Lg8.set17 {t:TypeId} {cs:Array Value} (h:Lg8 w o0 o1 o2 og ot o14 o15 (.cells cs t (0,0)) g11 g12 g W) (l:List Value) (hl:0+l.length<=cs.size):Lg8 w o0 o1 o2 og ot o14 o15 (.cells (cs.toList.take 0++l++cs.toList.drop (0+l.length)).toArray t (0,0)) g11 g12 g (xU (g+1+1) 0 l W):=by
 obtain⟨h1,h2,h3⟩:=h.lt;exact⟨⟨xM ω l 0 W h.par.p0,xM ω l 0 W h.par.p1,xM ω l 0 W h.par.p2,xZ ω l 0 W h.par.bel⟩,xM ω l 0 W h.k,xM ω l 0 W h.t,xM ω l 0 W h.b14,xM ω l 0 W h.b15,kR l 0 W cs h.b17 hl,h.lt⟩
end
theorem xV.short {α:Type} {e:TypeId} {k:Nat} {f:α->List Value} {W:World} {B:Nat} {v:Value} {l:List α} (h:xV e k f W B v l):l.length<=9223372036854775807:=by
 rcases h.2 with ⟨_,h⟩|⟨g,cap,cur,h1,h2,h3,h4,h5,h6,h7⟩
 ·omega
 ·unfold maxLen at h5;omega
theorem uT.short {W:World} {bv sv:Value} {x:yD} (h:uT 0 W bv sv x):(∀b∈x.boxes,b.yB.length<=9223372036854775807)/\x.boxes.length<=9223372036854775807/\x.subs.length<=9223372036854775807:=by
 obtain⟨bl,e,h1,h2⟩:=h.bo;refine⟨λb hb=>?_,?_,xV.short h.su⟩
 ·rw[e] at hb;obtain⟨p,hp,rfl⟩:=List.mem_map.1 hb;exact xV.short (h2 p hp)
 ·rw[e,List.length_map];exact xV.short h1
theorem xMy.dk {d:Dk} {u pw xE:ByteArray} {d0 d1:Value} {R:LgR} {W:World} (h:xMy d u pw xE d0 d1 R W) (h0:lgE d u pw xE=0) (hd:RdD W W.heap.size d0 d1 d):RdD W W.heap.size (.slice R.A11 R.n11 R.k11) (.slice R.A12 R.n12 R.k12) (lgD d u pw xE):=by
 obtain⟨_,_,h3,h4⟩:=h h0;cases hm:lgM d u pw xE with
 |true=>exact h4 hm
 |false=>
  obtain⟨e1,e2⟩:=h3 hm;rw[e1,e2,yE8 h0 hm];exact hd
theorem xSm (d0 d1:Value) (d:Dk) (su sp so bx f1 f2 f3 f4 f5 u pw:ByteArray) (se rd:Int) (bv sv:Value) (x:yD) (o1 o2:Bool) (w:World) (hs:RdS w w.heap.size d0 d.secs) (hcw:RdW w w.heap.size d1 d.cache)
  (hx:xHk w w.heap.size bv sv x) (hm:∀b∈x.boxes,b.yB.length<=9223372036854775807) (hl:x.boxes.length<=9223372036854775807) (hl2:x.subs.length<=9223372036854775807) (hu:u.size<=9223372036854775807) (hp:pw.size<=9223372036854775807) (hT:VaT w):
  Calls Tryz.prog 3 #[.agg #[d0,d1],.agg #[.string su,.string sp,.string so,.int .i64 se,bv,sv,.int .i64 x.given,.string bx,.bool o1,.bool o2],.string u,.string pw,.agg #[.string f1,.string f2,.string f3,.string f4,.string f5,.int .i64 rd]] w λe w'=>e=.returned (.bool true)/\Below w.heap.size w w':=by
 have HS0:=ι (And.intro hs hcw);have HT:=ι hT;obtain⟨A1,c1,rfl,_,_⟩:=hs;obtain⟨A2,c2,rfl,_,_⟩:=hcw;obtain⟨Ab,cb,rfl,_⟩:=hx.boxes;obtain⟨As,cs,rfl,_⟩:=hx.subs;obtain⟨nb,hnb⟩:∃n,x.boxes.length=n:=⟨_,rfl⟩;obtain⟨ns,hns⟩:∃n,x.subs.length=n:=⟨_,rfl⟩
 obtain⟨n1,hn1⟩:∃n,d.secs.length=n:=⟨_,rfl⟩;obtain⟨n2,hn2⟩:∃n,d.cache.length=n:=⟨_,rfl⟩;have hx':=hx;rw[hnb,hns] at hx';have HX:=ι (And.intro hx' (And.intro hm (And.intro hl hl2)));rw[hnb,hns];rw[hn1,hn2] at HS0⊢;have HN:=ι (And.intro hn1 hn2)
 clear hn1 hn2 hnb hns hx hx' hm hl hl2 hT;have HSM:=ι (λW (hb:Below w.heap.size w W)=>xVd A1 A2 n1 c1 n2 c2 su sp so bx f1 f2 f3 f4 f5 se rd (.slice Ab nb cb) (.slice As ns cs) x o1 o2 W ((HX.o.1.below hb ν).more hb.size) HX.o.2.1 HX.o.2.2.1 HX.o.2.2.2)
 have HP0:=ι (yDq w (xX (.slice A1 n1 c1) (.slice A2 n2 c2)) (uM (.string su) (.string sp) (.string so) (.int .i64 se) (.slice Ab nb cb) (.slice As ns cs) (.int .i64 x.given) (.string bx) (.bool o1) (.bool o2)) (xXw (.string f1) (.string f2) (.string f3) (.string f4) (.string f5) (.int .i64 rd)))
 go_enter Tryz.func3,Tryz.ntmps3;go_upto_region 1 with fail
 obtain⟨w1,hw1⟩:∃w1,((w.alloc (xX (.slice A1 n1 c1) (.slice A2 n2 c2))).alloc (uM (.string su) (.string sp) (.string so) (.int .i64 se) (.slice Ab nb cb) (.slice As ns cs) (.int .i64 x.given) (.string bx) (.bool o1) (.bool o2))).alloc (xXw (.string f1) (.string f2) (.string f3) (.string f4) (.string f5) (.int .i64 rd))=w1:=⟨_,rfl⟩
 rw[hw1] at HP0;simp only[xX,uM,xXw] at hw1;rw[hw1];clear hw1;have HPR:=HP0;clear HP0;have hp0:=HPR.o.p0;have hp1:=HPR.o.p1;have hp2:=HPR.o.p2;obtain⟨d0,d1⟩:=zQ hp0;obtain⟨s0,s1,s2,s3,s4,s5,s6,s7,s8,s9⟩:=xHh hp1;obtain⟨r0,r1,r2,r3,r4,r5⟩:=cbl6 hp2;clear hp0 hp1 hp2
 go_wp2_with fail
 refine(HSM.o _ HPR.o.bel).mono ?_;rintro e w2 ⟨⟨r,rfl,hr⟩,hb2⟩;have HP2:=ι (HPR.o.below hb2);have HR:=ι hr;clear d0 d1 s0 s1 s2 s3 s4 s5 s6 s7 s8 s9 r0 r1 r2 r3 r4 r5 hb2 hr HSM HPR;have HPR:=HP2;clear HP2;cases r with
 |false=>
  go_wp2_with fail
  refine(xB4 _).mono ?_;rintro e w9 ⟨rfl,hb9⟩;have HB:=ι (HPR.o.bel.trans (hb9.mono HPR.o.bel.size));clear hb9;go_wp2;go_ret;exact⟨rfl,HB.o⟩
 |true=>
  have HBD:=ι (HR.o rfl);have HD:Hid (RdD w w.heap.size (.slice A1 n1 c1) (.slice A2 n2 c2) d):=ι ⟨HS0.o.1,HS0.o.2,by rw[HN.o.1];have:=HBD.o.1;omega,by rw[HN.o.2];have:=HBD.o.2;omega⟩
  have HP3:=ι (HPR.o.below ((Below.refl w2.heap.size w2).alloc ν (.cells #[.string u,.string pw] 9)))
  have HRW:Hid (RdS (w2.alloc (.cells #[.string u,.string pw] 9)) (w2.alloc (.cells #[.string u,.string pw] 9)).heap.size (.slice (some ⟨w2.heap.size,0,none⟩) 2 2) [u.data.toList,pw.data.toList]):=ι ⟨_,2,rfl,σ,λ_=>⟨w2.heap.size,0,rfl,σ,λj y hy=>by
   rw[Nat.zero_add,xA (xL w2 _) j]
   match j,hy with
   |0,hy=>simp at hy;subst hy;rfl
   |1,hy=>simp at hy;subst hy;rfl
   |j+2,hy=>simp at hy⟩⟩
  have HWD:=ι (xUe _ [u.data.toList,pw.data.toList] _ HRW.o σ (by intro y hy;simp at hy;rcases hy with rfl|rfl<;>simp<;>assumption));clear HPR;go_wp2_with fail
  refine HWD.o.mono ?_;rintro e w3 ⟨⟨r,rfl,hr⟩,hw3⟩;have HR3:=ι hr
  have HPR:Hid (Par w (xX (.slice A1 n1 c1) (.slice A2 n2 c2)) (uM (.string su) (.string sp) (.string so) (.int .i64 se) (.slice Ab nb cb) (.slice As ns cs) (.int .i64 x.given) (.string bx) (.bool o1) (.bool o2)) (xXw (.string f1) (.string f2) (.string f3) (.string f4) (.string f5) (.int .i64 rd)) w3):=ι (by rw[hw3];exact HP3.o)
  clear HWD HRW HP3 hr;cases r with
  |false=>
   clear hw3;go_wp2_with fail
   refine(xB4 _).mono ?_;rintro e w9 ⟨rfl,hb9⟩;have HB:=ι (HPR.o.bel.trans (hb9.mono HPR.o.bel.size));clear hb9;go_wp2;go_ret;exact⟨rfl,HB.o⟩
  |true=>
   have HWU:=ι (HR3.o rfl u.data.toList σ);have HWP:=ι (HR3.o rfl pw.data.toList σ);have hu6:u.size<=60:=by have:=HWU.o.2.2;simpa using this
   have hp6:pw.size<=60:=by have:=HWP.o.2.2;simpa using this
   have g1:¬9223372036854775807<8+u.size:=by omega
   have g2:¬9223372036854775807<8+u.size+1:=by omega
   have g3:¬9223372036854775807<8+u.size+1+pw.size:=by omega
   have HDO:=ι (λW (hb:Below w.heap.size w W)=>yBi (.slice A1 n1 c1) (.slice A2 n2 c2) (.slice Ab nb cb) (.slice As ns cs) su sp so bx f1 f2 f3 f4 f5 se x.given rd o1 o2 d u pw W ((HD.o.below hb ν).more hb.size) HWU.o HWP.o (by rw[HN.o.2];have:=HBD.o.2;omega) (HT.o.below hb) rfl rfl)
   have HLG:=ι (λW (hb:Below w.heap.size w W)=>xLr (.slice A1 n1 c1) (.slice A2 n2 c2) d u pw f1 W ((HD.o.below hb ν).more hb.size) ω ω (by rw[HN.o.2];have:=HBD.o.2;omega) (HT.o.below hb));clear hw3 HR3 HR hu hp;have hp0:=HPR.o.p0;have hp1:=HPR.o.p1;have hp2:=HPR.o.p2
   obtain⟨d0,d1⟩:=zQ hp0;obtain⟨s0,s1,s2,s3,s4,s5,s6,s7,s8,s9⟩:=xHh hp1;obtain⟨r0,r1,r2,r3,r4,r5⟩:=cbl6 hp2;clear hp0 hp1 hp2;go_upto_region 3 with fail
   go_wp2_with fail
   refine(HDO.o _ HPR.o.bel).mono ?_;intro e w4 hpost;obtain⟨v0,v1,v2,v3,v4,v5,v6,v7,v8,v9,v10,v11,tb,rfl,hov,hcs,hb4⟩:=yF9 (by intro v hv;simp at hv;rcases hv with rfl|rfl|rfl|rfl|rfl|rfl|rfl|rfl|rfl|rfl|rfl|rfl<;>rfl) hpost;have HCS:=ι hcs;have HOV:=ι hov
   have hal:=((Below.refl w4.heap.size w4).alloc ν (xX v0 v1)).alloc σ (uM v2 v3 v4 v5 v6 v7 v8 v9 v10 v11)
   have H5:=ι (And.intro ((HPR.o.below hb4).below hal) (And.intro (zG w4 (xX v0 v1) (uM v2 v3 v4 v5 v6 v7 v8 v9 v10 v11)) (yX w4 (xX v0 v1) (uM v2 v3 v4 v5 v6 v7 v8 v9 v10 v11))));have HC5:=ι (rM (rM HCS.o hal) (Below.refl _ _))
   have T0:=λ(W:World) (a:Addr)=>run_store Tryz.prog W a v0 .plain (HOV.o v0 σ);have T1:=λ(W:World) (a:Addr)=>run_store Tryz.prog W a v1 .plain (HOV.o v1 σ);have T2:=λ(W:World) (a:Addr)=>run_store Tryz.prog W a v2 .plain (HOV.o v2 σ)
   have T3:=λ(W:World) (a:Addr)=>run_store Tryz.prog W a v3 .plain (HOV.o v3 σ);have T4:=λ(W:World) (a:Addr)=>run_store Tryz.prog W a v4 .plain (HOV.o v4 σ);have T5:=λ(W:World) (a:Addr)=>run_store Tryz.prog W a v5 .plain (HOV.o v5 σ)
   have T6:=λ(W:World) (a:Addr)=>run_store Tryz.prog W a v6 .plain (HOV.o v6 σ);have T7:=λ(W:World) (a:Addr)=>run_store Tryz.prog W a v7 .plain (HOV.o v7 σ);have T8:=λ(W:World) (a:Addr)=>run_store Tryz.prog W a v8 .plain (HOV.o v8 σ)
   have T9:=λ(W:World) (a:Addr)=>run_store Tryz.prog W a v9 .plain (HOV.o v9 σ);have T10:=λ(W:World) (a:Addr)=>run_store Tryz.prog W a v10 .plain (HOV.o v10 σ);have T11:=λ(W:World) (a:Addr)=>run_store Tryz.prog W a v11 .plain (HOV.o v11 σ)
   clear hcs hov hal hb4 HPR hpost HCS g1 g2 g3 d0 d1 s0 s1 s2 s3 s4 s5 s6 s7 s8 s9 r0 r1 r2 r3 r4 r5;go_upto_region 4 with fail
   obtain⟨w5,hw5⟩:∃w5,(w4.alloc (xX v0 v1)).alloc (uM v2 v3 v4 v5 v6 v7 v8 v9 v10 v11)=w5:=⟨_,rfl⟩;rw[hw5] at H5 HC5;simp only[xX,uM] at hw5;rw[hw5];clear hw5 T0 T1 T2 T3 T4 T5 T6 T7 T8 T9 T10 T11
   have HPR:Hid (Par w (xX (.slice A1 n1 c1) (.slice A2 n2 c2)) (uM (.string su) (.string sp) (.string so) (.int .i64 se) (.slice Ab nb cb) (.slice As ns cs) (.int .i64 x.given) (.string bx) (.bool o1) (.bool o2)) (xXw (.string f1) (.string f2) (.string f3) (.string f4) (.string f5) (.int .i64 rd)) w5):=ι H5.o.1
   have hp0:=HPR.o.p0;have hp1:=HPR.o.p1;have hp2:=HPR.o.p2;obtain⟨d0,d1⟩:=zQ hp0;obtain⟨s0,s1,s2,s3,s4,s5,s6,s7,s8,s9⟩:=xHh hp1;obtain⟨r0,r1,r2,r3,r4,r5⟩:=cbl6 hp2;clear hp0 hp1 hp2;go_wp2_with fail
   refine(HLG.o _ HPR.o.bel).mono ?_;rintro e w6 ⟨su',sp',so',se',bv',sv',va',vb',rfl,hx1,hx2,ho,hr,hb6⟩;obtain⟨A6,n6,k6,A7,n7,k7,rfl,rfl⟩:=ho.form;obtain⟨A11,k11,A12,k12,rfl,rfl⟩:=yE hr
   have hat:xMy d u pw f1 (.slice A1 n1 c1) (.slice A2 n2 c2) ⟨su',sp',so',se',(lgX d u pw f1).given,A6,n6,k6,A7,n7,k7,A11,(lgD d u pw f1).secs.length,k11,A12,(lgD d u pw f1).cache.length,k12⟩ w6:=λh0=>⟨⟨(hx1 h0).1,(hx1 h0).2.1,(hx1 h0).2.2.1,(hx1 h0).2.2.2,rfl⟩,ho,hx2 h0,λ_=>hr⟩
   generalize (lgX d u pw f1).given=gv' at hat⊢;generalize (lgD d u pw f1).secs.length=n11 at hat⊢;generalize (lgD d u pw f1).cache.length=n12 at hat⊢;have HAT:=ι hat
   have H6:=ι (And.intro (H5.o.1.below hb6) (And.intro (xB H5.o.2.1 hb6 (xG H5.o.2.1)) (xB H5.o.2.2 hb6 (xG H5.o.2.2))));have HC6:=ι (rM HC5.o hb6);clear hx1 hx2 ho hr hb6 hat H5 HC5 HPR d0 d1 s0 s1 s2 s3 s4 s5 s6 s7 s8 s9 r0 r1 r2 r3 r4 r5;go_upto_region 5 with fail
   have hal:=((Below.refl w6.heap.size w6).alloc ν (vO su' sp' so' se' (.slice A6 n6 k6) (.slice A7 n7 k7) gv')).alloc σ (xX (.slice A11 n11 k11) (.slice A12 n12 k12))
   have HPR:Hid (Par w (xX (.slice A1 n1 c1) (.slice A2 n2 c2)) (uM (.string su) (.string sp) (.string so) (.int .i64 se) (.slice Ab nb cb) (.slice As ns cs) (.int .i64 x.given) (.string bx) (.bool o1) (.bool o2)) (xXw (.string f1) (.string f2) (.string f3) (.string f4) (.string f5) (.int .i64 rd)) ((w6.alloc (vO su' sp' so' se' (.slice A6 n6 k6) (.slice A7 n7 k7) gv')).alloc (xX (.slice A11 n11 k11) (.slice A12 n12 k12)))):=ι (H6.o.1.below hal)
   have H7:=ι (And.intro (xB H6.o.2.1 hal (xG H6.o.2.1)) (And.intro (xB H6.o.2.2 hal (xG H6.o.2.2)) (And.intro (zG w6 (vO su' sp' so' se' (.slice A6 n6 k6) (.slice A7 n7 k7) gv') (xX (.slice A11 n11 k11) (.slice A12 n12 k12))) (And.intro (yX w6 (vO su' sp' so' se' (.slice A6 n6 k6) (.slice A7 n7 k7) gv') (xX (.slice A11 n11 k11) (.slice A12 n12 k12))) (And.intro (xG H6.o.2.1) (And.intro (xG H6.o.2.2) (xG H6.o.1.p2)))))))
   have HC7:=ι (rM HC6.o hal);have HAT7:=ι (HAT.o.below hal);obtain⟨w7,hw7⟩:∃w7,(w6.alloc (vO su' sp' so' se' (.slice A6 n6 k6) (.slice A7 n7 k7) gv')).alloc (xX (.slice A11 n11 k11) (.slice A12 n12 k12))=w7:=⟨_,rfl⟩
   have HSZ:Hid (w7.heap.size=w6.heap.size+1+1):=ι (by rw[<-hw7];simp);rw[hw7] at HPR H7 HC7 HAT7;simp only[xX,vO] at hw7;rw[hw7];clear hw7 hal H6 HC6 HAT;have hp0:=HPR.o.p0;have hp1:=HPR.o.p1;have hp2:=HPR.o.p2;obtain⟨d0,d1⟩:=zQ hp0
   obtain⟨s0,s1,s2,s3,s4,s5,s6,s7,s8,s9⟩:=xHh hp1;obtain⟨r0,r1,r2,r3,r4,r5⟩:=cbl6 hp2;clear hp0 hp1 hp2;go_upto_region 8 with fail
   have hal:=(Below.refl w7.heap.size w7).alloc ν (uM (.string su) (.string sp) (.string so) (.int .i64 se) (.slice Ab nb cb) (.slice As ns cs) (.int .i64 x.given) (.string bx) (.bool o1) (.bool o2))
   have H8:Hid (Lg8 w (xX (.slice A1 n1 c1) (.slice A2 n2 c2)) (uM (.string su) (.string sp) (.string so) (.int .i64 se) (.slice Ab nb cb) (.slice As ns cs) (.int .i64 x.given) (.string bx) (.bool o1) (.bool o2)) (xXw (.string f1) (.string f2) (.string f3) (.string f4) (.string f5) (.int .i64 rd)) (xX v0 v1) (uM v2 v3 v4 v5 v6 v7 v8 v9 v10 v11) (vO su' sp' so' se' (.slice A6 n6 k6) (.slice A7 n7 k7) gv') (xX (.slice A11 n11 k11) (.slice A12 n12 k12)) (uM (.string su) (.string sp) (.string so) (.int .i64 se) (.slice Ab nb cb) (.slice As ns cs) (.int .i64 x.given) (.string bx) (.bool o1) (.bool o2)) w4.heap.size (w4.heap.size+1) w6.heap.size (w7.alloc (uM (.string su) (.string sp) (.string so) (.int .i64 se) (.slice Ab nb cb) (.slice As ns cs) (.int .i64 x.given) (.string bx) (.bool o1) (.bool o2)))):=ι ⟨HPR.o.below hal,xB H7.o.1 hal (xG H7.o.1),xB H7.o.2.1 hal (xG H7.o.2.1),xB H7.o.2.2.1 hal (xG H7.o.2.2.1),xB H7.o.2.2.2.1 hal (xG H7.o.2.2.2.1),by rw[<-HSZ.o];exact xL _ _,H7.o.2.2.2.2⟩
   have HC8:=ι (rM HC7.o hal);have HAT8:=ι (HAT7.o.below hal);rw[HSZ.o];obtain⟨w8,hw8⟩:∃w8,w7.alloc (uM (.string su) (.string sp) (.string so) (.int .i64 se) (.slice Ab nb cb) (.slice As ns cs) (.int .i64 x.given) (.string bx) (.bool o1) (.bool o2))=w8:=⟨_,rfl⟩
   rw[hw8] at H8 HC8 HAT8;simp only[uM] at hw8;rw[hw8];clear hw8 hal HPR H7 HC7 HAT7 HSZ d0 d1 s0 s1 s2 s3 s4 s5 s6 s7 s8 s9 r0 r1 r2 r3 r4 r5;generalize w6.heap.size=g at H8⊢;generalize w4.heap.size+1=g12 at H8⊢;generalize w4.heap.size=g11 at H8⊢;have hp1:=H8.o.par.p1
   have s0:=xQn hp1;clear hp1;obtain⟨er,her⟩:∃er,lgE d u pw f1=er:=⟨_,rfl⟩;rw[her];have HER:=ι her;clear her;rcases HC8.o with ⟨hsu,hk,rfl⟩|⟨hsu,hne,hV,rfl⟩|⟨hsu,hV,rfl⟩
   ·subst hsu;obtain⟨⟨ru,rp,ro,re,rg,B6,m6,l6,B7,m7,l7,B11,m11,l11,B12,m12,l12⟩,hV,_,he0,hat⟩:=hk;simp only[List.cons.injEq] at hV;obtain⟨rfl,rfl,rfl,rfl,rfl,rfl,rfl,rfl,rfl,rfl,rfl,rfl,_⟩:=hV;have HE0:=ι he0;have HATR:=ι hat;have he:er=0:=HER.o.symm.trans he0;subst he
    clear he0 hat HC8;go_upto_region 7 with fail
    clear s0;have hb:=H8.o.b14;obtain⟨p0,p1,p2,p3,p4,p5,p6⟩:=qO hb;clear hb;have hb:=H8.o.b17;have a0:=xA hb 0;have y0:=xC hb 0;have a1:=xA hb 1;have y1:=xC hb 1;have a2:=xA hb 2;have y2:=xC hb 2;have a3:=xA hb 3;have y3:=xC hb 3;have a4:=xA hb 4;have y4:=xC hb 4
    have a5:=xA hb 5;have y5:=xC hb 5;have a6:=xA hb 6;have y6:=xC hb 6;have hz:=H8.o.b17
    have h12:Lg8 w _ _ _ _ _ _ _ (uM (.string su') (.string sp') (.string so') (.int .i64 se') (.slice A6 n6 k6) (.slice A7 n7 k7) (.int .i64 gv') (.string bx) (.bool o1) (.bool o2)) g11 g12 g _:=H8.o.set17 [.string su',.string sp',.string so',.int .i64 se',.slice A6 n6 k6,.slice A7 n7 k7,.int .i64 gv'] σ
    have yFh:=ι (And.intro (HATR.o.put hz σ δ δ δ [.string su',.string sp',.string so',.int .i64 se',.slice A6 n6 k6,.slice A7 n7 k7,.int .i64 gv'] 0) (HAT8.o.put hz σ δ δ δ [.string su',.string sp',.string so',.int .i64 se',.slice A6 n6 k6,.slice A7 n7 k7,.int .i64 gv'] 0))
    simp only[xU,Nat.reduceAdd] at h12 yFh;have H12:=ι h12;clear hb hz h12 H8 HATR HAT8;go_upto_region 12 with fail
    clear p0 a0 y0 p1 a1 y1 p2 a2 y2 p3 a3 y3 p4 a4 y4 p5 a5 y5 p6 a6 y6
    obtain⟨w12,xX0⟩:∃w12,(((((((w8.setCell ⟨g+1+1,0,none⟩ (.string su')).setCell ⟨g+1+1,1,none⟩ (.string sp')).setCell ⟨g+1+1,2,none⟩ (.string so')).setCell ⟨g+1+1,3,none⟩ (.int .i64 se')).setCell ⟨g+1+1,4,none⟩ (.slice A6 n6 k6)).setCell ⟨g+1+1,5,none⟩ (.slice A7 n7 k7)).setCell ⟨g+1+1,6,none⟩ (.int .i64 gv'))=w12:=⟨_,rfl⟩
    rw[xX0] at H12 yFh⊢;clear xX0;obtain⟨⟨e1,e2,e3,e4,e5⟩,ho1,_,_⟩:=yFh.o.1 HE0.o;obtain⟨⟨i1,i2,i3,i4,i5⟩,ho2,_,_⟩:=yFh.o.2 HE0.o;simp only at e1 e2 e3 e4 e5 i1 i2 i3 i4 i5;have HOO:=ι (And.intro ho1 ho2)
    have xYu:Hid (∀W,Below w.heap.size w W->Below w12.heap.size w12 W->Calls Tryz.prog 9 #[.agg #[.slice B11 m11 l11,.slice B12 m12 l12],.agg #[.slice A11 n11 k11,.slice A12 n12 k12]] W λe w'=>e=.returned (.bool true)/\Below W.heap.size W w'):=ι (λW hb hb2=>xDp _ _ _ _ (lgD d u pw f1) W ((yFh.o.1.below hb2).dk HE0.o ((HD.o.below hb ν).more hb.size)) ((yFh.o.2.below hb2).dk HE0.o ((HD.o.below hb ν).more hb.size)))
    have HEQ:Hid (∀W,Below w.heap.size w W->Below w12.heap.size w12 W->Calls Tryz.prog 10 #[.agg #[.string ru,.string rp,.string ro,.int .i64 re,.slice B6 m6 l6,.slice B7 m7 l7,.int .i64 rg,.string bx,.bool o1,.bool o2],.agg #[.string su',.string sp',.string so',.int .i64 se',.slice A6 n6 k6,.slice A7 n7 k7,.int .i64 gv',.string bx,.bool o1,.bool o2]] W λe w'=>e=.returned (.bool true)/\Below W.heap.size W w'):=ι (λW hb hb2=>by
     rw[e1,e2,e3,e4,e5,i1,i2,i3,i4,i5]
     exact xGd u (jI d u pw) (xEw d u pw) bx (wH d u).xAb (.slice B6 m6 l6) (.slice B7 m7 l7) (.slice A6 n6 k6) (.slice A7 n7 k7) (lgX d u pw f1) o1 o2 W (HOO.o.1.below hb2).rd (HOO.o.2.below hb2).rd (uT.short HOO.o.1).1 (uT.short HOO.o.1).2.1 (uT.short HOO.o.1).2.2)
    clear e1 e2 e3 e4 e5 i1 i2 i3 i4 i5 ho1 ho2 yFh HOO;have hk:=H12.o.k;have hb:=H12.o.b15;obtain⟨p0,p1⟩:=zQ hk;obtain⟨q0,q1⟩:=zQ hb;clear hk hb;go_wp2_with fail
    refine(xYu.o _ H12.o.par.bel (Below.refl _ _)).mono ?_;rintro e w13 ⟨rfl,xX7⟩;have H13:=ι (And.intro (H12.o.below xX7) xX7);clear xX7 p0 p1 q0 q1 H12;have hk:=H13.o.1.t;have hb:=H13.o.1.b17;obtain⟨p0,p1,p2,p3,p4,p5,p6,p7,p8,p9⟩:=xHh hk
    obtain⟨q0,q1,q2,q3,q4,q5,q6,q7,q8,q9⟩:=xHh hb;clear hk hb;go_wp2_with fail
    refine(HEQ.o _ H13.o.1.par.bel H13.o.2).mono ?_;rintro e w14 ⟨rfl,yCg⟩;have H14:=ι (H13.o.1.par.bel.trans (yCg.mono H13.o.1.par.bel.size));clear yCg p0 q0 p1 q1 p2 q2 p3 q3 p4 q4 p5 q5 p6 q6 p7 q7 p8 q8 p9 q9 H13;go_wp2_with fail
    refine(xB4 _).mono ?_;rintro e w15 ⟨rfl,xU0⟩;have HB:=ι (H14.o.trans (xU0.mono H14.o.size));clear xU0 H14;go_wp2;go_ret;exact⟨rfl,HB.o⟩
   ·have hsu2:(su.toList==[])=true:=by rw[hsu,ByteArray.toList_eq];rfl
    clear hsu;simp only[List.cons.injEq] at hV;obtain⟨rfl,rfl,rfl,rfl,rfl,rfl,rfl,rfl,rfl,rfl,rfl,rfl,_⟩:=hV;have he:er≠0:=λe=>hne (HER.o.trans e);have he2:(er==0)=false:=by simpa using he
    clear hne HC8 HAT8;go_upto_region 11 with fail
    clear s0;have hp0:=H8.o.par.p0;have hb:=H8.o.b15;obtain⟨d0,d1⟩:=zQ hp0;have a0:=xA hb 0;have a1:=xA hb 1;have y0:=xC hb 0;have y1:=xC hb 1;have h12:=H8.o.set15 [.slice A1 n1 c1,.slice A2 n2 c2] rfl;simp only[xU,Nat.reduceAdd] at h12;have H12:=ι h12;clear hp0 hb h12 H8
    go_upto_region 12 with fail
    clear d0 d1 a0 a1 y0 y1;obtain⟨w12,xX0⟩:∃w12,(w8.setCell ⟨g+1,0,none⟩ (.slice A1 n1 c1)).setCell ⟨g+1,1,none⟩ (.slice A2 n2 c2)=w12:=⟨_,rfl⟩;rw[xX0] at H12⊢;clear xX0
    have xYu:Hid (∀W,Below w.heap.size w W->Below w12.heap.size w12 W->Calls Tryz.prog 9 #[.agg #[.slice A1 n1 c1,.slice A2 n2 c2],.agg #[.slice A1 n1 c1,.slice A2 n2 c2]] W λe w'=>e=.returned (.bool true)/\Below W.heap.size W w'):=ι (λW hb _=>xDp (.slice A1 n1 c1) (.slice A2 n2 c2) (.slice A1 n1 c1) (.slice A2 n2 c2) d W ((HD.o.below hb ν).more hb.size) ((HD.o.below hb ν).more hb.size))
    have HEQ:Hid (∀W,Below w.heap.size w W->Below w12.heap.size w12 W->Calls Tryz.prog 10 #[.agg #[.string su,.string sp,.string so,.int .i64 se,.slice Ab nb cb,.slice As ns cs,.int .i64 x.given,.string bx,.bool o1,.bool o2],.agg #[.string su,.string sp,.string so,.int .i64 se,.slice Ab nb cb,.slice As ns cs,.int .i64 x.given,.string bx,.bool o1,.bool o2]] W λe w'=>e=.returned (.bool true)/\Below W.heap.size W w'):=ι (λW hb _=>xGd su sp so bx se (.slice Ab nb cb) (.slice As ns cs) (.slice Ab nb cb) (.slice As ns cs) x o1 o2 W ((HX.o.1.below hb ν).more hb.size) ((HX.o.1.below hb ν).more hb.size) HX.o.2.1 HX.o.2.2.1 HX.o.2.2.2)
    have hk:=H12.o.k;have hb:=H12.o.b15;obtain⟨p0,p1⟩:=zQ hk;obtain⟨q0,q1⟩:=zQ hb;clear hk hb;go_wp2_with fail
    refine(xYu.o _ H12.o.par.bel (Below.refl _ _)).mono ?_;rintro e w13 ⟨rfl,xX7⟩;have H13:=ι (And.intro (H12.o.below xX7) xX7);clear xX7 p0 p1 q0 q1 H12;have hk:=H13.o.1.t;have hb:=H13.o.1.b17;obtain⟨p0,p1,p2,p3,p4,p5,p6,p7,p8,p9⟩:=xHh hk
    obtain⟨q0,q1,q2,q3,q4,q5,q6,q7,q8,q9⟩:=xHh hb;clear hk hb;go_wp2_with fail
    refine(HEQ.o _ H13.o.1.par.bel H13.o.2).mono ?_;rintro e w14 ⟨rfl,yCg⟩;have H14:=ι (H13.o.1.par.bel.trans (yCg.mono H13.o.1.par.bel.size));clear yCg p0 q0 p1 q1 p2 q2 p3 q3 p4 q4 p5 q5 p6 q6 p7 q7 p8 q8 p9 q9 H13;go_wp2_with fail
    refine(xB4 _).mono ?_;rintro e w15 ⟨rfl,xU0⟩;have HB:=ι (H14.o.trans (xU0.mono H14.o.size));clear xU0 H14;go_wp2;go_ret;exact⟨rfl,HB.o⟩
   ·have hsu2:(su.toList==[])=false:=by
     rw[ByteArray.toList_eq];exact beq_eq_false_iff_ne.2 (λh=>hsu (ByteArray.ext (by simpa using h)))
    simp only[List.cons.injEq] at hV;obtain⟨rfl,rfl,rfl,rfl,rfl,rfl,rfl,rfl,rfl,rfl,rfl,rfl,_⟩:=hV;clear hsu HC8 HAT8;go_upto_region 9 with fail
    clear s0;have hp0:=H8.o.par.p0;have hb:=H8.o.b15;obtain⟨d0,d1⟩:=zQ hp0;have a0:=xA hb 0;have a1:=xA hb 1;have y0:=xC hb 0;have y1:=xC hb 1;have h12:=H8.o.set15 [.slice A1 n1 c1,.slice A2 n2 c2] rfl;simp only[xU,Nat.reduceAdd] at h12;have H12:=ι h12;clear hp0 hb h12 H8
    go_upto_region 12 with fail
    clear d0 d1 a0 a1 y0 y1;obtain⟨w12,xX0⟩:∃w12,(w8.setCell ⟨g+1,0,none⟩ (.slice A1 n1 c1)).setCell ⟨g+1,1,none⟩ (.slice A2 n2 c2)=w12:=⟨_,rfl⟩;rw[xX0] at H12⊢;clear xX0
    have xYu:Hid (∀W,Below w.heap.size w W->Below w12.heap.size w12 W->Calls Tryz.prog 9 #[.agg #[.slice A1 n1 c1,.slice A2 n2 c2],.agg #[.slice A1 n1 c1,.slice A2 n2 c2]] W λe w'=>e=.returned (.bool true)/\Below W.heap.size W w'):=ι (λW hb _=>xDp (.slice A1 n1 c1) (.slice A2 n2 c2) (.slice A1 n1 c1) (.slice A2 n2 c2) d W ((HD.o.below hb ν).more hb.size) ((HD.o.below hb ν).more hb.size))
    have HEQ:Hid (∀W,Below w.heap.size w W->Below w12.heap.size w12 W->Calls Tryz.prog 10 #[.agg #[.string su,.string sp,.string so,.int .i64 se,.slice Ab nb cb,.slice As ns cs,.int .i64 x.given,.string bx,.bool o1,.bool o2],.agg #[.string su,.string sp,.string so,.int .i64 se,.slice Ab nb cb,.slice As ns cs,.int .i64 x.given,.string bx,.bool o1,.bool o2]] W λe w'=>e=.returned (.bool true)/\Below W.heap.size W w'):=ι (λW hb _=>xGd su sp so bx se (.slice Ab nb cb) (.slice As ns cs) (.slice Ab nb cb) (.slice As ns cs) x o1 o2 W ((HX.o.1.below hb ν).more hb.size) ((HX.o.1.below hb ν).more hb.size) HX.o.2.1 HX.o.2.2.1 HX.o.2.2.2)
    have hk:=H12.o.k;have hb:=H12.o.b15;obtain⟨p0,p1⟩:=zQ hk;obtain⟨q0,q1⟩:=zQ hb;clear hk hb;go_wp2_with fail
    refine(xYu.o _ H12.o.par.bel (Below.refl _ _)).mono ?_;rintro e w13 ⟨rfl,xX7⟩;have H13:=ι (And.intro (H12.o.below xX7) xX7);clear xX7 p0 p1 q0 q1 H12;have hk:=H13.o.1.t;have hb:=H13.o.1.b17;obtain⟨p0,p1,p2,p3,p4,p5,p6,p7,p8,p9⟩:=xHh hk
    obtain⟨q0,q1,q2,q3,q4,q5,q6,q7,q8,q9⟩:=xHh hb;clear hk hb;go_wp2_with fail
    refine(HEQ.o _ H13.o.1.par.bel H13.o.2).mono ?_;rintro e w14 ⟨rfl,yCg⟩;have H14:=ι (H13.o.1.par.bel.trans (yCg.mono H13.o.1.par.bel.size));clear yCg p0 q0 p1 q1 p2 q2 p3 q3 p4 q4 p5 q5 p6 q6 p7 q7 p8 q8 p9 q9 H13;go_wp2_with fail
    refine(xB4 _).mono ?_;rintro e w15 ⟨rfl,xU0⟩;have HB:=ι (H14.o.trans (xU0.mono H14.o.size));clear xU0 H14;go_wp2;go_ret;exact⟨rfl,HB.o⟩
end Go.Proofs.IM