/- Contracts of functions. Conditions: as stated. -/
import Derived.Test.YtnafbinmecekeaaGreatDoorImapSearchesProofB09
import Derived.Great.BuildSlice
open Go.Proofs.Tryz
set_option maxHeartbeats 8000000
set_option maxRecDepth 100000
namespace Go.Proofs.FE
open Go.RowKit Mailsack MM BB SH
def Bag (w:World) (B:List (Nat×TypeId×List Int)) (W:World):Prop:=ψ w W/\∀g t ws,(g,t,ws)∈B->w.heap.size<=g/\uB t W g ws
section
variable {w W W':World} {B:List (Nat×TypeId×List Int)}
theorem Bag.get (h:Bag w B W) {g:Nat} {t:TypeId} {ws:List Int} (hm:(g,t,ws)∈B):uB t W g ws:=(h.2 g t ws hm).2
theorem Bag.lt (h:Bag w B W) {g:Nat} {t:TypeId} {ws:List Int} (hm:(g,t,ws)∈B):g<W.heap.size:=xJ (h.get hm).blk
theorem Bag.below (h:Bag w B W) (hb:ψ W W'):Bag w B W':=⟨h.1.trans (hb.mono h.1.size),λg t ws hm=>⟨(h.2 g t ws hm).1,(h.2 g t ws hm).2.below hb⟩⟩
theorem Bag.drew (h:Bag w B W):Bag w B W.drew:=⟨h.1.drew,h.2⟩
theorem Bag.alloc (h:Bag w B W) (o:Obj):Bag w B (W.alloc o):=h.below ((Below.refl _ W).alloc ν o)
theorem Bag.cons (h:Bag w B W) {g:Nat} {t:TypeId} {ws:List Int} (hg:w.heap.size<=g) (hb:uB t W g ws):Bag w ((g,t,ws)::B) W:=
 ⟨h.1,λg' t' ws' hm=>by
  rcases List.mem_cons.1 hm with e|e
  ·injection e with e1 e2;injection e2 with e2 e3;subst e1 e2 e3;exact⟨hg,hb⟩
  ·exact h.2 g' t' ws' e⟩
theorem Bag.new (h:Bag w B W) (t:TypeId) (ws:List Int):Bag w ((W.heap.size,t,ws)::B) (W.alloc (.cells (xE ws) t)):=(h.alloc _).cons h.1.size (xI _ _)
theorem Bag.far (h:Bag w B W) {g:Nat} (hg:w.heap.size<=g) (hf:∀g' t ws,(g',t,ws)∈B->g'≠g) (cs:Array Value):Bag w B (W.setRow g cs):=
 ⟨below_setRow h.1 hg _,λg' t ws hm=>⟨(h.2 g' t ws hm).1,(setRow_other _ _ _ _ (hf g' t ws hm)).trans (h.get hm)⟩⟩
end
def J1 (w:World) (B:List (Nat×TypeId×List Int)) (n s:Nat) (t:TypeId) (zs v:List Int) (L:Nat->Bool) (α:RG.Pl) (W:World):Prop:=
 Bag w B W/\(L n=true->(∀g t ws,(g,t,ws)∈B->g≠α n)/\w.heap.size<=α n/\uB t W (α n) (if L s=true then v else zs))
section
variable {w W W':World} {B:List (Nat×TypeId×List Int)} {n s:Nat} {t:TypeId} {zs v:List Int} {L:Nat->Bool} {α:RG.Pl}
theorem J1.congr {L':Nat->Bool} {α':RG.Pl} (hn:L n=L' n) (hs:L s=L' s) (ha:L n=true->α n=α' n) (h:J1 w B n s t zs v L α W):J1 w B n s t zs v L' α' W:=
 ⟨h.1,λh1=>by rw[<-hn] at h1;rw[<-hs,<-ha h1];exact h.2 h1⟩
theorem J1.start (h:Bag w B W):J1 w B n s t zs v (λ_=>false) α W.drew:=⟨h.drew,λh=>by cases h⟩
theorem J1.below (h:J1 w B n s t zs v L α W) (hb:ψ W W'):J1 w B n s t zs v L α W':=⟨h.1.below hb,λh1=>⟨(h.2 h1).1,(h.2 h1).2.1,(h.2 h1).2.2.below hb⟩⟩
theorem J1.new (h:J1 w B n s t zs v L α W) (hs:L s=false) (hns:s≠n):J1 w B n s t zs v (λj=>j==n||L j) (RG.xLs α n W.heap.size) (W.alloc (.cells (xE zs) t)):=by
 refine⟨h.1.alloc _,λ_=>?_⟩;rw[RG.xBq];refine⟨λg t ws hm e=>?_,h.1.1.size,?_⟩
 ·have:=h.1.lt hm;omega
 ·rw[if_neg (by simp[hs,hns])];exact xI _ _
theorem J1.fill (h:J1 w B n s t zs v L α W) (hn:L n=true):J1 w B n s t zs v (λj=>j==s||L j) α (W.setRow (α n) (xE v)):=by
 obtain⟨h1,h2,h3⟩:=h.2 hn;refine⟨h.1.far h2 h1 _,λ_=>⟨h1,h2,?_⟩⟩;rw[if_pos σ];exact setRow_heap _ _ _ _ _ _ h3
theorem J1.done (h:J1 w B n s t zs v (λ_=>true) α W):Bag w ((α n,t,v)::B) W:=by
 obtain⟨h1,h2,h3⟩:=h.2 rfl;rw[if_pos rfl] at h3;exact h.1.cons h2 h3
end
section
variable {md:Region.Mode} {ops:Array Oper} {E N:List Nat} {J:(Nat->Bool)->RG.Pl->World->Prop} {K:RG.Pl->Act->Prop} {a A:RG.Pl->Act} {v:Value} {i:Nat} {o:Oper} {os:List Oper}
theorem aL (h2:RG.zQ prog ops md E N J K os (i+1) A) (hi:N.contains i=false:=by rfl) (he:E.contains i=false:=by rfl) (h:∀α L w,L i=false->RG.closed ops md L->RG.closed ops md (λj=>j==i||L j)->J L α w->wpList prog ops (RG.Only (J L α) (A α)) [o] (a α) w:=by
 intro α L w9 h0 hcl xP hw9
 first
 |refine wpList_load_row rfl _ _ rfl _ rfl _ _ (0,0) _ (FE.Bag.get (FE.J1.bag hw9.o) (by repeat (first|exact List.Mem.head _|apply List.Mem.tail))) underlying214 rfl (Go.RowKit.Hid.o (by with_reducible assumption)) ?_
 |refine wpList_load_row rfl _ _ rfl _ rfl _ _ (0,0) _ (FE.Bag.get (FE.J1.bag hw9.o.1) (by repeat (first|exact List.Mem.head _|apply List.Mem.tail))) underlying214 rfl (Go.RowKit.Hid.o (by with_reducible assumption)) ?_
 repeat go_step
 exact RG.xB hw9) (hd:∀α,A α=(a α).put o.dst v:=by intro α;rfl):RG.zQ prog ops md E N J K (o::os) i a:=RG.kX hi he h hd h2
theorem aC (h2:RG.zQ prog ops md E N J K os (i+1) A) (hi:N.contains i=false:=by rfl) (he:E.contains i=false:=by rfl) (h:∀α L w,L i=false->RG.closed ops md L->RG.closed ops md (λj=>j==i||L j)->J L α w->wpList prog ops (RG.Only (J L α) (A α)) [o] (a α) w:=by
 intro α L w9 h0 hcl xP hw9;repeat go_step
 refine RG.callH (by with_reducible assumption) ?_;rintro e w10 ⟨rfl,yP⟩;simp only[];repeat go_step
 refine RG.xB ?_;exact ι (hw9.o.below yP)) (hd:∀α,A α=(a α).put o.dst v:=by intro α;rfl):RG.zQ prog ops md E N J K (o::os) i a:=RG.kX hi he h hd h2
theorem aN {A:Nat->RG.Pl->Act} (c s:Nat) (h2:RG.zQ prog ops md E N J K os (i+1) (λα=>A (α i) α)) (hi:N.contains i=true:=by rfl) (hk:(RG.qY ops md c s).contains i=true:=by kernel_rfl) (h:∀α L w b,b=w.heap.size->L i=false->L s=false->J L α w->wpList prog ops (RG.Only (J (λj=>j==i||L j) (RG.xLs α i b)) (A b α)) [o] (a α) w:=by
 intro α L w9 b hb h0 e5 hw9;repeat go_step
 rw[<-hb];refine RG.xB ?_;rw[hb]
 first
 |exact ι (hw9.o.new e5 δ)
 |exact ι (hw9.o.newA e5 δ δ δ)
 |exact ι (hw9.o.newB e5 δ δ δ)) (hd:∀b α,A b α=(a α).put o.dst (RG.ptr b):=by intro b α;rfl):RG.zQ prog ops md E N J K (o::os) i a:=
 RG.yA2 hi (λα L w b hb h0 hc hj=>h α L w b hb h0 (hc.not c h0 hk) hj) hd h2
theorem aT (c n:Nat) (h2:RG.zQ prog ops md E N J K os (i+1) A) (hi:N.contains i=false:=by rfl) (he:E.contains i=true:=by rfl) (hk:(RG.qY ops md c i).contains n=true:=by kernel_rfl) (hne:n≠i:=by decide) (h:∀α L w,L i=false->L n=true->J L α w->wpList prog ops (RG.Only (J (λj=>j==i||L j) α) (A α)) [o] (a α) w:=by
 intro α L w9 h0 e4 hw9
 first
 |(obtain⟨h1,h2,h3⟩:=hw9.o.2 e4
   rw[if_neg (by simp[h0])] at h3;refine wpList_store_row rfl _ _ _ rfl _ _ rfl rfl _ _ h3 (Go.RowKit.Hid.o (by with_reducible assumption)) (Go.RowKit.Hid.o (by with_reducible assumption)) (xR _) ?_;repeat go_step
   refine RG.xB ?_;exact ι (hw9.o.fill e4))
 |(obtain⟨h1,h2,h3⟩:=hw9.o.1.2 e4
   rw[if_neg (by simp[h0])] at h3;refine wpList_store_row rfl _ _ _ rfl _ _ rfl rfl _ _ h3 (Go.RowKit.Hid.o (by with_reducible assumption)) (Go.RowKit.Hid.o (by with_reducible assumption)) (xR _) ?_;repeat go_step
   refine RG.xB ?_;exact ι (hw9.o.fillA e4 δ δ))
 |(obtain⟨h1,h2,h3⟩:=hw9.o.2.1.2 e4
   rw[if_neg (by simp[h0])] at h3;refine wpList_store_row rfl _ _ _ rfl _ _ rfl rfl _ _ h3 (Go.RowKit.Hid.o (by with_reducible assumption)) (Go.RowKit.Hid.o (by with_reducible assumption)) (xR _) ?_;repeat go_step
   refine RG.xB ?_;exact ι (hw9.o.fillB e4 δ δ))) (hd:∀α,A α=(a α).put o.dst undef:=by intro α;rfl):RG.zQ prog ops md E N J K (o::os) i a:=
 RG.xWi hi he (λα L w h0 hc hc2 hj=>h α L w h0 (by have:=hc2.yes c (i:=i) σ (j:=n) hk;simpa[hne] using this) hj) hd h2
theorem J1.bag {w W:World} {B:List (Nat×TypeId×List Int)} {n s:Nat} {t:TypeId} {zs v:List Int} {L:Nat->Bool} {α:RG.Pl} (h:J1 w B n s t zs v L α W):Bag w B W:=h.1
theorem xQn {id:Nat} {l:List Oper} {a:Act} {W0 w:World} {Q:Exit->Act->World->Prop} {B:List (Nat×TypeId×List Int)} (n s:Nat) (t:TypeId) (zs v:List Int) (H0:Hid (Bag w B W0))
  (h:RG.zQ prog l.toArray .any [s] [n] (λL α W=>Hid (J1 w B n s t zs v L α W)) (λα a=>∀w9,Hid (J1 w B n s t zs v (λ_=>true) α w9)->Q .normal a w9) l 0 (λ_=>a)) (hm:prog.follows .mixedOrders=true:=by kernel_rfl) (hf:RG.fits .any l.toArray=true:=by kernel_rfl) (hE:(([s]++[n]).all λe=>decide (e<l.length))=true:=by kernel_rfl):
  (Code.region id l.toArray true).wp prog Q a W0:=
 RG.xAj [s] [n] (λL α W=>Hid (J1 w B n s t zs v L α W)) (λL L' α α' W hl ha h=>ι (J1.congr (hl n σ) (hl s σ) (ha n σ) h.o)) hm hf hE (ι (J1.start H0.o)) h
end
end Go.Proofs.FE
namespace Mailsack
def xVe (l:Bs):Bs:=((l.set 0 (oct (Go.bits .and .u8 ((l.getD 0 0).toNat:Int) 248))).set 31 (oct (Go.bits .and .u8 ((l.getD 31 0).toNat:Int) 127))).set 31 (oct (Go.bits .or .u8 (Go.bits .and .u8 ((l.getD 31 0).toNat:Int) 127) 64))
def xCd (s:ByteArray):ByteArray:=bsA (xVe s.data.toList)
theorem xQs (l:Bs):(xVe l).length=l.length:=by simp[xVe]
theorem xMr (s:ByteArray):(xCd s).size=s.size:=by rw[xCd,uS,xQs];rfl
def xIj:ByteArray:=bsA ((xO 32).set 0 9)
theorem xQy:xIj.size=32:=by rw[xIj,uS];rfl
end Mailsack
namespace Go.Proofs.FE
open Go.RowKit Mailsack MM BB SH
section
variable {P:Program}
theorem xDc (w:World) (b off:Nat) (ty:TypeId) (cs:Array Value) (d:TypeDesc) (hc:∀j v,cs.toList[j]?=some v->w.cell? ⟨b,off+j,none⟩=some v)
  (hu:P.underlying ty=some d) (hd:(match d with|.struct _|.array _ _=>true|_=>false)=true) (hi:(P.info? ty).map (·.size)=some cs.size):
  (loadVar ty ⟨b,off,none⟩).run P w=.ok (.agg cs) w:=by
 have hl:(loadCells ⟨b,off,none⟩ cs.toList.length).run P w=.ok cs.toList.toArray w:=
  run_loadCells_list (P:=P) w ⟨b,off,none⟩ cs.toList (λj v hv=>by
   have hadd:(⟨b,off,none⟩:Addr).add j=⟨b,off+j,none⟩:=by unfold Addr.add;split<;>simp_all
   rw[hadd];exact hc j v hv)
 cases hq:P.info? ty with
 |none=>simp[hq] at hi
 |some i=>
  have hs:i.size=cs.size:=by simpa[hq] using hi
  have hagg:(isAgg ty).run P w=.ok true w:=by
   unfold isAgg;rw[Sem.run_bind,run_underlying hu w];cases d<;>simp_all
  simp only[Array.length_toList,Array.toArray_toList] at hl;simp[loadVar,Sem.run_bind,hagg,sizeOf,typeInfo,hq,hs,hl]
theorem zC {ops:Array Oper} {rest:List Oper} {o:Oper} {a:Act} {w:World} {Q:Exit->Act->World->Prop} (hgd:o.guard=none) (ty:TypeId) (x:Operand) (ho:o.op=.load ty x)
  (b off:Nat) (hx:a.eval x=.pointer (some ⟨b,off,none⟩)) (cs:Array Value) (d:TypeDesc) (hc:∀j v,cs.toList[j]?=some v->w.cell? ⟨b,off+j,none⟩=some v)
  (hu:P.underlying ty=some d) (hd:(match d with|.struct _|.array _ _=>true|_=>false)=true) (hi:(P.info? ty).map (·.size)=some cs.size)
  (h:wpList P ops Q rest (a.put o.dst (.agg cs)) w):wpList P ops Q (o::rest) a w:=
 wpList_plain hgd λ_ hK=>by
  unfold Oper.wp execOp;simp only[ho,hx,Instr.loadAt,Instr.sureAddr,Sem.run_bind,Sem.run_pure,Result.andThen_ok,xDc w b off ty cs d hc hu hd hi];exact hK _ _ h
theorem xCq (w:World) (g o:Nat) (t ty:TypeId) (old cells:Array Value) (hg:w.heap[g]?=some (.cells old t (0,0))) (hi:(P.info? ty).map (·.size)=some cells.size)
  (ho:o+cells.size<=old.size) (h1:cells.all (·.oneCell')=true):
  (storeVar ty ⟨g,o,none⟩ (.agg cells)).run P w=.ok () (w.setRow g (old.toList.take o++cells.toList++old.toList.drop (o+cells.size)).toArray):=by
 have:=run_storeCells_at P g o t cells.toList 0 old w hg (by simp;omega) (λv hv=>(Array.all_eq_true_iff_forall_mem.1 h1) v (by simpa using hv));cases hq:P.info? ty with
 |none=>simp[hq] at hi
 |some i=>
  have hs:cells.size=i.size:=by simp[hq] at hi;omega
  simp[storeVar,sizeOf,typeInfo,hq,Value.cells,hs,this]
theorem wD {ops:Array Oper} {rest:List Oper} {o:Oper} {a:Act} {w:World} {Q:Exit->Act->World->Prop} (hgd:o.guard=none) (ty:TypeId) (x y:Operand) (ho:o.op=.store ty x y)
  (g off:Nat) (cells:Array Value) (hx:a.eval x=.pointer (some ⟨g,off,none⟩)) (hy:a.eval y=.agg cells)
  (t:TypeId) (old:Array Value) (hg:w.heap[g]?=some (.cells old t (0,0))) (hi:(P.info? ty).map (·.size)=some cells.size)
  (hold:off+cells.size<=old.size) (h1:cells.all (·.oneCell')=true) (new:Array Value) (hn:(old.toList.take off++cells.toList++old.toList.drop (off+cells.size)).toArray=new)
  (h:wpList P ops Q rest (a.put o.dst undef) (w.setRow g new)):wpList P ops Q (o::rest) a w:=
 wpList_plain hgd λ_ hK=>by
  subst hn;unfold Oper.wp execOp;simp only[ho,hx,hy,Instr.storeAt,Instr.sureAddr,Sem.run_bind,Sem.run_pure,Result.andThen_ok,xCq w g off t ty old cells hg hi hold h1];exact hK _ _ h
end
theorem tV (l:List Int):(xE l).toList=l.map λx=>Value.int .u64 x:=by simp[xE]
theorem xC7 {t:TypeId} {W:World} {g:Nat} {x z:List Int} (h:uB t W g (x++z)):∀j v,(xE x).toList[j]?=some v->W.cell? ⟨g,0+j,none⟩=some v:=by
 intro j v hv;rw[tV] at hv;rw[Nat.zero_add,xA h.blk];simp only[xE,List.map_append,gA]
 rw[List.getElem?_append_left (by
  have:=(List.getElem?_eq_some_iff.1 hv).1;exact this)]
 exact hv
theorem xC6 {t:TypeId} {W:World} {g:Nat} {x z:List Int} (h:uB t W g (x++z)) (hx:x.length=5):∀j v,(xE z).toList[j]?=some v->W.cell? ⟨g,5+j,none⟩=some v:=by
 intro j v hv;rw[tV] at hv;rw[xA h.blk];simp only[xE,List.map_append,gA];rw[List.getElem?_append_right (by simp[hx])];simpa[hx] using hv
theorem xSy (x z x':List Int) (hx:x.length=5) (hx':x'.length=5):((xE (x++z)).toList.take 0++(xE x').toList++(xE (x++z)).toList.drop (0+(xE x').size)).toArray=xE (x'++z):=by
 rw[xQ,hx',tV,tV];simp only[List.take_zero,List.nil_append,xE,List.map_append];rw[List.drop_append_of_le_length (by simp[hx]),List.drop_of_length_le (by simp[hx])];simp
theorem xSx (x z z':List Int) (hx:x.length=5) (hz:z.length=5) (hz':z'.length=5):((xE (x++z)).toList.take 5++(xE z').toList++(xE (x++z)).toList.drop (5+(xE z').size)).toArray=xE (x++z'):=by
 rw[xQ,hz',tV,tV];simp only[xE,List.map_append];rw[List.take_append_of_le_length (by simp[hx]),List.take_of_length_le (by simp[hx]),List.drop_of_length_le (by simp[hx,hz])];simp
theorem xY2 {x z:List Int} (h:x.length=5) (h2:z.length=5):(prog.info? 218).map (·.size)=some (xE (x++z)).size:=by rw[xQ,List.length_append,h,h2];kernel_rfl
theorem xOp (w:World):Calls prog 155 #[] w λe w'=>e=.returned (.string xIj)/\ψ w w':=by
 have HB:Hid (ψ w (w.alloc (.cells (xX ((xO 32).set 0 9)) 299))):=ι (φ w _);have HT:=xBh (t:=299) (xI w (.cells (xX ((xO 32).set 0 9)) 299)) 32 32 rfl;go_enter func155,ntmps155;go_upto_region 3 with fail
 refine(λ(h:∀W3,Hid (ψ w W3/\(convert 125 9 (.slice (some ⟨w.heap.size,0,none⟩) 32 32)).run prog W3=.ok (.string xIj) W3)->Code.wp _ _ _ _ W3)=>h _ (ι ⟨HB.o,HT⟩)) ?_;clear HB HT;intro W3 H3;have ht:=H3.o.2;go_wp2;go_ret;exact⟨rfl,H3.o.1⟩
theorem xVc (s:ByteArray) (w:World) (hs:s.size≠32):
  Calls prog 156 #[.string s] w λe w'=>e=.returned (.tuple #[.string ⟨#[]⟩,.bool false])/\w'=w:=by
 have hsi:(s.size:Int)≠32:=ω;have hsb:((s.size:Int)!=32)=true:=by simp;omega
 clear hs;go_enter func156,ntmps156;go_wp2;go_ret2;exact⟨rfl,rfl⟩
theorem xF9 (s:ByteArray) (w:World) (hs:s.size=32):
  Calls prog 156 #[.string s] w λe w'=>e=.returned (.tuple #[.string (xCd s),.bool true])/\ψ w w':=by
 have hsi:(s.size:Int)=32:=ω;have xI7:=λW=>Lib.run_convert_string_bytes (P:=prog) W 9 125 5 s underlying9 underlying125 underlying5
 have H0:Hid (PaI w w.heap.size s.data.toList (Lib.bytesWorld w 5 s)):=ι ⟨xOv.start w s,(Below.refl w.heap.size w).trans ⟨rfl,rfl,rfl,by rw[Lib.bytesWorld_size];omega,λk hk=>Lib.bytesWorld_at_old _ _ _ k hk⟩,Nat.le_refl _,by rw[Lib.bytesWorld_size];omega⟩
 have HR:Hid (xCd s=bsA (((s.data.toList.set 0 (oct (bits .and .u8 ((s.data.toList.getD 0 0).toNat:Int) 248))).set 31 (oct (bits .and .u8 ((s.data.toList.getD 31 0).toNat:Int) 127))).set 31 (oct (bits .or .u8 (bits .and .u8 ((s.data.toList.getD 31 0).toNat:Int) 127) 64)))):=ι rfl
 have hll:s.data.toList.length=32:=by simpa using hs
 obtain⟨res,hres⟩:∃x,xCd s=x:=⟨_,rfl⟩;rw[hres] at HR⊢;clear hres;go_enter func156,ntmps156;go_upto_region 4 with fail
 have hcap:32<=grownCap w 32 0 5:=grownCap_ge _ _ _ _;generalize grownCap w 32 0 5=cap at hcap⊢;generalize Lib.bytesWorld w 5 s=W0 at H0⊢;generalize s.data.toList=l at H0 HR hll;clear xI7 hs hsi;have q0:=H0.o.o.cell 0 ω;have f0:=H0.o.o.free 0 ω;have u0:=(l.getD 0 0).toNat_lt
 have u1:=(l.getD 31 0).toNat_lt;have hz0:=xD0 .and ((l.getD 0 0).toNat:Int) 248;have H1:=ι (H0.o.put (p:=0) ω hz0.1 hz0.2)
 have hx31:(l.set 0 (oct (bits .and .u8 ((l.getD 0 0).toNat:Int) 248))).getD 31 0=l.getD 31 0:=by rw[List.getD_eq_getElem?_getD,List.getElem?_set,if_neg δ,<-List.getD_eq_getElem?_getD]
 have hl1:(l.set 0 (oct (bits .and .u8 ((l.getD 0 0).toNat:Int) 248))).length=32:=by rw[List.length_set,hll]
 generalize l.set 0 (oct (bits .and .u8 ((l.getD 0 0).toNat:Int) 248))=l1 at H1 HR hx31 hl1;obtain⟨a,ha⟩:∃a:Int,((l.getD 0 0).toNat:Int)=a:=⟨_,rfl⟩;obtain⟨b,hb⟩:∃b:Int,((l.getD 31 0).toNat:Int)=b:=⟨_,rfl⟩;have a0:0<=a:=ω;have a1:a<256:=ω;have b0:0<=b:=ω;have b1:b<256:=ω
 rw[ha] at q0 H1;rw[hb] at HR;have HB:=ι hb;have HX:=ι hx31;have HL1:=ι hl1;clear hz0 u0 u1 H0 ha hb hx31 hl1 hll;go_upto_region 5 with fail
 clear q0 f0;refine(λ(h:∀W3,Hid (PaI w w.heap.size l1 W3)->Code.wp _ _ _ _ W3)=>h _ H1) ?_;clear H1;intro W1 H1;have q0:=H1.o.o.cell 31 (by rw[HL1.o];decide);rw[HX.o,HB.o] at q0;have f0:=H1.o.o.free 31 (by rw[HL1.o];decide);have hz1:=xD0 .and b 127
 have H2:=ι (H1.o.put (p:=31) (by rw[HL1.o];decide) hz1.1 hz1.2);obtain⟨c,hc⟩:∃c,bits .and .u8 b 127=c:=⟨_,rfl⟩;rw[hc] at H2 HR hz1
 have HE:Hid ((((l1.set 31 (oct c)).getD 31 0).toNat:Int)=c):=ι (by
  rw[List.getD_eq_getElem?_getD,List.getElem?_set,if_pos rfl,if_pos (by rw[HL1.o];decide)];simp only[Option.getD_some];rw[xAy];omega)
 have hl2:(l1.set 31 (oct c)).length=32:=by rw[List.length_set,HL1.o]
 generalize l1.set 31 (oct c)=l2 at H2 HR HE hl2;have HL2:=ι hl2;obtain⟨c0,c1⟩:=hz1;clear hl2 H1;go_upto_region 6 with fail
 clear q0 f0 hc;refine(λ(h:∀W3,Hid (PaI w w.heap.size l2 W3)->Code.wp _ _ _ _ W3)=>h _ H2) ?_;clear H2;intro W2 H2;have q0:=H2.o.o.cell 31 (by rw[HL2.o];decide);rw[HE.o] at q0;have f0:=H2.o.o.free 31 (by rw[HL2.o];decide);have hz2:=xD0 .or c 64
 have H3:=ι (H2.o.put (p:=31) (by rw[HL2.o];decide) hz2.1 hz2.2);have hl3:(l2.set 31 (oct (bits .or .u8 c 64))).length=32:=by rw[List.length_set,HL2.o]
 generalize l2.set 31 (oct (bits .or .u8 c 64))=l3 at H3 HR hl3;have ht:=H3.o.o.text 32 cap hl3;rw[<-HR.o] at ht;clear H2 hz2 hl3;go_wp2;go_ret2;exact⟨rfl,H3.o.bel⟩
end Go.Proofs.FE
namespace Go.Proofs.FE
open Go.RowKit Mailsack MM BB SH
theorem xGw (ax bx:List Int) (yes:Bool) (w:World) (hl:ax.length=5) (hu:yE ax) (hl2:bx.length=5) (hu2:yE bx):
  Calls prog 245 #[.agg (xE ax),.agg (xE bx),.bool yes] w λe w'=>e=.returned (.tuple #[.agg (xE (if yes then bx else ax)),.agg (xE (if yes then ax else bx))])/\ψ w w':=by
 cases yes
 ·exact yAj ax bx w hl hu hl2 hu2
 ·exact xWz ax bx w hl hu hl2 hu2
structure FoM (t:TypeId) (w:World) (ax bx rx sx:List Int) (W:World):Prop where
 ba:uB t W w.heap.size ax
 bb:uB t W (w.heap.size+1) bx
 br:uB t W (w.heap.size+2) rx
 bs:uB t W (w.heap.size+3) sx
 bel:ψ w W
section
variable {t:TypeId} {w W W':World} {ax bx rx sx:List Int}
theorem FoM.start (ax bx rx sx:List Int):FoM t w ax bx rx sx ((((w.alloc (.cells (xE ax) t)).alloc (.cells (xE bx) t)).alloc (.cells (xE rx) t)).alloc (.cells (xE sx) t)):=by
 have h1:=zK w (.cells (xE ax) t) (.cells (xE bx) t);have h2:=zD w (.cells (xE ax) t) (.cells (xE bx) t);have h3:=xI ((w.alloc (.cells (xE ax) t)).alloc (.cells (xE bx) t)) (.cells (xE rx) t)
 have h4:=xI (((w.alloc (.cells (xE ax) t)).alloc (.cells (xE bx) t)).alloc (.cells (xE rx) t)) (.cells (xE sx) t);simp only[uQ] at h3 h4;exact⟨xM (xM h1 _) _,xM (xM h2 _) _,xM h3 _,h4,(((φ w _).alloc σ _).alloc (by simp;omega) _).alloc (by simp;omega) _⟩
theorem FoM.drew (h:FoM t w ax bx rx sx W):FoM t w ax bx rx sx W.drew:=⟨h.ba,h.bb,h.br,h.bs,h.bel.drew⟩
theorem FoM.below (h:FoM t w ax bx rx sx W) (hb:ψ W W'):FoM t w ax bx rx sx W':=⟨h.ba.below hb,h.bb.below hb,h.br.below hb,h.bs.below hb,h.bel.trans (hb.mono h.bel.size)⟩
theorem FoM.rowA (h:FoM t w ax bx rx sx W) (xs:List Int):FoM t w xs bx rx sx (W.setRow w.heap.size (xE xs)):=
 ⟨setRow_heap _ _ _ _ _ _ h.ba,(setRow_other _ _ _ _ ω).trans h.bb,(setRow_other _ _ _ _ ω).trans h.br,(setRow_other _ _ _ _ ω).trans h.bs,below_setRow h.bel ω _⟩
theorem FoM.rowB (h:FoM t w ax bx rx sx W) (xs:List Int):FoM t w ax xs rx sx (W.setRow (w.heap.size+1) (xE xs)):=
 ⟨(setRow_other _ _ _ _ ω).trans h.ba,setRow_heap _ _ _ _ _ _ h.bb,(setRow_other _ _ _ _ ω).trans h.br,(setRow_other _ _ _ _ ω).trans h.bs,below_setRow h.bel ω _⟩
theorem FoM.rowR (h:FoM t w ax bx rx sx W) (xs:List Int):FoM t w ax bx xs sx (W.setRow (w.heap.size+2) (xE xs)):=
 ⟨(setRow_other _ _ _ _ ω).trans h.ba,(setRow_other _ _ _ _ ω).trans h.bb,setRow_heap _ _ _ _ _ _ h.br,(setRow_other _ _ _ _ ω).trans h.bs,below_setRow h.bel ω _⟩
theorem FoM.rowS (h:FoM t w ax bx rx sx W) (xs:List Int):FoM t w ax bx rx xs (W.setRow (w.heap.size+3) (xE xs)):=
 ⟨(setRow_other _ _ _ _ ω).trans h.ba,(setRow_other _ _ _ _ ω).trans h.bb,(setRow_other _ _ _ _ ω).trans h.br,setRow_heap _ _ _ _ _ _ h.bs,below_setRow h.bel ω _⟩
end
theorem xJv (x1 z1 x2 z2:List Int) (yes:Bool) (w:World) (lx1:x1.length=5) (ux1:yE x1) (lz1:z1.length=5) (uz1:yE z1) (lx2:x2.length=5) (ux2:yE x2) (lz2:z2.length=5) (uz2:yE z2):
  Calls prog 158 #[.agg (xE (x1++z1)),.agg (xE (x2++z2)),.bool yes] w λe w'=>e=.returned (.tuple #[.agg (xE (if yes then x2++z2 else x1++z1)),.agg (xE (if yes then x1++z1 else x2++z2))])/\ψ w w':=by
 have HX:=ι (λW=>xGw x1 x2 yes W lx1 ux1 lx2 ux2);have HZ:=ι (λW=>xGw z1 z2 yes W lz1 uz1 lz2 uz2)
 have HA:Hid ((if yes then x2++z2 else x1++z1)=(if yes then x2 else x1)++(if yes then z2 else z1)/\(if yes then x1++z1 else x2++z2)=(if yes then x1 else x2)++(if yes then z1 else z2)):=ι (by cases yes<;>exact⟨rfl,rfl⟩);rw[HA.o.1,HA.o.2];clear HA
 have la:(if yes then x2 else x1).length=5:=by cases yes<;>assumption
 have lb:(if yes then x1 else x2).length=5:=by cases yes<;>assumption
 have lc:(if yes then z2 else z1).length=5:=by cases yes<;>assumption
 have ld:(if yes then z1 else z2).length=5:=by cases yes<;>assumption
 generalize (if yes then x2 else x1)=a at HX la⊢;generalize (if yes then x1 else x2)=b at HX lb⊢;generalize (if yes then z2 else z1)=c at HZ lc⊢;generalize (if yes then z1 else z2)=d at HZ ld⊢
 have H0:=ι (FoM.start (w:=w) (t:=218) (x1++z1) (x2++z2) (List.replicate 10 0) (List.replicate 10 0));have I1:=ι (zS lx1);have I2:=ι (zS lx2);have I3:=ι (zS lz1);have I4:=ι (zS lz2);have Ia:=ι (zS la);have Ib:=ι (zS lb);have Ic:=ι (zS lc);have Id:=ι (zS ld)
 have HL:=ι (And.intro (And.intro lx1 (And.intro lx2 (And.intro lz1 lz2))) (And.intro la (And.intro lb (And.intro lc ld))));clear ux1 uz1 ux2 uz2 lx1 lz1 lx2 lz2 la lb lc ld;go_enter func158,ntmps158;go_upto_region 1 with fail
 refine(λ(h:∀W3,Hid (FoM 218 w (x1++z1) (x2++z2) (List.replicate 10 0) (List.replicate 10 0) W3)->Code.wp _ _ _ _ W3)=>h _ H0) ?_;clear H0;intro W0 H0;obtain⟨⟨lx1,lx2,lz1,lz2⟩,la,lb,lc,ld⟩:=HL.o;refine wp_region_lit ?_;iterate 3 go_step
 refine zC rfl _ _ rfl w.heap.size 0 rfl (xE x1) _ (xC7 H0.o.ba) underlying214 rfl I1.o ?_;iterate 3 go_step
 refine zC rfl _ _ rfl (w.heap.size+1) 0 rfl (xE x2) _ (xC7 H0.o.bb) underlying214 rfl I2.o ?_;repeat go_step
 refine(HX.o _).mono ?_;rintro e w1 ⟨rfl,hb1⟩;have H1:=ι (H0.o.below hb1);clear H0 hb1;simp only[]
 rename ∀(a:Act) (w:World),wpList _ _ _ _ a w->_=>hk
 refine hk _ _ ?_;clear hk;iterate 12 go_step
 refine wD rfl _ _ _ rfl w.heap.size 0 (xE a) rfl rfl _ _ H1.o.ba Ia.o (by rw[xQ,xQ,List.length_append,la,lx1,lz1];decide) (xR _) _ (xSy x1 z1 a lx1 la) ?_;have H2:=ι (H1.o.rowA (a++z1))
 refine(λ(h:∀W3,Hid (FoM 218 w (a++z1) (x2++z2) (List.replicate 10 0) (List.replicate 10 0) W3)->wpList _ _ _ _ _ W3)=>h _ H2) ?_;clear H1 H2;intro W2 H2;iterate 3 go_step
 refine wD rfl _ _ _ rfl (w.heap.size+1) 0 (xE b) rfl rfl _ _ H2.o.bb Ib.o (by rw[xQ,xQ,List.length_append,lb,lx2,lz2];decide) (xR _) _ (xSy x2 z2 b lx2 lb) ?_;have H3:=ι (H2.o.rowB (b++z2));go_upto_region 2 with fail
 refine(λ(h:∀W3,Hid (FoM 218 w (a++z1) (b++z2) (List.replicate 10 0) (List.replicate 10 0) W3)->Code.wp _ _ _ _ W3)=>h _ H3) ?_;clear H2 H3;intro W3 H3;refine wp_region_lit ?_;iterate 3 go_step
 refine zC rfl _ _ rfl w.heap.size 5 rfl (xE z1) _ (xC6 H3.o.ba la) underlying214 rfl I3.o ?_;iterate 3 go_step
 refine zC rfl _ _ rfl (w.heap.size+1) 5 rfl (xE z2) _ (xC6 H3.o.bb lb) underlying214 rfl I4.o ?_;repeat go_step
 refine(HZ.o _).mono ?_;rintro e w1 ⟨rfl,hb1⟩;have H4:=ι (H3.o.below hb1);clear H3 hb1;simp only[]
 rename ∀(a:Act) (w:World),wpList _ _ _ _ a w->_=>hk
 refine hk _ _ ?_;clear hk;iterate 12 go_step
 refine wD rfl _ _ _ rfl w.heap.size 5 (xE c) rfl rfl _ _ H4.o.ba Ic.o (by rw[xQ,xQ,List.length_append,la,lc,lz1];decide) (xR _) _ (xSx a z1 c la lz1 lc) ?_;have H5:=ι (H4.o.rowA (a++c))
 refine(λ(h:∀W3,Hid (FoM 218 w (a++c) (b++z2) (List.replicate 10 0) (List.replicate 10 0) W3)->wpList _ _ _ _ _ W3)=>h _ H5) ?_;clear H4 H5;intro W2 H5;iterate 3 go_step
 refine wD rfl _ _ _ rfl (w.heap.size+1) 5 (xE d) rfl rfl _ _ H5.o.bb Id.o (by rw[xQ,xQ,List.length_append,lb,ld,lz2];decide) (xR _) _ (xSx b z2 d lb lz2 ld) ?_;have H6:=ι (H5.o.rowB (b++d));go_upto_region 3 with fail
 refine(λ(h:∀W3,Hid (FoM 218 w (a++c) (b++d) (List.replicate 10 0) (List.replicate 10 0) W3)->Code.wp _ _ _ _ W3)=>h _ H6) ?_;clear H5 H6;intro W6 H6;have IA:=ι (xY2 la lc);have IB:=ι (xY2 lb ld)
 have ZA:Hid ((xE (List.replicate 10 0)).size=(xE (a++c)).size):=ι (by rw[xQ,xQ,List.length_append,la,lc];rfl);have ZB:Hid ((xE (List.replicate 10 0)).size=(xE (b++d)).size):=ι (by rw[xQ,xQ,List.length_append,lb,ld];rfl)
 clear HX HZ I1 I2 I3 I4 Ia Ib Ic Id lx1 lx2 lz1 lz2 la lb lc ld HL;generalize hra:a++c=ra at H6 IA ZA⊢;generalize hrb:b++d=rb at H6 IB ZB⊢;have HE:=ι (And.intro hra hrb);clear hra hrb
 refine RG.yM 4 (λL W=>Hid (FoM 218 w ra rb (if L 2 then ra else List.replicate 10 0) (if L 3 then rb else List.replicate 10 0) W)) (λL L' W h hI=>by rw[<-h 2 δ,<-h 3 δ];exact hI) κ κ rfl (ι H6.o.drew) ?_;clear H6;apply RG.xN
 ·rfl
 ·rfl
 ·intro L w9 h0 hcl xP hw9;refine wpList_load_row rfl _ _ rfl w.heap.size rfl _ (xE ra) (0,0) _ hw9.o.ba underlying218 rfl IA.o ?_;repeat go_step
  refine RG.xB ?_;exact⟨xP,hw9⟩
 ·rfl
 apply RG.xN
 ·rfl
 ·rfl
 ·intro L w9 h0 hcl xP hw9;refine wpList_load_row rfl _ _ rfl (w.heap.size+1) rfl _ (xE rb) (0,0) _ hw9.o.bb underlying218 rfl IB.o ?_;repeat go_step
  refine RG.xB ?_;exact⟨xP,hw9⟩
 ·rfl
 apply RG.xN
 ·rfl
 ·rfl
 ·intro L w9 h0 hcl xP hw9;have hs9:=hw9.o;rw[h0,if_neg σ] at hs9;refine wpList_store_row rfl _ _ _ rfl (w.heap.size+2) (xE ra) rfl rfl _ _ hs9.br IA.o ZA.o (xR _) ?_;repeat go_step
  refine RG.xB ?_;exact⟨xP,ι (hs9.rowR ra)⟩
 ·rfl
 apply RG.xN
 ·rfl
 ·rfl
 ·intro L w9 h0 hcl xP hw9;have hs9:=hw9.o;rw[h0,if_neg (c:=false=true) σ] at hs9;refine wpList_store_row rfl _ _ _ rfl (w.heap.size+3) (xE rb) rfl rfl _ _ hs9.bs IB.o ZB.o (xR _) ?_;repeat go_step
  refine RG.xB ?_;exact⟨xP,ι (hs9.rowS rb)⟩
 ·rfl
 refine RG.xY (λw9 hw9=>?_);rw[if_pos rfl,if_pos rfl] at hw9;go_wp2;refine bodyPost_ret (wT rfl _ _ (w.heap.size+2) (w.heap.size+3) _ _ _ _ (0,0) (0,0) _ rfl rfl hw9.o.br hw9.o.bs underlying218 rfl IA.o IB.o) rfl ?_;rw[HE.o.1,HE.o.2];exact⟨rfl,hw9.o.bel⟩
end Go.Proofs.FE
namespace Mailsack
def xZi (a:List Int):List Int:=uA a a
def xZh (a:List Int):List Int:=uA (sqI (xZi a) 2) a
def xU0 (a:List Int):List Int:=uA (xZh a) (xZi a)
def xZj (a:List Int):List Int:=uA (sqI (xU0 a) 1) (xZh a)
def xMb (a:List Int):List Int:=uA (sqI (xZj a) 5) (xZj a)
def xU1 (a:List Int):List Int:=uA (sqI (xMb a) 10) (xMb a)
def yBh (a:List Int):List Int:=uA (sqI (xU1 a) 20) (xU1 a)
def xMa (a:List Int):List Int:=uA (sqI (yBh a) 10) (xMb a)
def xO0 (a:List Int):List Int:=uA (sqI (xMa a) 50) (xMa a)
def xY0 (a:List Int):List Int:=uA (sqI (xO0 a) 100) (xO0 a)
def xXz (a:List Int):List Int:=uA (sqI (xY0 a) 50) (xMa a)
def xFs (a:List Int):List Int:=uA (sqI (xXz a) 5) (xU0 a)
theorem xUt (a:List Int):(xFs a).length=5:=uM _ _
theorem yC0 (a:List Int):yE (xFs a):=qC _ _
end Mailsack
namespace Go.Proofs.FE
open Go.RowKit Mailsack MM BB SH
theorem xAm (x y:List Int) (n:Nat) (k:Int) (hk:k=n) (hn:n<=1000) (hx:x.length=5) (ux:yE x) (hy:y.length=5) (uy:yE y):∃s v,Hid (∀W,Calls prog 253 #[.agg (xE x),.int .i64 k] W λe w'=>e=.returned (.agg (xE s))/\ψ W w')/\
  Hid (∀W,Calls prog 161 #[.agg (xE s),.agg (xE y)] W λe w'=>e=.returned (.agg (xE v))/\ψ W w')/\v=uA (sqI x n) y/\v.length=5/\yE v:=
 ⟨sqI x n,_,ι (λW=>by rw[hk];exact xLe x n W hx ux hn),ι (λW=>tT _ _ W (xEc hx n) (yAp ux n) hy uy),rfl,uM _ _,qC _ _⟩
theorem one_mul (x y:List Int) (hx:x.length=5) (ux:yE x) (hy:y.length=5) (uy:yE y):∃v,
  Hid (∀W,Calls prog 161 #[.agg (xE x),.agg (xE y)] W λe w'=>e=.returned (.agg (xE v))/\ψ W w')/\v=uA x y/\v.length=5/\yE v:=
 ⟨_,ι (λW=>tT _ _ W hx ux hy uy),rfl,uM _ _,qC _ _⟩
theorem yU (ws:List Int) (h:ws.length=5):Hid ((prog.info? 214).map (·.size)=some (xE ws).size):=ι (zS h)
theorem uJ (ws:List Int) (h:ws.length=5):Hid ((xE (List.replicate 5 0)).size=(xE ws).size):=ι (rF σ h)
theorem xQ6 (ax:List Int) (w:World) (l_ax:ax.length=5) (u_ax:yE ax):
  Calls prog 162 #[.agg (xE ax)] w λe w'=>e=.returned (.agg (xE (xFs ax)))/\ψ w w':=by
 have I_ax:=yU ax l_ax;obtain⟨p2,M_p2,E_p2,l_p2,u_p2⟩:=one_mul ax ax l_ax u_ax l_ax u_ax;have I_p2:=yU p2 l_p2;have Z_p2:=uJ p2 l_p2;obtain⟨s_p9,p9,S_p9,M_p9,E_p9,l_p9,u_p9⟩:=xAm p2 ax 2 2 rfl δ l_p2 u_p2 l_ax u_ax;have I_p9:=yU p9 l_p9;have Z_p9:=uJ p9 l_p9
 obtain⟨p11,M_p11,E_p11,xTu,yAe⟩:=one_mul p9 p2 l_p9 u_p9 l_p2 u_p2;have I_p11:=yU p11 xTu;have Z_p11:=uJ p11 xTu;obtain⟨s_o5,o5,S_o5,M_o5,E_o5,l_o5,u_o5⟩:=xAm p11 p9 1 1 rfl δ xTu yAe l_p9 u_p9;have I_o5:=yU o5 l_o5;have Z_o5:=uJ o5 l_o5
 obtain⟨s_o10,o10,S_o10,M_o10,E_o10,xQ2,xWu⟩:=xAm o5 o5 5 5 rfl δ l_o5 u_o5 l_o5 u_o5;have I_o10:=yU o10 xQ2;have Z_o10:=uJ o10 xQ2;obtain⟨s_o20,o20,S_o20,M_o20,E_o20,xTv,yAf⟩:=xAm o10 o10 10 10 rfl δ xQ2 xWu xQ2 xWu;have I_o20:=yU o20 xTv;have Z_o20:=uJ o20 xTv
 obtain⟨s_o40,o40,S_o40,M_o40,E_o40,xXv,u_o40⟩:=xAm o20 o20 20 20 rfl δ xTv yAf xTv yAf;have I_o40:=yU o40 xXv;have Z_o40:=uJ o40 xXv;obtain⟨s_o50,o50,S_o50,M_o50,E_o50,xQ1,xWt⟩:=xAm o40 o10 10 10 rfl δ xXv u_o40 xQ2 xWu;have I_o50:=yU o50 xQ1;have Z_o50:=uJ o50 xQ1
 obtain⟨s_o100,o100,S_o100,M_o100,xZz,xJx,xS2⟩:=xAm o50 o50 50 50 rfl δ xQ1 xWt xQ1 xWt;have I_o100:=yU o100 xJx;have Z_o100:=uJ o100 xJx;obtain⟨s_o200,o200,S_o200,M_o200,xZy,xNv,xZ5⟩:=xAm o100 o100 100 100 rfl δ xJx xS2 xJx xS2;have I_o200:=yU o200 xNv;have Z_o200:=uJ o200 xNv
 obtain⟨s_o250,yB3,S_o250,M_o250,xZx,xNu,xZ4⟩:=xAm o200 o50 50 50 rfl δ xNv xZ5 xQ1 xWt;have I_o250:=yU yB3 xNu;have Z_o250:=uJ yB3 xNu;obtain⟨s_res,res,S_res,M_res,E_res,yBf,u_res⟩:=xAm yB3 p11 5 5 rfl δ xNu xZ4 xTu yAe;have I_res:=yU res yBf;have Z_res:=uJ res yBf
 have HE:Hid (res=xFs ax):=ι (by
  subst E_p2 E_p9 E_p11 E_o5 E_o10 E_o20 E_o40 E_o50 xZz xZy xZx E_res
  rfl)
 clear E_p2 l_p2 u_p2 E_p9 l_p9 u_p9 E_p11 xTu yAe E_o5 l_o5 u_o5 E_o10 xQ2 xWu E_o20 xTv yAf E_o40 xXv u_o40 E_o50 xQ1 xWt xZz xJx xS2 xZy xNv xZ5 xZx xNu xZ4 E_res yBf u_res l_ax u_ax
 have H0:Hid (Bag w [(w.heap.size+1,214,List.replicate 5 0),(w.heap.size,214,ax)] ((w.alloc (.cells (xE ax) 214)).alloc (.cells (xE (List.replicate 5 0)) 214))):=ι (by
  have h:Bag w [] w:=⟨Below.refl _ _,λ_ _ _ h=>by cases h⟩;have h2:=(h.new 214 ax).new 214 (List.replicate 5 0)
  rwa [uQ] at h2)
 obtain⟨xYa,hga⟩:∃g,w.heap.size=g:=⟨_,rfl⟩;obtain⟨g_z,hgz⟩:∃g,w.heap.size+1=g:=⟨_,rfl⟩;have HGA:=ι hga;have HGZ:=ι hgz;clear hga hgz;go_enter func162,ntmps162;go_upto_region 1 with fail
 rw[HGZ.o,HGA.o];rw[HGZ.o,HGA.o] at H0;refine(λ(h:∀W3,Hid (Bag w _ W3)->Code.wp _ _ _ _ W3)=>h _ H0) ?_;clear H0;intro W0 H0;refine wp_region_lit ?_
 refine wpList_load_row rfl _ _ rfl xYa rfl _ (xE ax) (0,0) _ (H0.o.get (g:=xYa) (t:=214) (ws:=ax) σ) underlying214 rfl I_ax.o ?_;refine wpList_load_row rfl _ _ rfl xYa rfl _ (xE ax) (0,0) _ (H0.o.get (g:=xYa) (t:=214) (ws:=ax) σ) underlying214 rfl I_ax.o ?_
 repeat go_step
 refine(M_p2.o _).mono ?_;rintro e w7 ⟨rfl,hb7⟩;have H7:=H0.o.below hb7;have H8:=H7.new 214 (List.replicate 5 0)
 have H9:Bag w ((w7.heap.size,214,p2)::[(g_z,214,List.replicate 5 0),(xYa,214,ax)]) ((w7.alloc (.cells (xE (List.replicate 5 0)) 214)).setRow w7.heap.size (xE p2)):=((H7.alloc _).far H7.1.size (λg t ws hm=>Nat.ne_of_lt (H7.lt hm)) _).cons H7.1.size (setRow_heap _ _ _ _ _ _ (xI _ _))
 simp only[]
 rename ∀(a:Act) (w:World),wpList _ _ _ _ a w->_=>hk
 refine hk _ _ ?_;clear hk;iterate 3 go_step
 refine wpList_store_row rfl _ _ _ rfl w7.heap.size (xE p2) rfl rfl _ (xE (List.replicate 5 0)) (xI _ _) I_p2.o Z_p2.o (xR _) ?_;refine(λ(h:∀W3,Hid (Bag w ((w7.heap.size,214,p2)::[(g_z,214,List.replicate 5 0),(xYa,214,ax)]) W3)->wpList _ _ _ _ _ W3)=>h _ (ι H9)) ?_
 clear H7 H8 H9 H0 hb7;generalize w7.heap.size=g_p2;intro W3 H0;go_upto_region 2 with fail
 refine xQn 4 5 214 (List.replicate 5 0) p9 H0 ?_;refine aL ?_;refine aC ?_;refine aL ?_;refine aC ?_;refine aN 2 5 ?_;refine aT 2 4 ?_;clear H0;refine RG.wK (λα w4 hw4=>?_);have H0:=ι hw4.o.done;clear hw4;simp only[Nat.zero_add,Nat.reduceAdd];generalize α 4=g_p9 at H0⊢
 go_upto_region 3 with fail
 refine wp_region_lit ?_;refine wpList_load_row rfl _ _ rfl g_p9 rfl _ (xE p9) (0,0) _ (H0.o.get (g:=g_p9) (t:=214) (ws:=p9) σ) underlying214 rfl I_p9.o ?_
 refine wpList_load_row rfl _ _ rfl g_p2 rfl _ (xE p2) (0,0) _ (H0.o.get (g:=g_p2) (t:=214) (ws:=p2) σ) underlying214 rfl I_p2.o ?_;repeat go_step
 refine(M_p11.o _).mono ?_;rintro e w7 ⟨rfl,hb7⟩;have H7:=H0.o.below hb7;have H8:=H7.new 214 (List.replicate 5 0)
 have H9:Bag w ((w7.heap.size,214,p11)::[(g_p9,214,p9),(g_p2,214,p2),(g_z,214,List.replicate 5 0),(xYa,214,ax)]) ((w7.alloc (.cells (xE (List.replicate 5 0)) 214)).setRow w7.heap.size (xE p11)):=((H7.alloc _).far H7.1.size (λg t ws hm=>Nat.ne_of_lt (H7.lt hm)) _).cons H7.1.size (setRow_heap _ _ _ _ _ _ (xI _ _))
 simp only[]
 rename ∀(a:Act) (w:World),wpList _ _ _ _ a w->_=>hk
 refine hk _ _ ?_;clear hk;iterate 3 go_step
 refine wpList_store_row rfl _ _ _ rfl w7.heap.size (xE p11) rfl rfl _ (xE (List.replicate 5 0)) (xI _ _) I_p11.o Z_p11.o (xR _) ?_
 refine(λ(h:∀W3,Hid (Bag w ((w7.heap.size,214,p11)::[(g_p9,214,p9),(g_p2,214,p2),(g_z,214,List.replicate 5 0),(xYa,214,ax)]) W3)->wpList _ _ _ _ _ W3)=>h _ (ι H9)) ?_;clear H7 H8 H9 H0 hb7;generalize w7.heap.size=yBx;intro W3 H0;go_upto_region 4 with fail
 refine xQn 4 5 214 (List.replicate 5 0) o5 H0 ?_;refine aL ?_;refine aC ?_;refine aL ?_;refine aC ?_;refine aN 2 5 ?_;refine aT 2 4 ?_;clear H0;refine RG.wK (λα w4 hw4=>?_);have H0:=ι hw4.o.done;clear hw4;simp only[Nat.zero_add,Nat.reduceAdd];generalize α 4=g_o5 at H0⊢
 go_upto_region 5 with fail
 refine xQn 4 5 214 (List.replicate 5 0) o10 H0 ?_;refine aL ?_;refine aC ?_;refine aL ?_;refine aC ?_;refine aN 2 5 ?_;refine aT 2 4 ?_;clear H0;refine RG.wK (λα w4 hw4=>?_);have H0:=ι hw4.o.done;clear hw4;simp only[Nat.zero_add,Nat.reduceAdd];generalize α 4=g_o10 at H0⊢
 go_upto_region 6 with fail
 refine xQn 4 5 214 (List.replicate 5 0) o20 H0 ?_;refine aL ?_;refine aC ?_;refine aL ?_;refine aC ?_;refine aN 2 5 ?_;refine aT 2 4 ?_;clear H0;refine RG.wK (λα w4 hw4=>?_);have H0:=ι hw4.o.done;clear hw4;simp only[Nat.zero_add,Nat.reduceAdd];generalize α 4=g_o20 at H0⊢
 go_upto_region 7 with fail
 refine xQn 4 5 214 (List.replicate 5 0) o40 H0 ?_;refine aL ?_;refine aC ?_;refine aL ?_;refine aC ?_;refine aN 2 5 ?_;refine aT 2 4 ?_;clear H0;refine RG.wK (λα w4 hw4=>?_);have H0:=ι hw4.o.done;clear hw4;simp only[Nat.zero_add,Nat.reduceAdd];generalize α 4=g_o40 at H0⊢
 go_upto_region 8 with fail
 refine xQn 4 5 214 (List.replicate 5 0) o50 H0 ?_;refine aL ?_;refine aC ?_;refine aL ?_;refine aC ?_;refine aN 2 5 ?_;refine aT 2 4 ?_;clear H0;refine RG.wK (λα w4 hw4=>?_);have H0:=ι hw4.o.done;clear hw4;simp only[Nat.zero_add,Nat.reduceAdd];generalize α 4=g_o50 at H0⊢
 go_upto_region 9 with fail
 refine xQn 4 5 214 (List.replicate 5 0) o100 H0 ?_;refine aL ?_;refine aC ?_;refine aL ?_;refine aC ?_;refine aN 2 5 ?_;refine aT 2 4 ?_;clear H0;refine RG.wK (λα w4 hw4=>?_);have H0:=ι hw4.o.done;clear hw4;simp only[Nat.zero_add,Nat.reduceAdd];generalize α 4=g_o100 at H0⊢
 go_upto_region 10 with fail
 refine xQn 4 5 214 (List.replicate 5 0) o200 H0 ?_;refine aL ?_;refine aC ?_;refine aL ?_;refine aC ?_;refine aN 2 5 ?_;refine aT 2 4 ?_;clear H0;refine RG.wK (λα w4 hw4=>?_);have H0:=ι hw4.o.done;clear hw4;simp only[Nat.zero_add,Nat.reduceAdd];generalize α 4=g_o200 at H0⊢
 go_upto_region 11 with fail
 refine xQn 4 5 214 (List.replicate 5 0) yB3 H0 ?_;refine aL ?_;refine aC ?_;refine aL ?_;refine aC ?_;refine aN 2 5 ?_;refine aT 2 4 ?_;clear H0;refine RG.wK (λα w4 hw4=>?_);have H0:=ι hw4.o.done;clear hw4;simp only[Nat.zero_add,Nat.reduceAdd];generalize α 4=xUi at H0⊢
 go_upto_region 12 with fail
 refine RG.yM 5 (λL W=>Hid ((L 4=false->Bag w [(xUi,214,yB3),(g_o200,214,o200),(g_o100,214,o100),(g_o50,214,o50),(g_o40,214,o40),(g_o20,214,o20),(g_o10,214,o10),(g_o5,214,o5),(yBx,214,p11),(g_p9,214,p9),(g_p2,214,p2),(g_z,214,List.replicate 5 0),(xYa,214,ax)] W)/\(L 4=true->ψ w W/\uB 214 W g_z res))) (λL L' W h hI=>by rw[<-h 4 δ];exact hI) κ κ rfl (ι ⟨λ_=>H0.o.drew,λh=>by cases h⟩) ?_
 clear H0;apply RG.xN
 ·rfl
 ·rfl
 ·intro L w9 h0 hcl xP hw9;have e:=hcl.not 5 (i:=4) h0 κ;have hb:=hw9.o.1 e;refine wpList_load_row rfl _ _ rfl xUi rfl _ (xE yB3) (0,0) _ (hb.get (g:=xUi) (t:=214) (ws:=yB3) σ) underlying214 rfl I_o250.o ?_;repeat go_step
  refine RG.xB ?_;exact⟨xP,hw9⟩
 ·rfl
 apply RG.xN
 ·rfl
 ·rfl
 ·intro L w9 h0 hcl xP hw9;have e:=hcl.not 5 (i:=4) h0 κ;have hb:=hw9.o.1 e;repeat go_step
  refine(S_res.o _).mono ?_;rintro e w10 ⟨rfl,yP⟩;simp only[];repeat go_step
  refine RG.xB ?_;refine⟨xP,ι ⟨λ_=>hb.below yP,λh4=>?_⟩⟩;have h5:L 4=true:=h4;rw[e] at h5;cases h5
 ·rfl
 apply RG.xN
 ·rfl
 ·rfl
 ·intro L w9 h0 hcl xP hw9;have e:=hcl.not 5 (i:=4) h0 κ;have hb:=hw9.o.1 e;refine wpList_load_row rfl _ _ rfl yBx rfl _ (xE p11) (0,0) _ (hb.get (g:=yBx) (t:=214) (ws:=p11) σ) underlying214 rfl I_p11.o ?_;repeat go_step
  refine RG.xB ?_;exact⟨xP,hw9⟩
 ·rfl
 apply RG.xN
 ·rfl
 ·rfl
 ·intro L w9 h0 hcl xP hw9;have e:=hcl.not 5 (i:=4) h0 κ;have hb:=hw9.o.1 e;repeat go_step
  refine(M_res.o _).mono ?_;rintro e w10 ⟨rfl,yP⟩;simp only[];repeat go_step
  refine RG.xB ?_;refine⟨xP,ι ⟨λ_=>hb.below yP,λh4=>?_⟩⟩;have h5:L 4=true:=h4;rw[e] at h5;cases h5
 ·rfl
 apply RG.xN
 ·rfl
 ·rfl
 ·intro L w9 h0 hcl xP hw9;have hb:=hw9.o.1 h0;have hz:=hb.get (g:=g_z) (t:=214) (ws:=List.replicate 5 0) σ;have hg:=(hb.2 g_z 214 (List.replicate 5 0) σ).1;refine wpList_store_row rfl _ _ _ rfl g_z (xE res) rfl rfl _ (xE (List.replicate 5 0)) hz I_res.o Z_res.o (xR _) ?_
  repeat go_step
  refine RG.xB ?_;exact⟨xP,ι ⟨λh=>(by cases h),λ_=>⟨below_setRow hb.1 hg _,setRow_heap _ _ _ _ _ _ hz⟩⟩⟩
 ·rfl
 refine RG.xY (λw9 hw9=>?_);obtain⟨hbl,hres⟩:=hw9.o.2 rfl;have HBL:=ι hbl;have HRS:=ι hres;clear hw9 hbl hres;go_wp2;refine bodyPost_ret (results_cell_row rfl _ _ g_z _ _ (0,0) _ rfl HRS.o underlying214 rfl I_res.o) rfl ?_;rw[HE.o];exact⟨rfl,HBL.o⟩
end Go.Proofs.FE
namespace Mailsack
def yAm (x z:List Int):List Int:=xFt x z
def yAn (x z:List Int):List Int:=xFr x z
def stS2 (x z:List Int):List Int:=uA (yAm x z) (yAm x z)
def stD2 (x z:List Int):List Int:=uA (yAn x z) (yAn x z)
def stE (x z:List Int):List Int:=xFr (stS2 x z) (stD2 x z)
def stDA (x1 z1 x2 z2:List Int):List Int:=uA (xFr x2 z2) (yAm x1 z1)
def stCB (x1 z1 x2 z2:List Int):List Int:=uA (xFt x2 z2) (yAn x1 z1)
def stP (x1 z1 x2 z2:List Int):List Int:=xFt (stDA x1 z1 x2 z2) (stCB x1 z1 x2 z2)
def stM (x1 z1 x2 z2:List Int):List Int:=xFr (stDA x1 z1 x2 z2) (stCB x1 z1 x2 z2)
def stX2 (x1 z1:List Int):List Int:=uA (stS2 x1 z1) (stD2 x1 z1)
def stZ2 (x1 z1:List Int):List Int:=uA (stE x1 z1) (xFt (stS2 x1 z1) (xCw (stE x1 z1) 121665))
def stX3 (x1 z1 x2 z2:List Int):List Int:=uA (stP x1 z1 x2 z2) (stP x1 z1 x2 z2)
def stZ3 (u x1 z1 x2 z2:List Int):List Int:=uA u (uA (stM x1 z1 x2 z2) (stM x1 z1 x2 z2))
end Mailsack
namespace Go.Proofs.FE
open Go.RowKit Mailsack MM BB SH
def J2 (w:World) (B:List (Nat×TypeId×List Int)) (n s n' s':Nat) (t:TypeId) (zs v v':List Int) (L:Nat->Bool) (α:RG.Pl) (W:World):Prop:=
 J1 w B n s t zs v L α W/\J1 w B n' s' t zs v' L α W/\(L n=true->L n'=true->α n≠α n')
section
variable {w W W':World} {B:List (Nat×TypeId×List Int)} {n s n' s':Nat} {t:TypeId} {zs v v':List Int} {L:Nat->Bool} {α:RG.Pl}
theorem J2.congr {L':Nat->Bool} {α':RG.Pl} (hn:L n=L' n) (hs:L s=L' s) (ha:L n=true->α n=α' n) (hn':L n'=L' n') (hs':L s'=L' s') (ha':L n'=true->α n'=α' n') (h:J2 w B n s n' s' t zs v v' L α W):J2 w B n s n' s' t zs v v' L' α' W:=
 ⟨h.1.congr hn hs ha,h.2.1.congr hn' hs' ha',λh1 h2=>by rw[<-hn] at h1;rw[<-hn'] at h2;rw[<-ha h1,<-ha' h2];exact h.2.2 h1 h2⟩
theorem J2.start (h:Bag w B W):J2 w B n s n' s' t zs v v' (λ_=>false) α W.drew:=⟨J1.start h,J1.start h,λh=>by cases h⟩
theorem J2.below (h:J2 w B n s n' s' t zs v v' L α W) (hb:ψ W W'):J2 w B n s n' s' t zs v v' L α W':=⟨h.1.below hb,h.2.1.below hb,h.2.2⟩
theorem J1.xTy (h:J1 w B n s t zs v L α W) {m:Nat} (hm:n≠m) (hs:s≠m) (o:Obj):J1 w B n s t zs v (λj=>j==m||L j) (RG.xLs α m W.heap.size) (W.alloc o):=by
 have h2:=h.below (W':=W.alloc o) ((Below.refl _ W).alloc ν o);refine h2.congr ?_ ?_ (λ_=>?_)
 ·show L n=(n==m||L n);rw[show(n==m)=false by simpa using hm,Bool.false_or]
 ·show L s=(s==m||L s);rw[show(s==m)=false by simpa using hs,Bool.false_or]
 ·rw[RG.xA5 _ _ _ hm]
theorem J2.newA (h:J2 w B n s n' s' t zs v v' L α W) (hs:L s=false) (h1:s≠n) (h2:n'≠n) (h3:s'≠n):J2 w B n s n' s' t zs v v' (λj=>j==n||L j) (RG.xLs α n W.heap.size) (W.alloc (.cells (xE zs) t)):=
 ⟨h.1.new hs h1,h.2.1.xTy h2 h3 _,λ_ hb=>by
  have hb':L n'=true:=by simpa[h2] using hb
  rw[RG.xBq,RG.xA5 _ _ _ h2];have:=xJ (h.2.1.2 hb').2.2.blk;omega⟩
theorem J2.newB (h:J2 w B n s n' s' t zs v v' L α W) (hs:L s'=false) (h1:s'≠n') (h2:n≠n') (h3:s≠n'):J2 w B n s n' s' t zs v v' (λj=>j==n'||L j) (RG.xLs α n' W.heap.size) (W.alloc (.cells (xE zs) t)):=
 ⟨h.1.xTy h2 h3 _,h.2.1.new hs h1,λhb _=>by
  have hb':L n=true:=by simpa[h2] using hb
  rw[RG.xBq,RG.xA5 _ _ _ h2];have:=xJ (h.1.2 hb').2.2.blk;omega⟩
theorem J1.xNx (h:J1 w B n s t zs v L α W) {m g:Nat} (hm:n≠m) (hs:s≠m) (hg:w.heap.size<=g) (hf:∀g' t ws,(g',t,ws)∈B->g'≠g) (hne:L n=true->α n≠g) (cs:Array Value):J1 w B n s t zs v (λj=>j==m||L j) α (W.setRow g cs):=by
 refine⟨h.1.far hg hf _,λh1=>?_⟩;have h1':L n=true:=by simpa[hm] using h1
 obtain⟨a1,a2,a3⟩:=h.2 h1';refine⟨a1,a2,?_⟩;rw[show(λj=>j==m||L j) s=L s by show(s==m||L s)=L s;rw[show(s==m)=false by simpa using hs,Bool.false_or]];exact(setRow_other _ _ _ _ (hne h1')).trans a3
theorem J2.fillA (h:J2 w B n s n' s' t zs v v' L α W) (hn:L n=true) (h1:n'≠s) (h2:s'≠s):J2 w B n s n' s' t zs v v' (λj=>j==s||L j) α (W.setRow (α n) (xE v)):=
 ⟨h.1.fill hn,h.2.1.xNx h1 h2 (h.1.2 hn).2.1 (h.1.2 hn).1 (λhb e=>h.2.2 hn hb e.symm) _,λ_ hb=>h.2.2 hn (by simpa[h1] using hb)⟩
theorem J2.fillB (h:J2 w B n s n' s' t zs v v' L α W) (hn:L n'=true) (h1:n≠s') (h2:s≠s'):J2 w B n s n' s' t zs v v' (λj=>j==s'||L j) α (W.setRow (α n') (xE v')):=
 ⟨h.1.xNx h1 h2 (h.2.1.2 hn).2.1 (h.2.1.2 hn).1 (λhb e=>h.2.2 hb hn e) _,h.2.1.fill hn,λhb _=>h.2.2 (by simpa[h1] using hb) hn⟩
theorem J2.done (h:J2 w B n s n' s' t zs v v' (λ_=>true) α W):Bag w ((α n',t,v')::(α n,t,v)::B) W:=by
 obtain⟨a1,a2,a3⟩:=h.2.1.2 rfl;rw[if_pos rfl] at a3;exact h.1.done.cons a2 a3
end
section
variable {md:Region.Mode} {ops:Array Oper} {E N:List Nat} {J:(Nat->Bool)->RG.Pl->World->Prop} {K:RG.Pl->Act->Prop} {a A:RG.Pl->Act} {v:Value} {i:Nat} {o:Oper} {os:List Oper}
theorem aP (h2:RG.zQ prog ops md E N J K os (i+1) A) (hi:N.contains i=false:=by rfl) (he:E.contains i=false:=by rfl) (h:∀α L w,L i=false->RG.closed ops md L->RG.closed ops md (λj=>j==i||L j)->J L α w->wpList prog ops (RG.Only (J L α) (A α)) [o] (a α) w:=by
 intro α L w9 h0 hcl xP hw9
 first
 |refine zC rfl _ _ rfl _ 0 rfl (xE _) _ (xC7 (Bag.get (J1.bag hw9.o) (by repeat (first|exact List.Mem.head _|apply List.Mem.tail)))) underlying214 rfl (Hid.o (by with_reducible assumption)) ?_
 |refine zC rfl _ _ rfl _ 0 rfl (xE _) _ (xC7 (Bag.get (J1.bag hw9.o.1) (by repeat (first|exact List.Mem.head _|apply List.Mem.tail)))) underlying214 rfl (Hid.o (by with_reducible assumption)) ?_
 |refine zC rfl _ _ rfl _ 5 rfl (xE _) _ (xC6 (Bag.get (J1.bag hw9.o) (by repeat (first|exact List.Mem.head _|apply List.Mem.tail))) (Hid.o (by with_reducible assumption))) underlying214 rfl (Hid.o (by with_reducible assumption)) ?_
 |refine zC rfl _ _ rfl _ 5 rfl (xE _) _ (xC6 (Bag.get (J1.bag hw9.o.1) (by repeat (first|exact List.Mem.head _|apply List.Mem.tail))) (Hid.o (by with_reducible assumption))) underlying214 rfl (Hid.o (by with_reducible assumption)) ?_
 repeat go_step
 exact RG.xB hw9) (hd:∀α,A α=(a α).put o.dst v:=by intro α;rfl):RG.zQ prog ops md E N J K (o::os) i a:=RG.kX hi he h hd h2
theorem det2 {id:Nat} {l:List Oper} {a:Act} {W0 w:World} {Q:Exit->Act->World->Prop} {B:List (Nat×TypeId×List Int)} (n s n' s':Nat) (t:TypeId) (zs v v':List Int) (H0:Hid (Bag w B W0))
  (h:RG.zQ prog l.toArray .any [s,s'] [n,n'] (λL α W=>Hid (J2 w B n s n' s' t zs v v' L α W)) (λα a=>∀w9,Hid (J2 w B n s n' s' t zs v v' (λ_=>true) α w9)->Q .normal a w9) l 0 (λ_=>a)) (hm:prog.follows .mixedOrders=true:=by kernel_rfl) (hf:RG.fits .any l.toArray=true:=by kernel_rfl) (hE:(([s,s']++[n,n']).all λe=>decide (e<l.length))=true:=by kernel_rfl):
  (Code.region id l.toArray true).wp prog Q a W0:=
 RG.xAj [s,s'] [n,n'] (λL α W=>Hid (J2 w B n s n' s' t zs v v' L α W)) (λL L' α α' W hl ha h=>ι (J2.congr (hl n σ) (hl s σ) (ha n σ) (hl n' σ) (hl s' σ) (ha n' σ) h.o)) hm hf hE (ι (J2.start H0.o)) h
end
structure FoG (t:TypeId) (w:World) (ga gb gr gs:Nat) (ax bx rx sx:List Int) (W:World):Prop where
 ba:uB t W ga ax
 bb:uB t W gb bx
 br:uB t W gr rx
 bs:uB t W gs sx
 bel:ψ w W
 ne:ga≠gr/\gb≠gr/\gs≠gr/\ga≠gs/\gb≠gs/\w.heap.size<=gr/\w.heap.size<=gs
section
variable {t:TypeId} {w W W':World} {ga gb gr gs:Nat} {ax bx rx sx:List Int}
theorem FoG.drew (h:FoG t w ga gb gr gs ax bx rx sx W):FoG t w ga gb gr gs ax bx rx sx W.drew:=⟨h.ba,h.bb,h.br,h.bs,h.bel.drew,h.ne⟩
theorem FoG.rowR (h:FoG t w ga gb gr gs ax bx rx sx W) (xs:List Int):FoG t w ga gb gr gs ax bx xs sx (W.setRow gr (xE xs)):=by
 obtain⟨n1,n2,n3,n4,n5,n6,n7⟩:=h.ne;exact⟨(setRow_other _ _ _ _ n1).trans h.ba,(setRow_other _ _ _ _ n2).trans h.bb,setRow_heap _ _ _ _ _ _ h.br,(setRow_other _ _ _ _ n3).trans h.bs,below_setRow h.bel n6 _,h.ne⟩
theorem FoG.rowS (h:FoG t w ga gb gr gs ax bx rx sx W) (xs:List Int):FoG t w ga gb gr gs ax bx rx xs (W.setRow gs (xE xs)):=by
 obtain⟨n1,n2,n3,n4,n5,n6,n7⟩:=h.ne;exact⟨(setRow_other _ _ _ _ n4).trans h.ba,(setRow_other _ _ _ _ n5).trans h.bb,(setRow_other _ _ _ _ (Ne.symm n3)).trans h.br,setRow_heap _ _ _ _ _ _ h.bs,below_setRow h.bel n7 _,h.ne⟩
end
theorem xCz {x z:List Int} (hx:x.length=5) (hz:z.length=5):prog.built 218 [(0,.agg (xE x)),(1,.agg (xE z))]=some (xE (x++z)):=by
 obtain⟨a,b,c,d,e,rfl⟩:=xCv hx;obtain⟨a',b',c',d',e',rfl⟩:=xCv hz
 kernel_rfl
theorem xNe (x y:List Int) (hx:x.length=5) (ux:yE x) (hy:y.length=5) (uy:yE y):∃v,Hid (∀W,Calls prog 246 #[.agg (xE x),.agg (xE y)] W λe w'=>e=.returned (.agg (xE v))/\ψ W w')/\v=xFt x y/\v.length=5/\yE v:=
 ⟨_,ι (λW=>xBa _ _ W hx ux hy uy),rfl,xUu _ _,yC1 _ _⟩
theorem xNd (x y:List Int) (hx:x.length=5) (ux:yE x) (hy:y.length=5) (uy:yE y):∃v,Hid (∀W,Calls prog 247 #[.agg (xE x),.agg (xE y)] W λe w'=>e=.returned (.agg (xE v))/\ψ W w')/\v=xFr x y/\v.length=5/\yE v:=
 ⟨_,ι (λW=>yAk _ _ W hx ux hy uy),rfl,xUr _ _,yBz _ _⟩
theorem xBt (x y:List Int) (hx:x.length=5) (ux:yE x) (hy:y.length=5) (uy:yE y):∃v,Hid (∀W,Calls prog 161 #[.agg (xE x),.agg (xE y)] W λe w'=>e=.returned (.agg (xE v))/\ψ W w')/\v=uA x y/\v.length=5/\yE v:=
 ⟨_,ι (λW=>tT _ _ W hx ux hy uy),rfl,uM _ _,qC _ _⟩
theorem xXk (x:List Int) (hx:x.length=5) (ux:yE x):∃v,Hid (∀W,Calls prog 248 #[.agg (xE x),.int .u32 121665] W λe w'=>e=.returned (.agg (xE v))/\ψ W w')/\v=xCw x 121665/\v.length=5/\yE v:=
 ⟨_,ι (λW=>xSm _ _ W hx ux δ δ),rfl,uM _ _,qC _ _⟩
theorem rU (x z:List Int) (h:x.length=5) (h2:z.length=5):Hid ((prog.info? 218).map (·.size)=some (xE (x++z)).size):=ι (xY2 h h2)
theorem psame (x z:List Int) (h:x.length=5) (h2:z.length=5):Hid ((xE (List.replicate 10 0)).size=(xE (x++z)).size):=ι (by rw[xQ,xQ,List.length_append,h,h2];rfl)
theorem xX0 (u x1 z1 x2 z2:List Int) (w:World) (l_u:u.length=5) (u_u:yE u) (l_x1:x1.length=5) (u_x1:yE x1) (l_z1:z1.length=5) (u_z1:yE z1) (l_x2:x2.length=5) (u_x2:yE x2) (l_z2:z2.length=5) (u_z2:yE z2):
  Calls prog 159 #[.agg (xE u),.agg (xE (x1++z1)),.agg (xE (x2++z2))] w λe w'=>e=.returned (.tuple #[.agg (xE (stX2 x1 z1++stZ2 x1 z1)),.agg (xE (stX3 x1 z1 x2 z2++stZ3 u x1 z1 x2 z2))])/\ψ w w':=by
 obtain⟨su,C_su,E_su,l_su,u_su⟩:=xNe x1 z1 l_x1 u_x1 l_z1 u_z1;obtain⟨di,C_di,E_di,l_di,u_di⟩:=xNd x1 z1 l_x1 u_x1 l_z1 u_z1;obtain⟨s2,C_s2,E_s2,l_s2,u_s2⟩:=xBt su su l_su u_su l_su u_su;obtain⟨d2,C_d2,E_d2,l_d2,u_d2⟩:=xBt di di l_di u_di l_di u_di
 obtain⟨ee,C_ee,E_ee,l_ee,u_ee⟩:=xNd s2 d2 l_s2 u_s2 l_d2 u_d2;obtain⟨qd,C_qd,E_qd,l_qd,u_qd⟩:=xNd x2 z2 l_x2 u_x2 l_z2 u_z2;obtain⟨da,C_da,E_da,l_da,u_da⟩:=xBt qd su l_qd u_qd l_su u_su;obtain⟨qs,C_qs,E_qs,l_qs,u_qs⟩:=xNe x2 z2 l_x2 u_x2 l_z2 u_z2
 obtain⟨cb,C_cb,E_cb,l_cb,u_cb⟩:=xBt qs di l_qs u_qs l_di u_di;obtain⟨pl,C_pl,E_pl,l_pl,u_pl⟩:=xNe da cb l_da u_da l_cb u_cb;obtain⟨mi,C_mi,E_mi,l_mi,u_mi⟩:=xNd da cb l_da u_da l_cb u_cb;obtain⟨X2,C_X2,E_X2,l_X2,u_X2⟩:=xBt s2 d2 l_s2 u_s2 l_d2 u_d2
 obtain⟨sm,C_sm,E_sm,l_sm,u_sm⟩:=xXk ee l_ee u_ee;obtain⟨ad,C_ad,E_ad,l_ad,u_ad⟩:=xNe s2 sm l_s2 u_s2 l_sm u_sm;obtain⟨Z2,C_Z2,E_Z2,l_Z2,u_Z2⟩:=xBt ee ad l_ee u_ee l_ad u_ad;obtain⟨X3,C_X3,E_X3,l_X3,u_X3⟩:=xBt pl pl l_pl u_pl l_pl u_pl
 obtain⟨mm,C_mm,E_mm,l_mm,u_mm⟩:=xBt mi mi l_mi u_mi l_mi u_mi;obtain⟨Z3,C_Z3,E_Z3,l_Z3,u_Z3⟩:=xBt u mm l_u u_u l_mm u_mm;have I_u:=yU u l_u;have I_x1:=yU x1 l_x1;have I_z1:=yU z1 l_z1;have I_x2:=yU x2 l_x2;have I_z2:=yU z2 l_z2;have I_su:=yU su l_su;have I_di:=yU di l_di
 have I_s2:=yU s2 l_s2;have I_d2:=yU d2 l_d2;have I_ee:=yU ee l_ee;have I_qd:=yU qd l_qd;have I_da:=yU da l_da;have I_qs:=yU qs l_qs;have I_cb:=yU cb l_cb;have I_pl:=yU pl l_pl;have I_mi:=yU mi l_mi;have I_X2:=yU X2 l_X2;have I_sm:=yU sm l_sm;have I_ad:=yU ad l_ad
 have I_Z2:=yU Z2 l_Z2;have I_X3:=yU X3 l_X3;have I_mm:=yU mm l_mm;have I_Z3:=yU Z3 l_Z3;have Z_su:=uJ su l_su;have Z_di:=uJ di l_di;have Z_s2:=uJ s2 l_s2;have Z_d2:=uJ d2 l_d2;have Z_ee:=uJ ee l_ee;have Z_qd:=uJ qd l_qd;have Z_da:=uJ da l_da;have Z_qs:=uJ qs l_qs
 have Z_cb:=uJ cb l_cb;have Z_pl:=uJ pl l_pl;have Z_mi:=uJ mi l_mi;have Z_X2:=uJ X2 l_X2;have Z_sm:=uJ sm l_sm;have Z_ad:=uJ ad l_ad;have Z_Z2:=uJ Z2 l_Z2;have Z_X3:=uJ X3 l_X3;have Z_mm:=uJ mm l_mm;have Z_Z3:=uJ Z3 l_Z3;have IP:=rU X2 Z2 l_X2 l_Z2;have IQ:=rU X3 Z3 l_X3 l_Z3
 have ZP:=psame X2 Z2 l_X2 l_Z2;have ZQ:=psame X3 Z3 l_X3 l_Z3;have BP:=ι (xCz l_X2 l_Z2);have BQ:=ι (xCz l_X3 l_Z3);have HL1:=ι l_x1;have HL2:=ι l_x2
 have HE:Hid (stX2 x1 z1++stZ2 x1 z1=X2++Z2/\stX3 x1 z1 x2 z2++stZ3 u x1 z1 x2 z2=X3++Z3):=ι (by
  subst E_su E_di E_s2 E_d2 E_ee E_qd E_da E_qs E_cb E_pl E_mi E_X2 E_sm E_ad E_Z2 E_X3 E_mm E_Z3;exact⟨rfl,rfl⟩)
 clear E_su l_su u_su E_di l_di u_di E_s2 l_s2 u_s2 E_d2 l_d2 u_d2 E_ee l_ee u_ee E_qd l_qd u_qd E_da l_da u_da E_qs l_qs u_qs E_cb l_cb u_cb E_pl l_pl u_pl E_mi l_mi u_mi E_X2 l_X2 u_X2 E_sm l_sm u_sm E_ad l_ad u_ad E_Z2 l_Z2 u_Z2 E_X3 l_X3 u_X3 E_mm l_mm u_mm E_Z3 l_Z3 u_Z3 l_u u_u l_x1 u_x1 l_z1 u_z1 l_x2 u_x2 l_z2 u_z2
 rw[HE.o.1,HE.o.2];clear HE
 have H0:Hid (Bag w [(w.heap.size+1+1+1+1,218,List.replicate 10 0),(w.heap.size+1+1+1,218,List.replicate 10 0),(w.heap.size+1+1,218,x2++z2),(w.heap.size+1,218,x1++z1),(w.heap.size,214,u)] (((((w.alloc (.cells (xE u) 214)).alloc (.cells (xE (x1++z1)) 218)).alloc (.cells (xE (x2++z2)) 218)).alloc (.cells (xE (List.replicate 10 0)) 218)).alloc (.cells (xE (List.replicate 10 0)) 218))):=ι (by
  have h:Bag w [] w:=⟨Below.refl _ _,λ_ _ _ h=>by cases h⟩;have h2:=((((h.new 214 u).new 218 (x1++z1)).new 218 (x2++z2)).new 218 (List.replicate 10 0)).new 218 (List.replicate 10 0);simp only[uQ] at h2;exact h2)
 obtain⟨g_s,hgs⟩:∃g,w.heap.size+1+1+1+1=g:=⟨_,rfl⟩;obtain⟨g_r,hgr⟩:∃g,w.heap.size+1+1+1=g:=⟨_,rfl⟩;obtain⟨g_q,hgq⟩:∃g,w.heap.size+1+1=g:=⟨_,rfl⟩;obtain⟨g_p,hgp⟩:∃g,w.heap.size+1=g:=⟨_,rfl⟩;obtain⟨g_u,hgu⟩:∃g,w.heap.size=g:=⟨_,rfl⟩
 have HG:Hid (w.heap.size+1+1+1+1=g_s/\w.heap.size+1+1+1=g_r/\w.heap.size+1+1=g_q/\w.heap.size+1=g_p/\w.heap.size=g_u):=ι ⟨hgs,hgr,hgq,hgp,hgu⟩;clear hgs hgr hgq hgp hgu;go_enter func159,ntmps159;go_upto_region 1 with fail
 rw[HG.o.1,HG.o.2.1,HG.o.2.2.1,HG.o.2.2.2.1,HG.o.2.2.2.2];rw[HG.o.1,HG.o.2.1,HG.o.2.2.1,HG.o.2.2.2.1,HG.o.2.2.2.2] at H0;refine(λ(h:∀W3,Hid (Bag w _ W3)->Code.wp _ _ _ _ W3)=>h _ H0) ?_;clear H0;intro W0 H0;refine det2 10 12 11 13 214 (List.replicate 5 0) su di H0 ?_;clear H0
 refine RG.aS ?_;refine aP ?_;refine RG.aS ?_;refine aP ?_;refine aC ?_;refine RG.aS ?_;refine aP ?_;refine RG.aS ?_;refine aP ?_;refine aC ?_;refine aN 4 12 ?_;refine aN 4 13 ?_;refine aT 4 10 ?_;refine aT 4 11 ?_;refine RG.wK (λα w4 hw4=>?_);have H0:=ι hw4.o.done;clear hw4
 simp only[Nat.zero_add,Nat.reduceAdd];generalize α 10=g_su at H0⊢;generalize α 11=g_di at H0⊢;go_upto_region 2 with fail
 refine det2 6 8 7 9 214 (List.replicate 5 0) s2 d2 H0 ?_;clear H0;refine aL ?_;refine aL ?_;refine aC ?_;refine aL ?_;refine aL ?_;refine aC ?_;refine aN 4 8 ?_;refine aN 4 9 ?_;refine aT 4 6 ?_;refine aT 4 7 ?_;refine RG.wK (λα w4 hw4=>?_);have H0:=ι hw4.o.done;clear hw4
 simp only[Nat.zero_add,Nat.reduceAdd];generalize α 6=g_s2 at H0⊢;generalize α 7=g_d2 at H0⊢;go_upto_region 3 with fail
 refine wp_region_lit ?_;refine wpList_load_row rfl _ _ rfl g_s2 rfl _ (xE s2) (0,0) _ (H0.o.get (g:=g_s2) (t:=214) (ws:=s2) σ) underlying214 rfl I_s2.o ?_
 refine wpList_load_row rfl _ _ rfl g_d2 rfl _ (xE d2) (0,0) _ (H0.o.get (g:=g_d2) (t:=214) (ws:=d2) σ) underlying214 rfl I_d2.o ?_;repeat go_step
 refine(C_ee.o _).mono ?_;rintro e w7 ⟨rfl,hb7⟩;have H7:=H0.o.below hb7
 have H9:Bag w ((w7.heap.size,214,ee)::[(g_d2,214,d2),(g_s2,214,s2),(g_di,214,di),(g_su,214,su),(g_s,218,List.replicate 10 0),(g_r,218,List.replicate 10 0),(g_q,218,x2++z2),(g_p,218,x1++z1),(g_u,214,u)]) ((w7.alloc (.cells (xE (List.replicate 5 0)) 214)).setRow w7.heap.size (xE ee)):=((H7.alloc _).far H7.1.size (λg t ws hm=>Nat.ne_of_lt (H7.lt hm)) _).cons H7.1.size (setRow_heap _ _ _ _ _ _ (xI _ _))
 simp only[]
 rename ∀(a:Act) (w:World),wpList _ _ _ _ a w->_=>hk
 refine hk _ _ ?_;clear hk;iterate 3 go_step
 refine wpList_store_row rfl _ _ _ rfl w7.heap.size (xE ee) rfl rfl _ (xE (List.replicate 5 0)) (xI _ _) I_ee.o Z_ee.o (xR _) ?_
 refine(λ(h:∀W3,Hid (Bag w ((w7.heap.size,214,ee)::[(g_d2,214,d2),(g_s2,214,s2),(g_di,214,di),(g_su,214,su),(g_s,218,List.replicate 10 0),(g_r,218,List.replicate 10 0),(g_q,218,x2++z2),(g_p,218,x1++z1),(g_u,214,u)]) W3)->wpList _ _ _ _ _ W3)=>h _ (ι H9)) ?_;clear H7 H9 H0 hb7
 generalize w7.heap.size=g_ee;intro W3 H0;go_upto_region 4 with fail
 refine xQn 7 8 214 (List.replicate 5 0) (da) H0 ?_;clear H0;refine RG.aS ?_;refine aP ?_;refine RG.aS ?_;refine aP ?_;refine aC ?_;refine aL ?_;refine aC ?_;refine aN 3 8 ?_;refine aT 3 7 ?_;refine RG.wK (λα w4 hw4=>?_);have H0:=ι hw4.o.done;clear hw4
 simp only[Nat.zero_add,Nat.reduceAdd];generalize α 7=g_da at H0⊢;go_upto_region 5 with fail
 refine xQn 7 8 214 (List.replicate 5 0) (cb) H0 ?_;clear H0;refine RG.aS ?_;refine aP ?_;refine RG.aS ?_;refine aP ?_;refine aC ?_;refine aL ?_;refine aC ?_;refine aN 3 8 ?_;refine aT 3 7 ?_;refine RG.wK (λα w4 hw4=>?_);have H0:=ι hw4.o.done;clear hw4
 simp only[Nat.zero_add,Nat.reduceAdd];generalize α 7=g_cb at H0⊢;go_upto_region 6 with fail
 refine det2 6 8 7 9 214 (List.replicate 5 0) pl mi H0 ?_;clear H0;refine aL ?_;refine aL ?_;refine aC ?_;refine aL ?_;refine aL ?_;refine aC ?_;refine aN 4 8 ?_;refine aN 4 9 ?_;refine aT 4 6 ?_;refine aT 4 7 ?_;refine RG.wK (λα w4 hw4=>?_);have H0:=ι hw4.o.done;clear hw4
 simp only[Nat.zero_add,Nat.reduceAdd];generalize α 6=g_pl at H0⊢;generalize α 7=g_mi at H0⊢;go_upto_region 7 with fail
 refine xQn 10 11 218 (List.replicate 10 0) (X2++Z2) H0 ?_;clear H0;refine aL ?_;refine aL ?_;refine aC ?_;refine aL ?_;refine aL ?_;refine aL ?_;refine aC ?_;refine aC ?_;refine aC ?_;apply RG.kX
 ·rfl
 ·rfl
 ·intro α L w9 h0 hcl xP hw9;refine wpList_buildTo rfl _ _ rfl _ rfl (xE (X2++Z2)) (by rw[List.map_toArray];exact BP.o) ?_;repeat go_step
  exact RG.xB hw9
 ·intro α;rfl
 refine aN 3 11 ?_;refine aT 3 10 ?_;refine RG.wK (λα w4 hw4=>?_);have yCj:=ι (And.intro ((hw4.o.2 rfl).1 g_r 218 (List.replicate 10 0) σ) ((hw4.o.2 rfl).1 g_s 218 (List.replicate 10 0) σ));have H0:=ι hw4.o.done;clear hw4;simp only[Nat.zero_add,Nat.reduceAdd]
 generalize α 10=g_a at yCj H0⊢;go_upto_region 8 with fail
 refine xQn 9 10 218 (List.replicate 10 0) (X3++Z3) H0 ?_;clear H0;refine aL ?_;refine aL ?_;refine aC ?_;refine aL ?_;refine aL ?_;refine aL ?_;refine aC ?_;refine aC ?_;apply RG.kX
 ·rfl
 ·rfl
 ·intro α L w9 h0 hcl xP hw9;refine wpList_buildTo rfl _ _ rfl _ rfl (xE (X3++Z3)) (by rw[List.map_toArray];exact BQ.o) ?_;repeat go_step
  exact RG.xB hw9
 ·intro α;rfl
 refine aN 3 10 ?_;refine aT 3 9 ?_;refine RG.wK (λα w4 hw4=>?_);have yCi:=ι (And.intro ((hw4.o.2 rfl).1 g_r 218 (List.replicate 10 0) σ) ((hw4.o.2 rfl).1 g_s 218 (List.replicate 10 0) σ));have H0:=ι hw4.o.done;clear hw4;simp only[Nat.zero_add,Nat.reduceAdd]
 generalize α 9=g_b at yCi H0⊢
 have H6:Hid (FoG 218 w g_a g_b g_r g_s (X2++Z2) (X3++Z3) (List.replicate 10 0) (List.replicate 10 0) w4):=ι (by
  have h1:=HG.o.1;have h2:=HG.o.2.1;have hb:=H0.o
  exact⟨hb.get (g:=g_a) (t:=218) (ws:=X2++Z2) σ,hb.get (g:=g_b) (t:=218) (ws:=X3++Z3) σ,hb.get (g:=g_r) (t:=218) (ws:=List.replicate 10 0) σ,hb.get (g:=g_s) (t:=218) (ws:=List.replicate 10 0) σ,hb.1,Ne.symm yCj.o.1,Ne.symm yCi.o.1,ω,Ne.symm yCj.o.2,Ne.symm yCi.o.2,ω,ω⟩)
 clear H0;go_upto_region 9 with fail
 refine RG.yM 4 (λL W=>Hid (FoG 218 w g_a g_b g_r g_s (X2++Z2) (X3++Z3) (if L 2 then X2++Z2 else List.replicate 10 0) (if L 3 then X3++Z3 else List.replicate 10 0) W)) (λL L' W h hI=>by rw[<-h 2 δ,<-h 3 δ];exact hI) κ κ rfl (ι H6.o.drew) ?_;clear H6;apply RG.xN
 ·rfl
 ·rfl
 ·intro L w9 h0 hcl xP hw9;refine wpList_load_row rfl _ _ rfl g_a rfl _ (xE (X2++Z2)) (0,0) _ hw9.o.ba underlying218 rfl IP.o ?_;repeat go_step
  refine RG.xB ?_;exact⟨xP,hw9⟩
 ·rfl
 apply RG.xN
 ·rfl
 ·rfl
 ·intro L w9 h0 hcl xP hw9;refine wpList_load_row rfl _ _ rfl g_b rfl _ (xE (X3++Z3)) (0,0) _ hw9.o.bb underlying218 rfl IQ.o ?_;repeat go_step
  refine RG.xB ?_;exact⟨xP,hw9⟩
 ·rfl
 apply RG.xN
 ·rfl
 ·rfl
 ·intro L w9 h0 hcl xP hw9;have hs9:=hw9.o;rw[h0,if_neg σ] at hs9;refine wpList_store_row rfl _ _ _ rfl g_r (xE (X2++Z2)) rfl rfl _ _ hs9.br IP.o ZP.o (xR _) ?_;repeat go_step
  refine RG.xB ?_;exact⟨xP,ι (hs9.rowR (X2++Z2))⟩
 ·rfl
 apply RG.xN
 ·rfl
 ·rfl
 ·intro L w9 h0 hcl xP hw9;have hs9:=hw9.o;rw[h0,if_neg (c:=false=true) σ] at hs9;refine wpList_store_row rfl _ _ _ rfl g_s (xE (X3++Z3)) rfl rfl _ _ hs9.bs IQ.o ZQ.o (xR _) ?_;repeat go_step
  refine RG.xB ?_;exact⟨xP,ι (hs9.rowS (X3++Z3))⟩
 ·rfl
 refine RG.xY (λw9 hw9=>?_);rw[if_pos rfl,if_pos rfl] at hw9;go_wp2;refine bodyPost_ret (wT rfl _ _ g_r g_s _ _ _ _ (0,0) (0,0) _ rfl rfl hw9.o.br hw9.o.bs underlying218 rfl IP.o IQ.o) rfl ?_;exact⟨rfl,hw9.o.bel⟩
end Go.Proofs.FE
namespace Mailsack
structure LdS where
 x2:List Int
 z2:List Int
 x3:List Int
 z3:List Int
 sw:Bool
structure LdOk (s:LdS):Prop where
 l1:s.x2.length=5
 u1:yE s.x2
 l2:s.z2.length=5
 u2:yE s.z2
 l3:s.x3.length=5
 u3:yE s.x3
 l4:s.z3.length=5
 u4:yE s.z3
def bitL (k:ByteArray) (t:Nat):Bool:=Go.bits .and .u8 (yO k (t / 8) / 2^(t % 8)) 1==1
def jO (s:LdS) (bit:Bool):LdS:=⟨if s.sw !=bit then s.x3 else s.x2,if s.sw !=bit then s.z3 else s.z2,if s.sw !=bit then s.x2 else s.x3,if s.sw !=bit then s.z2 else s.z3,bit⟩
def xTs (u:List Int) (s:LdS):LdS:=⟨stX2 s.x2 s.z2,stZ2 s.x2 s.z2,stX3 s.x2 s.z2 s.x3 s.z3,stZ3 u s.x2 s.z2 s.x3 s.z3,s.sw⟩
def ldI (k:ByteArray) (u:List Int):Nat->LdS
 |0=>⟨[1,0,0,0,0],List.replicate 5 0,u,[1,0,0,0,0],false⟩
 |n+1=>xTs u (jO (ldI k u n) (bitL k (254-n)))
theorem xTq {s:LdS} (h:LdOk s) (b:Bool):LdOk (jO s b):=by
 obtain⟨h1,h2,h3,h4,h5,h6,h7,h8⟩:=h;unfold jO;cases hq:(s.sw !=b)
 ·exact⟨h1,h2,h3,h4,h5,h6,h7,h8⟩
 ·exact⟨h5,h6,h7,h8,h1,h2,h3,h4⟩
theorem xTr (u:List Int) (s:LdS):LdOk (xTs u s):=⟨uM _ _,qC _ _,uM _ _,qC _ _,uM _ _,qC _ _,uM _ _,qC _ _⟩
theorem one_u:yE [1,0,0,0,0]:=xCg ⟨δ,δ⟩ ⟨δ,δ⟩ ⟨δ,δ⟩ ⟨δ,δ⟩ ⟨δ,δ⟩
theorem ldI_ok (k:ByteArray) {u:List Int} (h:u.length=5) (hu:yE u):∀n,LdOk (ldI k u n)
 |0=>⟨rfl,one_u,by simp[ldI],xAr 5,h,hu,rfl,one_u⟩
 |_+1=>xTr _ _
def yBa (s:LdS):ByteArray:=xB8 (uA (if s.sw then s.x3 else s.x2) (xFs (if s.sw then s.z3 else s.z2)))
def jK (k u:ByteArray):ByteArray:=yBa (ldI (xCd k) (xZs u) 255)
theorem xEm (k u:ByteArray):(jK k u).size=32:=xK7 _
def uV (k:ByteArray):ByteArray:=jK k xIj
end Mailsack
namespace Go.Proofs.FE
open Go.RowKit Mailsack MM BB SH
structure PtM (w:World) (g:Nat) (u p q:List Int) (W:World):Prop where
 bu:uB 214 W g u
 bp:uB 218 W (g+1) p
 bq:uB 218 W (g+1+1) q
 bel:ψ w W
 ge:w.heap.size<=g
section
variable {w W W':World} {g:Nat} {u p q:List Int}
theorem PtM.below (h:PtM w g u p q W) (hb:ψ W W'):PtM w g u p q W':=⟨h.bu.below hb,h.bp.below hb,h.bq.below hb,h.bel.trans (hb.mono h.bel.size),h.ge⟩
theorem PtM.drew (h:PtM w g u p q W):PtM w g u p q W.drew:=⟨h.bu,h.bp,h.bq,h.bel.drew,h.ge⟩
theorem PtM.rowP (h:PtM w g u p q W) (xs:List Int):PtM w g u xs q (W.setRow (g+1) (xE xs)):=by
 have hg:=h.ge;exact⟨(setRow_other _ _ _ _ ω).trans h.bu,setRow_heap _ _ _ _ _ _ h.bp,(setRow_other _ _ _ _ ω).trans h.bq,below_setRow h.bel ω _,hg⟩
theorem PtM.rowQ (h:PtM w g u p q W) (xs:List Int):PtM w g u p xs (W.setRow (g+1+1) (xE xs)):=by
 have hg:=h.ge;exact⟨(setRow_other _ _ _ _ ω).trans h.bu,(setRow_other _ _ _ _ ω).trans h.bp,setRow_heap _ _ _ _ _ _ h.bq,below_setRow h.bel ω _,hg⟩
end
theorem xPm (k u:ByteArray) (w:World) (hk:k.size≠32):
  Calls prog 80 #[.string k,.string u] w λe w'=>e=.returned (.tuple #[.string ⟨#[]⟩,.bool false])/\ψ w w':=by
 have HC:=ι (xVc k w hk);clear hk;go_enter func80,ntmps80;go_wp2_with fail
 refine HC.o.mono ?_;rintro e w1 ⟨rfl,rfl⟩;go_wp2;go_ret2;exact⟨rfl,Below.refl _ _⟩
theorem xJk (k u:ByteArray) (w:World) (hk:k.size=32) (hu:u.size=32):
  Calls prog 80 #[.string k,.string u] w λe w'=>e=.returned (.tuple #[.string (jK k u),.bool true])/\ψ w w':=by
 have HC:=ι (xF9 k w hk);have HO:=ι (λW=>of_any u W hu);have HKZ:Hid ((xCd k).size=32):=ι ((xMr k).trans hk);have hsl:=xYf u;have hsu:=feOf_u u;have HP:Hid (∀n,n=255->jK k u=yBa (ldI (xCd k) (xZs u) n)):=ι (λn hn=>by rw[hn];rfl);generalize jK k u=res at HP⊢
 generalize xZs u=su at HO hsl hsu HP;generalize xCd k=ck at HC HKZ HP;have HOK:=ι (λn=>ldI_ok ck hsl hsu n);have Iu:=yU su hsl;have Zu:=uJ su hsl;have HLU:=ι hsl;have HUU:=ι hsu
 have BQ:Hid (prog.built 218 [(0,.agg (xE su)),(1,.agg #[.int .u64 1,.int .u64 0,.int .u64 0,.int .u64 0,.int .u64 0])]=some (xE (su++[1,0,0,0,0]))):=ι (xCz hsl (z:=[1,0,0,0,0]) rfl);clear hk hu hsl hsu;go_enter func80,ntmps80;go_wp2_with fail
 refine HC.o.mono ?_;rintro e w1 ⟨rfl,hb1⟩;go_wp2_with fail
 refine(HO.o _).mono ?_;rintro e w2 ⟨rfl,hb2⟩;have HB:=ι (hb1.trans (hb2.mono hb1.size));clear hb1 hb2 HC HO;have h1:=setRow_heap _ w2.heap.size _ (xE su) _ _ (xI w2 (.cells (xE (List.replicate 5 0)) 214))
 have hz1:((w2.alloc (.cells (xE (List.replicate 5 0)) 214)).setRow w2.heap.size (xE su)).heap.size=w2.heap.size+1:=by rw[setRow_size,uQ]
 have hb1:ψ w ((w2.alloc (.cells (xE (List.replicate 5 0)) 214)).setRow w2.heap.size (xE su)):=below_setRow (HB.o.alloc HB.o.size _) HB.o.size _
 have h2:=xI ((w2.alloc (.cells (xE (List.replicate 5 0)) 214)).setRow w2.heap.size (xE su)) (.cells (xE ([1,0,0,0,0]++List.replicate 5 0)) 218);rw[hz1] at h2
 have H3:Hid (uB 214 (((w2.alloc (.cells (xE (List.replicate 5 0)) 214)).setRow w2.heap.size (xE su)).alloc (.cells (xE ([1,0,0,0,0]++List.replicate 5 0)) 218)) w2.heap.size su/\uB 218 (((w2.alloc (.cells (xE (List.replicate 5 0)) 214)).setRow w2.heap.size (xE su)).alloc (.cells (xE ([1,0,0,0,0]++List.replicate 5 0)) 218)) (w2.heap.size+1) ([1,0,0,0,0]++List.replicate 5 0)/\ψ w (((w2.alloc (.cells (xE (List.replicate 5 0)) 214)).setRow w2.heap.size (xE su)).alloc (.cells (xE ([1,0,0,0,0]++List.replicate 5 0)) 218))/\(((w2.alloc (.cells (xE (List.replicate 5 0)) 214)).setRow w2.heap.size (xE su)).alloc (.cells (xE ([1,0,0,0,0]++List.replicate 5 0)) 218)).heap.size=w2.heap.size+1+1/\w.heap.size<=w2.heap.size):=ι ⟨xM h1 _,h2,hb1.alloc (by rw[hz1];have:=HB.o.size;omega) _,by rw[uQ,hz1],HB.o.size⟩
 clear h1 hz1 hb1 h2 HB;go_upto_region 8 with (refine wpList_store_row rfl _ _ _ rfl w2.heap.size (xE su) rfl rfl _ (xE (List.replicate 5 0)) (xI _ _) Iu.o Zu.o (xR _) ?_)
 refine(λ(h:∀W3,Hid (uB 214 W3 w2.heap.size su/\uB 218 W3 (w2.heap.size+1) ([1,0,0,0,0]++List.replicate 5 0)/\ψ w W3/\W3.heap.size=w2.heap.size+1+1/\w.heap.size<=w2.heap.size)->Code.wp _ _ _ _ W3)=>h _ H3) ?_;clear H3;generalize w2.heap.size=g;intro W3 H3;have HZ3:=ι H3.o.2.2.2.1
 have h4:=xI W3 (.cells (xE (List.replicate 10 0)) 218);rw[HZ3.o] at h4
 have H4:Hid (PtM w g su ([1,0,0,0,0]++List.replicate 5 0) (List.replicate 10 0) (W3.alloc (.cells (xE (List.replicate 10 0)) 218))):=ι ⟨xM H3.o.1 _,xM H3.o.2.1 _,h4,H3.o.2.2.1.alloc H3.o.2.2.1.size _,H3.o.2.2.2.2⟩;clear h4;refine wp_region_lit ?_
 refine wpList_load_row rfl _ _ rfl g rfl _ (xE su) (0,0) _ H3.o.1 underlying214 rfl Iu.o ?_;iterate 3 go_step
 refine wpList_buildTo rfl _ _ rfl _ rfl (xE (su++[1,0,0,0,0])) (by rw[List.map_toArray];exact BQ.o) ?_;iterate 3 go_step
 rw[HZ3.o];refine wpList_store_row rfl _ _ _ rfl (g+1+1) (xE (su++[1,0,0,0,0])) rfl rfl _ (xE (List.replicate 10 0)) H4.o.bq (xY2 HLU.o rfl) (by rw[xQ,xQ,List.length_append,HLU.o];rfl) (xR _) ?_;have H5:=H4.o.rowQ (su++[1,0,0,0,0])
 refine(λ(h:∀W3,Hid (PtM w g su ((ldI ck su 0).x2++(ldI ck su 0).z2) ((ldI ck su 0).x3++(ldI ck su 0).z3) W3)->wpList _ _ _ _ _ W3)=>h _ (ι H5)) ?_;clear H3 H4 H5 HZ3 BQ;intro W5 H5;have HS0:Hid ((ldI ck su 0).sw=false):=ι rfl;go_wp2_with fail
 go_loopw [11,12] (λsv tv W=>∃n m:Nat,n+m=255/\tv=.int .i64 ((m:Int)-1)/\sv=.bool (ldI ck su n).sw/\Hid (PtM w g su ((ldI ck su n).x2++(ldI ck su n).z2) ((ldI ck su n).x3++(ldI ck su n).z3) W)) (λ_ tv _=>(intOf tv+1).toNat)
 case atStart=>exact⟨0,255,rfl,rfl,by rw[HS0.o],H5⟩
 case round=>
  clear H5;obtain⟨n,m,hnm,rfl,rfl,hr⟩:=hrel;have hok:=HOK.o n
  by_cases hlt:0<m
  ·obtain⟨t,rfl⟩:∃t,m=t+1:=⟨m-1,ω⟩;have ht:(((t+1:Nat):Int))-1=(t:Int):=ω;rw[ht];have HN:Hid (ldI ck su (n+1)=xTs su (jO (ldI ck su n) (bitL ck t))):=ι (by rw[show t=254-n by omega];rfl)
   have HBT:Hid (∀q r,q=t / 8->r=t % 8->bitL ck t=(bits .and .u8 (yO ck q / 2^r) 1==1)):=ι (λq r hq hr=>by rw[hq,hr];rfl);obtain⟨q,hq⟩:∃q,q=t / 8:=⟨_,rfl⟩;obtain⟨r,hrr⟩:∃r,r=t % 8:=⟨_,rfl⟩
   replace HBT:=ι (HBT.o q r hq hrr)
   have hq4:q<32:=ω;have hr8:r<8:=ω;have hiq:(t:Int) / 8=(q:Int):=ω;have hir:(t:Int) % 8=(r:Int):=ω;have ht0:(0:Int)<=(t:Int):=ω;have ht255:(t:Int)<=255:=ω;have ix:=λw=>zG (P:=prog) underlying9 ck (q:Int) q rfl (by rw[HKZ.o];exact hq4) w;obtain⟨b0,b1⟩:=yZ ck q
   generalize yO ck q=c at ix b0 b1 HBT;obtain⟨bit,hbit⟩:∃bit,bitL ck t=bit:=⟨_,rfl⟩;rw[hbit] at HN HBT;clear hbit;obtain⟨sn,hsn⟩:∃s,ldI ck su (n+1)=s:=⟨_,rfl⟩;rw[hsn] at HN;have HSN:=ι hsn;clear hsn;generalize ldI ck su n=s at hr hok HN⊢;have HNM:=ι hnm;clear hq hrr ht hnm
   have hok2:=xTq hok bit
   have HSW:Hid (∀W,Calls prog 158 #[.agg (xE (s.x2++s.z2)),.agg (xE (s.x3++s.z3)),.bool (s.sw !=bit)] W λe w'=>e=.returned (.tuple #[.agg (xE ((jO s bit).x2++(jO s bit).z2)),.agg (xE ((jO s bit).x3++(jO s bit).z3))])/\ψ W w'):=ι (λW=>by
    have h:=xJv s.x2 s.z2 s.x3 s.z3 (s.sw !=bit) W hok.l1 hok.u1 hok.l2 hok.u2 hok.l3 hok.u3 hok.l4 hok.u4;have e1:(if (s.sw !=bit)=true then s.x3++s.z3 else s.x2++s.z2)=(jO s bit).x2++(jO s bit).z2:=by unfold jO;cases (s.sw !=bit)<;>rfl
    have e2:(if (s.sw !=bit)=true then s.x2++s.z2 else s.x3++s.z3)=(jO s bit).x3++(jO s bit).z3:=by unfold jO;cases (s.sw !=bit)<;>rfl
    rw[e1,e2] at h;exact h)
   have HSB:Hid (sn.sw=bit):=ι (by rw[HN.o];rfl);have I1:=rU s.x2 s.z2 hok.l1 hok.l2;have I2:=rU s.x3 s.z3 hok.l3 hok.l4;have hsn4:sn.x2.length=5/\sn.z2.length=5/\sn.x3.length=5/\sn.z3.length=5:=by rw[HN.o];exact⟨uM _ _,uM _ _,uM _ _,uM _ _⟩
   have HST:Hid (∀W,Calls prog 159 #[.agg (xE su),.agg (xE ((jO s bit).x2++(jO s bit).z2)),.agg (xE ((jO s bit).x3++(jO s bit).z3))] W λe w'=>e=.returned (.tuple #[.agg (xE (sn.x2++sn.z2)),.agg (xE (sn.x3++sn.z3))])/\ψ W w'):=ι (λW=>by
    rw[HN.o];exact xX0 su _ _ _ _ W HLU.o HUU.o hok2.l1 hok2.u1 hok2.l2 hok2.u2 hok2.l3 hok2.u3 hok2.l4 hok2.u4)
   obtain⟨k1,k2,k3,k4⟩:=hsn4;have I5:=rU sn.x2 sn.z2 k1 k2;have I6:=rU sn.x3 sn.z3 k3 k4;clear HN;generalize jO s bit=s' at HSW HST hok2;have I3:=rU s'.x2 s'.z2 hok2.l1 hok2.l2;have I4:=rU s'.x3 s'.z3 hok2.l3 hok2.l4
   have Z1:Hid ((xE (s.x2++s.z2)).size=(xE (s'.x2++s'.z2)).size):=ι (by rw[xQ,xQ,List.length_append,List.length_append,hok.l1,hok.l2,hok2.l1,hok2.l2])
   have Z2:Hid ((xE (s.x3++s.z3)).size=(xE (s'.x3++s'.z3)).size):=ι (by rw[xQ,xQ,List.length_append,List.length_append,hok.l3,hok.l4,hok2.l3,hok2.l4])
   have Z3:Hid ((xE (s'.x2++s'.z2)).size=(xE (sn.x2++sn.z2)).size):=ι (by rw[xQ,xQ,List.length_append,List.length_append,k1,k2,hok2.l1,hok2.l2])
   have Z4:Hid ((xE (s'.x3++s'.z3)).size=(xE (sn.x3++sn.z3)).size):=ι (by rw[xQ,xQ,List.length_append,List.length_append,k3,k4,hok2.l3,hok2.l4]);clear hok hok2 k1 k2 k3 k4;generalize hp0:s.x2++s.z2=p0 at hr HSW I1 Z1;generalize hq0:s.x3++s.z3=q0 at hr HSW I2 Z2
   generalize hp1:s'.x2++s'.z2=p1 at HSW HST I3 Z1 Z3;generalize hq1:s'.x3++s'.z3=q1 at HSW HST I4 Z2 Z4;generalize hp2:sn.x2++sn.z2=p2 at HST I5 Z3;generalize hq2:sn.x3++sn.z3=q2 at HST I6 Z4;have HPQ:=ι (And.intro hp2 hq2);clear hp0 hq0 hp1 hq1 hp2 hq2
   generalize s.sw=sw at HSW⊢;go_upto_region 14 with fail
   rw[<-HBT.o];clear HBT ix b0 b1 hiq hir;refine wp_region_lit ?_;refine wpList_load_row rfl _ _ rfl (g+1) rfl _ (xE p0) (0,0) _ hr.o.bp underlying218 rfl I1.o ?_;refine wpList_load_row rfl _ _ rfl (g+1+1) rfl _ (xE q0) (0,0) _ hr.o.bq underlying218 rfl I2.o ?_
   repeat go_step
   refine(HSW.o _).mono ?_;rintro e w6 ⟨rfl,hb6⟩;have H6:=ι (hr.o.below hb6);clear hr hb6;simp only[]
   rename ∀(a:Act) (w:World),wpList _ _ _ _ a w->_=>hk
   refine hk _ _ ?_;clear hk;iterate 9 go_step
   refine wpList_store_row rfl _ _ _ rfl (g+1) (xE p1) rfl rfl _ _ H6.o.bp I3.o Z1.o (xR _) ?_;have H7:=ι (H6.o.rowP p1);refine wpList_store_row rfl _ _ _ rfl (g+1+1) (xE q1) rfl rfl _ _ H7.o.bq I4.o Z2.o (xR _) ?_;have H8:=ι (H7.o.rowQ q1);go_upto_region 16 with fail
   refine(λ(h:∀W3,Hid (PtM w g su p1 q1 W3)->Code.wp _ _ _ _ W3)=>h _ H8) ?_;clear H6 H7 H8;intro W8 H8;refine wp_region_lit ?_;refine wpList_load_row rfl _ _ rfl g rfl _ (xE su) (0,0) _ H8.o.bu underlying214 rfl Iu.o ?_
   refine wpList_load_row rfl _ _ rfl (g+1) rfl _ (xE p1) (0,0) _ H8.o.bp underlying218 rfl I3.o ?_;refine wpList_load_row rfl _ _ rfl (g+1+1) rfl _ (xE q1) (0,0) _ H8.o.bq underlying218 rfl I4.o ?_;repeat go_step
   refine(HST.o _).mono ?_;rintro e w6 ⟨rfl,hb6⟩;have H9:=ι (H8.o.below hb6);clear H8 hb6;simp only[]
   rename ∀(a:Act) (w:World),wpList _ _ _ _ a w->_=>hk
   refine hk _ _ ?_;clear hk;iterate 9 go_step
   refine wpList_store_row rfl _ _ _ rfl (g+1) (xE p2) rfl rfl _ _ H9.o.bp I5.o Z3.o (xR _) ?_;have H10:=ι (H9.o.rowP p2);refine wpList_store_row rfl _ _ _ rfl (g+1+1) (xE q2) rfl rfl _ _ H10.o.bq I6.o Z4.o (xR _) ?_;have H11:=ι (H10.o.rowQ q2)
   refine(λ(h:∀W3,Hid (PtM w g su p2 q2 W3)->wpList _ _ _ _ _ W3)=>h _ H11) ?_;clear H9 H10 H11 HSW HST;intro W11 H11;go_wp2;refine⟨⟨n+1,t,by have:=HNM.o;omega,rfl,by rw[HSN.o,HSB.o],?_⟩,by simp[intOf]⟩;rw[HSN.o,HPQ.o.1,HPQ.o.2];exact H11
  ·obtain rfl:m=0:=ω;have hn:n=255:=ω;have HE:=ι (HP.o n hn);have hm1:((0:Nat):Int)-1=-1:=ω;rw[hm1];generalize ldI ck su n=s at hr hok HE⊢;have HSW:=ι (λW=>xJv s.x2 s.z2 s.x3 s.z3 s.sw W hok.l1 hok.u1 hok.l2 hok.u2 hok.l3 hok.u3 hok.l4 hok.u4)
   have HDE:Hid (yBa s=xB8 (uA (if s.sw then s.x3 else s.x2) (xFs (if s.sw then s.z3 else s.z2)))):=ι rfl;have e1:(if s.sw=true then s.x3++s.z3 else s.x2++s.z2)=(if s.sw then s.x3 else s.x2)++(if s.sw then s.z3 else s.z2):=by cases s.sw<;>rfl
   rw[e1] at HSW
   have lx:(if s.sw then s.x3 else s.x2).length=5/\yE (if s.sw then s.x3 else s.x2):=by
    cases s.sw
    ·exact⟨hok.l1,hok.u1⟩
    ·exact⟨hok.l3,hok.u3⟩
   have lz:(if s.sw then s.z3 else s.z2).length=5/\yE (if s.sw then s.z3 else s.z2):=by
    cases s.sw
    ·exact⟨hok.l2,hok.u2⟩
    ·exact⟨hok.l4,hok.u4⟩
   have I1:=rU s.x2 s.z2 hok.l1 hok.l2;have I2:=rU s.x3 s.z3 hok.l3 hok.l4;have HZ0:Hid ((xE (s.x2++s.z2)).size=10):=ι (by rw[xQ,List.length_append,hok.l1,hok.l2]);generalize (if s.sw then s.x3 else s.x2)=x at HSW HDE lx;generalize (if s.sw then s.z3 else s.z2)=z at HSW HDE lz
   have I3:=rU x z lx.1 lz.1;have Z1:Hid ((xE (s.x2++s.z2)).size=(xE (x++z)).size):=ι (by rw[HZ0.o,xQ,List.length_append,lx.1,lz.1]);have Ix:=yU x lx.1;have Iz:=yU z lz.1;have HLX:=ι lx.1;have HIV:=ι (λW=>xQ6 z W lz.1 lz.2)
   have HMU:=ι (λW=>tT x (xFs z) W lx.1 lx.2 (xUt z) (yC0 z));have HBY:=ι (λW=>xVh (uA x (xFs z)) W (uM _ _) (qC _ _));rw[<-HDE.o,<-HE.o] at HBY;generalize uA x (xFs z)=mv at HMU HBY;generalize xFs z=iv at HIV HMU
   generalize (if s.sw=true then s.x2++s.z2 else s.x3++s.z3)=y0 at HSW;generalize s.x2++s.z2=p0 at hr HSW I1 Z1;generalize s.x3++s.z3=q0 at hr HSW I2;clear HE HDE hok lx lz hn hnm hlt HP HOK e1 HZ0 hm1;generalize s.sw=sw at HSW⊢;go_upto_region 17 with fail
   refine wp_region_lit ?_;refine wpList_load_row rfl _ _ rfl (g+1) rfl _ (xE p0) (0,0) _ hr.o.bp underlying218 rfl I1.o ?_;refine wpList_load_row rfl _ _ rfl (g+1+1) rfl _ (xE q0) (0,0) _ hr.o.bq underlying218 rfl I2.o ?_;repeat go_step
   refine(HSW.o _).mono ?_;rintro e w6 ⟨rfl,hb6⟩;have H6:=ι (hr.o.below hb6);clear hr hb6;simp only[]
   rename ∀(a:Act) (w:World),wpList _ _ _ _ a w->_=>hk
   refine hk _ _ ?_;clear hk;iterate 9 go_step
   refine wpList_store_row rfl _ _ _ rfl (g+1) (xE (x++z)) rfl rfl _ _ H6.o.bp I3.o Z1.o (xR _) ?_;have H7:=ι (H6.o.rowP (x++z));go_upto_region 18 with fail
   refine(λ(h:∀W3,Hid (PtM w g su (x++z) q0 W3)->Code.wp _ _ _ _ W3)=>h _ H7) ?_;clear H6 H7 HSW;intro W7 H7;refine RG.xH (λW=>Hid (PtM w g su (x++z) q0 W)) κ κ (ι H7.o.drew) ?_;clear H7;refine RG.dS ?_;apply RG.xG
   ·intro w9 hw9;refine zC rfl _ _ rfl (g+1) 0 rfl (xE x) _ (xC7 hw9.o.bp) underlying214 rfl Ix.o ?_;repeat go_step
    exact RG.xB hw9
   ·rfl
   refine RG.dS ?_;apply RG.xG
   ·intro w9 hw9;refine zC rfl _ _ rfl (g+1) 5 rfl (xE z) _ (xC6 hw9.o.bp HLX.o) underlying214 rfl Iz.o ?_;repeat go_step
    exact RG.xB hw9
   ·rfl
   apply RG.xG
   ·intro w9 hw9;repeat go_step
    refine(HIV.o _).mono ?_;rintro e w10 ⟨rfl,yP⟩;simp only[];repeat go_step
    refine RG.xB ?_;exact ι (hw9.o.below yP)
   ·rfl
   apply RG.xG
   ·intro w9 hw9;repeat go_step
    refine(HMU.o _).mono ?_;rintro e w10 ⟨rfl,yP⟩;simp only[];repeat go_step
    refine RG.xB ?_;exact ι (hw9.o.below yP)
   ·rfl
   apply RG.xG
   ·intro w9 hw9;repeat go_step
    refine(HBY.o _).mono ?_;rintro e w10 ⟨rfl,yP⟩;simp only[];repeat go_step
    refine RG.xB ?_;exact ι (hw9.o.below yP)
   ·rfl
   iterate 2 refine RG.dS ?_
   refine RG.xL (λw9 hw9=>?_);go_wp2;go_ret2;exact⟨rfl,hw9.o.bel⟩
theorem xPk (k:ByteArray) (w:World) (hk:k.size=32):
  Calls prog 79 #[.string k] w λe w'=>e=.returned (.tuple #[.string (uV k),.bool true])/\ψ w w':=by
 have HP:Hid (∀W,Calls prog 80 #[.string k,.string xIj] W λe w'=>e=.returned (.tuple #[.string (uV k),.bool true])/\ψ W w'):=ι (λW=>xJk k xIj W hk xQy);have HB:=ι (xOp w);generalize uV k=res at HP⊢;generalize xIj=bl at HP HB;clear hk;go_enter func79,ntmps79
 go_wp2_with fail
 refine HB.o.mono ?_;rintro e w1 ⟨rfl,hb1⟩;have H1:=ι hb1;go_wp2_with fail
 refine(HP.o _).mono ?_;rintro e w2 ⟨rfl,hb2⟩;have H2:=ι (H1.o.trans (hb2.mono H1.o.size));clear hb1 hb2 H1;go_wp2;go_ret2;exact⟨rfl,H2.o⟩
end Go.Proofs.FE