/- Contracts of functions. Conditions: as stated. -/
import Derived.Test.YtacahegificeoaaGreatDoorImapLoginsProofB04
import Derived.Lib.ConvBytes
import Derived.Lib.AppendIntMem
set_option maxHeartbeats 8000000
set_option maxRecDepth 100000
namespace Go.Proofs.IM
open Go.RowKit MM BU Mailsack
abbrev xX (a b:Value):Obj:=.cells #[a,b] 25
abbrev uM (s0 s1 s2 s3 s4 s5 s6 s7 s8 s9:Value):Obj:=.cells #[s0,s1,s2,s3,s4,s5,s6,s7,s8,s9] 32
abbrev xXw (n0 n1 n2 n3 n4 n5:Value):Obj:=.cells #[n0,n1,n2,n3,n4,n5] 36
abbrev xPf:Obj:=uM (.string ⟨#[]⟩) (.string ⟨#[]⟩) (.string ⟨#[]⟩) (.int .i64 0) (.slice none 0 0) (.slice none 0 0) (.int .i64 0) (.string ⟨#[]⟩) (.bool false) (.bool false)
theorem Cmd.xIv {b:Nat} {cs:Array Value} {l:List UInt8} {w:World} (h:Cmd b cs l w) {p:Addr} (hp:p.block<b) (u:Value):Cmd b cs l (w.setCell p u):=by
 obtain⟨q,v,h1,h2,h3,h4,h5,h6⟩:=h.own;exact⟨yA h.blk ω u,h.size,q,v,h1,h2,h3,ownsRow_setCell_below h4 hp u,h5,h6⟩
theorem Cmd.drew {b:Nat} {cs:Array Value} {l:List UInt8} {w:World} (h:Cmd b cs l w):Cmd b cs l w.drew:=by
 obtain⟨q,v,h1,h2,h3,h4,h5,h6⟩:=h.own;exact⟨h.blk,h.size,q,v,h1,h2,h3,h4,h5,h6⟩
structure xKb (w:World) (b g4 g5:Nat) (cs:Array Value) (l:List UInt8) (called st1 st2:Bool) (o4 o5:Obj) (W:World):Prop where
 bel:Below w.heap.size w W
 cmd:W.heap[b]?=some (.cells cs 83 (0,0))
 bld:called=false->Cmd b cs l W
 r4:W.heap[g4]?=some (if st1 then o4 else xX (.slice none 0 0) (.slice none 0 0))
 r5:W.heap[g5]?=some (if st2 then o5 else xPf)
theorem xKb.drew {w:World} {b g4 g5:Nat} {cs:Array Value} {l:List UInt8} {c s1 s2:Bool} {o4 o5:Obj} {W:World} (h:xKb w b g4 g5 cs l c s1 s2 o4 o5 W):xKb w b g4 g5 cs l c s1 s2 o4 o5 W.drew:=
 ⟨h.bel.drew,h.cmd,λe=>(h.bld e).drew,h.r4,h.r5⟩
theorem xKb.call {w:World} {b g4 g5:Nat} {cs:Array Value} {l:List UInt8} {c s1 s2:Bool} {o4 o5:Obj} {W W':World} (h:xKb w b g4 g5 cs l c s1 s2 o4 o5 W) (hb:Below b W W') (he:W'.heap[b]?=W.heap[b]?) (h4:g4<b) (h5:g5<b) (hw:w.heap.size<=b):
  xKb w b g4 g5 cs l true s1 s2 o4 o5 W':=
 ⟨h.bel.trans (hb.mono hw),he.trans h.cmd,λe=>(by cases e),xB h.r4 hb h4,xB h.r5 hb h5⟩
theorem xKb.st1 {w:World} {b g4 g5:Nat} {cs:Array Value} {l:List UInt8} {c s2:Bool} {a0 a1:Value} {o5:Obj} {W:World} (h:xKb w b g4 g5 cs l c false s2 (xX a0 a1) o5 W) (h4:g4<b) (hne:g5≠g4) (hw:w.heap.size<=g4):
  xKb w b g4 g5 cs l c true s2 (xX a0 a1) o5 ((W.setCell ⟨g4,0,none⟩ a0).setCell ⟨g4,1,none⟩ a1):=by
 refine⟨(h.bel.setCell (p:=⟨g4,0,none⟩) hw _).setCell (p:=⟨g4,1,none⟩) hw _,yA (yA h.cmd (p:=⟨g4,0,none⟩) (by simp;omega) _) (p:=⟨g4,1,none⟩) (by simp;omega) _,
  λe=>((h.bld e).xIv (p:=⟨g4,0,none⟩) h4 _).xIv (p:=⟨g4,1,none⟩) h4 _,?_,yA (yA h.r5 (p:=⟨g4,0,none⟩) hne _) (p:=⟨g4,1,none⟩) hne _⟩
 have r:=h.r4;rw[if_neg σ] at r;exact xY (xY r 0 a0) 1 a1
theorem kZ {w:World} {b g g':Nat} {cs:Array Value} {l:List UInt8} {c:Bool} {o:Obj} {W:World} {i:Nat} {u:Value} (hb:Below w.heap.size w W) (hc:W.heap[b]?=some (.cells cs 83 (0,0))) (hd:c=false->Cmd b cs l W) (ho:W.heap[g']?=some o) (h1:g<b) (h2:g'≠g) (h3:w.heap.size<=g):
  Below w.heap.size w (W.setCell ⟨g,i,none⟩ u)/\(W.setCell ⟨g,i,none⟩ u).heap[b]?=some (.cells cs 83 (0,0))/\(c=false->Cmd b cs l (W.setCell ⟨g,i,none⟩ u))/\(W.setCell ⟨g,i,none⟩ u).heap[g']?=some o:=
 ⟨hb.setCell (p:=⟨g,i,none⟩) h3 _,yA hc (p:=⟨g,i,none⟩) (by simp;omega) _,λe=>(hd e).xIv (p:=⟨g,i,none⟩) h1 _,yA ho (p:=⟨g,i,none⟩) h2 _⟩
theorem xKb.st2 {w:World} {b g4 g5:Nat} {cs:Array Value} {l:List UInt8} {c s1:Bool} {o4:Obj} {s0 s1' s2 s3 s4 s5 s6 s7 s8 s9:Value} {W:World} (h:xKb w b g4 g5 cs l c s1 false o4 (uM s0 s1' s2 s3 s4 s5 s6 s7 s8 s9) W) (h5:g5<b) (hne:g4≠g5) (hw:w.heap.size<=g5):
  xKb w b g4 g5 cs l c s1 true o4 (uM s0 s1' s2 s3 s4 s5 s6 s7 s8 s9) ((((((((((W.setCell ⟨g5,0,none⟩ s0).setCell ⟨g5,1,none⟩ s1').setCell ⟨g5,2,none⟩ s2).setCell ⟨g5,3,none⟩ s3).setCell ⟨g5,4,none⟩ s4).setCell ⟨g5,5,none⟩ s5).setCell ⟨g5,6,none⟩ s6).setCell ⟨g5,7,none⟩ s7).setCell ⟨g5,8,none⟩ s8).setCell ⟨g5,9,none⟩ s9):=by
 have r:=h.r5;rw[if_neg σ] at r;obtain⟨x1,y1,z1,t1⟩:=kZ (i:=0) (u:=s0) h.bel h.cmd h.bld h.r4 h5 hne hw;obtain⟨x2,y2,z2,t2⟩:=kZ (i:=1) (u:=s1') x1 y1 z1 t1 h5 hne hw;obtain⟨x3,y3,z3,t3⟩:=kZ (i:=2) (u:=s2) x2 y2 z2 t2 h5 hne hw
 obtain⟨x4,y4,z4,t4⟩:=kZ (i:=3) (u:=s3) x3 y3 z3 t3 h5 hne hw;obtain⟨x5,y5,z5,t5⟩:=kZ (i:=4) (u:=s4) x4 y4 z4 t4 h5 hne hw;obtain⟨x6,y6,z6,t6⟩:=kZ (i:=5) (u:=s5) x5 y5 z5 t5 h5 hne hw;obtain⟨x7,y7,z7,t7⟩:=kZ (i:=6) (u:=s6) x6 y6 z6 t6 h5 hne hw
 obtain⟨x8,y8,z8,t8⟩:=kZ (i:=7) (u:=s7) x7 y7 z7 t7 h5 hne hw;obtain⟨x9,y9,z9,t9⟩:=kZ (i:=8) (u:=s8) x8 y8 z8 t8 h5 hne hw;obtain⟨x10,y10,z10,t10⟩:=kZ (i:=9) (u:=s9) x9 y9 z9 t9 h5 hne hw;have r0:W.heap[g5]?=some xPf:=r
 have q0:(W.setCell ⟨g5,0,none⟩ s0).heap[g5]?=some (uM (s0) (.string ⟨#[]⟩) (.string ⟨#[]⟩) (.int .i64 0) (.slice none 0 0) (.slice none 0 0) (.int .i64 0) (.string ⟨#[]⟩) (.bool false) (.bool false)):=xY r0 0 s0
 have q1:((W.setCell ⟨g5,0,none⟩ s0).setCell ⟨g5,1,none⟩ s1').heap[g5]?=some (uM (s0) (s1') (.string ⟨#[]⟩) (.int .i64 0) (.slice none 0 0) (.slice none 0 0) (.int .i64 0) (.string ⟨#[]⟩) (.bool false) (.bool false)):=xY q0 1 s1'
 have q2:(((W.setCell ⟨g5,0,none⟩ s0).setCell ⟨g5,1,none⟩ s1').setCell ⟨g5,2,none⟩ s2).heap[g5]?=some (uM (s0) (s1') (s2) (.int .i64 0) (.slice none 0 0) (.slice none 0 0) (.int .i64 0) (.string ⟨#[]⟩) (.bool false) (.bool false)):=xY q1 2 s2
 have q3:((((W.setCell ⟨g5,0,none⟩ s0).setCell ⟨g5,1,none⟩ s1').setCell ⟨g5,2,none⟩ s2).setCell ⟨g5,3,none⟩ s3).heap[g5]?=some (uM (s0) (s1') (s2) (s3) (.slice none 0 0) (.slice none 0 0) (.int .i64 0) (.string ⟨#[]⟩) (.bool false) (.bool false)):=xY q2 3 s3
 have q4:(((((W.setCell ⟨g5,0,none⟩ s0).setCell ⟨g5,1,none⟩ s1').setCell ⟨g5,2,none⟩ s2).setCell ⟨g5,3,none⟩ s3).setCell ⟨g5,4,none⟩ s4).heap[g5]?=some (uM (s0) (s1') (s2) (s3) (s4) (.slice none 0 0) (.int .i64 0) (.string ⟨#[]⟩) (.bool false) (.bool false)):=xY q3 4 s4
 have q5:((((((W.setCell ⟨g5,0,none⟩ s0).setCell ⟨g5,1,none⟩ s1').setCell ⟨g5,2,none⟩ s2).setCell ⟨g5,3,none⟩ s3).setCell ⟨g5,4,none⟩ s4).setCell ⟨g5,5,none⟩ s5).heap[g5]?=some (uM (s0) (s1') (s2) (s3) (s4) (s5) (.int .i64 0) (.string ⟨#[]⟩) (.bool false) (.bool false)):=xY q4 5 s5
 have q6:(((((((W.setCell ⟨g5,0,none⟩ s0).setCell ⟨g5,1,none⟩ s1').setCell ⟨g5,2,none⟩ s2).setCell ⟨g5,3,none⟩ s3).setCell ⟨g5,4,none⟩ s4).setCell ⟨g5,5,none⟩ s5).setCell ⟨g5,6,none⟩ s6).heap[g5]?=some (uM (s0) (s1') (s2) (s3) (s4) (s5) (s6) (.string ⟨#[]⟩) (.bool false) (.bool false)):=xY q5 6 s6
 have q7:((((((((W.setCell ⟨g5,0,none⟩ s0).setCell ⟨g5,1,none⟩ s1').setCell ⟨g5,2,none⟩ s2).setCell ⟨g5,3,none⟩ s3).setCell ⟨g5,4,none⟩ s4).setCell ⟨g5,5,none⟩ s5).setCell ⟨g5,6,none⟩ s6).setCell ⟨g5,7,none⟩ s7).heap[g5]?=some (uM (s0) (s1') (s2) (s3) (s4) (s5) (s6) (s7) (.bool false) (.bool false)):=xY q6 7 s7
 have q8:(((((((((W.setCell ⟨g5,0,none⟩ s0).setCell ⟨g5,1,none⟩ s1').setCell ⟨g5,2,none⟩ s2).setCell ⟨g5,3,none⟩ s3).setCell ⟨g5,4,none⟩ s4).setCell ⟨g5,5,none⟩ s5).setCell ⟨g5,6,none⟩ s6).setCell ⟨g5,7,none⟩ s7).setCell ⟨g5,8,none⟩ s8).heap[g5]?=some (uM (s0) (s1') (s2) (s3) (s4) (s5) (s6) (s7) (s8) (.bool false)):=xY q7 8 s8
 have q9:((((((((((W.setCell ⟨g5,0,none⟩ s0).setCell ⟨g5,1,none⟩ s1').setCell ⟨g5,2,none⟩ s2).setCell ⟨g5,3,none⟩ s3).setCell ⟨g5,4,none⟩ s4).setCell ⟨g5,5,none⟩ s5).setCell ⟨g5,6,none⟩ s6).setCell ⟨g5,7,none⟩ s7).setCell ⟨g5,8,none⟩ s8).setCell ⟨g5,9,none⟩ s9).heap[g5]?=some (uM (s0) (s1') (s2) (s3) (s4) (s5) (s6) (s7) (s8) (s9)):=xY q8 9 s9
 refine⟨?_,?_,?_,?_,?_⟩
 ·with_reducible exact x10
 ·with_reducible exact y10
 ·with_reducible exact z10
 ·with_reducible exact t10
 ·rw[if_pos rfl];with_reducible exact q9
end Go.Proofs.IM
namespace Go.Proofs.VB
open Go.RowKit Mailsack MM
structure xZ5 (s:ByteArray) (w:World) (k:Nat) (wr:World):Prop where
 cells:∀j,j<s.size->wr.cell? ⟨w.heap.size,j,none⟩=some (.int .u8 (upTo s.data.toList k j).toNat)
 free:∀j,j<s.size->wr.frozen? ⟨w.heap.size,j,none⟩=false
 bel:Below w.heap.size w wr
theorem xZ5.start (s:ByteArray) (w:World):xZ5 s w 0 (Lib.bytesWorld w 5 s):=by
 refine⟨λj hj=>?_,λj hj=>?_,⟨rfl,rfl,rfl,?_,λk hk=>Lib.bytesWorld_at_old w _ s k hk⟩⟩
 ·rw[Lib.bytesWorld_cell w _ s j hj];simp[upTo]
 ·simp only[World.frozen?,Lib.bytesWorld_at_new];have hz:(Lib.bytesCells w 5 s).size=s.data.size+(grownCap w s.size 0 5-s.size):=by simp[Lib.bytesCells]
  have hs:s.data.size=s.size:=rfl;simp;omega
 ·rw[Lib.bytesWorld_size];omega
theorem xZ5.keep {s:ByteArray} {w wr:World} {k:Nat} (h:xZ5 s w k wr) (hc:¬(97<=(s.data.toList.getD k 0).toNat/\(s.data.toList.getD k 0).toNat<=122)):xZ5 s w (k+1) wr:=
 ⟨λj hj=>by rw[xUp hc];exact h.cells j hj,h.free,h.bel⟩
theorem xZ5.put {s:ByteArray} {w wr:World} {k:Nat} (h:xZ5 s w k wr) (hk:k<s.size) (h1:97<=(s.data.toList.getD k 0).toNat) (h2:(s.data.toList.getD k 0).toNat<=122):
  xZ5 s w (k+1) (wr.setCell ⟨w.heap.size,k,none⟩ (.int .u8 ((s.data.toList.getD k 0).toNat-97+65))):=by
 refine⟨λj hj=>?_,λj hj=>?_,h.bel.setCell σ _⟩
 ·by_cases e:j=k
  ·subst e;rw[World.cell?_setCell_same _ _ _ (h.cells j hj),xUr,xZd h1 h2]
   congr 2;omega
  ·rw[World.cell?_setCell_other _ _ _ _ (λe'=>e (by injection e' with _ e';exact e'.symm)),xKp e];exact h.cells j hj
 ·rw[World.frozen?_setCell];exact h.free j hj
theorem xUn (s:ByteArray) (w:World) (hs:s.size<4611686018427387904):
  Calls Tryz.prog 24 #[.string s] w λe w'=>e=.returned (xO (upP s.data.toList))/\Below w.heap.size w w':=by
 have xJp:=λW=>Lib.run_convert_string_bytes (P:=Tryz.prog) W 9 79 5 s Tryz.underlying9 Tryz.underlying79 Tryz.underlying5;have h0:=ι (xZ5.start s w);go_enter Tryz.func24,Tryz.ntmps24;go_wp2;generalize Lib.bytesWorld w 5 s=w0 at h0⊢;generalize grownCap w s.size 0 5=cap;clear xJp
 go_loopw [10] (λiv wr=>∃k:Nat,k<=s.size/\iv=.int .i64 k/\Hid (xZ5 s w k wr)) (λiv _=>s.size- (intOf iv).toNat)
 case atStart=>exact⟨0,Nat.zero_le _,rfl,h0⟩
 case round=>
  obtain⟨k,hk,rfl,hr⟩:=hrel
  by_cases hlt:k<s.size
  ·have hc:=hr.o.cells k hlt;have hf:=hr.o.free k hlt;rw[xP6] at hc
   by_cases hd:97<=(s.data.toList.getD k 0).toNat/\(s.data.toList.getD k 0).toNat<=122
   ·have hp:=ι (hr.o.put hlt hd.1 hd.2);generalize (s.data.toList.getD k 0).toNat=c at hc hd hp;obtain⟨h1,h2⟩:=hd;go_wp2
    go_roundw
    case rel=>exact⟨k+1,ω,by go_num,hp⟩
    case measure=>first|(simp[intOf];done)|(simp[intOf];omega)
   ·have hp:=ι (hr.o.keep hd);have h256:(s.data.toList.getD k 0).toNat<256:=UInt8.toNat_lt _;generalize (s.data.toList.getD k 0).toNat=c at hc hd h256;have hd:c<97∨122<c:=by omega
    rcases hd with hd|hd
    all_goals
     go_wp2
     go_roundw
     case rel=>exact⟨k+1,ω,by go_num,hp⟩
     case measure=>first|(simp[intOf];done)|(simp[intOf];omega)
  ·have hback:=run_convert_bytes_back (P:=Tryz.prog) wr 79 9 5 ⟨w.heap.size,0,none⟩ cap (upP s.data.toList) Tryz.underlying79 Tryz.underlying5 Tryz.underlying9 (λj hj=>by
    have hj':j<s.size:=by rw[xDj,vN] at hj;exact hj
    have hadd:(⟨w.heap.size,0,none⟩:Addr).add j=⟨w.heap.size,j,none⟩:=by unfold Addr.add;split<;>simp_all
    have hks:k=s.size:=by omega
    rw[hadd,hr.o.cells j hj',xUq _ j (by rw[vN];exact hj'),vN,hks])
   rw[xDj,vN] at hback;go_wp2;go_ret;exact⟨rfl,hr.o.bel⟩
end Go.Proofs.VB
namespace Go.Proofs.VB
open Go.RowKit Mailsack MM BU
def kM (w:World) (base:Nat) (v:Value) (l:Bs):Prop:=w.ownsRow base 5 1 v l.length (l.map λc=>Value.int .u8 c.toNat)
theorem kM.nil (w:World) (base:Nat):kM w base (.slice none 0 0) []:=World.ownsRow_nil w base _ _
theorem kM.of {w:World} {base:Nat} {v:Value} {l:Bs} {c:UInt8} (h:w.ownsRow base 5 1 v (l.length+1) (l.map (λc=>Value.int .u8 c.toNat)++[.int .u8 c.toNat])):kM w base v (l++[c]):=by
 unfold kM;rw[List.length_append,List.map_append];exact h
theorem kM.alloc {w:World} {base:Nat} {v:Value} {l:Bs} (h:kM w base v l) (o:Obj):(w.alloc o).ownsRow base 5 1 v l.length (l.map λc=>Value.int .u8 c.toNat):=World.ownsRow.alloc h o
theorem xY2 {w:World} {base:Nat} {v:Value} {l:Bs} (h:kM w base v l):(convert 79 9 v).run Tryz.prog w=.ok (xO l) w:=by
 rcases h.2 with ⟨h1,h2⟩|⟨g,cap,cur,h1,_,_,h2,_⟩
 ·have:l=[]:=List.eq_nil_of_length_eq_zero h2;subst this;have h0:∀W:World,(convert 79 9 (.slice none 0 0)).run Tryz.prog W=.ok (.string ⟨#[]⟩) W:=λ_=>by kernel_rfl
  rw[h1];exact h0 w
 ·rw[h1];refine run_convert_bytes_back w _ _ 5 ⟨g,0,none⟩ cap l Tryz.underlying79 Tryz.underlying5 Tryz.underlying9 (λj hj=>?_);exact World.ownsRow.cells h (g:=g) (by rw[h1];rfl) j _ (by simp[hj])
end Go.Proofs.VB
namespace Go.Proofs.VB
open Go.RowKit Mailsack MM
theorem yB7 (s:ByteArray) (k:Nat) (h:k<s.size):s.data.toList[k]?=some s[k]:=by
 rw[List.getElem?_eq_getElem (by rw[vN];exact h)];rfl
theorem xV3 (s:ByteArray) (k:Nat) (h:k<s.size):s.data.toList.take (k+1)=s.data.toList.take k++[s[k]]:=by
 rw[List.take_succ_eq_append_getElem (by rw[vN];exact h)];rfl
theorem xPa (s:ByteArray):s.data.toList.take s.size=s.data.toList:=by rw[<-vN,List.take_length]
theorem xLd {s:ByteArray} {k:Nat} (h:k<s.size) (hc:xBu s[k]=false):uQ s.data.toList=false:=by
 cases hp:uQ s.data.toList with
 |false=>rfl
 |true=>
  have:=List.all_eq_true.1 hp s[k] (List.mem_of_getElem? (yB7 s k h));rw[hc] at this;cases this
theorem xHz {s:ByteArray} {k:Nat} (h:k<s.size) (hc:xBu s[k]=true) (hp:uQ (s.data.toList.take k)=true):uQ (s.data.toList.take (k+1))=true:=by
 rw[xV3 s k h];unfold uQ at *;rw[List.all_append,hp];simp[hc]
theorem xCu (s:ByteArray) (w:World) (hs:s.size<=1000000):
  Calls Tryz.prog 49 #[.string s] w λe w'=>e=.returned (.bool (uQ s.data.toList))/\w=w':=by
 go_enter Tryz.func49,Tryz.ntmps49;go_wp2
 go_loop [6] (λiv=>∃k:Nat,k<=s.size/\iv=.int .i64 k/\Hid (uQ (s.data.toList.take k)=true)) (λiv=>s.size- (intOf iv).toNat)
 case atStart=>exact⟨0,Nat.zero_le _,rfl,ι rfl⟩
 case round=>
  obtain⟨k,hk,rfl,hp⟩:=hrel
  by_cases hlt:k<s.size
  ·have h256:s[k].toNat<256:=UInt8.toNat_lt _
   by_cases hc:32<=s[k].toNat/\s[k].toNat<=126
   ·have hp2:=ι (xHz hlt (by simp[xBu,hc.1,hc.2]) hp.o);obtain⟨h1,h2⟩:=hc;go_wp2
    go_round
    case rel=>exact⟨k+1,ω,by go_num,hp2⟩
    case measure=>simp[intOf];omega
   ·have hv:=ι (xLd hlt (show xBu s[k]=false by unfold xBu;rw[Bool.and_eq_false_iff];simp;omega));have hc':s[k].toNat<32∨126<s[k].toNat:=by omega
    clear hc;rcases hc' with hc'|hc'
    all_goals
     go_wp2;go_ret;exact⟨by rw[hv.o];rfl,rfl⟩
  ·have hv:=ι (show uQ s.data.toList=true by have:=hp.o;rwa [show k=s.size by omega,xPa] at this);go_wp2;go_ret;exact⟨by rw[hv.o];rfl,rfl⟩
theorem xRt (s:ByteArray) (w:World) (hs:s.size<=1000000):
  Calls Tryz.prog 12 #[.string s] w λe w'=>e=.returned (.bool (uQ s.data.toList))/\w=w':=by
 go_enter Tryz.func12,Tryz.ntmps12;go_wp2
 go_loop [3] (λiv=>∃k:Nat,k<=s.size/\iv=.int .i64 k/\Hid (uQ (s.data.toList.take k)=true)) (λiv=>s.size- (intOf iv).toNat)
 case atStart=>exact⟨0,Nat.zero_le _,rfl,ι rfl⟩
 case round=>
  obtain⟨k,hk,rfl,hp⟩:=hrel
  by_cases hlt:k<s.size
  ·have h256:s[k].toNat<256:=UInt8.toNat_lt _
   by_cases hc:32<=s[k].toNat/\s[k].toNat<=126
   ·have hp2:=ι (xHz hlt (by simp[xBu,hc.1,hc.2]) hp.o);obtain⟨h1,h2⟩:=hc;go_wp2
    go_round
    case rel=>exact⟨k+1,ω,by go_num,hp2⟩
    case measure=>simp[intOf];omega
   ·have hv:=ι (xLd hlt (show xBu s[k]=false by unfold xBu;rw[Bool.and_eq_false_iff];simp;omega));have hc':s[k].toNat<32∨126<s[k].toNat:=by omega
    clear hc;rcases hc' with hc'|hc'
    all_goals
     go_wp2;go_ret;exact⟨by rw[hv.o];rfl,rfl⟩
  ·have hv:=ι (show uQ s.data.toList=true by have:=hp.o;rwa [show k=s.size by omega,xPa] at this);go_wp2;go_ret;exact⟨by rw[hv.o];rfl,rfl⟩
theorem xC6 {s:ByteArray} (h:uQ s.data.toList=true):∀(j:Nat) b,s.data.toList[j]?=some b->b.toNat<128:=λj b hb=>by
 have:=List.all_eq_true.1 h b (List.mem_of_getElem? hb);unfold xBu at this;rw[Bool.and_eq_true,decide_eq_true_iff,decide_eq_true_iff] at this;omega
theorem jX (s:ByteArray) (w:World) (hs:s.size<=1000000) (hp:uQ s.data.toList=true):
  Calls Tryz.prog 107 #[.string s] w λe w'=>e=.returned (.int .i64 (jP s.data.toList))/\Below w.heap.size w w':=by
 have ha:=ι (xC6 hp);have hle:=xDi s.data.toList;rw[vN] at hle;have hi:=xCz s.data.toList;rw[vN] at hi;generalize jP s.data.toList=n at hle hi
 by_cases h:n=s.size
 ·rw[if_pos h] at hi;have Hi:=ι (show Lib.indexAny s.data.toList (⟨#[32,40,41,34]⟩:ByteArray).data.toList=-1 from hi);have Hn:=ι h;have q0:decide ((-1:Int)<0)=true:=rfl;clear hi h hp;go_enter Tryz.func107,Tryz.ntmps107;go_wp2_with fail
  refine(Tryz.strings_IndexAny_laid s _ _ ω δ ha.o (xC6 (s:=⟨#[32,40,41,34]⟩) δ)).mono ?_;rw[Hi.o];rintro e w1 ⟨rfl,hb1⟩;go_wp2;go_ret;exact⟨by rw[Hn.o];rfl,hb1⟩
 ·rw[if_neg h] at hi;have Hi:=ι (show Lib.indexAny s.data.toList (⟨#[32,40,41,34]⟩:ByteArray).data.toList=n from hi);have q0:decide ((n:Int)<0)=false:=by simp
  clear hi h hp;go_enter Tryz.func107,Tryz.ntmps107;go_wp2_with fail
  refine(Tryz.strings_IndexAny_laid s _ _ ω δ ha.o (xC6 (s:=⟨#[32,40,41,34]⟩) δ)).mono ?_;rw[Hi.o];rintro e w1 ⟨rfl,hb1⟩;go_wp2;go_ret;exact⟨rfl,hb1⟩
end Go.Proofs.VB
namespace Mailsack
abbrev Tok:=Nat×Bs
def kL (T:List Tok) (t:Tok):List Tok:=if T.length<=40 then T++[t] else T
def xTu:Bs->Bs->Option (Bs×Nat)
 |_,[]=>none
 |acc,c::r=>if c=34 then some (acc,r.length) else if c=92 then
   match r with
   |[]=>none
   |d::r'=>if d=92∨d=34 then xTu (acc++[d]) r' else none
  else xTu (acc++[c]) r
def wM:Nat->Bs->List Tok->Nat->Option (List Tok×Nat)
 |_,[],T,d=>some (T,d)
 |0,_::_,_,_=>none
 |f+1,c::r,T,d=>
  if c=32 then wM f r T d
  else if c=40 then wM f r (kL T (2,[])) (d+1)
  else if c=41 then(if d=0 then none else wM f r (kL T (3,[])) (d-1))
  else if c=34 then(match xTu [] r with
   |none=>none
   |some (q,n)=>wM f (r.drop (r.length-n)) (kL T (1,q)) d)
  else wM f ((c::r).drop (jP (c::r))) (kL T (0,(c::r).take (jP (c::r)))) d
def xCh (lits:List Bs):Nat->List Bs->List Tok->Nat->Option (List Tok×Nat)
 |_,[],T,d=>some (T,d)
 |i,t::ts,T,d=>
  if uQ t=true then
   match wM t.length t (if 0<i then kL T (1,lits.getD (i-1) []) else T) d with
   |none=>none
   |some (T2,d2)=>xCh lits (i+1) ts T2 d2
  else none
def rV (texts lits:List Bs):Option (List Tok):=
 if texts.length=lits.length+1 then
  match xCh lits 0 texts [] 0 with
  |none=>none
  |some (T,d)=>if d=0/\T.length<=40 then some T else none
 else none
theorem yD0:∀(l acc q:Bs) (n:Nat),xTu acc l=some (q,n)->n<l.length:=by
 intro l
 induction hl:l.length using Nat.strongRecOn generalizing l with
 |ind m ih=>
  intro acc q n h;cases l with
  |nil=>simp[xTu] at h
  |cons c r=>
   unfold xTu at h;simp only[List.length_cons] at hl;split at h
   ·simp at h;omega
   ·split at h
    ·cases r with
     |nil=>simp at h
     |cons d r'=>
      simp only at h;split at h
      ·simp only[List.length_cons] at hl;have:=ih r'.length ω r' rfl _ _ _ h;omega
      ·cases h
    ·have:=ih r.length ω r rfl _ _ _ h;omega
theorem xN4 {c:UInt8} {r:Bs} (h:uV c=false):0<jP (c::r):=by
 unfold jP;rw[List.takeWhile_cons,if_pos (by rw[h];rfl)];simp
end Mailsack
namespace Go.Proofs.VB
open Go.RowKit Mailsack MM BU
def kY (T:List Tok):List Value:=T.flatMap λt=>[.int .i64 t.1,xO t.2]
theorem xIq (T:List Tok) (t:Tok):kY (T++[t])=kY T++[.int .i64 t.1,xO t.2]:=by simp[kY]
abbrev xZ6 (w:World) (B:Nat) (v:Value) (T:List Tok):Prop:=w.ownsRow B 75 2 v T.length (kY T)
def Scn (B b:Nat) (T:List Tok) (d:Nat) (w:World):Prop:=
 B<=b/\T.length<=41/\∃v,w.heap[b]?=some (.cells #[v,.int .i64 d] 125 (0,0))/\xZ6 w B v T/\v.ownBlock≠some b
theorem yEk:(Tryz.prog.info? 75).map (λi=>(i.zero.map (·.cells.size),i.size,i.bytes))=some (some 2,2,24):=by kernel_rfl
theorem own_ne {w:World} {B b:Nat} {v:Value} {T:List Tok} {cs:Array Value} (h:xZ6 w B v T) (hb:w.heap[b]?=some (.cells cs 125 (0,0))):v.ownBlock≠some b:=by
 rcases h.2 with ⟨h1,_⟩|⟨g,cap,cur,h1,_,h3,_⟩
 ·rw[h1];simp[Value.ownBlock]
 ·rw[h1];intro e;have e:g=b:=by simpa[Value.ownBlock] using e
  rw[e,hb] at h3;injection h3 with h3;injection h3 with _ h3;exact absurd h3 δ
theorem Scn.keep {B b:Nat} {T:List Tok} {d:Nat} {w w':World} (h:Scn B b T d w) (hb:Below w.heap.size w w'):Scn B b T d w':=by
 obtain⟨h1,h2,v,h3,h4,h5⟩:=h;exact⟨h1,h2,v,xB h3 hb (xG h3),h4.kept (pK hb none) (by cases v.ownBlock<;>simp),h5⟩
theorem Scn.deep {B b:Nat} {T:List Tok} {d:Nat} {w:World} (h:Scn B b T d w) (d':Nat):Scn B b T d' (w.setCell ⟨b,1,none⟩ (.int .i64 d')):=by
 obtain⟨h1,h2,v,h3,h4,h5⟩:=h;refine⟨h1,h2,v,xY h3 1 _,?_,h5⟩;exact h4.kept (row:=some b) ⟨rfl,rfl,rfl,by simp[World.setCell],λk _ hk=>Below.heap_setCell _ _ _ _ (λe=>hk (by simp[e]))⟩ (Or.inr h5)
theorem xCc (B b:Nat) (T:List Tok) (d:Nat) (k:Nat) (s:ByteArray) (w:World) (h:Scn B b T d w) (hB:B<=w.heap.size):
  Calls Tryz.prog 48 #[.pointer (some ⟨b,0,none⟩),.int .i64 k,.string s] w λe w'=>e=.returned (.tuple #[])/\Scn B b (kL T (k,s.data.toList)) d w'/\Below B w w':=by
 have Hh:=ι h;obtain⟨hBb,hT,v,hbk,hown,hne⟩:=h;obtain⟨i0,hi,hi'⟩:=Option.map_eq_some_iff.1 yEk;injection hi' with hz0 hi';injection hi' with hz1 hz2;obtain⟨z,hz0,hzs⟩:=Option.map_eq_some_iff.1 hz0
 obtain⟨A,cp,e9⟩:∃A cp,v=.slice A T.length cp:=by
  rcases hown.2 with ⟨h1,h2⟩|⟨g,cap,cur,h1,_⟩
  ·exact⟨none,0,by rw[h1,h2]⟩
  ·exact⟨_,_,h1⟩
 subst e9;have hown':=ι hown;have Hne:=ι hne;have Hbk:=ι hbk;have k1:w.cell? ⟨b,0,none⟩=some (.slice A T.length cp):=xA hbk 0;have hlt:=xG hbk;clear hown hne hbk
 by_cases h40:T.length<=40
 ·have hadd:kL T (k,s.data.toList)=T++[(k,s.data.toList)]:=by unfold kL;rw[if_pos h40]
  rw[hadd];clear hadd;go_enter Tryz.func48,Tryz.ntmps48
  go_wp2_with (at_builtin;refine wpList_append_lies _ rfl _ _ 71 rfl B 75 i0 z 2 24 Tryz.underlying71 hi hz0 hz1 hz2 hzs δ _ _ _ rfl (World.ownsRow.alloc hown'.o _) ⟨w.heap.size,0,none⟩ 1 1 [.int .i64 k,.string s] rfl rfl (World.news_of_block (xL _ _)) (by intro u hu;simp at hu;rcases hu with rfl|rfl<;>rfl) δ (by unfold maxLen;omega) ω (by simp;omega) (w.heap.size+1) σ ?_;intro g cap w2 hown2 hgrow hat hlt2;have pk:=ι (wG (xK Hbk.o _) hgrow (λe=>Hne.o e.symm));have k2:w2.cell? ⟨b,0,none⟩=some (.slice A T.length cp):=xA pk.o 0;have y2:w2.frozen? ⟨b,0,none⟩=false:=xC pk.o 0;have xP0:=ι hown2;have xMr:=ι hgrow;clear hown2 hgrow)
  go_end0
  have hown3:xZ6 w2 B (.slice (some ⟨g,0,none⟩) (T.length+1) cap) (T++[(k,s.data.toList)]):=by
   unfold xZ6;rw[xIq,List.length_append];exact xP0.o
  have hne3:=own_ne hown3 pk.o;refine⟨rfl,⟨hBb,by simp;omega,_,xY pk.o 0 _,?_,hne3⟩,?_⟩
  ·exact hown3.kept (row:=some b) ⟨rfl,rfl,rfl,by simp[World.setCell],λk _ hk=>Below.heap_setCell _ _ _ _ (λe=>hk (by simp[e]))⟩ (Or.inr hne3)
  ·refine Below.setCell ?_ (p:=⟨b,0,none⟩) hBb _;exact((Below.refl B w).alloc hB _).grown xMr.o (by simp;omega) (λk hk=>(World.ownsRow.lt hown'.o k hk).1)
 ·have hadd:kL T (k,s.data.toList)=T:=by unfold kL;rw[if_neg h40]
  rw[hadd];clear hadd;go_enter Tryz.func48,Tryz.ntmps48;go_wp2
  go_end0
  exact⟨rfl,Hh.o,Below.refl B w⟩
def unqV (sz:Nat):Option (Bs×Nat)->Value
 |none=>.tuple #[.string ⟨#[]⟩,.int .i64 0,.bool false]
 |some (q,n)=>.tuple #[xO q,.int .i64 ((sz-n:Nat):Int),.bool true]
theorem xUs {sz k:Nat} {acc:Bs} (h:k<sz):unqV sz (some (acc,sz- (k+1)))=.tuple #[xO acc,.int .i64 ((k:Int)+1),.bool true]:=by
 unfold unqV;simp only;rw[show((sz- (sz- (k+1)):Nat):Int)=(k:Int)+1 by omega]
theorem xFg (s:ByteArray) (k:Nat) (h:k<s.size):s.data.toList.drop k=s[k]::s.data.toList.drop (k+1):=by
 rw[List.drop_eq_getElem_cons (by rw[vN];exact h)];rfl
theorem xJw (s:ByteArray) (k:Nat) (h:s.size<=k):s.data.toList.drop k=[]:=by
 rw[List.drop_eq_nil_iff,vN];exact h
theorem xBf (s:ByteArray) (k:Nat):(s.data.toList.drop k).length=s.size-k:=by rw[List.length_drop,vN]
theorem yCz (s:ByteArray) (k0:Nat) (w:World) (hs:s.size<=1000000) (hk0:k0<=s.size):
  Calls Tryz.prog 106 #[.string s,.int .i64 k0] w λe w'=>e=.returned (unqV s.size (xTu [] (s.data.toList.drop k0)))/\Below w.heap.size w w':=by
 generalize hR:xTu [] (s.data.toList.drop k0)=R;have h0:=ι hR;clear hR;have hq0:=ι (Lib.fresh_isBuilder 81 5 w);go_enter Tryz.func106,Tryz.ntmps106;go_wp2_with fail
 go_loopw [1] (λiv wr=>∃(k:Nat) (acc:Bs),k<=s.size/\acc.length<=k/\iv=.int .i64 k/\Hid (xTu acc (s.data.toList.drop k)=R)/\Hid (Bld w.heap.size w.heap.size acc wr/\Below w.heap.size w wr)) (λiv _=>s.size- (intOf iv).toNat)
 case atStart=>exact⟨k0,[],hk0,Nat.zero_le _,rfl,h0,ι ⟨hq0.o,(Below.refl _ _).alloc ν _⟩⟩
 case round=>
  obtain⟨k,acc,hk,hacc,rfl,HR0,hr⟩:=hrel;have hR:=HR0.o;clear hq0 h0 HR0
  by_cases hlt:k<s.size
  ·rw[xFg s k hlt] at hR;unfold xTu at hR
   by_cases h34:s[k]=34
   ·rw[if_pos h34,xBf] at hR;have HR:=ι hR.symm;have b1:((s[k].toNat:Int)==34)=true:=by rw[h34];rfl
    clear hR h34;go_wp2_with fail
    refine(Tryz.Builder_String_any w.heap.size w.heap.size _ _ hr.o.1 hr.o.2.size).mono ?_;rintro e w5 ⟨rfl,hb5⟩;go_wp2;go_ret3;refine⟨?_,hr.o.2.trans hb5⟩;rw[HR.o];rw[xUs hlt]
    rfl
   ·rw[if_neg h34] at hR;have b1:((s[k].toNat:Int)==34)=false:=by rw[beq_eq_false_iff_ne];intro e;exact h34 ((qK δ).1 e)
    clear h34
    by_cases h92:s[k]=92
    ·rw[if_pos h92] at hR;have b2:((s[k].toNat:Int)==92)=true:=by rw[h92];rfl
     clear h92
     by_cases hl2:k+1<s.size
     ·rw[xFg s (k+1) hl2] at hR;simp only at hR;have c0:(((k:Int)+1)==(s.size:Int))=false:=by rw[beq_eq_false_iff_ne];omega
      by_cases he:s[k+1]=92∨s[k+1]=34
      ·rw[if_pos he] at hR;have HR:=ι hR;clear hR;rcases he with he|he
       ·have d1:((s[k+1].toNat:Int)==92)=true:=by rw[he];rfl
        have d1':((s[k+1].toNat:Int)!=92)=false:=by rw[he];rfl
        clear he;go_wp2_with fail
        refine(rT w.heap.size w.heap.size acc s[k+1] _ hr.o.1 ω hr.o.2.size).mono ?_;rintro e w4 ⟨rfl,hq4,hb4⟩;have h4:Hid (Bld w.heap.size w.heap.size (acc++[s[k+1]]) w4/\Below w.heap.size w w4):=ι ⟨hq4,hr.o.2.trans hb4⟩;clear hq4 hb4;go_wp2
        go_roundw
        case rel=>exact⟨k+1+1,acc++[s[k+1]],ω,by simp;omega,by go_num,HR,h4⟩
        case measure=>simp[intOf];omega
       ·have d1:((s[k+1].toNat:Int)==92)=false:=by rw[he];rfl
        have d1':((s[k+1].toNat:Int)!=92)=true:=by rw[he];rfl
        have d2:((s[k+1].toNat:Int)==34)=true:=by rw[he];rfl
        have d2':((s[k+1].toNat:Int)!=34)=false:=by rw[he];rfl
        clear he;go_wp2_with fail
        refine(rT w.heap.size w.heap.size acc s[k+1] _ hr.o.1 ω hr.o.2.size).mono ?_;rintro e w4 ⟨rfl,hq4,hb4⟩;have h4:Hid (Bld w.heap.size w.heap.size (acc++[s[k+1]]) w4/\Below w.heap.size w w4):=ι ⟨hq4,hr.o.2.trans hb4⟩;clear hq4 hb4;go_wp2
        go_roundw
        case rel=>exact⟨k+1+1,acc++[s[k+1]],ω,by simp;omega,by go_num,HR,h4⟩
        case measure=>simp[intOf];omega
      ·rw[if_neg he] at hR;have HR:=ι hR.symm;have d1:((s[k+1].toNat:Int)==92)=false:=by rw[beq_eq_false_iff_ne];intro e;exact he (.inl ((qK δ).1 e))
       have d2:((s[k+1].toNat:Int)==34)=false:=by rw[beq_eq_false_iff_ne];intro e;exact he (.inr ((qK δ).1 e))
       have d1':((s[k+1].toNat:Int)!=92)=true:=by unfold bne;rw[d1];rfl
       have d2':((s[k+1].toNat:Int)!=34)=true:=by unfold bne;rw[d2];rfl
       clear hR he;go_wp2;go_ret3;refine⟨?_,hr.o.2⟩;rw[HR.o]
       rfl
     ·rw[xJw s (k+1) ω] at hR;simp only at hR;have HR:=ι hR.symm;have c0:(((k:Int)+1)==(s.size:Int))=true:=by rw[beq_iff_eq];omega
      clear hR;go_wp2;go_ret3;refine⟨?_,hr.o.2⟩;rw[HR.o]
      rfl
    ·rw[if_neg h92] at hR;have b2:((s[k].toNat:Int)==92)=false:=by rw[beq_eq_false_iff_ne];intro e;exact h92 ((qK δ).1 e)
     have HR:=ι hR;clear h92 hR;go_wp2_with fail
     refine(rT w.heap.size w.heap.size acc s[k] _ hr.o.1 ω hr.o.2.size).mono ?_;rintro e w4 ⟨rfl,hq4,hb4⟩;have h4:Hid (Bld w.heap.size w.heap.size (acc++[s[k]]) w4/\Below w.heap.size w w4):=ι ⟨hq4,hr.o.2.trans hb4⟩;clear hq4 hb4;go_wp2
     go_roundw
     case rel=>exact⟨k+1,acc++[s[k]],ω,by simp;omega,by go_num,HR,h4⟩
     case measure=>simp[intOf];omega
  ·rw[xJw s k ω] at hR;unfold xTu at hR;have HR:=ι hR.symm;clear hR;go_wp2;go_ret3;refine⟨?_,hr.o.2⟩;rw[HR.o]
   rfl
def yBw (B b:Nat) (R:Option (List Tok×Nat)) (w:World) (e:Ending) (w':World):Prop:=
 match R with
 |none=>e=.returned (.bool false)/\Below B w w'
 |some (T,d)=>e=.returned (.bool true)/\Scn B b T d w'/\Below B w w'
theorem xS2 {s:ByteArray} (h:uQ s.data.toList=true) (k:Nat):uQ (s.extract k s.size).data.toList=true:=by
 unfold uQ at*;rw[List.all_eq_true] at*;intro x hx;refine h x ?_;rw[ByteArray.data_extract,Array.toList_extract] at hx;exact List.mem_of_mem_drop (List.mem_of_mem_take hx)
theorem xJt (s:ByteArray) (k:Nat):(s.extract k s.size).data.toList=s.data.toList.drop k:=by
 rw[ByteArray.data_extract,Array.toList_extract];simp only[List.extract];rw[List.take_of_length_le];rw[xBf];exact Nat.le_refl _
theorem yBe (s:ByteArray) (k n:Nat):(s.extract k (k+n)).data.toList=(s.data.toList.drop k).take n:=by
 rw[ByteArray.data_extract,Array.toList_extract];simp only[List.extract];rw[Nat.add_sub_cancel_left]
theorem xPj (B b:Nat) (T0:List Tok) (d0:Nat) (s:ByteArray) (w:World) (h:Scn B b T0 d0 w) (hB:B<=w.heap.size) (hs:s.size<=1000000) (hp:uQ s.data.toList=true) (hd0:d0<=1000000000000):
  Calls Tryz.prog 50 #[.pointer (some ⟨b,0,none⟩),.string s] w (yBw B b (wM s.size s.data.toList T0 d0) w):=by
 generalize hR:wM s.size s.data.toList T0 d0=R;have h0:Hid (wM s.size (s.data.toList.drop 0) T0 d0=R):=ι hR;have Hp:=ι hp;have hw:=ι h;clear hR hp h;go_enter Tryz.func50,Tryz.ntmps50;go_wp2_with fail
 go_loopw [5] (λiv wr=>∃(k f:Nat) (T:List Tok) (d:Nat),k<=s.size/\s.size-k<=f/\d<=1000000000000+k/\iv=.int .i64 k/\Hid (wM f (s.data.toList.drop k) T d=R)/\Hid (Scn B b T d wr/\Below B w wr)) (λiv _=>s.size- (intOf iv).toNat)
 case atStart=>exact⟨0,s.size,T0,d0,Nat.zero_le _,ω,ω,rfl,h0,ι ⟨hw.o,Below.refl _ _⟩⟩
 case round=>
  obtain⟨k,f,T,d,hk,hf,hd,rfl,HR0,hr⟩:=hrel;have hR:=HR0.o;clear h0 hw HR0
  by_cases hlt:k<s.size
  ·rw[xFg s k hlt] at hR;obtain⟨f,rfl⟩:∃f',f=f'+1:=⟨f-1,ω⟩;unfold wM at hR
   by_cases h32:s[k]=32
   ·rw[if_pos h32] at hR;have HR:=ι hR;have b32:((s[k].toNat:Int)==32)=true:=by rw[h32];rfl
    clear hR h32;go_wp2
    go_roundw
    case rel=>exact⟨k+1,f,T,d,ω,ω,ω,by go_num,HR,hr⟩
    case measure=>simp[intOf];omega
   rw[if_neg h32] at hR;have b32:((s[k].toNat:Int)==32)=false:=by rw[beq_eq_false_iff_ne];intro e;exact h32 ((qK δ).1 e)
   by_cases h40:s[k]=40
   ·rw[if_pos h40] at hR;have HR:=ι hR;have b40:((s[k].toNat:Int)==40)=true:=by rw[h40];rfl
    clear hR h32 h40;obtain⟨hBb,hT,v0,hbk,_,_⟩:=hr.o.1;have c1:wr.cell? ⟨b,1,none⟩=some (.int .i64 d):=xA hbk 1;have y1:wr.frozen? ⟨b,1,none⟩=false:=xC hbk 1;have hblt:=xG hbk;clear hbk hT;have hs1:=ι (hr.o.1.deep (d+1))
    have hb1:=ι (hr.o.2.setCell (p:=⟨b,1,none⟩) hBb (.int .i64 (((d+1):Nat):Int)));have hz1:B<=(wr.setCell ⟨b,1,none⟩ (.int .i64 (((d+1):Nat):Int))).heap.size:=by rw[size_set];exact Nat.le_trans hB hr.o.2.size
    rw[show(((d+1):Nat):Int)=(d:Int)+1 by omega] at hs1 hb1 hz1;go_wp2_with fail
    refine(xCc B b T (d+1) 2 ⟨#[]⟩ _ hs1.o hz1).mono ?_;rintro e w4 ⟨rfl,hq4,hb4⟩;have h4:Hid (Scn B b (kL T (2,[])) (d+1) w4/\Below B w w4):=ι ⟨hq4,hb1.o.trans hb4⟩;clear hq4 hb4 hs1 hb1;go_wp2
    go_roundw
    case rel=>exact⟨k+1,f,kL T (2,[]),(d+1),ω,ω,ω,by go_num,HR,h4⟩
    case measure=>simp[intOf];omega
   rw[if_neg h40] at hR;have b40:((s[k].toNat:Int)==40)=false:=by rw[beq_eq_false_iff_ne];intro e;exact h40 ((qK δ).1 e)
   by_cases h41:s[k]=41
   ·rw[if_pos h41] at hR;have b41:((s[k].toNat:Int)==41)=true:=by rw[h41];rfl
    by_cases hdz:d=0
    ·rw[if_pos hdz] at hR;have HR:=ι hR.symm;clear hR h32 h40 h41;subst hdz;obtain⟨hBb,hT,v0,hbk,_,_⟩:=hr.o.1;have c1:wr.cell? ⟨b,1,none⟩=some (.int .i64 0):=xA hbk 1;have y1:wr.frozen? ⟨b,1,none⟩=false:=xC hbk 1;have hblt:=xG hbk;clear hbk hT;go_wp2;go_ret;rw[HR.o]
     exact⟨rfl,hr.o.2⟩
    ·rw[if_neg hdz] at hR;have HR:=ι hR;have z0:((d:Int)==0)=false:=by rw[beq_eq_false_iff_ne];omega
     clear hR h32 h40 h41;obtain⟨hBb,hT,v0,hbk,_,_⟩:=hr.o.1;have c1:wr.cell? ⟨b,1,none⟩=some (.int .i64 d):=xA hbk 1;have y1:wr.frozen? ⟨b,1,none⟩=false:=xC hbk 1;have hblt:=xG hbk;clear hbk hT;have hs1:=ι (hr.o.1.deep (d-1))
     have hb1:=ι (hr.o.2.setCell (p:=⟨b,1,none⟩) hBb (.int .i64 (((d-1):Nat):Int)));have hz1:B<=(wr.setCell ⟨b,1,none⟩ (.int .i64 (((d-1):Nat):Int))).heap.size:=by rw[size_set];exact Nat.le_trans hB hr.o.2.size
     rw[show(((d-1):Nat):Int)=(d:Int)-1 by omega] at hs1 hb1 hz1;go_wp2_with fail
     refine(xCc B b T (d-1) 3 ⟨#[]⟩ _ hs1.o hz1).mono ?_;rintro e w4 ⟨rfl,hq4,hb4⟩;have h4:Hid (Scn B b (kL T (3,[])) (d-1) w4/\Below B w w4):=ι ⟨hq4,hb1.o.trans hb4⟩;clear hq4 hb4 hs1 hb1;go_wp2
     go_roundw
     case rel=>exact⟨k+1,f,kL T (3,[]),(d-1),ω,ω,ω,by go_num,HR,h4⟩
     case measure=>simp[intOf];omega
   rw[if_neg h41] at hR;have b41:((s[k].toNat:Int)==41)=false:=by rw[beq_eq_false_iff_ne];intro e;exact h41 ((qK δ).1 e)
   by_cases h34:s[k]=34
   ·rw[if_pos h34] at hR;have b34:((s[k].toNat:Int)==34)=true:=by rw[h34];rfl
    have E3:=yCz s (k+1);rw[show((k+1:Nat):Int)=(k:Int)+1 by omega] at E3;generalize hU:xTu [] (s.data.toList.drop (k+1))=U at hR E3;cases U with
    |none=>
     simp only at hR;have HR:=ι hR.symm;have HE:=ι E3;clear hR h32 h40 h41 h34 hU E3;go_wp2_with fail
     refine(HE.o _ hs ω).mono ?_;rintro e w3 ⟨he,hb3⟩
     change e=.returned (.tuple #[.string ⟨#[]⟩,.int .i64 0,.bool false]) at he
     subst he;go_wp2;go_ret;rw[HR.o];exact⟨rfl,hr.o.2.trans (hb3.mono (Nat.le_trans hB hr.o.2.size))⟩
    |some qn=>
     obtain⟨q,n⟩:=qn;have hn:=yD0 _ _ _ _ hU;rw[xBf] at hn;simp only at hR;rw[List.drop_drop,xBf,show k+1+(s.size- (k+1)-n)=s.size-n by omega] at hR;have HR:=ι hR;have HE:=ι E3;clear hR h32 h40 h41 h34 hU E3;go_wp2_with fail
     refine(HE.o _ hs ω).mono ?_;rintro e w3 ⟨he,hb3⟩
     change e=.returned (.tuple #[xO q,.int .i64 ((s.size-n:Nat):Int),.bool true]) at he
     subst he;have hs3:=ι (hr.o.1.keep hb3);have xOc:=ι (hr.o.2.trans (hb3.mono (Nat.le_trans hB hr.o.2.size)));clear hb3;go_wp2_with fail
     refine(xCc B b T d 1 _ _ hs3.o (Nat.le_trans hB xOc.o.size)).mono ?_;rintro e w4 ⟨rfl,hq4,hb4⟩;have h4:Hid (Scn B b (kL T (1,q)) d w4/\Below B w w4):=ι ⟨hq4,xOc.o.trans hb4⟩;clear hq4 hb4 hs3 xOc;go_wp2
     go_roundw
     case rel=>exact⟨s.size-n,f,kL T (1,q),d,ω,ω,ω,rfl,HR,h4⟩
     case measure=>simp[intOf];omega
   rw[if_neg h34] at hR;have b34:((s[k].toNat:Int)==34)=false:=by rw[beq_eq_false_iff_ne];intro e;exact h34 ((qK δ).1 e)
   have hsp:uV s[k]=false:=by simp[uV,h32,h40,h41,h34]
   have hpos:=xN4 (r:=s.data.toList.drop (k+1)) hsp;have hle:=xDi (s.data.toList.drop k);rw[<-xFg s k hlt] at hR hpos;rw[xBf] at hle;have HE:=ι (λw=>jX (s.extract k s.size) w (by rw[<-vN,xJt,xBf];omega) (xS2 Hp.o k));rw[xJt] at HE
   generalize jP (s.data.toList.drop k)=n at hR hpos hle HE;rw[List.drop_drop,<-yBe] at hR;have HR:=ι hR;clear hR h32 h40 h41 h34 hsp;go_wp2_with fail
   refine(HE.o _).mono ?_;rintro e w3 ⟨rfl,hb3⟩;have hs3:=ι (hr.o.1.keep hb3);have xOc:=ι (hr.o.2.trans (hb3.mono (Nat.le_trans hB hr.o.2.size)));clear hb3;go_wp2_with fail
   refine(xCc B b T d 0 (s.extract k (k+n)) _ hs3.o (Nat.le_trans hB xOc.o.size)).mono ?_;rintro e w4 ⟨rfl,hq4,hb4⟩;have h4:Hid (Scn B b (kL T (0,(s.extract k (k+n)).data.toList)) d w4/\Below B w w4):=ι ⟨hq4,xOc.o.trans hb4⟩;clear hq4 hb4 hs3 xOc;go_wp2
   go_roundw
   case rel=>exact⟨k+n,f,kL T (0,(s.extract k (k+n)).data.toList),d,ω,ω,ω,by go_num,HR,h4⟩
   case measure=>simp[intOf];omega
  ·rw[xJw s k ω] at hR
   have hR':some (T,d)=R:=by
    rw[<-hR];cases f<;>rfl
   have HR:=ι hR'.symm;clear hR hR';go_wp2;go_ret;rw[HR.o];exact⟨rfl,hr.o⟩
end Go.Proofs.VB