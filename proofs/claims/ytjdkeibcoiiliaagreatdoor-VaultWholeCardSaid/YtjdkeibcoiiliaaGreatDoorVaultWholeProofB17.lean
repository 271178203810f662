/- Contracts of functions. Conditions: as stated. -/
import Derived.Test.YtjdkeibcoiiliaaGreatDoorVaultWholeProofB00
import Derived.ProofKit
import GoSem.ClaimGoes
open Go.Proofs.Tryz
set_option maxHeartbeats 8000000
set_option maxRecDepth 100000
namespace Go.Proofs.MM
open Go.ChangeShapes Go.WideShapes Go.ChangeAt Go.RowKit
theorem xSt {H:Type} {enc:TypeId×Value->H} {P:Program} {w:World} {t e:TypeId} {v:Value} {fuel:Nat} {x:DataW H×List MemPlace}
  (ht:P.underlying t=some (.slice e)) (he:P.underlying e=some .string) (hc:P.cellsOf e=1) (hf:DataW.trod enc P w 0 (λ_=>true) true fuel t [v]=some x):
  ∃xs:List (List UInt8),RdS w w.heap.size v xs/\(∀x∈xs,x.length<=9223372036854775807)/\xs.length<=9223372036854775807:=by
 rcases open_strings ht he hc hf with ⟨hcs,_⟩|⟨a,len',cap',ss,hcs,_,hl,hm,hz,_,hcell,hws⟩
 ·have hcs':v=.slice none 0 0:=by simpa using hcs
  rw[hcs'];exact⟨[],⟨none,0,rfl,Bd _,λh=>absurd h (Nat.lt_irrefl _)⟩,σ,σ⟩
 ·have hcs':v=.slice (some a) len' cap':=by simpa using hcs
  rw[hcs'];unfold maxLen at hm hws;have hss:ss.length=cap':=by simpa using hz
  have hlen:((ss.take len').map λs=>s.data.toList).length=len':=by simp;omega
  refine⟨(ss.take len').map λs=>s.data.toList,⟨some a,cap',by rw[hlen],ω,λhn=>?_⟩,?_,ω⟩
  ·obtain⟨b,off,spot⟩:=a;have h0:=hcell 0 ω;have hspot:spot=none:=by simpa[Addr.add] using World.cell?_spot h0
   subst hspot;refine⟨b,off,rfl,Gp w _ (by simpa[Addr.add] using h0),λj x hx=>?_⟩;rw[Cg,Ea] at hx;split at hx
   ·rename_i hj
    have hjs:j<ss.length:=ω;have h1:=hcell j hjs;rw[Af hjs] at hx;simp only[Fe,Ez] at hx;have hadd:(⟨b,off,none⟩:Addr).add j=⟨b,off+j,none⟩:=by unfold Addr.add;split<;>simp_all
    rw[hadd] at h1;rw[h1,<-hx,Aa,Af hjs]
    rfl
   ·simp at hx
  ·intro x hx;obtain⟨s,hs,rfl⟩:=Ew.1 hx;have:=hws s (Dc hs);rw[Cu];exact this
theorem yGb {H:Type} {enc:TypeId×Value->H} {P:Program} {w:World} {base:Nat} {t e:TypeId} {v:Value} {d:DataW H} {p:List MemPlace}
  (ht:P.underlying t=some (.slice e)) (he:P.underlying e=some .string) (hc:P.cellsOf e=1) (hv:Value.okWide P w .any base t v) (h:DataW.Trod enc P w 0 (λ_=>true) true t v d p):
  ∃xs:List (List UInt8),RdS w w.heap.size v xs/\(∀x∈xs,x.length<=9223372036854775807)/\xs.length<=9223372036854775807:=by
 obtain⟨a0,len,cap,rfl⟩:=okWide_slice ht hv;obtain⟨fuel,hf⟩:=h;exact xSt ht he hc (by simpa[Value.cells] using hf)
end Go.Proofs.MM
namespace Go.Proofs.NG
theorem yD5:(prog.funcs.toList.any Func.goes)=false:=κ
theorem yLm {P:Program} (h:(P.funcs.toList.any Func.goes)=false) (f:FuncId):P.goes f=false:=by
 have h1:∀g:FuncId,(P.funcs[g]?).any Func.goes=false:=by
  intro g;cases hg:P.funcs[g]? with
  |none=>rfl
  |some fn=>
   have hm:fn∈P.funcs.toList:=Array.mem_toList_iff.2 (Array.mem_of_getElem? hg);simpa using List.any_eq_false.1 h fn hm
 have h2:P.funcs.any Func.goes=false:=by rw[<-Array.any_toList];exact h
 unfold Program.goes;rw[h2,Gq,Bool.or_false];exact List.any_eq_false.2 λg _=>by rw[h1 g];simp
theorem yD6 {P:Program} (h:(P.funcs.toList.any Func.goes)=false) {c:OpenClaim} (hc:c.start=.entering):false=c.goesBy P:=by
 unfold OpenClaim.goesBy Program.goesAt Program.goesFrom;rw[hc]
 have h1:∀o:Option FuncId,o.any P.goes=false:=λo=>by
  cases o with
  |none=>rfl
  |some f=>exact yLm h f
 rw[h1]
 rfl
theorem goesBy {c:OpenClaim} (hc:c.start=.entering):false=c.goesBy prog:=yD6 yD5 hc
end Go.Proofs.NG