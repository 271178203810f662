/- No function of the program starts a goroutine. No conditions. -/
import Derived.Test.YtnaiekglbemhcaaGreatDoorProg
import GoSem.ClaimGoes
import Derived.KernelRfl
set_option maxHeartbeats 8000000
set_option maxRecDepth 100000
namespace Go.Proofs.NG
theorem xV8 : (Tryz.prog.funcs.toList.any Func.goes) = false := by kernel_rfl
theorem yBh {P : Program} (h : (P.funcs.toList.any Func.goes) = false) (f : FuncId) : P.goes f = false := by
 have h1 : ∀ g : FuncId,(P.funcs[g]?).any Func.goes = false := by
  intro g
  cases hg : P.funcs[g]? with
  | none => rfl
  | some fn =>
   have hm : fn ∈ P.funcs.toList := Array.mem_toList_iff.2 (Array.mem_of_getElem? hg)
   simpa using List.any_eq_false.1 h fn hm
 have h2 : P.funcs.any Func.goes = false := by rw [← Array.any_toList]; exact h
 unfold Program.goes
 rw [h2,Bool.and_false,Bool.or_false]
 exact List.any_eq_false.2 fun g _ => by rw [h1 g]; simp
theorem xV9 {P : Program} (h : (P.funcs.toList.any Func.goes) = false) {c : OpenClaim} (hc : c.start = .entering) : false = c.goesBy P := by
 unfold OpenClaim.goesBy Program.goesAt Program.goesFrom
 rw [hc]
 have h1 : ∀ o : Option FuncId,o.any P.goes = false := fun o => by
  cases o with
  | none => rfl
  | some f => exact yBh h f
 rw [h1]
 rfl
theorem goesBy {c : OpenClaim} (hc : c.start = .entering) : false = c.goesBy Tryz.prog := xV9 xV8 hc
end Go.Proofs.NG
