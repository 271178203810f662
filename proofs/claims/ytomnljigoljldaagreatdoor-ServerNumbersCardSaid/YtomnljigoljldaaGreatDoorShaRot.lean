/- What math/bits.RotateLeft32 returns. Conditions: a number of 32 bits; a count between -31 and 31. -/
import Derived.Test.YtomnljigoljldaaGreatDoorProg
import Derived.Test.YtomnljigoljldaaGreatDoorMem
import Derived.Test.YtomnljigoljldaaGreatDoorLinesPlain
import Derived.OpenShut
import Derived.WalkKit
import Derived.WalkLawsBesides
import Derived.WalkSpells
import Derived.Lib.Hide
namespace Mailsack
/-- a number of 32 bits -/
def U32 (x : Int) : Prop := 0 ≤ x ∧ x < 4294967296
theorem bits_u32 (op : Go.BinOp) (x y : Int) : U32 (Go.bits op .u32 x y) := by
  have h := Go.wf_bits op .u32 x y
  simp [Go.Lit.wf] at h
  have e1 : Go.IntKind.u32.min = 0 := (by decide)
  have e2 : Go.IntKind.u32.max = 4294967295 := (by decide)
  unfold U32
  omega
def rotU (x : Int) (s : Nat) : Int := Go.bits .or .u32 (x * 2 ^ s % 4294967296) (x / 2 ^ (32 - s))
theorem rotU_u32 (x : Int) (s : Nat) : U32 (rotU x s) := bits_u32 _ _ _
end Mailsack
namespace Go.Proofs.YtomnljigoljldaaGreatDoor.SH
open Go.RowKit Mailsack

set_option maxRecDepth 100000 in
theorem rot_any (x k : Int) (s : Nat) (w : World) (h0 : U32 x) (hk : bits BinOp.and IntKind.u64 (IntKind.u64.wrap k) 31 = (s : Int)) (hs : s < 32) :
    Calls Tryz.prog 356 #[.int .u32 x, .int .i64 k] w fun e w' => e = .returned (.int .u32 (rotU x s)) ∧ w' = w := by
  obtain ⟨h0, h1⟩ := h0
  go_enter Tryz.func356, Tryz.ntmps356
  go_wp2
  go_ret
  exact ⟨rfl, rfl⟩

/-- a block of numbers of 32 bits -/
def encW (ws : List Int) : Array Value := (ws.map fun x => Value.int .u32 x).toArray
theorem encW_size (ws : List Int) : (encW ws).size = ws.length := by simp [encW]
theorem encW_get {ws : List Int} {i : Nat} (h : i < ws.length) : (encW ws)[i]? = some (.int .u32 (ws.getD i 0)) := by
  simp [encW, List.getD_eq_getElem?_getD, List.getElem?_eq_getElem h]
theorem encW_set (ws : List Int) (i : Nat) (x : Int) : (encW ws).setIfInBounds i (.int .u32 x) = encW (ws.set i x) := by
  simp [encW, List.map_set]

end Go.Proofs.YtomnljigoljldaaGreatDoor.SH
