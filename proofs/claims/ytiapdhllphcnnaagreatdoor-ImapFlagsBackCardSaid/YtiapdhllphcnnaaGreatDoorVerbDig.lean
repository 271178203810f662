/- What the document's Digits of layer 21 returns. Conditions: the number's size. -/
import Derived.Test.YtiapdhllphcnnaaGreatDoorVerbQuote
import Derived.Test.YtiapdhllphcnnaaGreatDoorVerbRup
namespace Go.Proofs.YtiapdhllphcnnaaGreatDoor.VB
open Go.RowKit Mailsack MM BU

def digB (m : Nat) : UInt8 := UInt8.ofNat (48 + m % 10)
theorem digB_nat (m : Nat) : ((digB m).toNat : Int) = 48 + (m : Int) % 10 := by
  unfold digB
  have h : 48 + m % 10 < 256 := by omega
  rw [UInt8.toNat_ofNat', Nat.mod_eq_of_lt h]
  omega
theorem conv_dig (W : World) (m : Nat) : (convert 58 9 (.slice (some ⟨W.heap.size, 0, none⟩) 1 1)).run Tryz.prog (W.alloc (.cells #[.int .u8 (48 + (m : Int) % 10)] 5)) = .ok (.string ⟨#[digB m]⟩) (W.alloc (.cells #[.int .u8 (48 + (m : Int) % 10)] 5)) := by
  have := conv_one W (digB m)
  rw [digB_nat] at this
  exact this
/-- the digits that are still to be set ahead -/
def moreD (m : Nat) : Bs := if m < 10 then [] else Lib.decDigits (m / 10)
theorem dec_more (m : Nat) : Lib.decDigits m = moreD m ++ [digB m] := by
  unfold moreD digB
  rw [Lib.decDigits]
  by_cases h : m < 10
  · rw [dif_pos h, if_pos h, Nat.mod_eq_of_lt h]; rfl
  · rw [dif_neg h, if_neg h]

end Go.Proofs.YtiapdhllphcnnaaGreatDoor.VB
