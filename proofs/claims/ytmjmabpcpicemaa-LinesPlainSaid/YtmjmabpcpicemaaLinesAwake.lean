/- The fixed answer of the statements of layer 17 is true. Condition: the cell of the library's MaxLen holds some int. -/
import Derived.Test.YtmjmabpcpicemaaTakeProg
namespace Go.Proofs.Ytmjmabpcpicemaa.LN
open Go.RowKit Mailsack MM

theorem awake_take : takeP [97, 32, 123, 51, 125, 13, 10, 120, 121, 122, 32, 98, 13, 10, 114, 101, 115, 116] = ⟨[[97, 32], [32, 98]], [[120, 121, 122]], [114, 101, 115, 116], 1, 1⟩ := by kernel_rfl

set_option maxHeartbeats 1000000 in
theorem awake_any (m : Int) (w : World) (hm : w.cell? ⟨0, 0, none⟩ = some (.int .i64 m)) :
    Calls Try.prog 7 #[] w fun e w' => e = .returned (.bool true) ∧ Below w.heap.size w w' := by
  have Hm := Lib.hid hm
  clear hm
  go_enter Try.func7, Try.ntmps7
  go_wp2_with fail
  refine (take_any ⟨#[97, 32, 123, 51, 125, 13, 10, 120, 121, 122, 32, 98, 13, 10, 114, 101, 115, 116]⟩ m _ (by decide) Hm.out).mono ?_
  intro e w1 h
  have h' : TakePost w ⟨[[97, 32], [32, 98]], [[120, 121, 122]], [114, 101, 115, 116], 1, 1⟩ e w1 := by rw [← awake_take]; exact h
  clear h
  obtain ⟨tv, lv, rfl, h1, h2, hb⟩ := h'
  obtain ⟨A, c, rfl, hc, hx⟩ := h1.rd
  obtain ⟨A', c', rfl, hc', hx'⟩ := h2.rd
  obtain ⟨b, off, rfl, hbb, hx⟩ := hx (by decide)
  obtain ⟨b', off', rfl, hbb', hx'⟩ := hx' (by decide)
  have k0 : ∀ o, (w1.alloc o).cell? ⟨b, off, none⟩ = some (.string ⟨#[97, 32]⟩) := fun o => (World.cell?_alloc_lt w1 o _ hbb).trans (hx 0 _ rfl)
  have k1 : ∀ o, (w1.alloc o).cell? ⟨b, off + 1, none⟩ = some (.string ⟨#[32, 98]⟩) := fun o => (World.cell?_alloc_lt w1 o _ hbb).trans (hx 1 _ rfl)
  have k2 : ∀ o, (w1.alloc o).cell? ⟨b', off', none⟩ = some (.string ⟨#[120, 121, 122]⟩) := fun o => (World.cell?_alloc_lt w1 o _ hbb').trans (hx' 0 _ rfl)
  clear hx hx'
  have hbz := hb.size
  go_wp2
  go_ret
  refine ⟨?_, hb.alloc hbz _⟩
  simp
end Go.Proofs.Ytmjmabpcpicemaa.LN
