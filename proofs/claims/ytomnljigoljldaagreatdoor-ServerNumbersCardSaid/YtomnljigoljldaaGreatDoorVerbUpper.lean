/- What mailsack/verb.Upper returns: the text in capitals. No condition but the text's length. -/
import Derived.Test.YtomnljigoljldaaGreatDoorVerbPlain
import Derived.Test.YtomnljigoljldaaGreatDoorMem
import Derived.Test.YtomnljigoljldaaGreatDoorShelf
import Derived.Lib.ConvBytes
import Derived.Laws.IdiomStrings
import Derived.WalkLawsBesides
import Derived.WalkSpells
namespace Go.Proofs.YtomnljigoljldaaGreatDoor.VB
open Go.RowKit Mailsack MM

/-- where it is at a round's head: the new row, its first k bytes done -/
structure UpAt (s : ByteArray) (w : World) (k : Nat) (wr : World) : Prop where
  cells : ∀ j, j < s.size → wr.cell? ⟨w.heap.size, j, none⟩ = some (.int .u8 (upTo s.data.toList k j).toNat)
  free : ∀ j, j < s.size → wr.frozen? ⟨w.heap.size, j, none⟩ = false
  bel : Below w.heap.size w wr

theorem UpAt.start (s : ByteArray) (w : World) : UpAt s w 0 (Lib.bytesWorld w 5 s) := by
  refine ⟨fun j hj => ?_, fun j hj => ?_, ⟨rfl, rfl, rfl, ?_, fun k hk => Lib.bytesWorld_at_old w _ s k hk⟩⟩
  · rw [Lib.bytesWorld_cell w _ s j hj]
    simp [upTo]
  · simp only [World.frozen?, Lib.bytesWorld_at_new]
    have hz : (Lib.bytesCells w 5 s).size = s.data.size + (grownCap w s.size 0 5 - s.size) := by simp [Lib.bytesCells]
    have hs : s.data.size = s.size := rfl
    simp; omega
  · rw [Lib.bytesWorld_size]; omega

theorem UpAt.keep {s : ByteArray} {w wr : World} {k : Nat} (h : UpAt s w k wr) (hc : ¬ (97 ≤ (s.data.toList.getD k 0).toNat ∧ (s.data.toList.getD k 0).toNat ≤ 122)) : UpAt s w (k + 1) wr :=
  ⟨fun j hj => by rw [upTo_keep hc]; exact h.cells j hj, h.free, h.bel⟩

theorem UpAt.put {s : ByteArray} {w wr : World} {k : Nat} (h : UpAt s w k wr) (hk : k < s.size) (h1 : 97 ≤ (s.data.toList.getD k 0).toNat) (h2 : (s.data.toList.getD k 0).toNat ≤ 122) :
    UpAt s w (k + 1) (wr.setCell ⟨w.heap.size, k, none⟩ (.int .u8 ((s.data.toList.getD k 0).toNat - 97 + 65))) := by
  refine ⟨fun j hj => ?_, fun j hj => ?_, h.bel.setCell (by simp) _⟩
  · by_cases e : j = k
    · subst e
      rw [World.cell?_setCell_same _ _ _ (h.cells j hj), upTo_at, up_small h1 h2]
      congr 2; omega
    · rw [World.cell?_setCell_other _ _ _ _ (fun e' => e (by injection e' with _ e'; exact e'.symm)), upTo_step e]
      exact h.cells j hj
  · rw [World.frozen?_setCell]; exact h.free j hj

set_option maxHeartbeats 400000 in
set_option maxRecDepth 100000 in
theorem upper_any (s : ByteArray) (w : World) (hs : s.size < 4611686018427387904) :
    Calls Tryz.prog 72 #[.string s] w fun e w' => e = .returned (strV (upP s.data.toList)) ∧ Below w.heap.size w w' := by
  have hconv := fun W => Lib.run_convert_string_bytes (P := Tryz.prog) W 9 88 5 s Tryz.underlying9 Tryz.underlying88 Tryz.underlying5
  have h0 := Lib.hid (UpAt.start s w)
  go_enter Tryz.func72, Tryz.ntmps72
  go_wp2
  generalize Lib.bytesWorld w 5 s = w0 at h0 ⊢
  generalize grownCap w s.size 0 5 = cap
  clear hconv
  go_loopw [10] (fun iv wr => ∃ k : Nat, k ≤ s.size ∧ iv = .int .i64 k ∧ Hid (UpAt s w k wr)) (fun iv _ => s.size - (intOf iv).toNat)
  case atStart => exact ⟨0, Nat.zero_le _, rfl, h0⟩
  case round =>
    obtain ⟨k, hk, rfl, hr⟩ := hrel
    by_cases hlt : k < s.size
    · have hc := hr.out.cells k hlt
      have hf := hr.out.free k hlt
      rw [upTo_not] at hc
      by_cases hd : 97 ≤ (s.data.toList.getD k 0).toNat ∧ (s.data.toList.getD k 0).toNat ≤ 122
      · have hp := Lib.hid (hr.out.put hlt hd.1 hd.2)
        generalize (s.data.toList.getD k 0).toNat = c at hc hd hp
        obtain ⟨h1, h2⟩ := hd
        go_wp2
        go_roundw
        case rel => exact ⟨k + 1, by omega, by go_num, hp⟩
        case measure => first | (simp [intOf]; done) | (simp [intOf]; omega)
      · have hp := Lib.hid (hr.out.keep hd)
        have h256 : (s.data.toList.getD k 0).toNat < 256 := UInt8.toNat_lt _
        generalize (s.data.toList.getD k 0).toNat = c at hc hd h256
        have hd : c < 97 ∨ 122 < c := by omega
        rcases hd with hd | hd
        all_goals
          go_wp2
          go_roundw
          case rel => exact ⟨k + 1, by omega, by go_num, hp⟩
          case measure => first | (simp [intOf]; done) | (simp [intOf]; omega)
    · have hback := run_convert_bytes_back (P := Tryz.prog) wr 88 9 5 ⟨w.heap.size, 0, none⟩ cap (upP s.data.toList) Tryz.underlying88 Tryz.underlying5 Tryz.underlying9 (fun j hj => by
        have hj' : j < s.size := by rw [upP_length, size_list] at hj; exact hj
        have hadd : (⟨w.heap.size, 0, none⟩ : Addr).add j = ⟨w.heap.size, j, none⟩ := by unfold Addr.add; split <;> simp_all
        have hks : k = s.size := by omega
        rw [hadd, hr.out.cells j hj', upTo_done _ j (by rw [size_list]; exact hj'), size_list, hks])
      rw [upP_length, size_list] at hback
      go_wp2
      go_ret
      exact ⟨rfl, hr.out.bel⟩
end Go.Proofs.YtomnljigoljldaaGreatDoor.VB
