/- What the document's Quote of layer 21 returns. Conditions: the text's length. -/
import Derived.Test.YtiapdhllphcnnaaGreatDoorVerbDig
namespace Go.Proofs.YtiapdhllphcnnaaGreatDoor.VB
open Go.RowKit Mailsack MM BU

theorem ext_one (s : ByteArray) (k : Nat) (h : k < s.size) : s.extract k (k + 1) = ⟨([s[k]] : Bs).toArray⟩ := by
  have h' : k < s.data.size := h
  have : (s.extract k (k + 1)).data = #[s[k]] := by
    rw [ByteArray.data_extract]
    apply Array.ext
    · simp; omega
    · intro i h1 h2
      have : i = 0 := by simp at h2; omega
      subst this
      simp
      rfl
  generalize s.extract k (k + 1) = c at this
  cases c
  simp only at this
  rw [this]
def wordTo (s : ByteArray) (k : Nat) : Bool := decide (0 < s.size) && (s.data.toList.take k).all (fun c => !specialB c)
theorem wordTo_step (s : ByteArray) (k : Nat) (h : k < s.size) : wordTo s (k + 1) = (wordTo s k && !specialB s[k]) := by
  unfold wordTo
  rw [take_snoc s k h, List.all_append]
  simp [Bool.and_assoc]
theorem wordTo_end (s : ByteArray) : wordTo s s.size = isWord s.data.toList := by
  unfold wordTo isWord; rw [take_all, size_list]
theorem conv_92 (W : World) : (convert 58 9 (.slice (some ⟨W.heap.size, 0, none⟩) 1 1)).run Tryz.prog (W.alloc (.cells #[.int .u8 92] 5)) = .ok (.string ⟨#[92]⟩) (W.alloc (.cells #[.int .u8 92] 5)) := conv_one W 92

end Go.Proofs.YtiapdhllphcnnaaGreatDoor.VB
