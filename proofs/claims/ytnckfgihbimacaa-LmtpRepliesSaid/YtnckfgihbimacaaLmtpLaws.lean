/- Plain laws of layer 18's lines (no program): replies, and what holds of every state that lines lead to. No conditions but those stated. -/
import Derived.Test.YtnckfgihbimacaaLmtpPlain
namespace Mailsack

theorem mail_to (s : LSt) (a : Bs) : (mailP s a).1.to.length ≤ s.to.length + 1 := by
  unfold mailP; repeat' split
  all_goals simp
theorem rcpt_to (s : LSt) (a : Bs) (us : List Bs) : (rcptP s a us).1.to.length ≤ s.to.length + 1 := by
  unfold rcptP; repeat' split
  all_goals simp
theorem simple_to (s : LSt) (a : Bs) : (simpleP s a).1.to.length ≤ s.to.length + 1 := by
  unfold simpleP doneP; repeat' split
  all_goals simp
theorem line_to (s : LSt) (x : Bs) (us : List Bs) (hd : s.data = false) : (lineP s x us).1.to.length ≤ s.to.length + 1 := by
  unfold lineP
  rw [if_neg (by rw [hd]; simp)]
  simp only
  repeat' split
  all_goals first | exact mail_to _ _ | exact rcpt_to _ _ _ | exact simple_to _ _ | (simp; done)

theorem mail_reply (s : LSt) (a : Bs) : (mailP s a).2 ≠ [] := by
  unfold mailP; repeat' split
  all_goals simp [rSequence, rSyntax, rFine]
theorem rcpt_reply (s : LSt) (a : Bs) (us : List Bs) : (rcptP s a us).2 ≠ [] := by
  unfold rcptP; repeat' split
  all_goals simp [rSequence, rSyntax, rFine, rNoUser, rTooMany]
theorem simple_reply (s : LSt) (a : Bs) : (simpleP s a).2 ≠ [] := by
  unfold simpleP; repeat' split
  all_goals simp [rSequence, rBye, rFine, rGoOn]
theorem line_reply (s : LSt) (x : Bs) (us : List Bs) (hd : s.data = false) : (lineP s x us).2 ≠ [] := by
  unfold lineP
  rw [if_neg (by rw [hd]; simp)]
  simp only
  repeat' split
  all_goals first | exact mail_reply _ _ | exact rcpt_reply _ _ _ | exact simple_reply _ _ | (simp [rSyntax, rHello, rFine, rWhat]; done)
theorem line_none (s : LSt) (x : Bs) (us : List Bs) (hd : s.data = true) : (lineP s x us).2 = [] := by
  unfold lineP; rw [if_pos hd]
theorem receive_data (s : LSt) (x : Bs) : (receiveP s x).data = s.data := by
  unfold receiveP; repeat' split
  all_goals rfl
theorem line_data (s : LSt) (x : Bs) (us : List Bs) (hd : s.data = true) : (lineP s x us).1.data = true := by
  unfold lineP; rw [if_pos hd]; exact (receive_data s x).trans hd

/-- what holds of every state that lines lead to -/
structure LInv (us : List Bs) (s : LSt) : Prop where
  frm : s.data = true → s.to ≠ []
  has : s.to ≠ [] → s.hasFrom = true
  few : s.to.length ≤ 4
  body : s.body.length ≤ 700
  user : ∀ x ∈ s.to, x ∈ us

theorem linv_zero (us : List Bs) (h : Bool) : LInv us ⟨h, false, false, false, [], [], []⟩ := ⟨by simp, by simp, by simp, by simp, by simp⟩
theorem linv_done {us : List Bs} (s : LSt) : LInv us (doneP s) := linv_zero us _
theorem linv_receive {us : List Bs} {s : LSt} (x : Bs) (h : LInv us s) : LInv us (receiveP s x) := by
  unfold receiveP
  split
  · exact h
  · split
    · exact ⟨h.frm, h.has, h.few, by simp; omega, h.user⟩
    · rename_i hl
      exact ⟨h.frm, h.has, h.few, by show (s.body ++ _).length ≤ 700; omega, h.user⟩
theorem linv_mail {us : List Bs} {s : LSt} (a : Bs) (hd : s.data = false) (h : LInv us s) : LInv us (mailP s a).1 := by
  unfold mailP
  repeat' split
  · exact h
  · exact h
  · exact h
  · exact ⟨fun e => (by rw [show s.data = true from e] at hd; cases hd), fun e => absurd rfl e, by simp, h.body, by simp⟩
theorem linv_rcpt {us : List Bs} {s : LSt} (a : Bs) (h : LInv us s) : LInv us (rcptP s a us).1 := by
  unfold rcptP
  split
  · exact h
  · rename_i hf
    split
    · exact h
    · split
      · exact h
      · split
        · exact h
        · rename_i hu
          split
          · exact h
          · rename_i h4
            refine ⟨fun _ => by simp, fun _ => by simpa using hf, by simp; omega, h.body, fun x hx => ?_⟩
            rcases List.mem_append.1 hx with hx | hx
            · exact h.user x hx
            · rw [List.mem_singleton.1 hx]; exact Decidable.not_not.1 hu
theorem linv_simple {us : List Bs} {s : LSt} (a : Bs) (h : LInv us s) : LInv us (simpleP s a).1 := by
  unfold simpleP
  repeat' split
  · exact linv_done s
  · exact h
  · exact h
  · rename_i h0
    exact ⟨fun _ e => h0 (by rw [show s.to = [] from e]; rfl), h.has, h.few, h.body, h.user⟩
theorem linv_line {us : List Bs} {s : LSt} (x : Bs) (h : LInv us s) : LInv us (lineP s x us).1 := by
  unfold lineP
  split
  · exact linv_receive x h
  · rename_i hd
    have hd' : s.data = false := by simpa using hd
    simp only
    repeat' split
    all_goals first | exact h | exact linv_zero us _ | exact linv_mail _ hd' h | exact linv_rcpt _ h | exact linv_simple _ h
end Mailsack
