/- What index.Right and its helpers return, as a function of the index as plain data. Conditions: the index reads as that data. -/
import Derived.Test.YtiapdhllphcnnaaGreatDoorIndexMem
import Derived.Test.YtiapdhllphcnnaaGreatDoorProg
import Derived.Test.YtiapdhllphcnnaaGreatDoorReg
import Derived.WalkKit
import Derived.WalkLawsBesides
import Derived.WalkSpells
import Derived.Lib.Hide
import Derived.Deep.Cut
namespace Mailsack
def posP (n : Int) : Bool := decide (1 ≤ n ∧ n ≤ 4294967295)
def flagsOkP (n : Int) : Bool := decide (0 ≤ n ∧ n ≤ 63)
def mailOkP (o s f : Int) : Bool := posP o && decide (0 ≤ s ∧ s ≤ 700) && flagsOkP f
def chN (c : Nat) : Bool := decide (97 ≤ c ∧ c ≤ 122 ∨ 65 ≤ c ∧ c ≤ 90 ∨ 48 ≤ c ∧ c ≤ 57 ∨ c = 45 ∨ c = 47 ∨ c = 95)
def chP (c : UInt8) : Bool := chN c.toNat
def nameP (s : Bs) : Bool := decide (1 ≤ s.length ∧ s.length ≤ 16) && s.all chP
theorem all_drop {s : ByteArray} {k : Nat} (h : k < s.size) (f : UInt8 → Bool) : (s.data.toList.drop k).all f = (f s[k] && (s.data.toList.drop (k + 1)).all f) := by
  have h' : k < s.data.toList.length := by rw [Array.length_toList]; exact h
  rw [List.drop_eq_getElem_cons h', List.all_cons]
  rfl
def inboxB : Bs := [73, 78, 66, 79, 88]
def mailsP (next : Int) : List MailP → Int → Bool
  | [], _ => true
  | m :: l, last => decide (last < m.uid) && decide (m.uid < next) && mailOkP m.object m.size m.flags && mailsP next l m.uid
def boxOkP (b : BoxP) : Bool := nameP b.name && posP b.validity && posP b.next && decide (b.mails.length ≤ 30) && mailsP b.next b.mails 0
def leS (a b : Bs) : Bool := Go.Op.bytesLess a b || a == b
/-- the mailboxes from the i-th on; the one ahead has the name p -/
def boxesP (given : Int) : List BoxP → Nat → Bs → Bool
  | [], _, _ => true
  | b :: l, i, p => boxOkP b && decide (b.validity < given) && !(decide (0 < i) && b.name == inboxB) && !(decide (1 < i) && leS b.name p) && boxesP given l (i + 1) b.name
def subsP : List Bs → Nat → Bs → Bool
  | [], _, _ => true
  | s :: l, i, p => nameP s && !(decide (0 < i) && leS s p) && subsP l (i + 1) s
def totalP (l : List BoxP) : Nat := (l.map (·.mails.length)).sum
def rightP (x : IndexP) : Bool :=
  decide (1 ≤ x.boxes.length) && decide (x.boxes.length ≤ 6) && (x.boxes.head?.map (·.name) == some inboxB) && decide (x.subs.length ≤ 6) && posP x.given && boxesP x.given x.boxes 0 [] && subsP x.subs 0 [] && decide (totalP x.boxes ≤ 30)
end Mailsack
namespace Go.Proofs.YtiapdhllphcnnaaGreatDoor.IX
open Go.RowKit Mailsack MM

set_option maxHeartbeats 400000 in
set_option maxRecDepth 100000 in
theorem positive_any (n : Int) (w : World) : Calls Tryz.prog 26 #[.int .i64 n] w fun e w' => e = .returned (.bool (posP n)) ∧ w' = w := by
  unfold posP
  by_cases h1 : 1 ≤ n
  · by_cases h2 : n ≤ 4294967295
    all_goals
      go_enter Tryz.func26, Tryz.ntmps26
      go_wp2
      go_ret
      exact ⟨by simp [h1, h2], rfl⟩
  · go_enter Tryz.func26, Tryz.ntmps26
    go_wp2
    go_ret
    exact ⟨by simp; omega, rfl⟩
set_option maxHeartbeats 400000 in
set_option maxRecDepth 100000 in
theorem rightFlags_any (n : Int) (w : World) : Calls Tryz.prog 66 #[.int .i64 n] w fun e w' => e = .returned (.bool (flagsOkP n)) ∧ w' = w := by
  unfold flagsOkP
  by_cases h1 : 0 ≤ n
  · by_cases h2 : n ≤ 63
    all_goals
      go_enter Tryz.func66, Tryz.ntmps66
      go_wp2
      go_ret
      exact ⟨by simp [h1, h2], rfl⟩
  · go_enter Tryz.func66, Tryz.ntmps66
    go_wp2
    go_ret
    exact ⟨by simp; omega, rfl⟩
set_option maxHeartbeats 400000 in
set_option maxRecDepth 100000 in
theorem rightMail_any (o s f : Int) (w : World) : Calls Tryz.prog 36 #[.int .i64 o, .int .i64 s, .int .i64 f] w fun e w' => e = .returned (.bool (mailOkP o s f)) ∧ w' = w := by
  have HR : Hid (mailOkP o s f = (posP o && decide (0 ≤ s ∧ s ≤ 700) && flagsOkP f)) := Lib.hid rfl
  generalize mailOkP o s f = R at HR ⊢
  have HP := Lib.hid (fun W => positive_any o W)
  have HF := Lib.hid (fun W => rightFlags_any f W)
  cases hp : posP o with
  | false =>
    rw [hp] at HP HR
    clear hp
    go_enter Tryz.func36, Tryz.ntmps36
    go_wp2_with (go_at_call 26; refine (HP.out _).mono ?_; rintro e w' ⟨rfl, rfl⟩)
    go_ret
    exact ⟨by rw [HR.out]; simp, rfl⟩
  | true =>
    rw [hp] at HP HR
    clear hp
    generalize flagsOkP f = b at HF HR
    by_cases h1 : 0 ≤ s
    · by_cases h2 : s ≤ 700
      · have Hf : Hid (R = b) := Lib.hid (by rw [HR.out]; simp [h1, h2])
        go_enter Tryz.func36, Tryz.ntmps36
        go_wp2_with (first | (go_at_call 26; refine (HP.out _).mono ?_; rintro e w' ⟨rfl, rfl⟩) | (go_at_call 66; refine (HF.out _).mono ?_; rintro e w' ⟨rfl, rfl⟩))
        go_ret
        exact ⟨by rw [Hf.out]; rfl, rfl⟩
      · have Hf : Hid (R = false) := Lib.hid (by rw [HR.out]; simp [h1, h2])
        go_enter Tryz.func36, Tryz.ntmps36
        go_wp2_with (go_at_call 26; refine (HP.out _).mono ?_; rintro e w' ⟨rfl, rfl⟩)
        go_ret
        exact ⟨by rw [Hf.out]; rfl, rfl⟩
    · have Hf : Hid (R = false) := Lib.hid (by rw [HR.out]; simp [h1])
      go_enter Tryz.func36, Tryz.ntmps36
      go_wp2_with (go_at_call 26; refine (HP.out _).mono ?_; rintro e w' ⟨rfl, rfl⟩)
      go_ret
      exact ⟨by rw [Hf.out]; rfl, rfl⟩

set_option maxHeartbeats 1000000 in
set_option maxRecDepth 100000 in
theorem rightName_any (s : ByteArray) (w : World) : Calls Tryz.prog 28 #[.string s] w fun e w' => e = .returned (.bool (nameP s.data.toList)) ∧ w' = w := by
  have hsl : s.data.toList.length = s.size := Array.length_toList
  by_cases h1 : 1 ≤ s.size
  · by_cases h2 : s.size ≤ 16
    · have hdone : Hid (nameP s.data.toList = (s.data.toList.drop 0).all chP) := Lib.hid (by unfold nameP; simp [hsl, h1, h2])
      have Hsl := Lib.hid hsl
      clear hsl
      go_enter Tryz.func28, Tryz.ntmps28
      go_wp2
      go_loop [17] (fun iv => ∃ k : Nat, k ≤ s.size ∧ iv = .int .i64 k ∧ Hid (nameP s.data.toList = (s.data.toList.drop k).all chP)) (fun iv => s.size - (intOf iv).toNat)
      case atStart => exact ⟨0, by omega, rfl, hdone⟩
      case round =>
        obtain ⟨k, hk, rfl, hr⟩ := hrel
        clear hdone
        by_cases hlt : k < s.size
        · have HS : Hid ((s.data.toList.drop k).all chP = (chN s[k].toNat && (s.data.toList.drop (k + 1)).all chP)) := Lib.hid (all_drop hlt chP)
          by_cases e95 : (s[k].toNat : Int) = 95
          all_goals
            go_wp2
            all_goals first
              | (go_ret; exact ⟨by rw [hr.out, HS.out, show chN s[k].toNat = false from decide_eq_false (by first | omega | (simp at *; omega))]; rfl, rfl⟩)
              | exact ⟨⟨k + 1, by omega, by go_num, Lib.hid (by rw [hr.out, HS.out, show chN s[k].toNat = true from decide_eq_true (by first | omega | (simp at *; omega)), Bool.true_and])⟩, by simp [intOf]; omega⟩
        · go_wp2
          go_ret
          refine ⟨?_, rfl⟩
          rw [hr.out, List.drop_eq_nil_iff.2 (by have := Hsl.out; omega)]
          rfl
    · have Hf := Lib.hid (show nameP s.data.toList = false by unfold nameP; simp [hsl, h2])
      clear hsl
      go_enter Tryz.func28, Tryz.ntmps28
      go_wp2
      go_ret
      exact ⟨by rw [Hf.out]; rfl, rfl⟩
  · have Hf := Lib.hid (show nameP s.data.toList = false by unfold nameP; rw [decide_eq_false (by omega)]; rfl)
    clear hsl
    go_enter Tryz.func28, Tryz.ntmps28
    go_wp2
    go_ret
    exact ⟨by rw [Hf.out]; rfl, rfl⟩
end Go.Proofs.YtiapdhllphcnnaaGreatDoor.IX
