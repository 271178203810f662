/- What the smallest commands of package imap do: tell, capability, noop, logout, meets. Conditions: the command's block as stated; lengths. -/
import Derived.Test.YtomnljigoljldaaGreatDoorImapBuilder
import Derived.Test.YtomnljigoljldaaGreatDoorVerbPlain
namespace Go.Proofs.YtomnljigoljldaaGreatDoor.IM
open Go.RowKit MM BU Mailsack

abbrev cptr (b : Nat) : Value := .pointer (some ⟨b, 0, none⟩)

set_option maxHeartbeats 1000000 in
set_option maxRecDepth 100000 in
theorem tell_any (b : Nat) (cs : Array Value) (l : List UInt8) (s : ByteArray) (w : World) (h : Cmd b cs l w) (hl : l.length + s.size ≤ 100000000) :
    Calls Tryz.prog 209 #[cptr b, .string s] w fun e w' => e = .returned (.tuple #[]) ∧ ∃ v, Cmd b ((cs.setIfInBounds 20 (slf b)).setIfInBounds 21 v) (l ++ ([42, 32] ++ s.data.toList ++ [13, 10])) w' ∧ Below b w w' := by
  have H := Lib.hid h
  have big1 : ¬ 9223372036854775807 < 2 + s.size := by omega
  have big2 : ¬ 9223372036854775807 < 2 + s.size + 2 := by omega
  clear h
  go_enter Tryz.func209, Tryz.ntmps209
  go_wp2_with fail
  have hsz : ((⟨#[42, 32]⟩ : ByteArray) ++ s ++ ⟨#[13, 10]⟩).size = s.size + 4 := by
    rw [ByteArray.size_append, ByteArray.size_append]
    show 2 + s.size + 2 = s.size + 4
    omega
  have hdt : ((⟨#[42, 32]⟩ : ByteArray) ++ s ++ ⟨#[13, 10]⟩).data.toList = [42, 32] ++ s.data.toList ++ [13, 10] := by simp
  refine (writeStringE_any b cs l _ _ H.out (by rw [hsz]; omega) (by rw [hsz]; omega)).mono ?_
  rw [hdt]
  rintro e w' ⟨rfl, v, hc, hb⟩
  have HC := Lib.hid hc
  have HB := Lib.hid hb
  clear hc hb hsz hdt
  go_wp2
  go_end0
  exact ⟨rfl, v, HC.out, HB.out⟩

set_option maxHeartbeats 400000 in
set_option maxRecDepth 100000 in
theorem noop_any (b : Nat) (A : Option Addr) (c : Nat) (w : World) (h : w.cell? ⟨b, 18, none⟩ = some (.slice A 0 c)) :
    Calls Tryz.prog 133 #[cptr b] w fun e w' => e = .returned (.int .i64 0) ∧ w' = w := by
  go_enter Tryz.func133, Tryz.ntmps133
  go_wp2
  go_ret
  exact ⟨rfl, rfl⟩
set_option maxHeartbeats 400000 in
set_option maxRecDepth 100000 in
theorem meets_none (b : Nat) (w : World) :
    Calls Tryz.prog 74 #[cptr b, .int .i64 0] w fun e w' => e = .returned (.bool true) ∧ w' = w := by
  go_enter Tryz.func74, Tryz.ntmps74
  go_wp2
  go_ret
  exact ⟨rfl, rfl⟩
set_option maxHeartbeats 400000 in
set_option maxRecDepth 100000 in
theorem meets_box (b : Nat) (w : World) (h : w.cell? ⟨b, 2, none⟩ = some (strV [])) :
    Calls Tryz.prog 74 #[cptr b, .int .i64 3] w fun e w' => e = .returned (.bool false) ∧ w' = w := by
  go_enter Tryz.func74, Tryz.ntmps74
  go_wp2
  go_ret
  exact ⟨rfl, rfl⟩

def wCap : List UInt8 := [67, 65, 80, 65, 66, 73, 76, 73, 84, 89, 32, 73, 77, 65, 80, 52, 114, 101, 118, 49]
set_option maxHeartbeats 1000000 in
set_option maxRecDepth 100000 in
theorem capability_any (b : Nat) (cs : Array Value) (A : Option Addr) (c : Nat) (w : World) (h : Cmd b cs [] w) (ha : cs[18]? = some (.slice A 0 c)) :
    Calls Tryz.prog 132 #[cptr b] w fun e w' => e = .returned (.int .i64 0) ∧ ∃ v, Cmd b ((cs.setIfInBounds 20 (slf b)).setIfInBounds 21 v) ([42, 32] ++ wCap ++ [13, 10]) w' ∧ Below b w w' := by
  have k18 : w.cell? ⟨b, 18, none⟩ = some (.slice A 0 c) := (cell_blk h.blk 18).trans ha
  have HT := Lib.hid (tell_any b cs [] ⟨#[67, 65, 80, 65, 66, 73, 76, 73, 84, 89, 32, 73, 77, 65, 80, 52, 114, 101, 118, 49]⟩ w h (by decide))
  clear h ha
  go_enter Tryz.func132, Tryz.ntmps132
  go_wp2_with fail
  refine HT.out.mono ?_
  rintro e w' ⟨rfl, v, hc, hb⟩
  have HC := Lib.hid hc
  have HB := Lib.hid hb
  clear hc hb k18
  go_wp2
  go_ret
  exact ⟨rfl, v, HC.out, HB.out⟩
set_option maxHeartbeats 1000000 in
set_option maxRecDepth 100000 in
theorem logout_any (b : Nat) (cs : Array Value) (A : Option Addr) (c : Nat) (w : World) (h : Cmd b cs [] w) (ha : cs[18]? = some (.slice A 0 c)) :
    Calls Tryz.prog 134 #[cptr b] w fun e w' => e = .returned (.int .i64 0) ∧ ∃ v, Cmd b (((cs.setIfInBounds 20 (slf b)).setIfInBounds 21 v).setIfInBounds 11 (.bool true)) ([42, 32] ++ [66, 89, 69] ++ [13, 10]) w' ∧ Below b w w' := by
  have k18 : w.cell? ⟨b, 18, none⟩ = some (.slice A 0 c) := (cell_blk h.blk 18).trans ha
  have HT := Lib.hid (tell_any b cs [] ⟨#[66, 89, 69]⟩ w h (by decide))
  clear h ha
  go_enter Tryz.func134, Tryz.ntmps134
  go_wp2_with fail
  refine HT.out.mono ?_
  rintro e w' ⟨rfl, v, hc, hb⟩
  have HC := Lib.hid hc
  have HB := Lib.hid hb
  have q1 : w'.cell? ⟨b, 11, none⟩ = ((cs.setIfInBounds 20 (slf b)).setIfInBounds 21 v)[11]? := cell_blk hc.blk 11
  obtain ⟨u, hu⟩ : ∃ u, ((cs.setIfInBounds 20 (slf b)).setIfInBounds 21 v)[11]? = some u := ⟨_, Array.getElem?_eq_getElem (by have := hc.size; omega)⟩
  rw [hu] at q1
  have q2 : w'.frozen? ⟨b, 11, none⟩ = false := free_blk hc.blk 11
  have hlt := blk_lt hc.blk
  clear hc hb k18 hu
  go_wp2
  go_ret
  refine ⟨rfl, v, ⟨blk_set HC.out.blk 11 (.bool true), by simpa using HC.out.size, ?_⟩, HB.out.setCell (p := ⟨b, 11, none⟩) (Nat.le_refl _) _⟩
  obtain ⟨p, v2, hp, hv, hor, hown, hne, hnil⟩ := HC.out.own
  refine ⟨p, v2, ?_, ?_, hor, ?_, hne, hnil⟩
  · rw [arr_set HC.out.size (by decide), if_neg (by decide)]; exact hp
  · rw [arr_set HC.out.size (by decide), if_neg (by decide)]; exact hv
  · refine ⟨hown.1, ?_⟩
    rcases hown.2 with hn | ⟨g, cap, cur, h1, h2, h3, h5⟩
    · exact .inl hn
    · exact .inr ⟨g, cap, cur, h1, h2, blk_far h3 (fun e => hne (by rw [h1]; exact congrArg some e)) _, h5⟩
end Go.Proofs.YtomnljigoljldaaGreatDoor.IM
