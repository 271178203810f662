/- LmtpSame, whatever the state and the number: the cases joined. Conditions: the cell of the library's MaxLen holds some int, the state's list reads as it is told, lengths. -/
import Derived.Test.YtnckfgihbimacaaLmtpSame
namespace Go.Proofs.Ytnckfgihbimacaa.LM
open Go.RowKit Mailsack MM

theorem same_any (s : LSt) (A : Option Addr) (c : Nat) (n : Int) (wn : (Lit.int .u8 n).wf = true) (m : Int) (w : World) (hm : w.cell? ⟨0, 0, none⟩ = some (.int .i64 m)) (hr : RdS w w.heap.size (.slice A s.to.length c) s.to) (h1 : s.to.length ≤ 9223372036854775807) (h2 : s.body.length ≤ 9223372036854775807) (h3 : s.frm.length ≤ 9223372036854775807) :
    Calls Try.prog 5 #[stV s (.slice A s.to.length c), .int .u8 n] w fun e w' => e = .returned (.bool true) ∧ Below w.heap.size w w' := by
  have hn : 0 ≤ n ∧ n ≤ 255 := by
    have h := wn
    simp [Lit.wf] at h
    exact ⟨h.1, h.2⟩
  obtain ⟨hn0, hn1⟩ := hn
  by_cases hS : smallP s = true ∧ s.data = false
  · obtain ⟨hs, hd⟩ := hS
    obtain ⟨h, f, d, l, fr, bo, to⟩ := s
    simp only at hd
    subst hd
    have h8 : n % 8 = 0 ∨ n % 8 = 1 ∨ n % 8 = 2 ∨ n % 8 = 3 ∨ n % 8 = 4 ∨ n % 8 = 5 ∨ n % 8 = 6 ∨ n % 8 = 7 := by omega
    rcases h8 with hk | hk | hk | hk | hk | hk | hk | hk
    · exact same_0 n hn0 hn1 hk h f l fr bo to A c m w hm hr hs
    · exact same_1 n hn0 hn1 hk h f l fr bo to A c m w hm hr hs
    · exact same_2 n hn0 hn1 hk h f l fr bo to A c m w hm hr hs
    · exact same_3 n hn0 hn1 hk h f l fr bo to A c m w hm hr hs
    · exact same_4 n hn0 hn1 hk h f l fr bo to A c m w hm hr hs
    · exact same_5 n hn0 hn1 hk h f l fr bo to A c m w hm hr hs
    · exact same_6 n hn0 hn1 hk h f l fr bo to A c m w hm hr hs
    · exact same_7 n hn0 hn1 hk h f l fr bo to A c m w hm hr hs
  · exact same_else n s A c m w hm h1 h2 h3 hS
end Go.Proofs.Ytnckfgihbimacaa.LM
