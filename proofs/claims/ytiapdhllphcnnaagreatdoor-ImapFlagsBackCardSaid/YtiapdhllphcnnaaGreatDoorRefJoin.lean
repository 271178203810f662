/- What mailsackref22.Join returns. Conditions: the row reads as these texts; lengths. -/
import Derived.Test.YtiapdhllphcnnaaGreatDoorImapFlags4
namespace Mailsack
/-- the first k of the texts, with sep between them -/
def joinTo (L : List Bs) (sep : Bs) : Nat → Bs
  | 0 => []
  | k + 1 => (if k = 0 then joinTo L sep k else joinTo L sep k ++ sep) ++ L.getD k []
theorem joinTo_succ (L : List Bs) (sep : Bs) (k : Nat) : joinTo L sep (k + 1) = (if k = 0 then joinTo L sep k else joinTo L sep k ++ sep) ++ L.getD k [] := rfl
end Mailsack
namespace Go.Proofs.YtiapdhllphcnnaaGreatDoor.IM
open Go.RowKit Mailsack MM

set_option maxHeartbeats 1000000 in
set_option maxRecDepth 100000 in
theorem rjoin_any (lv : Value) (L : List Bs) (sep : Bs) (w : World) (hl : RdS w w.heap.size lv L) (hL : ∀ x ∈ L, x.length ≤ 1000000) (hsep : sep.length ≤ 1000000) (hn : L.length ≤ 1000000) (hJ : ∀ k, k ≤ L.length → (joinTo L sep k).length ≤ 1000000) :
    Calls Tryz.prog 12 #[lv, strV sep] w fun e w' => e = .returned (strV (joinTo L sep L.length)) ∧ Below w.heap.size w w' := by
  obtain ⟨A, c, rfl, hc, hcell⟩ := hl
  have HC := Lib.hid hcell
  have HL := Lib.hid hL
  have HJ := Lib.hid hJ
  obtain ⟨sb, hsb⟩ : ∃ sb : ByteArray, (⟨sep.toArray⟩ : ByteArray) = sb := ⟨_, rfl⟩
  have hsz : sb.size ≤ 1000000 := by rw [← hsb]; exact hsep
  rw [show strV sep = .string sb by rw [← hsb]]
  have HSB := Lib.hid hsb
  clear hcell hL hJ hsb
  go_enter Tryz.func12, Tryz.ntmps12
  go_wp2_with fail
  go_loop [5, 6] (fun sv iv => ∃ (k : Nat) (s : ByteArray), k ≤ L.length ∧ iv = .int .i64 k ∧ sv = .string s ∧ s.size ≤ 1000000 ∧ Hid (s = ⟨(joinTo L sep k).toArray⟩)) (fun _ iv => L.length - (intOf iv).toNat)
  case atStart => exact ⟨0, ⟨#[]⟩, Nat.zero_le _, rfl, rfl, by decide, Lib.hid rfl⟩
  case round =>
    obtain ⟨k, s, hk, rfl, rfl, hs, hr⟩ := hrel
    by_cases hlt : k < L.length
    · obtain ⟨x, hx⟩ : ∃ x, L[k]? = some x := ⟨_, List.getElem?_eq_getElem hlt⟩
      obtain ⟨g, off, rfl, hg, hcell⟩ := HC.out (by omega)
      obtain ⟨xb, hxb⟩ : ∃ xb : ByteArray, (⟨x.toArray⟩ : ByteArray) = xb := ⟨_, rfl⟩
      have q0 : w.cell? ⟨g, off + k, none⟩ = some (.string xb) := by rw [← hxb]; exact hcell k x hx
      have hxs : xb.size ≤ 1000000 := by rw [← hxb]; exact HL.out x (List.mem_of_getElem? hx)
      have HST : Hid ((⟨(joinTo L sep (k + 1)).toArray⟩ : ByteArray) = (if k = 0 then s else s ++ sb) ++ xb) := Lib.hid (by
        rw [hr.out, ← HSB.out, ← hxb, joinTo_succ, List.getD_eq_getElem?_getD, hx]
        generalize joinTo L sep k = J
        split
        · exact (bapp _ _).symm
        · rw [bapp, bapp]; rfl)
      have hJ1 := HJ.out (k + 1) (by omega)
      have hsum : ((if k = 0 then s else s ++ sb) ++ xb).size ≤ 1000000 := by rw [← HST.out]; exact hJ1
      clear hcell hx hxb hJ1
      by_cases hk0 : k = 0
      · subst hk0
        rw [if_pos rfl] at hsum HST
        have q0' : w.cell? ⟨g, off, none⟩ = some (.string xb) := by simpa using q0
        have n1 : ¬ (9223372036854775807 < s.size + xb.size) := by omega
        go_wp2
        exact ⟨⟨0 + 1, s ++ xb, by omega, by go_num, rfl, hsum, Lib.hid HST.out.symm⟩, by simp [intOf]; omega⟩
      · rw [if_neg hk0] at hsum HST
        have hk1 : 0 < k := by omega
        have n0 : ¬ (9223372036854775807 < s.size + sb.size) := by omega
        have n1 : ¬ (9223372036854775807 < (s ++ sb).size + xb.size) := by rw [ByteArray.size_append]; omega
        go_wp2
        exact ⟨⟨k + 1, s ++ sb ++ xb, by omega, by go_num, rfl, hsum, Lib.hid HST.out.symm⟩, by simp [intOf]; omega⟩
    · obtain rfl : k = L.length := by omega
      go_wp2
      go_ret
      exact ⟨by rw [hr.out]; rfl, Below.refl _ _⟩
end Go.Proofs.YtiapdhllphcnnaaGreatDoor.IM
namespace Mailsack
theorem back_of : ∀ n : Fin 32, flagsOfP (flW n 5) 0 = some (n : Nat) := by decide +kernel
theorem back_join : ∀ n : Fin 32, joinTo (flW n 5) [32] (flW n 5).length = flagsP ((n : Nat) : Int) := by decide +kernel
theorem back_short : ∀ n : Fin 32, ∀ k : Fin 6, (joinTo (flW n 5) [32] k).length ≤ 100 := by decide +kernel
theorem back_words : ∀ n : Fin 32, ∀ k : Fin 6, ∀ x ∈ flW n k, x.length ≤ 100 := by decide +kernel
end Mailsack
